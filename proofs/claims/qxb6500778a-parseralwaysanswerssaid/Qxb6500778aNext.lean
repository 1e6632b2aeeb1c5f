import Derived.Test.Qxb6500778aLex
import Derived.Laws.BytesArg
import Derived.Deep.CutBlock
namespace Go.Proofs.Qxb6500778a
open Go.RowKit

/-- A number read by digits. -/
def SomeDig (w : World) (e : Ending) (w' : World) : Prop := ∃ (v : Int) (b : Bool), e = .returned (.tuple #[.int .i64 v, .bool b]) ∧ (0 ≤ v ∧ v ≤ 1000000) ∧ w' = w
set_option maxHeartbeats 4000000 in
theorem digits_any (w : World) (a : Option Addr) (n c : Nat) (hn : n ≤ 9223372036854775807) (hb : BytesAt w a n) : Calls Try.prog 74 #[.slice a n c] w (SomeDig w) := by
  have HB := hide hb
  clear hb
  go_enter Try.func74, Try.ntmps74
  go_wp2
  go_loop [4, 5] (fun x i => ∃ (z : Int) (k : Nat), x = .int .i64 z ∧ (0 ≤ z ∧ z ≤ 1000000) ∧ k ≤ n ∧ i = .int .i64 k) (fun _ i => n - (intOf i).toNat)
  case atStart => exact ⟨0, 0, rfl, by omega, Nat.zero_le _, rfl⟩
  case round =>
    obtain ⟨z, k, rfl, ⟨hz0, hz1⟩, hk, rfl⟩ := hrel
    by_cases hlt : k < n
    · obtain ⟨b, off, y, rfl, hc, hy0, hy1⟩ := HB.out k hlt
      go_wp2_with fail
      refine (isDigit_any _ y).mono ?_
      rintro e w' ⟨rfl, rfl⟩
      by_cases hd : 48 ≤ y ∧ y ≤ 57
      · rw [decide_eq_true hd]
        obtain ⟨hd1, hd2⟩ := hd
        go_upto_if 28 with fail
        by_cases hbig : 1000000 < z * 10 + (y - 48)
        · go_wp2
          go_round
          case rel => exact ⟨_, k + 1, rfl, by omega, by omega, by go_num⟩
          case measure => simp [intOf]; omega
        · go_wp2
          go_round
          case rel => exact ⟨_, k + 1, rfl, by omega, by omega, by go_num⟩
          case measure => simp [intOf]; omega
      · rw [decide_eq_false hd]
        clear hd
        go_wp2
        exact bodyPost_ret (v := .tuple #[.int .i64 0, .bool false]) (by simp [results, Try.results74, go_sem]) rfl ⟨0, false, rfl, by omega, rfl⟩
    · go_wp2
      exact bodyPost_ret (v := .tuple #[.int .i64 z, .bool (decide (0 < n))]) (by simp [results, Try.results74, go_sem]) rfl ⟨z, _, rfl, by omega, rfl⟩
/-- A token's box. -/
structure TB (w : World) (r : Nat) (k tp : Int) (s : ByteArray) (v : Int) : Prop where
  c0 : w.cell? ⟨r, 0, none⟩ = some (.int .i64 k)
  c1 : w.cell? ⟨r, 1, none⟩ = some (.int .i64 tp)
  c2 : w.cell? ⟨r, 2, none⟩ = some (.string s)
  c3 : w.cell? ⟨r, 3, none⟩ = some (.int .i64 v)
  fr : ∀ j, w.frozen? ⟨r, j, none⟩ = false
theorem TB.other {w w' : World} {r : Nat} {k tp : Int} {s : ByteArray} {v : Int} {S : Nat → Prop} (h : TB w r k tp s v) (e : Ex S w w') (hn : ¬ S r) : TB w' r k tp s v :=
  ⟨e.cell hn h.c0, e.cell hn h.c1, e.cell hn h.c2, e.cell hn h.c3, fun j => (e.frozen hn (World.block_lt_of_cell? _ _ h.c0)).trans (h.fr j)⟩
theorem tb_alloc (w : World) (k tp : Int) (s : ByteArray) (v : Int) (t : Nat) : TB (w.alloc (.cells #[.int .i64 k, .int .i64 tp, .string s, .int .i64 v] t)) w.heap.size k tp s v := by
  refine ⟨by simp [go_sem], by simp [go_sem], by simp [go_sem], by simp [go_sem], fun j => by simp [go_sem]⟩
theorem TB.put0 {w : World} {r : Nat} {k tp : Int} {s : ByteArray} {v : Int} {k' : Int} (h : TB w r k tp s v) : TB (w.setCell ⟨r, 0, none⟩ (.int .i64 k')) r k' tp s v := by
  refine ⟨?_, ?_, ?_, ?_, fun j => by simpa [go_sem] using h.fr j⟩
  · exact World.cell?_setCell_same _ _ _ h.c0
  · rw [World.cell?_setCell_other _ _ _ _ (by simp)]; exact h.c1
  · rw [World.cell?_setCell_other _ _ _ _ (by simp)]; exact h.c2
  · rw [World.cell?_setCell_other _ _ _ _ (by simp)]; exact h.c3
theorem TB.put1 {w : World} {r : Nat} {k tp : Int} {s : ByteArray} {v : Int} {tp' : Int} (h : TB w r k tp s v) : TB (w.setCell ⟨r, 1, none⟩ (.int .i64 tp')) r k tp' s v := by
  refine ⟨?_, ?_, ?_, ?_, fun j => by simpa [go_sem] using h.fr j⟩
  · rw [World.cell?_setCell_other _ _ _ _ (by simp)]; exact h.c0
  · exact World.cell?_setCell_same _ _ _ h.c1
  · rw [World.cell?_setCell_other _ _ _ _ (by simp)]; exact h.c2
  · rw [World.cell?_setCell_other _ _ _ _ (by simp)]; exact h.c3
theorem TB.put2 {w : World} {r : Nat} {k tp : Int} {s : ByteArray} {v : Int} {s' : ByteArray} (h : TB w r k tp s v) : TB (w.setCell ⟨r, 2, none⟩ (.string s')) r k tp s' v := by
  refine ⟨?_, ?_, ?_, ?_, fun j => by simpa [go_sem] using h.fr j⟩
  · rw [World.cell?_setCell_other _ _ _ _ (by simp)]; exact h.c0
  · rw [World.cell?_setCell_other _ _ _ _ (by simp)]; exact h.c1
  · exact World.cell?_setCell_same _ _ _ h.c2
  · rw [World.cell?_setCell_other _ _ _ _ (by simp)]; exact h.c3
theorem TB.put3 {w : World} {r : Nat} {k tp : Int} {s : ByteArray} {v : Int} {v' : Int} (h : TB w r k tp s v) : TB (w.setCell ⟨r, 3, none⟩ (.int .i64 v')) r k tp s v' := by
  refine ⟨?_, ?_, ?_, ?_, fun j => by simpa [go_sem] using h.fr j⟩
  · rw [World.cell?_setCell_other _ _ _ _ (by simp)]; exact h.c0
  · rw [World.cell?_setCell_other _ _ _ _ (by simp)]; exact h.c1
  · rw [World.cell?_setCell_other _ _ _ _ (by simp)]; exact h.c2
  · exact World.cell?_setCell_same _ _ _ h.c3
/-- What next has at hand: the parser, the result's box r0, the token's box r1. -/
structure NX (w0 w : World) (p : Nat) (a : Option Addr) (n c pos : Nat) (k tp : Int) (s : ByteArray) (v er at_ : Int) (r0 r1 : Nat) (kt tt : Int) (st : ByteArray) (vt : Int) : Prop where
  ps : PS w p a n c pos k tp s v er at_
  rb : TB w r0 0 0 ⟨#[]⟩ 0
  tb : TB w r1 kt tt st vt
  ex : Ex (Is p) w0 w
  h0 : w0.heap.size ≤ r0
  h1 : r0 < r1
  hp : p < w0.heap.size
theorem NX.step {w0 w : World} {p : Nat} {a : Option Addr} {n c pos : Nat} {k tp : Int} {s : ByteArray} {v er at_ : Int} {r0 r1 : Nat} {kt tt : Int} {st : ByteArray} {vt : Int} {w' : World} (h : NX w0 w p a n c pos k tp s v er at_ r0 r1 kt tt st vt) (e : Ex (fun _ => False) w w') : NX w0 w' p a n c pos k tp s v er at_ r0 r1 kt tt st vt :=
  ⟨h.ps.other e (fun _ _ h => h), h.rb.other e id, h.tb.other e id, h.ex.trans (e.mono fun _ h => h.elim), h.h0, h.h1, h.hp⟩
theorem NX.drewN {w0 w : World} {p : Nat} {a : Option Addr} {n c pos : Nat} {k tp : Int} {s : ByteArray} {v er at_ : Int} {r0 r1 : Nat} {kt tt : Int} {st : ByteArray} {vt : Int} (h : NX w0 w p a n c pos k tp s v er at_ r0 r1 kt tt st vt) (q : Nat) : NX w0 (w.drewN q) p a n c pos k tp s v er at_ r0 r1 kt tt st vt := h.step ((Ex.refl _ _).drewN q)
theorem NX.putPos {w0 w : World} {p : Nat} {a : Option Addr} {n c pos : Nat} {k tp : Int} {s : ByteArray} {v er at_ : Int} {r0 r1 : Nat} {kt tt : Int} {st : ByteArray} {vt : Int} {pos' : Nat} (h : NX w0 w p a n c pos k tp s v er at_ r0 r1 kt tt st vt) (hle : pos' ≤ n) : NX w0 (w.setCell ⟨p, 1, none⟩ (.int .i64 (pos' : Nat))) p a n c pos' k tp s v er at_ r0 r1 kt tt st vt := by
  have e : Ex (Is p) w (w.setCell ⟨p, 1, none⟩ (.int .i64 (pos' : Nat))) := (Ex.refl (Is p) w).set (p := p) rfl _
  have h0 := h.h0
  have h1 := h.h1
  have hp := h.hp
  exact ⟨h.ps.put1 hle, h.rb.other e (fun (x : r0 = p) => by omega), h.tb.other e (fun (x : r1 = p) => by omega), h.ex.trans e, h0, h1, hp⟩
theorem NX.put0 {w0 w : World} {p : Nat} {a : Option Addr} {n c pos : Nat} {k tp : Int} {s : ByteArray} {v er at_ : Int} {r0 r1 : Nat} {kt tt : Int} {st : ByteArray} {vt : Int} {kt' : Int} (h : NX w0 w p a n c pos k tp s v er at_ r0 r1 kt tt st vt) : NX w0 (w.setCell ⟨r1, 0, none⟩ (.int .i64 kt')) p a n c pos k tp s v er at_ r0 r1 kt' tt st vt := by
  have e : Ex (Is r1) w (w.setCell ⟨r1, 0, none⟩ (.int .i64 kt')) := (Ex.refl (Is r1) w).set (p := r1) rfl _
  have h0 := h.h0
  have h1 := h.h1
  have hp := h.hp
  exact ⟨h.ps.other e (fun k hk (x : k = r1) => by omega), h.rb.other e (fun (x : r0 = r1) => by omega), h.tb.put0, h.ex.setNew (by omega) _, h0, h1, hp⟩
theorem NX.put2 {w0 w : World} {p : Nat} {a : Option Addr} {n c pos : Nat} {k tp : Int} {s : ByteArray} {v er at_ : Int} {r0 r1 : Nat} {kt tt : Int} {st : ByteArray} {vt : Int} {st' : ByteArray} (h : NX w0 w p a n c pos k tp s v er at_ r0 r1 kt tt st vt) : NX w0 (w.setCell ⟨r1, 2, none⟩ (.string st')) p a n c pos k tp s v er at_ r0 r1 kt tt st' vt := by
  have e : Ex (Is r1) w (w.setCell ⟨r1, 2, none⟩ (.string st')) := (Ex.refl (Is r1) w).set (p := r1) rfl _
  have h0 := h.h0
  have h1 := h.h1
  have hp := h.hp
  exact ⟨h.ps.other e (fun k hk (x : k = r1) => by omega), h.rb.other e (fun (x : r0 = r1) => by omega), h.tb.put2, h.ex.setNew (by omega) _, h0, h1, hp⟩
theorem NX.put3 {w0 w : World} {p : Nat} {a : Option Addr} {n c pos : Nat} {k tp : Int} {s : ByteArray} {v er at_ : Int} {r0 r1 : Nat} {kt tt : Int} {st : ByteArray} {vt : Int} {vt' : Int} (h : NX w0 w p a n c pos k tp s v er at_ r0 r1 kt tt st vt) : NX w0 (w.setCell ⟨r1, 3, none⟩ (.int .i64 vt')) p a n c pos k tp s v er at_ r0 r1 kt tt st vt' := by
  have e : Ex (Is r1) w (w.setCell ⟨r1, 3, none⟩ (.int .i64 vt')) := (Ex.refl (Is r1) w).set (p := r1) rfl _
  have h0 := h.h0
  have h1 := h.h1
  have hp := h.hp
  exact ⟨h.ps.other e (fun k hk (x : k = r1) => by omega), h.rb.other e (fun (x : r0 = r1) => by omega), h.tb.put3, h.ex.setNew (by omega) _, h0, h1, hp⟩
/-- The token is laid into the result. -/
theorem NX.fin {w0 w : World} {p : Nat} {a : Option Addr} {n c pos : Nat} {k tp : Int} {s : ByteArray} {v er at_ : Int} {r0 r1 : Nat} {kt tt : Int} {st : ByteArray} {vt : Int} (h : NX w0 w p a n c pos k tp s v er at_ r0 r1 kt tt st vt) {y0 y1 y2 y3 : Value} : PS ((((w.setCell ⟨r0, 0, none⟩ y0).setCell ⟨r0, 1, none⟩ y1).setCell ⟨r0, 2, none⟩ y2).setCell ⟨r0, 3, none⟩ y3) p a n c pos k tp s v er at_ ∧ Ex (Is p) w0 ((((w.setCell ⟨r0, 0, none⟩ y0).setCell ⟨r0, 1, none⟩ y1).setCell ⟨r0, 2, none⟩ y2).setCell ⟨r0, 3, none⟩ y3) := by
  have e : Ex (Is r0) w ((((w.setCell ⟨r0, 0, none⟩ y0).setCell ⟨r0, 1, none⟩ y1).setCell ⟨r0, 2, none⟩ y2).setCell ⟨r0, 3, none⟩ y3) := ((((Ex.refl (Is r0) w).set (p := r0) rfl _).set (p := r0) rfl _).set (p := r0) rfl _).set (p := r0) rfl _
  have h0 := h.h0
  have hp := h.hp
  exact ⟨h.ps.other e (fun k hk (x : k = r0) => by omega), (((h.ex.setNew h0 _).setNew h0 _).setNew h0 _).setNew h0 _⟩
theorem conv_ex {w : World} {b off len : Nat} (h : BytesAt w (some ⟨b, off, none⟩) len) : ∃ S : ByteArray, ∀ cap, (convert 46 9 (.slice (some ⟨b, off, none⟩) len cap)).run Try.prog w = .ok (.string S) w := by
  have H1 : ∀ i, i < len → ∃ z : Int, w.cell? ⟨b, off + i, none⟩ = some (.int .u8 z) := by
    intro i hi
    obtain ⟨b', off', z, e, hc, _⟩ := h i hi
    injection e with e
    injection e with e1 e2
    subst e1 e2
    exact ⟨z, hc⟩
  refine ⟨strOfNums ((List.range len).map fun i => if hi : i < len then Classical.choose (H1 i hi) else 0), fun cap => ?_⟩
  refine run_convert_bytes_arg w 46 5 Try.underlying46 Try.underlying5 b off len cap _ (by simp) (fun i hi => ?_) 9 Try.underlying9
  rw [List.getD_eq_getElem?_getD, List.getElem?_map, List.getElem?_range hi]
  simp only [Option.map_some, Option.getD_some, hi, dite_true]
  exact Classical.choose_spec (H1 i hi)
theorem BytesAt.part {w : World} {b off n i m : Nat} (h : BytesAt w (some ⟨b, off, none⟩) n) (him : i + m ≤ n) : BytesAt w (some ⟨b, off + i, none⟩) m := by
  intro k hk
  obtain ⟨b', off', z, e, hc, hr⟩ := h (i + k) (by omega)
  injection e with e
  injection e with e1 e2
  subst e1 e2
  exact ⟨b, off + i, z, rfl, by rw [Nat.add_assoc]; exact hc, hr⟩
theorem isWordByte_is (w : World) (z : Int) (r : Bool) (h : wordB z = r) : Calls Try.prog 73 #[.int .u8 z] w fun e w' => e = .returned (.bool r) ∧ w' = w := by
  subst h; exact isWordByte_any w z
def NextPost (w : World) (p : Nat) (a : Option Addr) (n c : Nat) (k tp : Int) (s : ByteArray) (v er at_ : Int) (e : Ending) (w' : World) : Prop :=
  ∃ (k' tp' : Int) (s' : ByteArray) (v' : Int) (pos' : Nat), e = .returned (.agg #[.int .i64 k', .int .i64 tp', .string s', .int .i64 v']) ∧ (0 ≤ tp' ∧ tp' ≤ n) ∧ (0 ≤ v' ∧ v' ≤ 1000000) ∧ PS w' p a n c pos' k tp s v er at_ ∧ Ex (Is p) w w'
set_option maxRecDepth 100000 in
set_option maxHeartbeats 8000000 in
theorem next_any (w : World) (p : Nat) (a : Option Addr) (n c pos : Nat) (k tp : Int) (s : ByteArray) (v er at_ : Int) (h : PS w p a n c pos k tp s v er at_) :
    Calls Try.prog 51 #[.pointer (some ⟨p, 0, none⟩)] w (NextPost w p a n c k tp s v er at_) := by
  have HP0 := hide h
  have hpw : p < w.heap.size := World.block_lt_of_cell? _ _ h.c0
  clear h
  go_enter Try.func51, Try.ntmps51
  go_wp2_with fail
  refine (skip_any _ p a n c pos k tp s v er at_ (HP0.out.alloc _)).mono ?_
  rintro e w1 ⟨rfl, ⟨q0, hps⟩, hex⟩
  have HR0 := hide ((tb_alloc w 0 0 ⟨#[]⟩ 0 87).other hex (fun (x : w.heap.size = p) => by omega))
  have HE0 : Hid (Ex (Is p) w w1) := ((Ex.refl (Is p) w).alloc _).trans hex
  have HP1 := hide hps
  have hr01 : w.heap.size < w1.heap.size := World.block_lt_of_cell? _ _ HR0.out.c0
  have c1 := hps.c1
  clear hps hex HP0
  go_upto_region 3 with fail
  obtain ⟨W, hW⟩ : ∃ W, W = w1.alloc (.cells #[.int .i64 0, .int .i64 (q0 : Nat), .string ⟨#[]⟩, .int .i64 0] 87) := ⟨_, rfl⟩
  have HX : Hid (NX w W p a n c q0 k tp s v er at_ w.heap.size w1.heap.size 0 (q0 : Nat) ⟨#[]⟩ 0) := by
    rw [hW]
    have e := (Ex.refl (fun _ => False) w1).alloc (.cells #[.int .i64 0, .int .i64 (q0 : Nat), .string ⟨#[]⟩, .int .i64 0] 87)
    exact ⟨HP1.out.other e (fun _ _ h => h), HR0.out.other e id, tb_alloc _ _ _ _ _ _, HE0.out.alloc _, Nat.le_refl _, hr01, hpw⟩
  rw [← hW]
  clear hW HR0 HE0 HP1 c1
  generalize w1.heap.size = r1 at *
  generalize hr0 : w.heap.size = r0 at *
  clear w1 hr0
  have hn16 := HX.out.ps.n16
  have hq0 := HX.out.ps.le
  have hx_ := HX.out
  have c0 := hx_.ps.c0
  have c1 := hx_.ps.c1
  have f1 := hx_.ps.fr 1
  have R0 := hx_.rb.c0
  have t0 := hx_.tb.c0
  have R1 := hx_.rb.c1
  have t1 := hx_.tb.c1
  have R2 := hx_.rb.c2
  have t2 := hx_.tb.c2
  have R3 := hx_.rb.c3
  have t3 := hx_.tb.c3
  have rf := hx_.rb.fr
  have tf := hx_.tb.fr
  clear hx_
  by_cases hlt : q0 < n
  · go_quiet (fail)
    have e26 : decide (n ≤ q0) = false := decide_eq_false (by omega)
    try rw [e26]
    clear e26
    obtain ⟨b, off, z, rfl, hcb, hz0, hz1⟩ := HX.out.ps.by_ q0 hlt
    replace HX := hide (HX.out.drewN nq)
    replace hcb : (W.drewN nq).cell? ⟨b, off + q0, none⟩ = some (.int .u8 z) := hcb
    clear c0 c1 f1 R0 R1 R2 R3 t0 t1 t2 t3 rf tf
    generalize W.drewN nq = W1 at *
    clear nq
    have hx_ := HX.out
    have c0 := hx_.ps.c0
    have c1 := hx_.ps.c1
    have f1 := hx_.ps.fr 1
    have R0 := hx_.rb.c0
    have t0 := hx_.tb.c0
    have R1 := hx_.rb.c1
    have t1 := hx_.tb.c1
    have R2 := hx_.rb.c2
    have t2 := hx_.tb.c2
    have R3 := hx_.rb.c3
    have t3 := hx_.tb.c3
    have rf := hx_.rb.fr
    have tf := hx_.tb.fr
    clear hx_
    have n1 : r1 ≠ p := by omega
    have n2 : p ≠ r1 := by omega
    have n3 : r0 ≠ p := by omega
    have n4 : p ≠ r0 := by omega
    have n5 : r1 ≠ r0 := by omega
    have n6 : r0 ≠ r1 := by omega
    go_upto_region 5 with fail
    go_quiet (fail)
    replace HX := hide (HX.out.drewN nq)
    replace hcb : (W1.drewN nq).cell? ⟨b, off + q0, none⟩ = some (.int .u8 z) := hcb
    clear c0 c1 f1 R0 R1 R2 R3 t0 t1 t2 t3 rf tf
    generalize W1.drewN nq = W2 at *
    clear nq
    have hx_ := HX.out
    have c0 := hx_.ps.c0
    have c1 := hx_.ps.c1
    have f1 := hx_.ps.fr 1
    have R0 := hx_.rb.c0
    have t0 := hx_.tb.c0
    have R1 := hx_.rb.c1
    have t1 := hx_.tb.c1
    have R2 := hx_.rb.c2
    have t2 := hx_.tb.c2
    have R3 := hx_.rb.c3
    have t3 := hx_.tb.c3
    have rf := hx_.rb.fr
    have tf := hx_.tb.fr
    clear hx_
    by_cases hz47 : z = 47
    · subst hz47
      have HX2 := hide ((HX.out.put0 (kt' := 4)).putPos (pos' := q0 + 1) (by omega))
      go_wp2
      exact bodyPost_ret (v := .agg #[.int .i64 4, .int .i64 (q0 : Nat), .string ⟨#[]⟩, .int .i64 0]) (by simp [results, Try.results51, go_sem, R0, R1, R2, R3]) rfl ⟨4, (q0 : Nat), ⟨#[]⟩, 0, q0 + 1, rfl, by omega, by omega, HX2.out.fin.1, HX2.out.fin.2⟩

    by_cases hz123 : z = 123
    · subst hz123
      have HX2 := hide ((HX.out.put0 (kt' := 5)).putPos (pos' := q0 + 1) (by omega))
      go_wp2
      exact bodyPost_ret (v := .agg #[.int .i64 5, .int .i64 (q0 : Nat), .string ⟨#[]⟩, .int .i64 0]) (by simp [results, Try.results51, go_sem, R0, R1, R2, R3]) rfl ⟨5, (q0 : Nat), ⟨#[]⟩, 0, q0 + 1, rfl, by omega, by omega, HX2.out.fin.1, HX2.out.fin.2⟩

    by_cases hz125 : z = 125
    · subst hz125
      have HX2 := hide ((HX.out.put0 (kt' := 6)).putPos (pos' := q0 + 1) (by omega))
      go_wp2
      exact bodyPost_ret (v := .agg #[.int .i64 6, .int .i64 (q0 : Nat), .string ⟨#[]⟩, .int .i64 0]) (by simp [results, Try.results51, go_sem, R0, R1, R2, R3]) rfl ⟨6, (q0 : Nat), ⟨#[]⟩, 0, q0 + 1, rfl, by omega, by omega, HX2.out.fin.1, HX2.out.fin.2⟩

    have b47 : (z == 47) = false := by simp [hz47]
    have b123 : (z == 123) = false := by simp [hz123]
    have b125 : (z == 125) = false := by simp [hz125]
    go_wp2_with fail
    refine (isWordByte_any _ z).mono ?_
    rintro e w' ⟨rfl, rfl⟩
    cases hwb : wordB z
    · clear hwb
      have HX2 := hide ((HX.out.put0 (kt' := 7)).putPos (pos' := q0 + 1) (by omega))
      go_wp2
      exact bodyPost_ret (v := .agg #[.int .i64 7, .int .i64 (q0 : Nat), .string ⟨#[]⟩, .int .i64 0]) (by simp [results, Try.results51, go_sem, R0, R1, R2, R3]) rfl ⟨7, (q0 : Nat), ⟨#[]⟩, 0, q0 + 1, rfl, by omega, by omega, HX2.out.fin.1, HX2.out.fin.2⟩

    · have HWB := hide hwb
      clear hwb
      go_upto_block 1 with fail
      go_cut [85] (fun _ wx => ∃ q, q0 < q ∧ NX w wx p (some ⟨b, off, none⟩) n c q k tp s v er at_ r0 r1 0 (q0 : Nat) ⟨#[]⟩ 0)
      case first =>
        have HM := hide (posLeft_of (n := n) c1)
        go_wp2_with fail
        go_loopw [85] (fun _ wx => ∃ q, q0 ≤ q ∧ NX w wx p (some ⟨b, off, none⟩) n c q k tp s v er at_ r0 r1 0 (q0 : Nat) ⟨#[]⟩ 0 ∧ wx.cell? ⟨b, off + q0, none⟩ = some (.int .u8 z)) (fun _ wr => posLeft p n wr)
        case atStart => exact ⟨q0, Nat.le_refl _, HX.out, hcb⟩
        case round =>
          have hbp := HX.out.ps.low (by omega) b off rfl
          clear HX hcb HM c0 c1 f1 R0 R1 R2 R3 t0 t1 t2 t3 rf tf
          obtain ⟨q, hqq, hnx, hcb⟩ := hrel
          have HX := hide hnx
          have HCB := hide hcb
          clear hnx hcb
          have hqn := HX.out.ps.le
          have c0 := HX.out.ps.c0
          have c1 := HX.out.ps.c1
          have f1 := HX.out.ps.fr 1
          have HM := hide (posLeft_of (n := n) c1)
          by_cases hltq : q < n
          · obtain ⟨_, _, y, ee, hcq, hy0, hy1⟩ := HX.out.ps.by_ q hltq
            injection ee with ee
            injection ee with ee1 ee2
            subst ee1 ee2
            cases hwy : wordB y
            · have hlq : q0 < q := by
                rcases Nat.lt_or_ge q0 q with x | x
                · exact x
                · have : q = q0 := by omega
                  subst this
                  rw [HCB.out] at hcq
                  injection hcq with hcq
                  injection hcq with _ hcq
                  rw [← hcq, HWB.out] at hwy
                  cases hwy
              go_upto_region 18 with fail
              go_quiet (first | (go_at_call 73; refine Calls.quiet_of_same (isWordByte_is _ y _ hwy)))
              have HN := hide (HX.out.drewN nq)
              go_wp2
              go_meet
              case rel => exact ⟨q, hlq, HN.out⟩
            · go_upto_region 18 with fail
              go_quiet (first | (go_at_call 73; refine Calls.quiet_of_same (isWordByte_is _ y _ hwy)))
              have HN := hide ((HX.out.drewN nq).putPos (pos' := q + 1) (by omega))
              replace HCB : Hid ((wr.drewN nq).cell? ⟨b, off + q0, none⟩ = some (.int .u8 z)) := HCB.out
              go_wp2
              go_roundw
              case rel => exact ⟨q + 1, by omega, HN.out, by rw [World.cell?_setCell_other _ _ _ _ (by simp <;> omega)]; exact HCB.out⟩
              case measure =>
                show posLeft p n _ < posLeft p n wr
                rw [HM.out]
                exact Nat.lt_of_le_of_lt (Nat.le_of_eq (posLeft_of (n := n) HN.out.ps.c1)) (by omega)
          · have hlq : q0 < q := by omega
            go_upto_region 18 with fail
            go_quiet (fail)
            have HN := hide (HX.out.drewN nq)
            go_wp2
            go_meet
            case rel => exact ⟨q, hlq, HN.out⟩
      obtain ⟨q, hlq, hnx⟩ := hcut
      clear HX hcb c0 c1 f1 R0 R1 R2 R3 t0 t1 t2 t3 rf tf
      have HX := hide hnx
      clear hnx
      have hql := HX.out.ps.le
      have hnc := HX.out.ps.nc
      have hx_ := HX.out
      have c0 := hx_.ps.c0
      have c1 := hx_.ps.c1
      have f1 := hx_.ps.fr 1
      have R0 := hx_.rb.c0
      have t0 := hx_.tb.c0
      have R1 := hx_.rb.c1
      have t1 := hx_.tb.c1
      have R2 := hx_.rb.c2
      have t2 := hx_.tb.c2
      have R3 := hx_.rb.c3
      have t3 := hx_.tb.c3
      have rf := hx_.rb.fr
      have tf := hx_.tb.fr
      clear hx_
      go_upto_region 20 with fail
      go_quiet (fail)
      replace HX := hide (HX.out.drewN nq)
      clear c0 c1 f1 R0 R1 R2 R3 t0 t1 t2 t3 rf tf
      generalize wc.drewN nq = W5 at *
      clear nq
      have hx_ := HX.out
      have c0 := hx_.ps.c0
      have c1 := hx_.ps.c1
      have f1 := hx_.ps.fr 1
      have R0 := hx_.rb.c0
      have t0 := hx_.tb.c0
      have R1 := hx_.rb.c1
      have t1 := hx_.tb.c1
      have R2 := hx_.rb.c2
      have t2 := hx_.tb.c2
      have R3 := hx_.rb.c3
      have t3 := hx_.tb.c3
      have rf := hx_.rb.fr
      have tf := hx_.tb.fr
      clear hx_
      go_upto_region 22 with fail
      obtain ⟨W6, hW6⟩ : ∃ W6, W6 = W5.setCell ⟨r1, 0, none⟩ (.int .i64 1) := ⟨_, rfl⟩
      replace HX := hide (HX.out.put0 (kt' := 1))
      rw [← hW6] at HX ⊢
      clear hW6 c0 c1 f1 R0 R1 R2 R3 t0 t1 t2 t3 rf tf
      have hbp := HX.out.ps.by_.part (i := q0) (m := q - q0) (by omega)
      obtain ⟨S, hS⟩ := conv_ex hbp
      have hcv := hS (c - q0)
      have HBP := hide hbp
      clear hS hbp
      have hx_ := HX.out
      have c0 := hx_.ps.c0
      have c1 := hx_.ps.c1
      have f1 := hx_.ps.fr 1
      have R0 := hx_.rb.c0
      have t0 := hx_.tb.c0
      have R1 := hx_.rb.c1
      have t1 := hx_.tb.c1
      have R2 := hx_.rb.c2
      have t2 := hx_.tb.c2
      have R3 := hx_.rb.c3
      have t3 := hx_.tb.c3
      have rf := hx_.rb.fr
      have tf := hx_.tb.fr
      clear hx_
      go_upto_region 23 with fail
      obtain ⟨W7, hW7⟩ : ∃ W7, W7 = W6.setCell ⟨r1, 2, none⟩ (.string S) := ⟨_, rfl⟩
      replace HX := hide (HX.out.put2 (st' := S))
      rw [← hW7] at HX ⊢
      clear hW7 hcv HBP c0 c1 f1 R0 R1 R2 R3 t0 t1 t2 t3 rf tf
      have HBP := hide (HX.out.ps.by_.part (i := q0) (m := q - q0) (by omega))
      have t0 := HX.out.tb.c0
      have t3 := HX.out.tb.c3
      have tf := HX.out.tb.fr
      go_wp2_with fail
      refine (digits_any _ (some ⟨b, off + q0, none⟩) (q - q0) (c - q0) (by omega) HBP.out).mono ?_
      rintro e w8 ⟨v1, b1, rfl, ⟨hv0, hv1⟩, rfl⟩
      go_upto_if 113 with fail
      go_cut [5, 114] (fun _ _ wx => ∃ kt vt, (0 ≤ vt ∧ vt ≤ 1000000) ∧ NX w wx p (some ⟨b, off, none⟩) n c q k tp s v er at_ r0 r1 kt (q0 : Nat) S vt)
      case first =>
        cases b1
        · have HBP1 := hide (HX.out.ps.by_.part (i := q0 + 1) (m := q - q0 - 1) (by omega))
          by_cases hc1 : c - q0 = 1
          · have hq1 : q - q0 = 1 := by omega
            go_wp2_with fail
            refine (digits_any _ _ 0 _ (by omega) (fun k hk => by omega)).mono ?_
            rintro e w9 ⟨v2, b2, rfl, ⟨hw0, hw1⟩, rfl⟩
            cases b2
            · have HX2 := HX
              go_wp2
              go_meet
              case rel => exact ⟨1, 0, by omega, HX2.out⟩
            · by_cases hr : z = 114
              · have br : (z == 114) = true := by simp [hr]
                clear hr
                have HX2 := hide ((HX.out.put0 (kt' := 3)).put3 (vt' := v2))
                go_wp2
                go_meet
                case rel => exact ⟨3, v2, by omega, HX2.out⟩
              · have br : (z == 114) = false := by simp [hr]
                clear hr
                have HX2 := HX
                go_wp2
                go_meet
                case rel => exact ⟨1, 0, by omega, HX2.out⟩
          · go_wp2_with fail
            refine (digits_any _ (some ⟨b, off + q0 + 1, none⟩) (q - q0 - 1) (c - q0 - 1) (by omega) HBP1.out).mono ?_
            rintro e w9 ⟨v2, b2, rfl, ⟨hw0, hw1⟩, rfl⟩
            cases b2
            · have HX2 := HX
              go_wp2
              go_meet
              case rel => exact ⟨1, 0, by omega, HX2.out⟩
            · by_cases hr : z = 114
              · have br : (z == 114) = true := by simp [hr]
                clear hr
                have HX2 := hide ((HX.out.put0 (kt' := 3)).put3 (vt' := v2))
                go_wp2
                go_meet
                case rel => exact ⟨3, v2, by omega, HX2.out⟩
              · have br : (z == 114) = false := by simp [hr]
                clear hr
                have HX2 := HX
                go_wp2
                go_meet
                case rel => exact ⟨1, 0, by omega, HX2.out⟩
        · have HX2 := hide ((HX.out.put0 (kt' := 2)).put3 (vt' := v1))
          go_wp2
          go_meet
          case rel => exact ⟨2, v1, by omega, HX2.out⟩
      obtain ⟨kt, vt, ⟨hvt0, hvt1⟩, hnx⟩ := hcut
      clear HX t0 t3 tf HBP
      have HX := hide hnx
      clear hnx
      have hx_ := HX.out
      have c0 := hx_.ps.c0
      have c1 := hx_.ps.c1
      have f1 := hx_.ps.fr 1
      have R0 := hx_.rb.c0
      have t0 := hx_.tb.c0
      have R1 := hx_.rb.c1
      have t1 := hx_.tb.c1
      have R2 := hx_.rb.c2
      have t2 := hx_.tb.c2
      have R3 := hx_.rb.c3
      have t3 := hx_.tb.c3
      have rf := hx_.rb.fr
      have tf := hx_.tb.fr
      clear hx_
      go_wp2
      exact bodyPost_ret (v := .agg #[.int .i64 (kt), .int .i64 ((q0 : Nat)), .string S, .int .i64 (vt)]) (by simp [results, Try.results51, go_sem, R0, R1, R2, R3]) rfl ⟨kt, (q0 : Nat), S, vt, q, rfl, by omega, by omega, HX.out.fin.1, HX.out.fin.2⟩
  · go_quiet (fail)
    replace HX := hide (HX.out.drewN nq)
    go_wp2
    exact bodyPost_ret (v := .agg #[.int .i64 (0), .int .i64 ((q0 : Nat)), .string ⟨#[]⟩, .int .i64 (0)]) (by simp [results, Try.results51, go_sem, R0, R1, R2, R3]) rfl ⟨0, (q0 : Nat), ⟨#[]⟩, 0, q0, rfl, by omega, by omega, HX.out.fin.1, HX.out.fin.2⟩

end Go.Proofs.Qxb6500778a
