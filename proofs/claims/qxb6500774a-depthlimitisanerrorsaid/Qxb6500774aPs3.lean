import Derived.Test.Qxb6500774aPs2
namespace Go.Proofs.Qxb6500774a
open Go.RowKit

/-- The look-ahead is the mark u. -/
def isM (t : Tk) (u : ByteArray) : Bool := (t.k == 5) && (t.x.toList == u.toList)
section
variable {B p : Nat} {a : Option Addr} {cp : Nat} {s : List Int}
theorem at_is {w : World} {o : Nat} {t : Tk} {d fe fl fc : Int} (h : PS B p a cp s w o t d fe fl fc) (u : ByteArray) (b : Bool) (hb : isM t u = b) :
    Calls Try.prog 72 #[.pointer (some ⟨p, 0, none⟩), .string u] w fun e w' => e = .returned (.bool b) ∧ w = w' := by
  refine (at_any w p t.k t.x u h.c4 h.c5).mono fun e w' hh => ?_
  obtain ⟨rfl, rfl⟩ := hh
  exact ⟨by rw [← hb]; rfl, rfl⟩
set_option maxRecDepth 100000 in
set_option maxHeartbeats 4000000 in
theorem accept_no {w : World} {o : Nat} {t : Tk} {d fe fl fc : Int} (h : PS B p a cp s w o t d fe fl fc) (u : ByteArray) (hb : isM t u = false) :
    Calls Try.prog 43 #[.pointer (some ⟨p, 0, none⟩), .string u] w fun e w' => e = .returned (.bool false) ∧ w = w' := by
  have H := hide h
  have HB := hide hb
  clear h hb
  go_enter Try.func43, Try.ntmps43
  go_wp2_with (go_at_call 72; refine (at_is H.out u _ HB.out).mono ?_; rintro e wq ⟨rfl, rfl⟩; simp only [])
  go_ret
  exact ⟨rfl, rfl⟩
set_option maxRecDepth 100000 in
set_option maxHeartbeats 4000000 in
theorem accept_yes {w : World} {t v : Tk} {L : List Tk} {d : Int} (h : At B p a cp s w d (t :: v :: L)) (u : ByteArray) (hb : isM t u = true) :
    Calls Try.prog 43 #[.pointer (some ⟨p, 0, none⟩), .string u] w fun e w' => e = .returned (.bool true) ∧ Ex (fun k => k = p) w w' ∧ At B p a cp s w' d (v :: L) := by
  have H := hide h
  have HB := hide hb
  have HT : Hid (Calls Try.prog 35 #[.pointer (some ⟨p, 0, none⟩), .int .i64 5] w fun e w' => e = .returned (tokV t) ∧ Ex (fun k => k = p) w w' ∧ At B p a cp s w' d (v :: L)) := by
    have := take_yes w h
    rw [show t.k = 5 by simp [isM] at hb; exact hb.1] at this
    exact this
  clear h hb
  have HA : Hid (Calls Try.prog 72 #[.pointer (some ⟨p, 0, none⟩), .string u] w fun e w' => e = .returned (.bool true) ∧ w = w') := by
    obtain ⟨o, hps, _⟩ := H.out
    exact at_is hps u _ HB.out
  go_enter Try.func43, Try.ntmps43
  go_wp2_with (first | (go_at_call 72; refine (HA.out).mono ?_; rintro e wq ⟨rfl, rfl⟩; simp only []) | (go_at_call 35; refine (HT.out).mono ?_; rintro e w3 ⟨rfl, hex, hat⟩; have HEX := hide hex; have HAT := hide hat; clear hex hat; simp only []))
  go_ret
  exact ⟨rfl, HEX.out, HAT.out⟩
set_option maxRecDepth 100000 in
set_option maxHeartbeats 4000000 in
theorem expect_yes {w : World} {t v : Tk} {L : List Tk} {d : Int} (h : At B p a cp s w d (t :: v :: L)) (u : ByteArray) (hb : isM t u = true) :
    Calls Try.prog 34 #[.pointer (some ⟨p, 0, none⟩), .string u] w fun e w' => e = .returned (.tuple #[]) ∧ Ex (fun k => k = p) w w' ∧ At B p a cp s w' d (v :: L) := by
  have HA := hide (accept_yes h u hb)
  clear h hb
  go_enter Try.func34, Try.ntmps34
  go_wp2_with (go_at_call 43; refine (HA.out).mono ?_; rintro e w3 ⟨rfl, hex, hat⟩; have HEX := hide hex; have HAT := hide hat; clear hex hat; simp only [])
  exact ⟨rfl, .tuple #[], by simp [results, Try.results34], rfl, HEX.out, HAT.out⟩
theorem isM_bad {t : Tk} (h : t.k = 1) (u : ByteArray) : isM t u = false := by simp [isM, h]
theorem accept_bad {w : World} {fe fl fc : Int} (h : Bad B p a cp s w fe fl fc) (u : ByteArray) :
    Calls Try.prog 43 #[.pointer (some ⟨p, 0, none⟩), .string u] w fun e w' => e = .returned (.bool false) ∧ w = w' := by
  obtain ⟨o, t, d, hps, hk, hf⟩ := h
  exact accept_no hps u (isM_bad hk u)
theorem at_bad {w : World} {fe fl fc : Int} (h : Bad B p a cp s w fe fl fc) (u : ByteArray) :
    Calls Try.prog 72 #[.pointer (some ⟨p, 0, none⟩), .string u] w fun e w' => e = .returned (.bool false) ∧ w = w' := by
  obtain ⟨o, t, d, hps, hk, hf⟩ := h
  exact at_is hps u _ (isM_bad hk u)
set_option maxRecDepth 100000 in
set_option maxHeartbeats 4000000 in
theorem expect_bad {w : World} {fe fl fc : Int} (h : Bad B p a cp s w fe fl fc) (u : ByteArray) :
    Calls Try.prog 34 #[.pointer (some ⟨p, 0, none⟩), .string u] w fun e w' => e = .returned (.tuple #[]) ∧ w = w' := by
  have HA := hide (accept_bad h u)
  obtain ⟨o, t, d, hps, hk, hf⟩ := h
  have HF := hide (fail_again w hps hf 5)
  clear hps hk hf
  go_enter Try.func34, Try.ntmps34
  go_wp2_with (first | (go_at_call 43; refine (HA.out).mono ?_; rintro e wq ⟨rfl, rfl⟩; simp only []) | (go_at_call 71; refine (HF.out).mono ?_; rintro e wr ⟨rfl, rfl⟩; simp only []))
  exact ⟨rfl, .tuple #[], by simp [results, Try.results34], rfl, rfl⟩
theorem Bad.ex {w w' : World} {fe fl fc : Int} (h : Bad B p a cp s w fe fl fc) {S : Nat → Prop} (e : Ex S w w') (hS : ∀ k, S k → B ≤ k) : Bad B p a cp s w' fe fl fc := by
  obtain ⟨o, t, d, hps, hk, hf⟩ := h
  exact ⟨o, t, d, hps.ex e hS, hk, hf⟩
theorem At.ex {w w' : World} {d : Int} {L : List Tk} (h : At B p a cp s w d L) {S : Nat → Prop} (e : Ex S w w') (hS : ∀ k, S k → B ≤ k) : At B p a cp s w' d L := by
  cases L with
  | nil => exact h
  | cons t L =>
    obtain ⟨o, hps, hst⟩ := h
    exact ⟨o, hps.ex e hS, hst⟩
set_option maxRecDepth 100000 in
set_option maxHeartbeats 4000000 in
theorem take_bad {w : World} {fe fl fc : Int} (h : Bad B p a cp s w fe fl fc) (k : Int) (hk1 : k ≠ 1) :
    Calls Try.prog 35 #[.pointer (some ⟨p, 0, none⟩), .int .i64 k] w fun e w' => e = .returned (tokV ⟨0, ⟨#[]⟩, 0, 0, 0, 0⟩) ∧ Ex (fun k => k = p) w w' ∧ Bad B p a cp s w' fe fl fc := by
  obtain ⟨o, t, d, hps, hk, hf⟩ := h
  have H := hide hps
  have HK := hide (And.intro hk hf)
  have c4 := hps.c4
  have c5 := hps.c5
  have c6 := hps.c6
  have c7 := hps.c7
  have c8 := hps.c8
  have c9 := hps.c9
  rw [hk] at c4
  have hne : ((1 : Int) != k) = true := by simp; omega
  have hpl : p < w.heap.size := World.block_lt_of_cell? _ _ c4
  clear hps hk hf
  go_enter Try.func35, Try.ntmps35
  go_wp2_with fail
  have hps2 := (H.out.new (.cells #[.int .i64 0, .string ⟨#[]⟩, .int .i64 0, .int .i64 0, .int .i64 0, .int .i64 0] 81)).new (.cells #[.int .i64 1, .string t.x, .int .i64 t.v, .int .i64 t.e, .int .i64 t.l, .int .i64 t.c] 81)
  have hr0 := (TB.new w 0 ⟨#[]⟩ 0 0 0 0).keep (S := fun _ => False) ((Ex.refl _ _).alloc (.cells #[.int .i64 1, .string t.x, .int .i64 t.v, .int .i64 t.e, .int .i64 t.l, .int .i64 t.c] 81)) (fun e => e)
  have HE2 : Hid (Ex (fun k => k = p) w ((w.alloc (.cells #[.int .i64 0, .string ⟨#[]⟩, .int .i64 0, .int .i64 0, .int .i64 0, .int .i64 0] 81)).alloc (.cells #[.int .i64 1, .string t.x, .int .i64 t.v, .int .i64 t.e, .int .i64 t.l, .int .i64 t.c] 81))) := ((Ex.refl _ _).alloc _).alloc _
  have HB0 : Hid (B ≤ w.heap.size) := H.out.hB
  clear c4 c5 c6 c7 c8 c9 H
  generalize (w.alloc (.cells #[.int .i64 0, .string ⟨#[]⟩, .int .i64 0, .int .i64 0, .int .i64 0, .int .i64 0] 81)).alloc (.cells #[.int .i64 1, .string t.x, .int .i64 t.v, .int .i64 t.e, .int .i64 t.l, .int .i64 t.c] 81) = w2 at *
  obtain ⟨r0, hr0e⟩ : ∃ r, w.heap.size = r := ⟨_, rfl⟩
  have HRR : Hid (w.heap.size ≤ r0) := by rw [hr0e]; exact Nat.le_refl _
  rw [hr0e] at hr0 hpl HB0 ⊢
  clear hr0e
  refine (fail_again w2 hps2 HK.out.2 5).mono ?_
  rintro e w3 ⟨rfl, rfl⟩
  have R0 := hr0.c0
  have R1 := hr0.c1
  have R2 := hr0.c2
  have R3 := hr0.c3
  have R4 := hr0.c4
  have R5 := hr0.c5
  have F0 := hr0.f0
  have F1 := hr0.f1
  have F2 := hr0.f2
  have F3 := hr0.f3
  have F4 := hr0.f4
  have F5 := hr0.f5
  have HPF := fun (y0 y1 y2 y3 y4 y5 : Value) => hide ((((((hps2.setN HB0.out 0 y0).setN HB0.out 1 y1).setN HB0.out 2 y2).setN HB0.out 3 y3).setN HB0.out 4 y4).setN HB0.out 5 y5)
  have HEF := fun (y0 y1 y2 y3 y4 y5 : Value) => hide ((((((HE2.out.setNew (p := r0) (j := 0) HRR.out y0).setNew (p := r0) (j := 1) HRR.out y1).setNew (p := r0) (j := 2) HRR.out y2).setNew (p := r0) (j := 3) HRR.out y3).setNew (p := r0) (j := 4) HRR.out y4).setNew (p := r0) (j := 5) HRR.out y5)
  clear hps2 hr0
  go_wp2
  exact bodyPost_ret (v := .agg #[.int .i64 0, .string ⟨#[]⟩, .int .i64 0, .int .i64 0, .int .i64 0, .int .i64 0]) (by simp [results, Try.results35, go_sem, R0, R1, R2, R3, R4, R5]) rfl ⟨rfl, (HEF _ _ _ _ _ _).out, o, t, d, (HPF _ _ _ _ _ _).out, HK.out⟩
set_option maxRecDepth 100000 in
set_option maxHeartbeats 4000000 in
/-- parser.open where there is room -/
theorem open_ok {w : World} {t v : Tk} {L : List Tk} {d : Int} (h : At B p a cp s w d (t :: v :: L)) (hd : 0 ≤ d ∧ d < 64) (hk : t.k = 5) :
    Calls Try.prog 94 #[.pointer (some ⟨p, 0, none⟩)] w fun e w' => e = .returned (.bool true) ∧ Ex (fun k => k = p) w w' ∧ At B p a cp s w' (d + 1) (v :: L) := by
  obtain ⟨o, hps, hst⟩ := h
  have c10 := hps.c10
  have f10 := hps.fr 10
  have d1 : decide ((64 : Int) ≤ d) = false := by simp; omega
  have hw : IntKind.i64.wrap (d + 1) = d + 1 := by rw [IntKind.wrap_i64]; omega
  have ha2 : At B p a cp s (w.setCell ⟨p, 10, none⟩ (.int .i64 (d + 1))) (d + 1) (t :: v :: L) := ⟨o, hps.dep (d + 1), hst⟩
  have HT := hide (take_yes _ ha2)
  rw [hk] at HT
  have HE : Hid (Ex (fun k => k = p) w (w.setCell ⟨p, 10, none⟩ (.int .i64 (d + 1)))) := (Ex.refl (fun k => k = p) w).set (p := p) rfl _
  clear hps hst ha2 hd hk
  go_enter Try.func94, Try.ntmps94
  go_wp2_with (go_at_call 35; refine (HT.out).mono ?_; rintro e w3 ⟨rfl, hex, hat⟩; have HEX := hide (HE.out.trans hex); have HAT := hide hat; clear hex hat; simp only [])
  go_ret
  exact ⟨rfl, HEX.out, HAT.out⟩
set_option maxRecDepth 100000 in
set_option maxHeartbeats 4000000 in
/-- parser.open where there is none -/
theorem open_deep {w : World} {t : Tk} {L : List Tk} {d : Int} (h : At B p a cp s w d (t :: L)) (hd : 64 ≤ d) (hk : t.k = 5) :
    Calls Try.prog 94 #[.pointer (some ⟨p, 0, none⟩)] w fun e w' => e = .returned (.bool false) ∧ Ex (fun k => k = p) w w' ∧ Bad B p a cp s w' 6 t.l t.c := by
  obtain ⟨o, hps, hst⟩ := h
  have c10 := hps.c10
  have d1 : decide ((64 : Int) ≤ d) = true := by simpa using hd
  have HT := hide (fail_first w hps (by rw [hk]; rfl) 6)
  clear hps hst hd hk
  go_enter Try.func94, Try.ntmps94
  go_wp2_with (go_at_call 71; refine (HT.out).mono ?_; rintro e w3 ⟨rfl, hex, hat⟩; have HEX := hide hex; have HAT := hide hat; clear hex hat; simp only [])
  go_ret
  exact ⟨rfl, HEX.out, o, _, d, HAT.out, rfl, rfl⟩
end
end Go.Proofs.Qxb6500774a
