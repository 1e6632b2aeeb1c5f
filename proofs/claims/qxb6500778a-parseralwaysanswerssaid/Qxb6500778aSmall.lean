import Derived.Test.Qxb6500778aGood
namespace Go.Proofs.Qxb6500778a
open Go.RowKit

set_option maxHeartbeats 4000000 in
theorem small_any (w : World) (a : Option Addr) (n cap : Nat) (T : Nat → Txt) (hn : n ≤ 9223372036854775807) (hO : OpsAt w a n T) :
    Calls Try.prog 8 #[.slice a n cap] w (SomeBool w) := by
  have HO := hide hO
  clear hO
  go_enter Try.func8, Try.ntmps8
  by_cases hbig : (n : Int) > 65536
  · go_wp2
    go_ret
    exact ⟨_, rfl, rfl⟩
  go_wp2
  go_loop [3, 4] (fun x i => ∃ (z : Int) (k : Nat), x = .int .i64 z ∧ k ≤ n ∧ i = .int .i64 k) (fun _ i => n - (intOf i).toNat)
  case atStart => exact ⟨n, 0, rfl, Nat.zero_le _, rfl⟩
  case round =>
    obtain ⟨z, k, rfl, hk, rfl⟩ := hrel
    by_cases hlt : k < n
    · obtain ⟨b, off, rfl, hc, hl, hlc, hby⟩ := HO.out k hlt
      clear hlc hby
      generalize (T k).n = tn at *
      generalize (T k).a = ta at *
      generalize (T k).c = tc at *
      go_upto_if 24 with fail
      generalize wrap64 (z + (tn : Int)) = y
      by_cases hy : 65536 < y
      · go_wp2
        go_ret
        exact ⟨_, rfl, rfl⟩
      · go_wp2
        go_round
        case rel => exact ⟨_, k + 1, rfl, by omega, by go_num⟩
        case measure => simp [intOf]; omega
    · go_wp2
      go_ret
      exact ⟨_, rfl, rfl⟩
/-- The changes of a batch in memory, each good. -/
def ChsAt (w : World) (sa : Option Addr) (sl : Nat) : Prop := ∀ i, i < sl → ∃ b off kd dv hp pr ln ix cl pm up, sa = some ⟨b, off, none⟩ ∧ CO w b (off + i * 9) kd dv hp pr ln ix cl pm up ∧ GoodC kd dv hp pr ln ix cl pm up
theorem ChsAt.below {w w' : World} {sa : Option Addr} {sl : Nat} (h : ChsAt w sa sl) (hb : Below w.heap.size w w') : ChsAt w' sa sl := by
  intro i hi
  obtain ⟨b, off, kd, dv, hp, pr, ln, ix, cl, pm, up, e, c, g⟩ := h i hi
  exact ⟨b, off, kd, dv, hp, pr, ln, ix, cl, pm, up, e, ⟨cellKeep hb c.c0, cellKeep hb c.c1, cellKeep hb c.c2, cellKeep hb c.c3, cellKeep hb c.c4, cellKeep hb c.c5, cellKeep hb c.c6, cellKeep hb c.c7, cellKeep hb c.c8⟩, g⟩
set_option maxHeartbeats 4000000 in
theorem check_any (w : World) (id : Int) (sa : Option Addr) (sl sc : Nat) (hid : 0 ≤ id ∧ id ≤ 999999) (hsl : sl ≤ 128) (h : ChsAt w sa sl) :
    Calls Try.prog 15 #[.agg #[.int .i64 id, .slice sa sl sc]] w fun e w' => e = .returned (.tuple #[.int .i64 0, .int .i64 0]) ∧ Below w.heap.size w w' := by
  obtain ⟨h0, h1⟩ := hid
  have HC := hide h
  clear h
  obtain ⟨W, hW⟩ : ∃ W, W = w.alloc (.cells #[.int .i64 id, .slice sa sl sc] 52) := ⟨_, rfl⟩
  have HB : Hid (Below w.heap.size w W) := by rw [hW]; exact (Below.refl _ _).alloc (Nat.le_refl _) _
  have c0 : W.cell? ⟨w.heap.size, 0, none⟩ = some (.int .i64 id) := by rw [hW]; simp [go_sem]
  have c1 : W.cell? ⟨w.heap.size, 1, none⟩ = some (.slice sa sl sc) := by rw [hW]; simp [go_sem]
  have HC1 := hide c1
  go_enter Try.func15, Try.ntmps15
  go_upto_region 1 with fail
  rw [← hW]
  clear hW
  go_upto_region 5 with fail
  clear c0 c1
  have e12 : decide (999999 < id) = false := decide_eq_false (by omega)
  have e7 : decide (id < 0) = false := decide_eq_false (by omega)
  have e16 : decide (128 < (sl : Int)) = false := decide_eq_false (by omega)
  simp only [e12, e7, e16, Bool.or_false]
  clear e12 e7 e16
  go_wp2
  go_loopw [4] (fun s wr => ∃ k : Nat, k ≤ sl ∧ s = .int .i64 k ∧ Below w.heap.size w wr ∧ wr.cell? ⟨w.heap.size, 1, none⟩ = some (.slice sa sl sc)) (fun s _ => sl - (intOf s).toNat)
  case atStart => exact ⟨0, Nat.zero_le _, rfl, HB.out, HC1.out⟩
  case round =>
    clear HB HC1
    obtain ⟨k, hk, rfl, hbel, hcc⟩ := hrel
    have HB := hide hbel
    have c1 := hcc
    have HC1 := hide hcc
    clear hbel hcc
    by_cases hlt : k < sl
    · obtain ⟨b, off, kd, dv, hp, pr, ln, ix, cl, pm, up, rfl, hco, hg⟩ := (HC.out.below HB.out) k hlt
      have HCO := hide hco
      have HG := hide hg
      clear hco hg
      go_wp2_with fail
      refine (goodChange_any _ b (off + k * 9) kd dv hp pr ln ix cl pm up HCO.out HG.out).mono ?_
      rintro e w2 ⟨rfl, hb2⟩
      have HB2 : Hid (Below w.heap.size w w2) := HB.out.trans (hb2.mono HB.out.size)
      have HC2 := hide (cellKeep hb2 HC1.out)
      clear hb2 c1
      go_wp2
      go_roundw
      case rel => exact ⟨k + 1, by omega, by go_num, HB2.out, HC2.out⟩
      case measure => simp [intOf]; omega
    · go_wp2
      exact bodyPost_ret (v := .tuple #[.int .i64 0, .int .i64 0]) (by simp [results, Try.results15, go_sem]) rfl ⟨rfl, HB.out⟩
end Go.Proofs.Qxb6500778a
