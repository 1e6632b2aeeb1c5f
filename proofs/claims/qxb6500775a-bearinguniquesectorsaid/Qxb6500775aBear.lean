import Derived.Test.Qxb6500775aNew
namespace Go.Proofs.Qxb6500775a
open Go.RowKit

theorem cmp3_le {a b : Int} : cmp3 a b ≤ 0 ↔ a ≤ b := by unfold cmp3; split <;> (try split) <;> omega
theorem small_mul {a p : Int} (h0 : 0 ≤ a) (h1 : a < 8589934592) (p0 : 0 ≤ p) (p1 : p ≤ 1073741824) : 0 ≤ a * p ∧ a * p ≤ 9223372036854775808 := by
  refine ⟨Int.mul_nonneg h0 p0, ?_⟩
  have := Int.mul_le_mul (show a ≤ 8589934592 by omega) p1 p0 (by omega)
  omega
set_option maxHeartbeats 1000000 in
theorem productLeq_any (w : World) (a p b q : Int) (ha : Word a) (hb : Word b) (hp0 : 0 ≤ p) (hp : p ≤ 1073741824) (hq0 : 0 ≤ q) (hq : q ≤ 1073741824) :
    Calls Try.prog 124 #[.int .u64 a, .int .i64 p, .int .u64 b, .int .i64 q] w fun e w' => e = .returned (.bool (decide (a * p ≤ b * q))) ∧ Below w.heap.size w w' := by
  have wp : Word p := ⟨hp0, by omega⟩
  have wq : Word q := ⟨hq0, by omega⟩
  have big : ¬ (a < 8589934592 ∧ b < 8589934592) → Calls Try.prog 124 #[.int .u64 a, .int .i64 p, .int .u64 b, .int .i64 q] w fun e w' => e = .returned (.bool (decide (a * p ≤ b * q))) ∧ Below w.heap.size w w' := by
    intro hbig
    have m1 := words_mul ha wp
    have m2 := words_mul hb wq
    have wa0 := ha.1
    have wb0 := hb.1
    by_cases hs : a < 8589934592
    · have hs2 : ¬ b < 8589934592 := fun h => hbig ⟨hs, h⟩
      clear hbig
      go_enter Try.func124, Try.ntmps124
      go_wp2_with fail
      refine (mulU64_any _ a p ha wp).mono ?_
      rintro e w1 ⟨rfl, hb1⟩
      have HB1 := hide hb1
      clear hb1
      go_wp2_with fail
      refine (mulU64_any _ b q hb wq).mono ?_
      rintro e w2 ⟨rfl, hb2⟩
      have HB2 := hide (HB1.out.trans (hb2.mono HB1.out.size))
      clear hb2 HB1
      go_wp2_with fail
      refine (cmpU128_any _ _ _ _ _ (word_div m1.1 m1.2) (word_mod _) (word_div m2.1 m2.2) (word_mod _)).mono ?_
      rintro e w3 ⟨rfl, hb3⟩
      rw [v128_parts, v128_parts]
      have HB3 := hide (HB2.out.trans (hb3.mono HB2.out.size))
      clear hb3 HB2
      go_wp2
      go_ret
      exact ⟨ret_bool (by rw [Bool.eq_iff_iff]; simp [cmp3_le]), HB3.out⟩
    · clear hbig
      go_enter Try.func124, Try.ntmps124
      go_wp2_with fail
      refine (mulU64_any _ a p ha wp).mono ?_
      rintro e w1 ⟨rfl, hb1⟩
      have HB1 := hide hb1
      clear hb1
      go_wp2_with fail
      refine (mulU64_any _ b q hb wq).mono ?_
      rintro e w2 ⟨rfl, hb2⟩
      have HB2 := hide (HB1.out.trans (hb2.mono HB1.out.size))
      clear hb2 HB1
      go_wp2_with fail
      refine (cmpU128_any _ _ _ _ _ (word_div m1.1 m1.2) (word_mod _) (word_div m2.1 m2.2) (word_mod _)).mono ?_
      rintro e w3 ⟨rfl, hb3⟩
      rw [v128_parts, v128_parts]
      have HB3 := hide (HB2.out.trans (hb3.mono HB2.out.size))
      clear hb3 HB2
      go_wp2
      go_ret
      exact ⟨ret_bool (by rw [Bool.eq_iff_iff]; simp [cmp3_le]), HB3.out⟩
  by_cases hs : a < 8589934592 ∧ b < 8589934592
  · obtain ⟨s1, s2⟩ := hs
    obtain ⟨a0, _⟩ := ha
    obtain ⟨b0, _⟩ := hb
    have m1 := small_mul a0 s1 hp0 hp
    have m2 := small_mul b0 s2 hq0 hq
    clear big wp wq
    go_enter Try.func124, Try.ntmps124
    go_wp2
    go_ret
    exact ⟨rfl, Below.refl _ _⟩
  · exact big hs

/-! ### the two searches -/
def XP (i : Nat) : Int := (dirP i).1
def YP (i : Nat) : Int := (dirP i).2
def octB (i : Nat) : Bool := decide (0 ≤ (dirP i).1 ∧ (dirP i).1 ≤ (dirP i).2 ∧ (dirP i).2 ≤ 1073741824 ∧ (i ≠ 0 → 0 < (dirP i).1))
set_option maxRecDepth 1000000 in
theorem octAll : allB octB 513 = true := by decide +kernel
theorem oct_at (i : Nat) (h : i ≤ 512) : 0 ≤ XP i ∧ XP i ≤ YP i ∧ YP i ≤ 1073741824 ∧ (i ≠ 0 → 0 < XP i) := by
  have := allB_at octAll i (by omega)
  unfold octB at this
  simp only [decide_eq_true_eq] at this
  exact this
theorem oct_ends : XP 0 = 0 ∧ YP 0 = 1073741824 ∧ XP 512 = 759250125 ∧ YP 512 = 759250125 := by
  obtain ⟨d0, d1, -⟩ := (show dirP 0 = (0, 1073741824) ∧ dirP 512 = (759250125, 759250125) ∧ True by decide +kernel)
  simp [XP, YP, d0, d1]
def FloorAt (u v : Int) (r : Nat) : Prop := r ≤ 512 ∧ (r = 0 ∨ v * XP r ≤ u * YP r) ∧ (r = 512 ∨ u * YP (r + 1) < v * XP (r + 1))
def CeilAt (u v : Int) (h : Nat) : Prop := h ≤ 512 ∧ (h = 512 ∨ u * YP h ≤ v * XP h) ∧ (h = 0 ∨ v * XP (h - 1) < u * YP (h - 1))
end Go.Proofs.Qxb6500775a
