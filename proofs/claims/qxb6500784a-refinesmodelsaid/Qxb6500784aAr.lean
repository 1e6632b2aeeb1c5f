import Derived.Test.Qxb6500784aAq
namespace Go.Proofs.Qxb6500784a
open Go.RowKit

/-! ### What every accepted transaction does -/
def w64 (x : Int) : Int := x % 18446744073709551616
def addB (l : Led0) (j : Nat) (x : Int) : Led0 := { l with bal := l.bal.set j (w64 (fld l.bal j + x)) }
def gasL (l : Led0) (t : List Int) : Led0 := { l with gu := w64 (l.gu + gasP t) }
def nonL (l : Led0) (t : List Int) : Led0 := { l with non := l.non.set (fld t 2).toNat (w64 (fld l.non (fld t 2).toNat + 1)) }
def feeL (l : Led0) (t : List Int) : Led0 := addB (addB (nonL (gasL l t) t) (fld t 2 * 4).toNat (- fld t 4)) 0 (fld t 4)
theorem w64_r (x : Int) : 0 ≤ w64 x ∧ w64 x < 18446744073709551616 := ⟨Int.emod_nonneg _ (by omega), Int.emod_lt_of_pos _ (by omega)⟩
theorem addB_ok {l : Led0} (h : l.Ok) (j : Nat) (x : Int) : (addB l j x).Ok := ⟨by simp [addB, h.bl], h.nl, h.c, fun y hy => by
  rcases List.mem_or_eq_of_mem_set hy with z | z
  · exact h.b y z
  · rw [z]; exact w64_r _, h.n, h.m, h.g⟩
theorem gasL_ok {l : Led0} (h : l.Ok) (t : List Int) : (gasL l t).Ok := ⟨h.bl, h.nl, h.c, h.b, h.n, h.m, ⟨h.g.1, h.g.2.1, w64_r _⟩⟩
theorem nonL_ok {l : Led0} (h : l.Ok) (t : List Int) : (nonL l t).Ok := ⟨h.bl, by simp [nonL, h.nl], h.c, h.b, fun y hy => by
  rcases List.mem_or_eq_of_mem_set hy with z | z
  · exact h.n y z
  · rw [z]; exact w64_r _, h.m, h.g⟩
theorem refB_12 {l : Led0} {t : List Int} (hk : fld t 0 = 1 ∨ fld t 0 = 2) (h : refB l t = 0) : fld t 5 < 64 ∧ fld t 7 < 4 ∧ fld t 8 ≤ 9223372036854775807 := by
  unfold refB at h
  rcases hk with hk | hk
  · rw [hk] at h
    simp only [if_true] at h
    by_cases h1 : 64 ≤ fld t 5
    · rw [if_pos h1] at h; omega
    · rw [if_neg h1] at h
      by_cases h2 : fld t 5 = fld t 2
      · rw [if_pos h2] at h; omega
      · rw [if_neg h2] at h
        by_cases h3 : 4 ≤ fld t 7
        · rw [if_pos h3] at h; omega
        · rw [if_neg h3] at h
          by_cases h4 : fld t 8 = 0
          · rw [if_pos h4] at h; omega
          · rw [if_neg h4] at h
            by_cases h5 : 9223372036854775807 < fld t 8
            · rw [if_pos h5] at h; omega
            · omega
  · rw [hk, if_neg (by omega)] at h
    simp only [if_true] at h
    by_cases h0 : forP (fld t 6) l.ch = false
    · rw [if_pos h0] at h; omega
    · rw [if_neg h0] at h
      by_cases h1 : 64 ≤ fld t 5
      · rw [if_pos h1] at h; omega
      · rw [if_neg h1] at h
        by_cases h3 : 4 ≤ fld t 7
        · rw [if_pos h3] at h; omega
        · rw [if_neg h3] at h
          by_cases h4 : fld t 8 = 0
          · rw [if_pos h4] at h; omega
          · rw [if_neg h4] at h
            by_cases h5 : 9223372036854775807 < fld t 8
            · rw [if_pos h5] at h; omega
            · omega
theorem ref0 {l : Led0} {t : List Int} (h : refP l t = 0) : refA l t = 0 ∧ refB l t = 0 ∧ refC l t = 0 ∧ refD l t = 0 := by
  unfold refP at h
  by_cases h1 : refA l t = 0
  · rw [if_neg (by simp [h1])] at h
    by_cases h2 : refB l t = 0
    · rw [if_neg (by simp [h2])] at h
      by_cases h3 : refC l t = 0
      · rw [if_neg (by simp [h3])] at h
        exact ⟨h1, h2, h3, h⟩
      · rw [if_pos h3] at h; exact absurd h h3
    · rw [if_pos h2] at h; exact absurd h h2
  · rw [if_pos h1] at h; exact absurd h h1
theorem refA0 {l : Led0} {t : List Int} (h : refA l t = 0) : ¬ (fld t 0 < 1 ∨ 5 < fld t 0) ∧ fld t 1 = l.ch ∧ fld t 2 < 64 ∧ fld t 4 ≤ 9223372036854775807 := by
  have hk : ¬ (fld t 0 < 1 ∨ 5 < fld t 0) := fun e => by unfold refA at h; rw [if_pos e] at h; omega
  exact ⟨hk, refA_ok rfl hk h⟩
end Go.Proofs.Qxb6500784a
