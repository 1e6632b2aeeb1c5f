import Derived.Test.Qxb6500775aSegP
import Derived.Test.Qxb6500775aEnt
namespace Go.Proofs.Qxb6500775a

/-- The point at q/65536 is not after the first touch. -/
def NA (al L c r q : Int) : Prop := 0 ≤ al * 65536 - q * L ∧ (r * r * L - c * c) * (65536 * 65536) ≤ (al * 65536 - q * L) * (al * 65536 - q * L)
def Ent (al L c r q : Int) : Prop := 0 ≤ q ∧ q ≤ 65536 ∧ NA al L c r q ∧ ¬ NA al L c r (q + 1)
theorem sq_mono {a b : Int} (h0 : 0 ≤ a) (h : a ≤ b) : a * a ≤ b * b := Int.mul_le_mul h h h0 (by omega)
theorem sq_le_of {a b : Int} (hb : 0 ≤ b) (h : a * a ≤ b * b) : a ≤ b := by
  rcases (by omega : a ≤ b ∨ b + 1 ≤ a) with z | z
  · exact z
  · have := sq_mono (a := b + 1) (b := a) (by omega) z
    have e : (b + 1) * (b + 1) = b * b + 2 * b + 1 := by grind
    omega
structure EntF (al L c st en r back : Int) : Prop where
  hl : 0 < L
  ha : 0 < al
  d0 : 0 ≤ r * r * L - c * c
  d1 : r * r * L - c * c ≤ al * al
  bk : back ≤ al * 65536
  ent : Ent al L c r ((al * 65536 - back) / L)
theorem ent_pre {al L c st en r : Int} (h1 : c * c + al * al = L * st) (h2 : c * c + (al - L) * (al - L) = L * en) (hL : 0 ≤ L) (hm : meetsB al L c st en r = true) (hs : r * r < st) :
    0 < L ∧ 0 < al ∧ 0 ≤ r * r * L - c * c ∧ r * r * L - c * c ≤ al * al ∧ (L ≤ al → (al - L) * (al - L) ≤ r * r * L - c * c) := by
  have ha : 0 < al := by
    unfold meetsB at hm
    split at hm
    · simp only [decide_eq_true_eq] at hm; omega
    · omega
  have cc : 0 ≤ c * c := by rcases (by omega : 0 ≤ c ∨ c ≤ 0) with z | z; exact Int.mul_nonneg z z; have := Int.mul_nonneg (show 0 ≤ -c by omega) (show 0 ≤ -c by omega); rw [Int.neg_mul_neg] at this; exact this
  have aa : 0 < al * al := Int.mul_pos ha ha
  have hL' : 0 < L := by
    rcases (by omega : L = 0 ∨ 0 < L) with z | z
    · subst z; rw [Int.zero_mul] at h1; omega
    · exact z
  have e1 : r * r * L ≤ L * st := by
    have := Int.mul_le_mul_of_nonneg_left (show r * r ≤ st by omega) hL
    rw [Int.mul_comm] at this; exact this
  have e2 : L ≤ al → (al - L) * (al - L) ≤ r * r * L - c * c := fun hla => by
    unfold meetsB at hm
    rw [if_neg (by omega), if_pos hla] at hm
    simp only [decide_eq_true_eq] at hm
    have := Int.mul_le_mul_of_nonneg_left hm hL
    rw [Int.mul_comm L (r * r)] at this
    omega
  refine ⟨hL', ha, ?_, by omega, e2⟩
  by_cases hla : L ≤ al
  · have := e2 hla
    have q : 0 ≤ (al - L) * (al - L) := Int.mul_nonneg (by omega) (by omega)
    omega
  · unfold meetsB at hm
    rw [if_neg (by omega), if_neg hla] at hm
    simp only [decide_eq_true_eq] at hm
    omega
theorem ent_law {al L c st en r back : Int} (h1 : c * c + al * al = L * st) (h2 : c * c + (al - L) * (al - L) = L * en) (hL : 0 ≤ L) (hm : meetsB al L c st en r = true) (hs : r * r < st) (hb : CeilRt ((r * r * L - c * c) * 4294967296) back) :
    EntF al L c st en r back := by
  obtain ⟨hl, ha, d0, d1, d2⟩ := ent_pre h1 h2 hL hm hs
  obtain ⟨b0, b1, b2⟩ := hb
  have key : (al * 65536) * (al * 65536) = al * al * 4294967296 := by grind
  have hbk : back ≤ al * 65536 := by
    rcases (by omega : back ≤ al * 65536 ∨ al * 65536 ≤ back - 1) with z | z
    · exact z
    · rcases b2 with y | y
      · omega
      · have := sq_mono (a := al * 65536) (b := back - 1) (by omega) z
        omega
  have f := Int.mul_ediv_add_emod (al * 65536 - back) L
  have f0 := Int.emod_nonneg (al * 65536 - back) (show L ≠ 0 by omega)
  have f1 := Int.emod_lt_of_pos (al * 65536 - back) hl
  have q0 : 0 ≤ (al * 65536 - back) / L := Int.ediv_nonneg (by omega) (by omega)
  obtain ⟨q, hq⟩ : ∃ q, (al * 65536 - back) / L = q := ⟨_, rfl⟩
  refine ⟨hl, ha, d0, d1, hbk, ?_⟩
  rw [hq] at f q0 ⊢
  rw [Int.mul_comm L q] at f
  refine ⟨q0, ?_, ?_, ?_⟩
  · have hle : al * 65536 - back ≤ L * 65536 := by
      by_cases hla : L ≤ al
      · have h3 := d2 hla
        have e : ((al - L) * 65536) * ((al - L) * 65536) = (al - L) * (al - L) * 4294967296 := by grind
        have : (al - L) * 65536 ≤ back := sq_le_of b0 (by omega)
        omega
      · omega
    rcases (by omega : q ≤ 65536 ∨ 65537 ≤ q) with z | z
    · exact z
    · have := Int.mul_le_mul_of_nonneg_right z (show 0 ≤ L by omega)
      omega
  · refine ⟨by omega, ?_⟩
    have := sq_mono b0 (show back ≤ al * 65536 - q * L by omega)
    rw [show (65536 * 65536 : Int) = 4294967296 from rfl]
    omega
  · rintro ⟨g0, g1⟩
    rw [show (65536 * 65536 : Int) = 4294967296 from rfl] at g1
    have e : (q + 1) * L = q * L + L := by grind
    rw [e] at g0 g1
    rcases b2 with y | y
    · omega
    · have := sq_mono g0 (show al * 65536 - (q * L + L) ≤ back - 1 by omega)
      omega
end Go.Proofs.Qxb6500775a
