import Derived.Test.Qxb6500775aBear3
namespace Go.Proofs.Qxb6500775a

/-! ### the plain law of the sectors -/
def cr (p d : Int × Int) : Int := p.1 * d.2 - p.2 * d.1
theorem cr_rot : ∀ (q : Nat) (p d : Int × Int), cr (rotP q p) (rotP q d) = cr p d
  | 0, _, _ => rfl
  | q + 1, p, d => by
    show cr (rotP q (p.2, -p.1)) (rotP q (d.2, -d.1)) = _
    rw [cr_rot q]
    unfold cr
    simp only
    rw [Int.mul_neg, Int.neg_mul]
    have e1 := Int.mul_comm p.2 d.1
    omega
def quartB (j : Nat) : Bool := decide ((dirP ((j + 1024) % 4096)).1 = (dirP j).2 ∧ (dirP ((j + 1024) % 4096)).2 = -(dirP j).1)
set_option maxRecDepth 1000000 in
theorem quartAll : allB quartB 4096 = true := by decide +kernel
theorem rot_dir : ∀ (q j : Nat), j < 4096 → dirP ((q * 1024 + j) % 4096) = rotP q (dirP j)
  | 0, j, h => by rw [show (0 * 1024 + j) % 4096 = j by omega]; rfl
  | q + 1, j, h => by
    have hq := allB_at quartAll j h
    unfold quartB at hq
    simp only [decide_eq_true_eq] at hq
    show _ = rotP q ((dirP j).2, -(dirP j).1)
    rw [← hq.1, ← hq.2]
    rw [show (dirP ((j + 1024) % 4096)).1 = (dirP ((j + 1024) % 4096)).1 from rfl]
    have := rot_dir q ((j + 1024) % 4096) (by omega)
    rw [show ((q + 1) * 1024 + j) % 4096 = (q * 1024 + (j + 1024) % 4096) % 4096 by omega, this]
def t1B (j : Nat) : Bool := decide ((dirP j).1 < (dirP (j + 1)).1 ∧ (dirP (j + 1)).2 ≤ (dirP j).2)
def t2B (j : Nat) : Bool := decide ((dirP (1024 + j)).2 ≤ 0 ∧ 0 < (dirP (1024 + j)).1)
def t3B (j : Nat) : Bool := decide ((dirP (2048 + j)).2 ≤ (dirP (2048 + j + 1)).2 ∧ (dirP (2048 + j + 1)).1 ≤ (dirP (2048 + j)).1)
def t4B (j : Nat) : Bool := decide ((dirP (3072 + j)).1 ≤ 0 ∧ 0 ≤ (dirP (3072 + j)).2)
def mirB (h : Nat) : Bool := decide ((dirP (1024 - h)).1 = (dirP h).2 ∧ (dirP (1024 - h)).2 = (dirP h).1)
set_option maxRecDepth 1000000 in
theorem t1All : allB t1B 1024 = true := by decide +kernel
set_option maxRecDepth 1000000 in
theorem t2All : allB t2B 1024 = true := by decide +kernel
set_option maxRecDepth 1000000 in
theorem t3All : allB t3B 1024 = true := by decide +kernel
set_option maxRecDepth 1000000 in
theorem t4All : allB t4B 1024 = true := by decide +kernel
set_option maxRecDepth 1000000 in
theorem mirAll : allB mirB 513 = true := by decide +kernel
theorem d_ends : dirP 0 = (0, 1073741824) ∧ dirP 1024 = (1073741824, 0) ∧ dirP 513 = (760413906, 758084557) := by decide +kernel
/-- In the first quadrant c falls. -/
theorem c_fall {u v : Int} (hu : 0 ≤ u) (hv : 0 < v) {j : Nat} (hj : j < 1024) : cr (u, v) (dirP (j + 1)) < cr (u, v) (dirP j) := by
  have h := allB_at t1All j hj
  unfold t1B at h
  simp only [decide_eq_true_eq] at h
  unfold cr
  simp only
  have a1 := Int.mul_le_mul_of_nonneg_left h.2 hu
  have a2 := Int.mul_lt_mul_of_pos_left h.1 hv
  omega
theorem c_mono {u v : Int} (hu : 0 ≤ u) (hv : 0 < v) : ∀ {k j : Nat}, j + k ≤ 1024 → cr (u, v) (dirP (j + k)) ≤ cr (u, v) (dirP j)
  | 0, j, _ => Int.le_refl _
  | k + 1, j, h => by
    have h1 := c_fall hu hv (j := j + k) (by omega)
    have h2 := c_mono hu hv (k := k) (j := j) (by omega)
    rw [show j + (k + 1) = j + k + 1 by omega]
    omega
theorem c_at {u v : Int} (hu : 0 ≤ u) (hv : 0 < v) {j0 j : Nat} (hj0 : j0 < 1024) (h0 : 0 ≤ cr (u, v) (dirP j0)) (h1 : cr (u, v) (dirP (j0 + 1)) < 0) (hj : j < 4096) :
    (0 ≤ cr (u, v) (dirP j) ∧ cr (u, v) (dirP ((j + 1) % 4096)) < 0) ↔ j = j0 := by
  constructor
  · rintro ⟨g0, g1⟩
    rcases (by omega : j < 1024 ∨ (1024 ≤ j ∧ j < 2048) ∨ (2048 ≤ j ∧ j < 3072) ∨ (3072 ≤ j ∧ j < 4096)) with h | ⟨h, h'⟩ | ⟨h, h'⟩ | ⟨h, h'⟩
    · rw [show (j + 1) % 4096 = j + 1 by omega] at g1
      rcases (by omega : j = j0 ∨ j < j0 ∨ j0 < j) with z | z | z
      · exact z
      · have := c_mono hu hv (j := j + 1) (k := j0 - (j + 1)) (by omega)
        rw [show j + 1 + (j0 - (j + 1)) = j0 by omega] at this
        omega
      · have := c_mono hu hv (j := j0 + 1) (k := j - (j0 + 1)) (by omega)
        rw [show j0 + 1 + (j - (j0 + 1)) = j by omega] at this
        omega
    · exfalso
      have t := allB_at t2All (j - 1024) (by omega)
      unfold t2B at t
      simp only [decide_eq_true_eq] at t
      rw [show 1024 + (j - 1024) = j by omega] at t
      unfold cr at g0
      simp only at g0
      have a1 := Int.mul_nonneg hu (show 0 ≤ -(dirP j).2 by omega)
      have a2 := Int.mul_pos hv t.2
      rw [Int.mul_neg] at a1
      omega
    · exfalso
      have t := allB_at t3All (j - 2048) (by omega)
      unfold t3B at t
      simp only [decide_eq_true_eq] at t
      rw [show 2048 + (j - 2048) = j by omega] at t
      rw [show (j + 1) % 4096 = j + 1 by omega] at g1
      unfold cr at g0 g1
      simp only at g0 g1
      have a1 := Int.mul_le_mul_of_nonneg_left t.1 hu
      have a2 := Int.mul_le_mul_of_nonneg_left t.2 (Int.le_of_lt hv)
      omega
    · exfalso
      have key : ∀ i, 3072 ≤ i → i < 4096 → 0 ≤ cr (u, v) (dirP i) := by
        intro i h3 h4
        have t := allB_at t4All (i - 3072) (by omega)
        unfold t4B at t
        simp only [decide_eq_true_eq] at t
        rw [show 3072 + (i - 3072) = i by omega] at t
        unfold cr
        simp only
        have a1 := Int.mul_nonneg hu t.2
        have a2 := Int.mul_nonneg (Int.le_of_lt hv) (show 0 ≤ -(dirP i).1 by omega)
        rw [Int.mul_neg] at a2
        omega
      by_cases hl : j = 4095
      · subst hl
        rw [show (4095 + 1) % 4096 = 0 by omega, d_ends.1] at g1
        unfold cr at g1
        simp only at g1
        omega
      · rw [show (j + 1) % 4096 = j + 1 by omega] at g1
        have := key (j + 1) (by omega) (by omega)
        omega
  · rintro rfl
    rw [show (j + 1) % 4096 = j + 1 by omega]
    exact ⟨h0, h1⟩
/-- The bearing's own sector, seen from its quadrant. -/
theorem bear_j {q u v s : Int} (hu : 0 ≤ u) (hv : 0 < v) (h : BearAt q u v s) : ∃ j0 : Nat, j0 < 1024 ∧ s = q * 1024 + j0 ∧ 0 ≤ cr (u, v) (dirP j0) ∧ cr (u, v) (dirP (j0 + 1)) < 0 := by
  rcases h with ⟨huv, r, ⟨h1, h2, h3⟩, rfl⟩ | ⟨huv, h, hc, rfl⟩
  · refine ⟨r, by omega, rfl, ?_, ?_⟩
    · rcases h2 with rfl | z
      · rw [d_ends.1]; unfold cr; simp only; omega
      · unfold cr; simp only; unfold XP YP at z; omega
    · rcases h3 with rfl | z
      · rw [show 512 + 1 = 513 from rfl, d_ends.2.2]; unfold cr; simp only; omega
      · unfold cr; simp only; unfold XP YP at z; omega
  · have hp := ceil_pos hc hv
    obtain ⟨h1, h2, h3⟩ := hc
    refine ⟨1024 - h, by omega, by omega, ?_, ?_⟩
    · have m := allB_at mirAll h (by omega)
      unfold mirB at m
      simp only [decide_eq_true_eq] at m
      unfold cr
      simp only
      rw [m.1, m.2]
      rcases h2 with rfl | z
      · have e1 := oct_ends.2.2.1
        have e2 := oct_ends.2.2.2
        unfold XP at e1
        unfold YP at e2
        rw [e1, e2]; omega
      · unfold XP YP at z; omega
    · have m := allB_at mirAll (h - 1) (by omega)
      unfold mirB at m
      simp only [decide_eq_true_eq] at m
      rw [show 1024 - (h - 1) = 1024 - h + 1 by omega] at m
      unfold cr
      simp only
      rw [m.1, m.2]
      rcases h3 with z | z
      · omega
      · unfold XP YP at z; omega
theorem fold_rot {dx dy : Int} (hz : ¬ (dx = 0 ∧ dy = 0)) : ∃ q : Nat, (foldP (decide (dx < 0)) (abs' dx) (decide (dy < 0)) (abs' dy)).1 = q ∧ q ≤ 3 ∧ rotP q ((foldP (decide (dx < 0)) (abs' dx) (decide (dy < 0)) (abs' dy)).2.1, (foldP (decide (dx < 0)) (abs' dx) (decide (dy < 0)) (abs' dy)).2.2) = (dx, dy) := by
  unfold foldP abs'
  by_cases h1 : dx < 0 <;> by_cases h2 : dy < 0
  · refine ⟨2, ?_⟩; simp [h1, h2, rotP]
  · refine ⟨3, ?_⟩; simp [h1, h2, rotP]
  · by_cases h3 : dx = 0
    · refine ⟨2, ?_⟩; subst h3; simp [h2, rotP]
    · refine ⟨1, ?_⟩; simp [h1, h2, h3, rotP]
  · by_cases h3 : dy = 0
    · have h4 : dx ≠ 0 := fun e => hz ⟨e, h3⟩
      refine ⟨1, ?_⟩; subst h3; simp [h1, h4, rotP]
    · refine ⟨0, ?_⟩; simp [h1, h2, h3, rotP]
end Go.Proofs.Qxb6500775a
