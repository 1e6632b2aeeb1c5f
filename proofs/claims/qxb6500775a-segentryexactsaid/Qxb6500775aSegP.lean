/- Plain geometry of a segment and a disc. No Go in sight. -/
namespace Go.Proofs.Qxb6500775a
theorem sq_nonneg' (x : Int) : 0 ≤ x * x := by
  rcases Int.le_total 0 x with h | h
  · exact Int.mul_nonneg h h
  · exact Int.mul_nonneg_of_nonpos_of_nonpos h h
/-- The exact test: Along, LenSq, Cross, StartSq, EndSq, the radius. -/
def meetsB (al len cr st en r : Int) : Bool := if al ≤ 0 then decide (st ≤ r * r) else if len ≤ al then decide (en ≤ r * r) else decide (cr * cr ≤ r * r * len)
theorem lagrange (dx dy wx wy : Int) : (dx * wy - dy * wx) * (dx * wy - dy * wx) + (wx * dx + wy * dy) * (wx * dx + wy * dy) = (dx * dx + dy * dy) * (wx * wx + wy * wy) := by grind
theorem foot (dx dy wx wy : Int) : ((dx * dx + dy * dy) * wx - (wx * dx + wy * dy) * dx) * ((dx * dx + dy * dy) * wx - (wx * dx + wy * dy) * dx) + ((dx * dx + dy * dy) * wy - (wx * dx + wy * dy) * dy) * ((dx * dx + dy * dy) * wy - (wx * dx + wy * dy) * dy) = (dx * dx + dy * dy) * ((dx * wy - dy * wx) * (dx * wy - dy * wx)) := by grind
theorem sq_lt {a r : Int} (hr : 0 ≤ r) (h : a < -r ∨ r < a) : r * r < a * a := by
  rcases h with h | h
  · have := Int.mul_le_mul (show r + 1 ≤ -a by omega) (show r + 1 ≤ -a by omega) (by omega) (by omega)
    have e : (r + 1) * (r + 1) = r * r + 2 * r + 1 := by grind
    have e2 : -a * -a = a * a := by grind
    omega
  · have := Int.mul_le_mul (show r + 1 ≤ a by omega) (show r + 1 ≤ a by omega) (by omega) (by omega)
    have e : (r + 1) * (r + 1) = r * r + 2 * r + 1 := by grind
    omega
/-- One side: the disc lies beyond the segment's box in the direction of x. -/
theorem side {dx dy wx wy r : Int} (hr : 0 ≤ r) (h : (wx < -r ∧ wx - dx < -r) ∨ (r < wx ∧ r < wx - dx)) :
    meetsB (wx * dx + wy * dy) (dx * dx + dy * dy) (dx * wy - dy * wx) (wx * wx + wy * wy) ((wx - dx) * (wx - dx) + (wy - dy) * (wy - dy)) r = false := by
  have s1 : r * r < wx * wx := sq_lt hr (by omega)
  have s2 : r * r < (wx - dx) * (wx - dx) := sq_lt hr (by omega)
  have p1 := sq_nonneg' wy
  have p2 := sq_nonneg' (wy - dy)
  unfold meetsB
  split
  · simp; omega
  split
  · simp; omega
  · rename_i h1 h2
    simp only [decide_eq_false_iff_not]
    intro h3
    have F := foot dx dy wx wy
    generalize hlen : dx * dx + dy * dy = len at *
    generalize hal : wx * dx + wy * dy = al at *
    generalize hcr : (dx * wy - dy * wx) * (dx * wy - dy * wx) = cc at *
    have hq := sq_nonneg' (len * wy - al * dy)
    -- (len - al) * wx + al * (wx - dx) is beyond r * len
    have hm : (len * wx - al * dx < -(r * len)) ∨ (r * len < len * wx - al * dx) := by
      have e : len * wx - al * dx = (len - al) * wx + al * (wx - dx) := by grind
      have e2 : r * len = (len - al) * r + al * r := by grind
      rcases h with ⟨a1, a2⟩ | ⟨a1, a2⟩
      · left
        have m1 : (len - al) * wx ≤ (len - al) * (-r - 1) := Int.mul_le_mul_of_nonneg_left (by omega) (by omega)
        have m2 : al * (wx - dx) ≤ al * (-r - 1) := Int.mul_le_mul_of_nonneg_left (by omega) (by omega)
        have e3 : (len - al) * (-r - 1) = -((len - al) * r) - (len - al) := by grind
        have e4 : al * (-r - 1) = -(al * r) - al := by grind
        omega
      · right
        have m1 : (len - al) * (r + 1) ≤ (len - al) * wx := Int.mul_le_mul_of_nonneg_left (by omega) (by omega)
        have m2 : al * (r + 1) ≤ al * (wx - dx) := Int.mul_le_mul_of_nonneg_left (by omega) (by omega)
        have e3 : (len - al) * (r + 1) = (len - al) * r + (len - al) := by grind
        have e4 : al * (r + 1) = al * r + al := by grind
        omega
    have hrl : 0 ≤ r * len := Int.mul_nonneg hr (by omega)
    have hs := sq_lt hrl hm
    have h4 : len * cc ≤ len * (r * r * len) := Int.mul_le_mul_of_nonneg_left h3 (by omega)
    have e5 : len * (r * r * len) = r * len * (r * len) := by grind
    omega
theorem meets_swap (dx dy wx wy r : Int) : meetsB (wx * dx + wy * dy) (dx * dx + dy * dy) (dx * wy - dy * wx) (wx * wx + wy * wy) ((wx - dx) * (wx - dx) + (wy - dy) * (wy - dy)) r =
    meetsB (wy * dy + wx * dx) (dy * dy + dx * dx) (dy * wx - dx * wy) (wy * wy + wx * wx) ((wy - dy) * (wy - dy) + (wx - dx) * (wx - dx)) r := by
  unfold meetsB
  rw [show wy * dy + wx * dx = wx * dx + wy * dy from Int.add_comm _ _, show dy * dy + dx * dx = dx * dx + dy * dy from Int.add_comm _ _, show wy * wy + wx * wx = wx * wx + wy * wy from Int.add_comm _ _,
    show (wy - dy) * (wy - dy) + (wx - dx) * (wx - dx) = (wx - dx) * (wx - dx) + (wy - dy) * (wy - dy) from Int.add_comm _ _,
    show (dy * wx - dx * wy) * (dy * wx - dx * wy) = (dx * wy - dy * wx) * (dx * wy - dy * wx) by grind]
/-- A disc of radius 2^22 or more covers the map. -/
theorem covers {dx dy wx wy r : Int} (hr : 4194304 ≤ r) (h3 : -2097152 ≤ wx ∧ wx ≤ 2097152) (h4 : -2097152 ≤ wy ∧ wy ≤ 2097152) (h5 : -2097152 ≤ wx - dx ∧ wx - dx ≤ 2097152) (h6 : -2097152 ≤ wy - dy ∧ wy - dy ≤ 2097152) :
    meetsB (wx * dx + wy * dy) (dx * dx + dy * dy) (dx * wy - dy * wx) (wx * wx + wy * wy) ((wx - dx) * (wx - dx) + (wy - dy) * (wy - dy)) r = true := by
  have bd : ∀ x : Int, -2097152 ≤ x → x ≤ 2097152 → x * x ≤ 4398046511104 := by
    intro x h1 h2
    have e : (2097152 - x) * (2097152 + x) = 4398046511104 - x * x := by grind
    have := Int.mul_nonneg (show 0 ≤ 2097152 - x by omega) (show 0 ≤ 2097152 + x by omega)
    omega
  have b1 := bd wx h3.1 h3.2
  have b2 := bd wy h4.1 h4.2
  have b3 := bd _ h5.1 h5.2
  have b4 := bd _ h6.1 h6.2
  have hrr : 17592186044416 ≤ r * r := by have := Int.mul_le_mul hr hr (by omega) (by omega); omega
  unfold meetsB
  split
  · simp; omega
  split
  · simp; omega
  · rename_i h1 h2
    simp only [decide_eq_true_eq]
    have L := lagrange dx dy wx wy
    have q := sq_nonneg' (wx * dx + wy * dy)
    have hl : 0 ≤ dx * dx + dy * dy := by have := sq_nonneg' dx; have := sq_nonneg' dy; omega
    have m : (dx * dx + dy * dy) * (wx * wx + wy * wy) ≤ (dx * dx + dy * dy) * (r * r) := Int.mul_le_mul_of_nonneg_left (by omega) hl
    have e : (dx * dx + dy * dy) * (r * r) = r * r * (dx * dx + dy * dy) := Int.mul_comm _ _
    omega
end Go.Proofs.Qxb6500775a
