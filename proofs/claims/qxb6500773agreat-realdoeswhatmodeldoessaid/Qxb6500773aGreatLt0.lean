import Derived.Test.Qxb6500773aGreatNb2
import Derived.Test.Qxb6500773aGreatSm0
namespace Go.Proofs.Qxb6500773aGreat
open Go.RowKit

/-! ### The script's steps as values -/
theorem bel_ex {B : Nat} {w w' : World} (h : Ex (fun k => B ≤ k) w w') (hB : B ≤ w.heap.size) : Below B w w' := ⟨h.os, h.tape, h.output, h.size, fun k hk => h.block k (by omega) (by omega)⟩
theorem ex_bel {B : Nat} {w w' : World} (h : Below B w w') : Ex (fun k => B ≤ k) w w' := ⟨h.os, h.tape, h.output, h.size, fun k hk hn => h.block k (by omega)⟩
/-- the literals of a step -/
def litsO (v : OpV) : List Int := (List.range v.ln).map v.X
theorem litsO_len (v : OpV) : (litsO v).length = v.ln := by unfold litsO; simp
theorem op_il {w : World} {b o : Nat} {v : OpV} (h : OpAt w b o v) : IL w v.la (litsO v) := fun j x hx => by
  unfold litsO at hx
  rw [List.getElem?_map] at hx
  obtain ⟨i, hi, rfl⟩ := Option.map_eq_some_iff.1 hx
  have hj := (List.getElem?_eq_some_iff.1 hi).1
  rw [List.length_range] at hj
  rw [List.getElem?_range hj] at hi
  cases hi
  obtain ⟨g, off, e, hc, _⟩ := h.li j hj
  exact ⟨g, off, e, hc⟩
theorem OpAt.keepB {w w' : World} {b o : Nat} {v : OpV} (h : OpAt w b o v) (k : Below w.heap.size w w') : OpAt w' b o v := h.below k
/-- the sum of the sizes of the first steps -/
theorem sumP_mono (f : Nat → OpV) : ∀ {i j : Nat}, i ≤ j → sumP f i ≤ sumP f j
  | i, 0, h => by rw [show i = 0 by omega]; exact Nat.le_refl _
  | i, j + 1, h => by
    by_cases e : i = j + 1
    · rw [e]; exact Nat.le_refl _
    · have := sumP_mono f (i := i) (j := j) (by omega)
      rw [sumP]; omega
end Go.Proofs.Qxb6500773aGreat
