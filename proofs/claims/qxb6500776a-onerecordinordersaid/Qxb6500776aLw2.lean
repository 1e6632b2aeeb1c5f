import Derived.Test.Qxb6500776aLw
namespace Go.Proofs.Qxb6500776a
open Go.RowKit

theorem WD.below {w w' : World} {p : Nat} {v1 v2 : Value} {L : List Shp} {M : List Smk} (h : WD w p v1 v2 L M) (hb : Below w.heap.size w w') : WD w' p v1 v2 L M := h.keep (Ex.of (S := fun _ => False) hb) (fun _ _ e => e)
theorem any_take {α : Type} {L : List α} {P : α → Bool} {i : Nat} {x : α} (h : L[i]? = some x) : (L.take (i + 1)).any P = ((L.take i).any P || P x) := by
  rw [List.take_add_one, h, List.any_append]
  simp
theorem any_take_all {α : Type} {L : List α} {P : α → Bool} {n : Nat} (h : L.length = n) : (L.take n).any P = L.any P := by rw [← h, List.take_length]
end Go.Proofs.Qxb6500776a
