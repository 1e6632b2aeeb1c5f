import Derived.Test.Qxb6500784aWo
import Derived.Test.Qxb6500784aEq
namespace Go.Proofs.Qxb6500784a
open Go.RowKit

/-! ### Equal arrays -/
theorem Try.isz29 : (Try.prog.info? 29).map (·.size) = some 1 := by kernel_rfl
theorem eqArr {w : World} (d : Nat) {t n : Nat} (hu : Try.prog.underlying t = some (.array n 29)) {l : List Int} (hl : l.length = n) : (Op.equalIn (d + 2) t (.agg (u64s l).toArray) (.agg (u64s l).toArray)).run Try.prog w = .ok true w := by
  obtain ⟨i5, hi5⟩ : ∃ i, Try.prog.info? 29 = some i := by
    cases hh : Try.prog.info? 29 with
    | none => have := Try.isz29; rw [hh] at this; cases this
    | some i => exact ⟨i, rfl⟩
  rw [run_equalIn_array w (d + 1) _ _ hu hi5, show Try.prog.cellsOf 29 = 1 from by kernel_rfl]
  have g : ∀ i, i < n → (u64s l).toArray[i]? = some (.int .u64 (fld l i)) := fun i hi => by
    rw [List.getElem?_toArray, u64s_at, fld, List.getElem?_eq_getElem (by rw [hl]; exact hi)]; rfl
  rw [eqItems_all (n := n) (k := .u64) (f := fld l) (g := fld l) (by kernel_rfl) Try.underlying29 g g (List.range n) (fun i hi => List.mem_range.1 hi)]
  simp
theorem eq45 (w : World) {l : Led0} (h : l.Ok) (d : Nat) : (Op.equalIn (d + 2) 45 (.agg (u64s l.bal).toArray) (.agg (u64s l.bal).toArray)).run Try.prog w = .ok true w := eqArr d Try.underlying45 h.bl
theorem eq46 (w : World) {l : Led0} (h : l.Ok) (d : Nat) : (Op.equalIn (d + 2) 46 (.agg (u64s l.non).toArray) (.agg (u64s l.non).toArray)).run Try.prog w = .ok true w := eqArr d Try.underlying46 h.nl
end Go.Proofs.Qxb6500784a
