import Derived.Test.Qxb6500775aSer3
import Derived.Test.Qxb6500775aTabP
namespace Go.Proofs.Qxb6500775a
def okS (S : Option Int) (v : Int) : Bool := match S with
  | some s => decide (0 ≤ s ∧ (s + 8589934592) / 17179869184 = v ∧ v ≤ 1073741824 ∧ 0 ≤ v)
  | none => false
def serB (r : Nat) : Bool :=
  okS (serP 60 (angP r * angP r / 18446744073709551616) (angP r) (angP r) true 2) (dirP r).1 &&
  okS (serP 60 (angP r * angP r / 18446744073709551616) 18446744073709551616 18446744073709551616 true 1) (dirP r).2
set_option maxRecDepth 1000000 in
theorem serAll : allB serB 1024 = true := by decide +kernel
theorem ok_some {S : Option Int} {v : Int} (h : okS S v = true) : ∃ s, S = some s ∧ 0 ≤ s ∧ (s + 8589934592) / 17179869184 = v ∧ v ≤ 1073741824 ∧ 0 ≤ v := by
  unfold okS at h
  split at h
  · rename_i s
    simp only [decide_eq_true_eq] at h
    exact ⟨s, rfl, h⟩
  · cases h
theorem ser_at (r : Nat) (h : r < 1024) : (∃ s, serP 60 (angP r * angP r / 18446744073709551616) (angP r) (angP r) true 2 = some s ∧ 0 ≤ s ∧ (s + 8589934592) / 17179869184 = (dirP r).1 ∧ (dirP r).1 ≤ 1073741824 ∧ 0 ≤ (dirP r).1) ∧
    (∃ s, serP 60 (angP r * angP r / 18446744073709551616) 18446744073709551616 18446744073709551616 true 1 = some s ∧ 0 ≤ s ∧ (s + 8589934592) / 17179869184 = (dirP r).2 ∧ (dirP r).2 ≤ 1073741824 ∧ 0 ≤ (dirP r).2) := by
  have := allB_at serAll r h
  unfold serB at this
  rw [Bool.and_eq_true] at this
  exact ⟨ok_some this.1, ok_some this.2⟩
end Go.Proofs.Qxb6500775a
