import Derived.Test.Qxb6500778aIv1
import Derived.Test.Qxb6500778aCb1
namespace Go.Proofs.Qxb6500778a
open Go.RowKit

/-- what can be undone is well-formed -/
def UnOk (x : Sn) : Prop := x.cu = true → (0 ≤ x.uid ∧ x.uid ≤ 999999) ∧ ∀ c ∈ x.us, GoodC c
theorem un_zero : UnOk sn0 := fun h => by cases h
theorem applyS_un (x : Sn) (id : Int) (C : List Chg) (hok : NetOk x.N) (hlk : LkOk x.N) (h : UnOk x) : UnOk (applyS x id C) := by
  unfold applyS
  split
  · rename_i h0
    intro _
    obtain ⟨u1, _⟩ := run_undo hok hlk h0
    obtain ⟨k1, _, k3⟩ := check_ok (id := id) (C := (runP x.N id C).2.1) (by rw [u1])
    exact ⟨k1, k3⟩
  · exact h
theorem step_un (x : Sn) (p : Opn) (hok : NetOk x.N) (hlk : LkOk x.N) (h : UnOk x) : UnOk (stepS x p).1 := by
  unfold stepS
  split
  · split <;> exact h
  · split
    · split
      · exact applyS_un x _ _ hok hlk h
      · exact h
    · split
      · exact h
      · split
        · exact applyS_un { x with st := [] } _ _ hok hlk h
        · split
          · split
            · intro hc; cases hc
            · exact h
          · exact h
end Go.Proofs.Qxb6500778a
