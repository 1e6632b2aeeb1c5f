import Derived.Test.Qxb6500774aTe5
namespace Go.Proofs.Qxb6500774a
open Go.RowKit
set_option linter.unusedVariables false
set_option linter.unusedSimpArgs false

theorem sok_all : ∀ (A : S), gS A → SOK A := by
  intro A
  induction A with
  | nil => intro _; exact trivial
  | asg t e l c r ih => intro h; exact ⟨st_asg t e l c r h.1 h.2.1, ih h.2.2.2⟩
  | call x ag l c r ih =>
    intro h
    refine ⟨?_, ih h.2.2⟩
    cases ag with
    | nil => exact st_call0 x l c r
    | cons y L => exact st_call x (y :: L) l c r (fun z hz => (h.2.1 z hz).2) (by simp)
  | iff A L l c r ih1 ih2 ih => intro h; exact ⟨st_iff A L l c r h.1 (ih1 h.1) h.2.2.1 (lst_of L (ih2 h.2.1)), ih h.2.2.2⟩
  | arm e L r ih1 ih => intro h; exact ⟨lst_of L (ih1 h.2.1), ih h.2.2⟩
  | fr x a e L l c r ih1 ih => intro h; exact ⟨st_fr x a e L l c r h.2.1 h.2.2.1 (lst_of L (ih1 h.2.2.2.1)), ih h.2.2.2.2⟩
  | rung e cs l c r ih => intro h; exact ⟨st_rung e cs l c r h.1 (fun z hz => (h.2.1 z hz).2.1) h.2.2.1, ih h.2.2.2⟩
/-- printer.stmts -/
theorem pstmts_any (A : S) (h : gS A) : LST A := lst_of A (sok_all A h)
end Go.Proofs.Qxb6500774a
