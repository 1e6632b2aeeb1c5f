import Derived.Test.Qxb6500784aRf1
import Derived.Test.Qxb6500784aRf2
import Derived.Test.Qxb6500784aRf3
import Derived.Test.Qxb6500784aRf4
import Derived.Test.Qxb6500784aRf5
import Derived.Test.Qxb6500784aRf0
namespace Go.Proofs.Qxb6500784a
open Go.RowKit

/-- State.Refusal -/
theorem refusal_any (w : World) (b o : Nat) (l : Led0) (sv : List Led0) (B : List Nat) (t : List Int) (h : LA w b o l sv B) (ht : TxOk t) (hl : l.mks.length ≤ 1000000000000) :
    Calls Try.prog 83 #[.pointer (some ⟨b, o, none⟩), .agg (kvs txk t).toArray] w fun e w' => e = .returned (.int .i64 (refP l t)) ∧ Below w.heap.size w w' := by
  by_cases hA : refA l t = 0
  · have hk : ¬ (fld t 0 < 1 ∨ 5 < fld t 0) := fun e => by unfold refA at hA; rw [if_pos e] at hA; omega
    rcases (by omega : fld t 0 = 1 ∨ fld t 0 = 2 ∨ fld t 0 = 3 ∨ fld t 0 = 4 ∨ fld t 0 = 5) with e | e | e | e | e
    · exact ref_1 w b o l sv B t h ht hl e hA
    · exact ref_2 w b o l sv B t h ht hl e hA
    · exact ref_3 w b o l sv B t h ht hl e hA
    · exact ref_4 w b o l sv B t h ht hl e hA
    · exact ref_5 w b o l sv B t h ht hl e hA
  · exact ref_bad w b o l sv B t h ht hl hA
end Go.Proofs.Qxb6500784a
