/-
  No cell of these rows narrows 'for every input' (looked for: loops, veiled, ifaces, maps, wideKeys, modest, calm, conditions, laid).
  DERIVED. THE GIVEN ROWS OF THIS SEAT. 4 by the template 'for every input the law returns true; each argument reads behind the call as it read before'; 0 by the template 'total and deterministic' (their statements: Qxb6500774aTotals.lean).
  GIVEN WITH THE SEED: the statements are not yours to turn. If you find one false, say at which input.
  Laid BY PROGRAM, IN A SANDBOX (cutbox-rows.mjs): the forced cells as the released guide's own fill.sh prints them over the translation 79a6dc346bf84006… (all of the seat's roots in one cut). By AI agents, Wed Nov 11 2026. No macro, syntax, notation, axiom, sorry.
-/
import Derived.Test.Qxb6500774aChecked
import GoSem.Claim
import GoSem.ClaimJoined
import GoSem.ClaimMapViews
import Derived.JoinedTies
import Derived.KernelRfl
namespace Go.Proofs.Qxb6500774a
/- THE CELL 'sum', in the pinned program and in every row, IS THE sha256 OF THE DUMP (.gsa) THAT Qxb6500774aProg.lean LOADS. Nothing in Lean hashes anything: it is a label: what it is worth is what the hold of that sum in a sandbox is worth. -/
noncomputable def Try.pinned : Pinned := { name := "qxb6500774a", sum := "79a6dc346bf84006ac66def2c5061d970e90ef94c5a41fb7026bcd966e36b2e6", checked := Try.checked }
namespace Rows
def none {H : Type} : Left H := { results := [], args := [] }

/-- 'syntaxlaw.PrintedParsesBack': WHATEVER THE INPUT: true; the input reads as it did. -/
def printedParsesBackSpec : ChangeSpec := { name := "printedParsesBack", fn := fun _ => fun
  | [d] => { results := [.lit (.bool true)], args := [d] }
  | _ => none }
def printedParsesBackRow : OpenClaim := { program := "qxb6500774a", sum := "79a6dc346bf84006ac66def2c5061d970e90ef94c5a41fb7026bcd966e36b2e6", func := "e2e/syntaxlaw.PrintedParsesBack", spec := "printedParsesBack", recurses := true, apart := false }
def PrintedParsesBackSaid : Prop := printedParsesBackRow.holds Try.pinned (OpenSpec.ofChange printedParsesBackSpec)

/-- ITS FALSE NEIGHBOUR: 'it returns false'. Refute it at one input. -/
def printedParsesBackWrong : ChangeSpec := { name := "printedParsesBack", fn := fun _ => fun
  | [d] => { results := [.lit (.bool false)], args := [d] }
  | _ => none }
def PrintedParsesBackWrongFalsely : Prop := printedParsesBackRow.holds Try.pinned (OpenSpec.ofChange printedParsesBackWrong)

/-- 'syntaxlaw.AcceptedIsGoodAndStable': WHATEVER THE INPUT: true; the input reads as it did. -/
def acceptedIsGoodAndStableSpec : ChangeSpec := { name := "acceptedIsGoodAndStable", fn := fun _ => fun
  | [d] => { results := [.lit (.bool true)], args := [d] }
  | _ => none }
def acceptedIsGoodAndStableRow : OpenClaim := { program := "qxb6500774a", sum := "79a6dc346bf84006ac66def2c5061d970e90ef94c5a41fb7026bcd966e36b2e6", func := "e2e/syntaxlaw.AcceptedIsGoodAndStable", spec := "acceptedIsGoodAndStable", recurses := true, apart := false }
def AcceptedIsGoodAndStableSaid : Prop := acceptedIsGoodAndStableRow.holds Try.pinned (OpenSpec.ofChange acceptedIsGoodAndStableSpec)

/-- ITS FALSE NEIGHBOUR: 'it returns false'. Refute it at one input. -/
def acceptedIsGoodAndStableWrong : ChangeSpec := { name := "acceptedIsGoodAndStable", fn := fun _ => fun
  | [d] => { results := [.lit (.bool false)], args := [d] }
  | _ => none }
def AcceptedIsGoodAndStableWrongFalsely : Prop := acceptedIsGoodAndStableRow.holds Try.pinned (OpenSpec.ofChange acceptedIsGoodAndStableWrong)

/-- 'syntaxlaw.RealDoesWhatModelDoes': WHATEVER THE INPUT: true; the input reads as it did. -/
def realDoesWhatModelDoesSpec : ChangeSpec := { name := "realDoesWhatModelDoes", fn := fun _ => fun
  | [d] => { results := [.lit (.bool true)], args := [d] }
  | _ => none }
def realDoesWhatModelDoesRow : OpenClaim := { program := "qxb6500774a", sum := "79a6dc346bf84006ac66def2c5061d970e90ef94c5a41fb7026bcd966e36b2e6", func := "e2e/syntaxlaw.RealDoesWhatModelDoes", spec := "realDoesWhatModelDoes", recurses := true, apart := false }
def RealDoesWhatModelDoesSaid : Prop := realDoesWhatModelDoesRow.holds Try.pinned (OpenSpec.ofChange realDoesWhatModelDoesSpec)

/-- ITS FALSE NEIGHBOUR: 'it returns false'. Refute it at one input. -/
def realDoesWhatModelDoesWrong : ChangeSpec := { name := "realDoesWhatModelDoes", fn := fun _ => fun
  | [d] => { results := [.lit (.bool false)], args := [d] }
  | _ => none }
def RealDoesWhatModelDoesWrongFalsely : Prop := realDoesWhatModelDoesRow.holds Try.pinned (OpenSpec.ofChange realDoesWhatModelDoesWrong)

/-- 'syntaxlaw.DepthLimitIsAnError': WHATEVER THE INPUT: true; the input reads as it did. -/
def depthLimitIsAnErrorSpec : ChangeSpec := { name := "depthLimitIsAnError", fn := fun _ => fun
  | [d] => { results := [.lit (.bool true)], args := [d] }
  | _ => none }
def depthLimitIsAnErrorRow : OpenClaim := { program := "qxb6500774a", sum := "79a6dc346bf84006ac66def2c5061d970e90ef94c5a41fb7026bcd966e36b2e6", func := "e2e/syntaxlaw.DepthLimitIsAnError", spec := "depthLimitIsAnError", recurses := true, apart := false }
def DepthLimitIsAnErrorSaid : Prop := depthLimitIsAnErrorRow.holds Try.pinned (OpenSpec.ofChange depthLimitIsAnErrorSpec)

/-- ITS FALSE NEIGHBOUR: 'it returns false'. Refute it at one input. -/
def depthLimitIsAnErrorWrong : ChangeSpec := { name := "depthLimitIsAnError", fn := fun _ => fun
  | [d] => { results := [.lit (.bool false)], args := [d] }
  | _ => none }
def DepthLimitIsAnErrorWrongFalsely : Prop := depthLimitIsAnErrorRow.holds Try.pinned (OpenSpec.ofChange depthLimitIsAnErrorWrong)

end Rows
end Go.Proofs.Qxb6500774a
