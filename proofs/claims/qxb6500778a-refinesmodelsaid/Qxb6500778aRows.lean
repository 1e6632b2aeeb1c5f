/-
  No cell of these rows narrows 'for every input' (looked for: loops, veiled, ifaces, maps, wideKeys, modest, calm, conditions, laid).
  DERIVED. THE GIVEN ROWS OF THIS SEAT. 5 by the template 'for every input the law returns true; each argument reads behind the call as it read before'; 0 by the template 'total and deterministic' (their statements: Qxb6500778aTotals.lean).
  GIVEN WITH THE SEED: the statements are not yours to turn. If you find one false, say at which input.
  Laid BY PROGRAM, IN A SANDBOX (cutbox-rows.mjs): the forced cells as the released guide's own fill.sh prints them over the translation 1653020e415268fa… (all of the seat's roots in one cut). By AI agents, Wed Nov 11 2026. No macro, syntax, notation, axiom, sorry.
-/
import Derived.Test.Qxb6500778aChecked
import GoSem.Claim
import GoSem.ClaimJoined
import GoSem.ClaimMapViews
import Derived.JoinedTies
import Derived.KernelRfl
namespace Go.Proofs.Qxb6500778a
/- THE CELL 'sum', in the pinned program and in every row, IS THE sha256 OF THE DUMP (.gsa) THAT Qxb6500778aProg.lean LOADS. Nothing in Lean hashes anything: it is a label: what it is worth is what the hold of that sum in a sandbox is worth. -/
noncomputable def Try.pinned : Pinned := { name := "qxb6500778a", sum := "1653020e415268fa3841b06582b412a1a9574ee0c32fade306b71a1a85134351", checked := Try.checked }
namespace Rows
def none {H : Type} : Left H := { results := [], args := [] }

/-- 'configlaw.RefinesModel': WHATEVER THE INPUT: true; the input reads as it did. -/
def refinesModelSpec : ChangeSpec := { name := "refinesModel", fn := fun _ => fun
  | [d] => { results := [.lit (.bool true)], args := [d] }
  | _ => none }
def refinesModelRow : OpenClaim := { program := "qxb6500778a", sum := "1653020e415268fa3841b06582b412a1a9574ee0c32fade306b71a1a85134351", func := "e2e/configlaw.RefinesModel", spec := "refinesModel", recurses := true, apart := false }
def RefinesModelSaid : Prop := refinesModelRow.holds Try.pinned (OpenSpec.ofChange refinesModelSpec)

/-- ITS FALSE NEIGHBOUR: 'it returns false'. Refute it at one input. -/
def refinesModelWrong : ChangeSpec := { name := "refinesModel", fn := fun _ => fun
  | [d] => { results := [.lit (.bool false)], args := [d] }
  | _ => none }
def RefinesModelWrongFalsely : Prop := refinesModelRow.holds Try.pinned (OpenSpec.ofChange refinesModelWrong)

/-- 'configlaw.PrintedBatchParsesBack': WHATEVER THE INPUT: true; the input reads as it did. -/
def printedBatchParsesBackSpec : ChangeSpec := { name := "printedBatchParsesBack", fn := fun _ => fun
  | [d] => { results := [.lit (.bool true)], args := [d] }
  | _ => none }
def printedBatchParsesBackRow : OpenClaim := { program := "qxb6500778a", sum := "1653020e415268fa3841b06582b412a1a9574ee0c32fade306b71a1a85134351", func := "e2e/configlaw.PrintedBatchParsesBack", spec := "printedBatchParsesBack", recurses := true, apart := false }
def PrintedBatchParsesBackSaid : Prop := printedBatchParsesBackRow.holds Try.pinned (OpenSpec.ofChange printedBatchParsesBackSpec)

/-- ITS FALSE NEIGHBOUR: 'it returns false'. Refute it at one input. -/
def printedBatchParsesBackWrong : ChangeSpec := { name := "printedBatchParsesBack", fn := fun _ => fun
  | [d] => { results := [.lit (.bool false)], args := [d] }
  | _ => none }
def PrintedBatchParsesBackWrongFalsely : Prop := printedBatchParsesBackRow.holds Try.pinned (OpenSpec.ofChange printedBatchParsesBackWrong)

/-- 'configlaw.ParserAlwaysAnswers': WHATEVER THE INPUT: true; the input reads as it did. -/
def parserAlwaysAnswersSpec : ChangeSpec := { name := "parserAlwaysAnswers", fn := fun _ => fun
  | [d] => { results := [.lit (.bool true)], args := [d] }
  | _ => none }
def parserAlwaysAnswersRow : OpenClaim := { program := "qxb6500778a", sum := "1653020e415268fa3841b06582b412a1a9574ee0c32fade306b71a1a85134351", func := "e2e/configlaw.ParserAlwaysAnswers", spec := "parserAlwaysAnswers", apart := false }
def ParserAlwaysAnswersSaid : Prop := parserAlwaysAnswersRow.holds Try.pinned (OpenSpec.ofChange parserAlwaysAnswersSpec)

/-- ITS FALSE NEIGHBOUR: 'it returns false'. Refute it at one input. -/
def parserAlwaysAnswersWrong : ChangeSpec := { name := "parserAlwaysAnswers", fn := fun _ => fun
  | [d] => { results := [.lit (.bool false)], args := [d] }
  | _ => none }
def ParserAlwaysAnswersWrongFalsely : Prop := parserAlwaysAnswersRow.holds Try.pinned (OpenSpec.ofChange parserAlwaysAnswersWrong)

/-- 'configlaw.InverseRestores': WHATEVER THE INPUT: true; the input reads as it did. -/
def inverseRestoresSpec : ChangeSpec := { name := "inverseRestores", fn := fun _ => fun
  | [d] => { results := [.lit (.bool true)], args := [d] }
  | _ => none }
def inverseRestoresRow : OpenClaim := { program := "qxb6500778a", sum := "1653020e415268fa3841b06582b412a1a9574ee0c32fade306b71a1a85134351", func := "e2e/configlaw.InverseRestores", spec := "inverseRestores", recurses := true, apart := false }
def InverseRestoresSaid : Prop := inverseRestoresRow.holds Try.pinned (OpenSpec.ofChange inverseRestoresSpec)

/-- ITS FALSE NEIGHBOUR: 'it returns false'. Refute it at one input. -/
def inverseRestoresWrong : ChangeSpec := { name := "inverseRestores", fn := fun _ => fun
  | [d] => { results := [.lit (.bool false)], args := [d] }
  | _ => none }
def InverseRestoresWrongFalsely : Prop := inverseRestoresRow.holds Try.pinned (OpenSpec.ofChange inverseRestoresWrong)

/-- 'configlaw.OverLimitRefusedWhole': WHATEVER THE INPUT: true; the input reads as it did. -/
def overLimitRefusedWholeSpec : ChangeSpec := { name := "overLimitRefusedWhole", fn := fun _ => fun
  | [d] => { results := [.lit (.bool true)], args := [d] }
  | _ => none }
def overLimitRefusedWholeRow : OpenClaim := { program := "qxb6500778a", sum := "1653020e415268fa3841b06582b412a1a9574ee0c32fade306b71a1a85134351", func := "e2e/configlaw.OverLimitRefusedWhole", spec := "overLimitRefusedWhole", recurses := true, apart := false }
def OverLimitRefusedWholeSaid : Prop := overLimitRefusedWholeRow.holds Try.pinned (OpenSpec.ofChange overLimitRefusedWholeSpec)

/-- ITS FALSE NEIGHBOUR: 'it returns false'. Refute it at one input. -/
def overLimitRefusedWholeWrong : ChangeSpec := { name := "overLimitRefusedWhole", fn := fun _ => fun
  | [d] => { results := [.lit (.bool false)], args := [d] }
  | _ => none }
def OverLimitRefusedWholeWrongFalsely : Prop := overLimitRefusedWholeRow.holds Try.pinned (OpenSpec.ofChange overLimitRefusedWholeWrong)

end Rows
end Go.Proofs.Qxb6500778a
