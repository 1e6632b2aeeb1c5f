/-
  No cell of these rows narrows 'for every input' (looked for: loops, veiled, ifaces, maps, wideKeys, modest, calm, conditions, laid).
  DERIVED. THE GIVEN ROWS OF THIS SEAT. 9 by the template 'for every input the law returns true; each argument reads behind the call as it read before'; 0 by the template 'total and deterministic' (their statements: Qxb6500784aTotals.lean).
  GIVEN WITH THE SEED: the statements are not yours to turn. If you find one false, say at which input.
  Laid BY PROGRAM, IN A SANDBOX (cutbox-rows.mjs): the forced cells as the released guide's own fill.sh prints them over the translation 0b0caa33de25edc9… (all of the seat's roots in one cut). By AI agents, Wed Nov 11 2026. No macro, syntax, notation, axiom, sorry.
-/
import Derived.Test.Qxb6500784aChecked
import GoSem.Claim
import GoSem.ClaimJoined
import GoSem.ClaimMapViews
import Derived.JoinedTies
import Derived.KernelRfl
namespace Go.Proofs.Qxb6500784a
/- THE CELL 'sum', in the pinned program and in every row, IS THE sha256 OF THE DUMP (.gsa) THAT Qxb6500784aProg.lean LOADS. Nothing in Lean hashes anything: it is a label: what it is worth is what the hold of that sum in a sandbox is worth. -/
noncomputable def Try.pinned : Pinned := { name := "qxb6500784a", sum := "0b0caa33de25edc903078250c358e13833037021b92045d9b3ead21b8e5f5f25", checked := Try.checked }
namespace Rows
def none {H : Type} : Left H := { results := [], args := [] }

/-- 'bundlelaw.OrderIsLeast': WHATEVER THE INPUT: true; the input reads as it did. -/
def orderIsLeastSpec : ChangeSpec := { name := "orderIsLeast", fn := fun _ => fun
  | [d] => { results := [.lit (.bool true)], args := [d] }
  | _ => none }
def orderIsLeastRow : OpenClaim := { program := "qxb6500784a", sum := "0b0caa33de25edc903078250c358e13833037021b92045d9b3ead21b8e5f5f25", func := "e2e/bundlelaw.OrderIsLeast", spec := "orderIsLeast", recurses := true, apart := false }
def OrderIsLeastSaid : Prop := orderIsLeastRow.holds Try.pinned (OpenSpec.ofChange orderIsLeastSpec)

/-- ITS FALSE NEIGHBOUR: 'it returns false'. Refute it at one input. -/
def orderIsLeastWrong : ChangeSpec := { name := "orderIsLeast", fn := fun _ => fun
  | [d] => { results := [.lit (.bool false)], args := [d] }
  | _ => none }
def OrderIsLeastWrongFalsely : Prop := orderIsLeastRow.holds Try.pinned (OpenSpec.ofChange orderIsLeastWrong)

/-- 'bundlelaw.AllOrNothing': WHATEVER THE INPUT: true; the input reads as it did. -/
def allOrNothingSpec : ChangeSpec := { name := "allOrNothing", fn := fun _ => fun
  | [d] => { results := [.lit (.bool true)], args := [d] }
  | _ => none }
def allOrNothingRow : OpenClaim := { program := "qxb6500784a", sum := "0b0caa33de25edc903078250c358e13833037021b92045d9b3ead21b8e5f5f25", func := "e2e/bundlelaw.AllOrNothing", spec := "allOrNothing", recurses := true, apart := false }
def AllOrNothingSaid : Prop := allOrNothingRow.holds Try.pinned (OpenSpec.ofChange allOrNothingSpec)

/-- ITS FALSE NEIGHBOUR: 'it returns false'. Refute it at one input. -/
def allOrNothingWrong : ChangeSpec := { name := "allOrNothing", fn := fun _ => fun
  | [d] => { results := [.lit (.bool false)], args := [d] }
  | _ => none }
def AllOrNothingWrongFalsely : Prop := allOrNothingRow.holds Try.pinned (OpenSpec.ofChange allOrNothingWrong)

/-- 'bundlelaw.MalformedRefusedFirst': WHATEVER THE INPUT: true; the input reads as it did. -/
def malformedRefusedFirstSpec : ChangeSpec := { name := "malformedRefusedFirst", fn := fun _ => fun
  | [d] => { results := [.lit (.bool true)], args := [d] }
  | _ => none }
def malformedRefusedFirstRow : OpenClaim := { program := "qxb6500784a", sum := "0b0caa33de25edc903078250c358e13833037021b92045d9b3ead21b8e5f5f25", func := "e2e/bundlelaw.MalformedRefusedFirst", spec := "malformedRefusedFirst", recurses := true, apart := false }
def MalformedRefusedFirstSaid : Prop := malformedRefusedFirstRow.holds Try.pinned (OpenSpec.ofChange malformedRefusedFirstSpec)

/-- ITS FALSE NEIGHBOUR: 'it returns false'. Refute it at one input. -/
def malformedRefusedFirstWrong : ChangeSpec := { name := "malformedRefusedFirst", fn := fun _ => fun
  | [d] => { results := [.lit (.bool false)], args := [d] }
  | _ => none }
def MalformedRefusedFirstWrongFalsely : Prop := malformedRefusedFirstRow.holds Try.pinned (OpenSpec.ofChange malformedRefusedFirstWrong)

/-- 'bundlelaw.RefinesModel': WHATEVER THE INPUT: true; the input reads as it did. -/
def refinesModelSpec : ChangeSpec := { name := "refinesModel", fn := fun _ => fun
  | [d] => { results := [.lit (.bool true)], args := [d] }
  | _ => none }
def refinesModelRow : OpenClaim := { program := "qxb6500784a", sum := "0b0caa33de25edc903078250c358e13833037021b92045d9b3ead21b8e5f5f25", func := "e2e/bundlelaw.RefinesModel", spec := "refinesModel", recurses := true, apart := false }
def RefinesModelSaid : Prop := refinesModelRow.holds Try.pinned (OpenSpec.ofChange refinesModelSpec)

/-- ITS FALSE NEIGHBOUR: 'it returns false'. Refute it at one input. -/
def refinesModelWrong : ChangeSpec := { name := "refinesModel", fn := fun _ => fun
  | [d] => { results := [.lit (.bool false)], args := [d] }
  | _ => none }
def RefinesModelWrongFalsely : Prop := refinesModelRow.holds Try.pinned (OpenSpec.ofChange refinesModelWrong)

/-- 'bundlelaw.CycleIsGenuine': WHATEVER THE INPUT: true; the input reads as it did. -/
def cycleIsGenuineSpec : ChangeSpec := { name := "cycleIsGenuine", fn := fun _ => fun
  | [d] => { results := [.lit (.bool true)], args := [d] }
  | _ => none }
def cycleIsGenuineRow : OpenClaim := { program := "qxb6500784a", sum := "0b0caa33de25edc903078250c358e13833037021b92045d9b3ead21b8e5f5f25", func := "e2e/bundlelaw.CycleIsGenuine", spec := "cycleIsGenuine", apart := false }
def CycleIsGenuineSaid : Prop := cycleIsGenuineRow.holds Try.pinned (OpenSpec.ofChange cycleIsGenuineSpec)

/-- ITS FALSE NEIGHBOUR: 'it returns false'. Refute it at one input. -/
def cycleIsGenuineWrong : ChangeSpec := { name := "cycleIsGenuine", fn := fun _ => fun
  | [d] => { results := [.lit (.bool false)], args := [d] }
  | _ => none }
def CycleIsGenuineWrongFalsely : Prop := cycleIsGenuineRow.holds Try.pinned (OpenSpec.ofChange cycleIsGenuineWrong)

/-- 'bundlelaw.TryForetells': WHATEVER THE INPUT: true; the input reads as it did. -/
def tryForetellsSpec : ChangeSpec := { name := "tryForetells", fn := fun _ => fun
  | [d] => { results := [.lit (.bool true)], args := [d] }
  | _ => none }
def tryForetellsRow : OpenClaim := { program := "qxb6500784a", sum := "0b0caa33de25edc903078250c358e13833037021b92045d9b3ead21b8e5f5f25", func := "e2e/bundlelaw.TryForetells", spec := "tryForetells", recurses := true, apart := false }
def TryForetellsSaid : Prop := tryForetellsRow.holds Try.pinned (OpenSpec.ofChange tryForetellsSpec)

/-- ITS FALSE NEIGHBOUR: 'it returns false'. Refute it at one input. -/
def tryForetellsWrong : ChangeSpec := { name := "tryForetells", fn := fun _ => fun
  | [d] => { results := [.lit (.bool false)], args := [d] }
  | _ => none }
def TryForetellsWrongFalsely : Prop := tryForetellsRow.holds Try.pinned (OpenSpec.ofChange tryForetellsWrong)

/-- 'bundlelaw.MessagesMatch': WHATEVER THE INPUT: true; the input reads as it did. -/
def messagesMatchSpec : ChangeSpec := { name := "messagesMatch", fn := fun _ => fun
  | [d] => { results := [.lit (.bool true)], args := [d] }
  | _ => none }
def messagesMatchRow : OpenClaim := { program := "qxb6500784a", sum := "0b0caa33de25edc903078250c358e13833037021b92045d9b3ead21b8e5f5f25", func := "e2e/bundlelaw.MessagesMatch", spec := "messagesMatch", recurses := true, apart := false }
def MessagesMatchSaid : Prop := messagesMatchRow.holds Try.pinned (OpenSpec.ofChange messagesMatchSpec)

/-- ITS FALSE NEIGHBOUR: 'it returns false'. Refute it at one input. -/
def messagesMatchWrong : ChangeSpec := { name := "messagesMatch", fn := fun _ => fun
  | [d] => { results := [.lit (.bool false)], args := [d] }
  | _ => none }
def MessagesMatchWrongFalsely : Prop := messagesMatchRow.holds Try.pinned (OpenSpec.ofChange messagesMatchWrong)

/-- 'bundlelaw.TotalsKept': WHATEVER THE INPUT: true; the input reads as it did. -/
def totalsKeptSpec : ChangeSpec := { name := "totalsKept", fn := fun _ => fun
  | [d] => { results := [.lit (.bool true)], args := [d] }
  | _ => none }
def totalsKeptRow : OpenClaim := { program := "qxb6500784a", sum := "0b0caa33de25edc903078250c358e13833037021b92045d9b3ead21b8e5f5f25", func := "e2e/bundlelaw.TotalsKept", spec := "totalsKept", recurses := true, apart := false }
def TotalsKeptSaid : Prop := totalsKeptRow.holds Try.pinned (OpenSpec.ofChange totalsKeptSpec)

/-- ITS FALSE NEIGHBOUR: 'it returns false'. Refute it at one input. -/
def totalsKeptWrong : ChangeSpec := { name := "totalsKept", fn := fun _ => fun
  | [d] => { results := [.lit (.bool false)], args := [d] }
  | _ => none }
def TotalsKeptWrongFalsely : Prop := totalsKeptRow.holds Try.pinned (OpenSpec.ofChange totalsKeptWrong)

/-- 'bundlelaw.HelpersAgree': WHATEVER THE INPUT: true; the input reads as it did. -/
def helpersAgreeSpec : ChangeSpec := { name := "helpersAgree", fn := fun _ => fun
  | [d] => { results := [.lit (.bool true)], args := [d] }
  | _ => none }
def helpersAgreeRow : OpenClaim := { program := "qxb6500784a", sum := "0b0caa33de25edc903078250c358e13833037021b92045d9b3ead21b8e5f5f25", func := "e2e/bundlelaw.HelpersAgree", spec := "helpersAgree", recurses := true, apart := false }
def HelpersAgreeSaid : Prop := helpersAgreeRow.holds Try.pinned (OpenSpec.ofChange helpersAgreeSpec)

/-- ITS FALSE NEIGHBOUR: 'it returns false'. Refute it at one input. -/
def helpersAgreeWrong : ChangeSpec := { name := "helpersAgree", fn := fun _ => fun
  | [d] => { results := [.lit (.bool false)], args := [d] }
  | _ => none }
def HelpersAgreeWrongFalsely : Prop := helpersAgreeRow.holds Try.pinned (OpenSpec.ofChange helpersAgreeWrong)

end Rows
end Go.Proofs.Qxb6500784a
