/-
  No cell of these rows narrows 'for every input' (looked for: loops, veiled, ifaces, maps, wideKeys, modest, calm, conditions, laid).
  DERIVED. THE GIVEN ROWS OF THIS SEAT. 7 by the template 'for every input the law returns true; each argument reads behind the call as it read before'; 0 by the template 'total and deterministic' (their statements: Qxb6500776aTotals.lean).
  GIVEN WITH THE SEED: the statements are not yours to turn. If you find one false, say at which input.
  Laid BY PROGRAM, IN A SANDBOX (cutbox-rows.mjs): the forced cells as the released guide's own fill.sh prints them over the translation a314b3a57603cde7… (all of the seat's roots in one cut). By AI agents, Wed Nov 11 2026. No macro, syntax, notation, axiom, sorry.
-/
import Derived.Test.Qxb6500776aChecked
import GoSem.Claim
import GoSem.ClaimJoined
import GoSem.ClaimMapViews
import Derived.JoinedTies
import Derived.KernelRfl
namespace Go.Proofs.Qxb6500776a
/- THE CELL 'sum', in the pinned program and in every row, IS THE sha256 OF THE DUMP (.gsa) THAT Qxb6500776aProg.lean LOADS. Nothing in Lean hashes anything: it is a label: what it is worth is what the hold of that sum in a sandbox is worth. -/
noncomputable def Try.pinned : Pinned := { name := "qxb6500776a", sum := "a314b3a57603cde7a845bf566711457e30d40b6a5db3b32093194251a8dfe581", checked := Try.checked }
namespace Rows
def none {H : Type} : Left H := { results := [], args := [] }

/-- 'sensorslaw.RefinesModel': WHATEVER THE INPUT: true; the input reads as it did. -/
def refinesModelSpec : ChangeSpec := { name := "refinesModel", fn := fun _ => fun
  | [d] => { results := [.lit (.bool true)], args := [d] }
  | _ => none }
def refinesModelRow : OpenClaim := { program := "qxb6500776a", sum := "a314b3a57603cde7a845bf566711457e30d40b6a5db3b32093194251a8dfe581", func := "e2e/sensorslaw.RefinesModel", spec := "refinesModel", apart := false }
def RefinesModelSaid : Prop := refinesModelRow.holds Try.pinned (OpenSpec.ofChange refinesModelSpec)

/-- ITS FALSE NEIGHBOUR: 'it returns false'. Refute it at one input. -/
def refinesModelWrong : ChangeSpec := { name := "refinesModel", fn := fun _ => fun
  | [d] => { results := [.lit (.bool false)], args := [d] }
  | _ => none }
def RefinesModelWrongFalsely : Prop := refinesModelRow.holds Try.pinned (OpenSpec.ofChange refinesModelWrong)

/-- 'sensorslaw.GridEqualsAllPairs': WHATEVER THE INPUT: true; the input reads as it did. -/
def gridEqualsAllPairsSpec : ChangeSpec := { name := "gridEqualsAllPairs", fn := fun _ => fun
  | [d] => { results := [.lit (.bool true)], args := [d] }
  | _ => none }
def gridEqualsAllPairsRow : OpenClaim := { program := "qxb6500776a", sum := "a314b3a57603cde7a845bf566711457e30d40b6a5db3b32093194251a8dfe581", func := "e2e/sensorslaw.GridEqualsAllPairs", spec := "gridEqualsAllPairs", apart := false }
def GridEqualsAllPairsSaid : Prop := gridEqualsAllPairsRow.holds Try.pinned (OpenSpec.ofChange gridEqualsAllPairsSpec)

/-- ITS FALSE NEIGHBOUR: 'it returns false'. Refute it at one input. -/
def gridEqualsAllPairsWrong : ChangeSpec := { name := "gridEqualsAllPairs", fn := fun _ => fun
  | [d] => { results := [.lit (.bool false)], args := [d] }
  | _ => none }
def GridEqualsAllPairsWrongFalsely : Prop := gridEqualsAllPairsRow.holds Try.pinned (OpenSpec.ofChange gridEqualsAllPairsWrong)

/-- 'sensorslaw.RadarIff': WHATEVER THE INPUT: true; the input reads as it did. -/
def radarIffSpec : ChangeSpec := { name := "radarIff", fn := fun _ => fun
  | [d] => { results := [.lit (.bool true)], args := [d] }
  | _ => none }
def radarIffRow : OpenClaim := { program := "qxb6500776a", sum := "a314b3a57603cde7a845bf566711457e30d40b6a5db3b32093194251a8dfe581", func := "e2e/sensorslaw.RadarIff", spec := "radarIff", apart := false }
def RadarIffSaid : Prop := radarIffRow.holds Try.pinned (OpenSpec.ofChange radarIffSpec)

/-- ITS FALSE NEIGHBOUR: 'it returns false'. Refute it at one input. -/
def radarIffWrong : ChangeSpec := { name := "radarIff", fn := fun _ => fun
  | [d] => { results := [.lit (.bool false)], args := [d] }
  | _ => none }
def RadarIffWrongFalsely : Prop := radarIffRow.holds Try.pinned (OpenSpec.ofChange radarIffWrong)

/-- 'sensorslaw.SonarIff': WHATEVER THE INPUT: true; the input reads as it did. -/
def sonarIffSpec : ChangeSpec := { name := "sonarIff", fn := fun _ => fun
  | [d] => { results := [.lit (.bool true)], args := [d] }
  | _ => none }
def sonarIffRow : OpenClaim := { program := "qxb6500776a", sum := "a314b3a57603cde7a845bf566711457e30d40b6a5db3b32093194251a8dfe581", func := "e2e/sensorslaw.SonarIff", spec := "sonarIff", apart := false }
def SonarIffSaid : Prop := sonarIffRow.holds Try.pinned (OpenSpec.ofChange sonarIffSpec)

/-- ITS FALSE NEIGHBOUR: 'it returns false'. Refute it at one input. -/
def sonarIffWrong : ChangeSpec := { name := "sonarIff", fn := fun _ => fun
  | [d] => { results := [.lit (.bool false)], args := [d] }
  | _ => none }
def SonarIffWrongFalsely : Prop := sonarIffRow.holds Try.pinned (OpenSpec.ofChange sonarIffWrong)

/-- 'sensorslaw.Unseen': WHATEVER THE INPUT: true; the input reads as it did. -/
def unseenSpec : ChangeSpec := { name := "unseen", fn := fun _ => fun
  | [d] => { results := [.lit (.bool true)], args := [d] }
  | _ => none }
def unseenRow : OpenClaim := { program := "qxb6500776a", sum := "a314b3a57603cde7a845bf566711457e30d40b6a5db3b32093194251a8dfe581", func := "e2e/sensorslaw.Unseen", spec := "unseen", apart := false }
def UnseenSaid : Prop := unseenRow.holds Try.pinned (OpenSpec.ofChange unseenSpec)

/-- ITS FALSE NEIGHBOUR: 'it returns false'. Refute it at one input. -/
def unseenWrong : ChangeSpec := { name := "unseen", fn := fun _ => fun
  | [d] => { results := [.lit (.bool false)], args := [d] }
  | _ => none }
def UnseenWrongFalsely : Prop := unseenRow.holds Try.pinned (OpenSpec.ofChange unseenWrong)

/-- 'sensorslaw.OneRecordInOrder': WHATEVER THE INPUT: true; the input reads as it did. -/
def oneRecordInOrderSpec : ChangeSpec := { name := "oneRecordInOrder", fn := fun _ => fun
  | [d] => { results := [.lit (.bool true)], args := [d] }
  | _ => none }
def oneRecordInOrderRow : OpenClaim := { program := "qxb6500776a", sum := "a314b3a57603cde7a845bf566711457e30d40b6a5db3b32093194251a8dfe581", func := "e2e/sensorslaw.OneRecordInOrder", spec := "oneRecordInOrder", apart := false }
def OneRecordInOrderSaid : Prop := oneRecordInOrderRow.holds Try.pinned (OpenSpec.ofChange oneRecordInOrderSpec)

/-- ITS FALSE NEIGHBOUR: 'it returns false'. Refute it at one input. -/
def oneRecordInOrderWrong : ChangeSpec := { name := "oneRecordInOrder", fn := fun _ => fun
  | [d] => { results := [.lit (.bool false)], args := [d] }
  | _ => none }
def OneRecordInOrderWrongFalsely : Prop := oneRecordInOrderRow.holds Try.pinned (OpenSpec.ofChange oneRecordInOrderWrong)

/-- 'sensorslaw.OrderFree': WHATEVER THE INPUT: true; the input reads as it did. -/
def orderFreeSpec : ChangeSpec := { name := "orderFree", fn := fun _ => fun
  | [d] => { results := [.lit (.bool true)], args := [d] }
  | _ => none }
def orderFreeRow : OpenClaim := { program := "qxb6500776a", sum := "a314b3a57603cde7a845bf566711457e30d40b6a5db3b32093194251a8dfe581", func := "e2e/sensorslaw.OrderFree", spec := "orderFree", apart := false }
def OrderFreeSaid : Prop := orderFreeRow.holds Try.pinned (OpenSpec.ofChange orderFreeSpec)

/-- ITS FALSE NEIGHBOUR: 'it returns false'. Refute it at one input. -/
def orderFreeWrong : ChangeSpec := { name := "orderFree", fn := fun _ => fun
  | [d] => { results := [.lit (.bool false)], args := [d] }
  | _ => none }
def OrderFreeWrongFalsely : Prop := orderFreeRow.holds Try.pinned (OpenSpec.ofChange orderFreeWrong)

end Rows
end Go.Proofs.Qxb6500776a
