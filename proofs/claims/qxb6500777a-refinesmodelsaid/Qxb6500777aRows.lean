/-
  No cell of these rows narrows 'for every input' (looked for: loops, veiled, ifaces, maps, wideKeys, modest, calm, conditions, laid).
  DERIVED. THE GIVEN ROWS OF THIS SEAT. 9 by the template 'for every input the law returns true; each argument reads behind the call as it read before'; 0 by the template 'total and deterministic' (their statements: Qxb6500777aTotals.lean).
  GIVEN WITH THE SEED: the statements are not yours to turn. If you find one false, say at which input.
  Laid BY PROGRAM, IN A SANDBOX (cutbox-rows.mjs): the forced cells as the released guide's own fill.sh prints them over the translation 5576fd4c72d3d544… (all of the seat's roots in one cut). By AI agents, Wed Nov 11 2026. No macro, syntax, notation, axiom, sorry.
-/
import Derived.Test.Qxb6500777aChecked
import GoSem.Claim
import GoSem.ClaimJoined
import GoSem.ClaimMapViews
import Derived.JoinedTies
import Derived.KernelRfl
namespace Go.Proofs.Qxb6500777a
/- THE CELL 'sum', in the pinned program and in every row, IS THE sha256 OF THE DUMP (.gsa) THAT Qxb6500777aProg.lean LOADS. Nothing in Lean hashes anything: it is a label: what it is worth is what the hold of that sum in a sandbox is worth. -/
noncomputable def Try.pinned : Pinned := { name := "qxb6500777a", sum := "5576fd4c72d3d544d046e5fcb761537608c9ca5316495f13f432d7b69007b780", checked := Try.checked }
namespace Rows
def none {H : Type} : Left H := { results := [], args := [] }

/-- 'trackslaw.RefinesModel': WHATEVER THE INPUT: true; the input reads as it did. -/
def refinesModelSpec : ChangeSpec := { name := "refinesModel", fn := fun _ => fun
  | [d] => { results := [.lit (.bool true)], args := [d] }
  | _ => none }
def refinesModelRow : OpenClaim := { program := "qxb6500777a", sum := "5576fd4c72d3d544d046e5fcb761537608c9ca5316495f13f432d7b69007b780", func := "e2e/trackslaw.RefinesModel", spec := "refinesModel", apart := false }
def RefinesModelSaid : Prop := refinesModelRow.holds Try.pinned (OpenSpec.ofChange refinesModelSpec)

/-- ITS FALSE NEIGHBOUR: 'it returns false'. Refute it at one input. -/
def refinesModelWrong : ChangeSpec := { name := "refinesModel", fn := fun _ => fun
  | [d] => { results := [.lit (.bool false)], args := [d] }
  | _ => none }
def RefinesModelWrongFalsely : Prop := refinesModelRow.holds Try.pinned (OpenSpec.ofChange refinesModelWrong)

/-- 'trackslaw.StageRule': WHATEVER THE INPUT: true; the input reads as it did. -/
def stageRuleSpec : ChangeSpec := { name := "stageRule", fn := fun _ => fun
  | [d] => { results := [.lit (.bool true)], args := [d] }
  | _ => none }
def stageRuleRow : OpenClaim := { program := "qxb6500777a", sum := "5576fd4c72d3d544d046e5fcb761537608c9ca5316495f13f432d7b69007b780", func := "e2e/trackslaw.StageRule", spec := "stageRule", apart := false }
def StageRuleSaid : Prop := stageRuleRow.holds Try.pinned (OpenSpec.ofChange stageRuleSpec)

/-- ITS FALSE NEIGHBOUR: 'it returns false'. Refute it at one input. -/
def stageRuleWrong : ChangeSpec := { name := "stageRule", fn := fun _ => fun
  | [d] => { results := [.lit (.bool false)], args := [d] }
  | _ => none }
def StageRuleWrongFalsely : Prop := stageRuleRow.holds Try.pinned (OpenSpec.ofChange stageRuleWrong)

/-- 'trackslaw.CoastRule': WHATEVER THE INPUT: true; the input reads as it did. -/
def coastRuleSpec : ChangeSpec := { name := "coastRule", fn := fun _ => fun
  | [d] => { results := [.lit (.bool true)], args := [d] }
  | _ => none }
def coastRuleRow : OpenClaim := { program := "qxb6500777a", sum := "5576fd4c72d3d544d046e5fcb761537608c9ca5316495f13f432d7b69007b780", func := "e2e/trackslaw.CoastRule", spec := "coastRule", apart := false }
def CoastRuleSaid : Prop := coastRuleRow.holds Try.pinned (OpenSpec.ofChange coastRuleSpec)

/-- ITS FALSE NEIGHBOUR: 'it returns false'. Refute it at one input. -/
def coastRuleWrong : ChangeSpec := { name := "coastRule", fn := fun _ => fun
  | [d] => { results := [.lit (.bool false)], args := [d] }
  | _ => none }
def CoastRuleWrongFalsely : Prop := coastRuleRow.holds Try.pinned (OpenSpec.ofChange coastRuleWrong)

/-- 'trackslaw.NumbersOpaque': WHATEVER THE INPUT: true; the input reads as it did. -/
def numbersOpaqueSpec : ChangeSpec := { name := "numbersOpaque", fn := fun _ => fun
  | [d] => { results := [.lit (.bool true)], args := [d] }
  | _ => none }
def numbersOpaqueRow : OpenClaim := { program := "qxb6500777a", sum := "5576fd4c72d3d544d046e5fcb761537608c9ca5316495f13f432d7b69007b780", func := "e2e/trackslaw.NumbersOpaque", spec := "numbersOpaque", apart := false }
def NumbersOpaqueSaid : Prop := numbersOpaqueRow.holds Try.pinned (OpenSpec.ofChange numbersOpaqueSpec)

/-- ITS FALSE NEIGHBOUR: 'it returns false'. Refute it at one input. -/
def numbersOpaqueWrong : ChangeSpec := { name := "numbersOpaque", fn := fun _ => fun
  | [d] => { results := [.lit (.bool false)], args := [d] }
  | _ => none }
def NumbersOpaqueWrongFalsely : Prop := numbersOpaqueRow.holds Try.pinned (OpenSpec.ofChange numbersOpaqueWrong)

/-- 'trackslaw.NumbersInOrder': WHATEVER THE INPUT: true; the input reads as it did. -/
def numbersInOrderSpec : ChangeSpec := { name := "numbersInOrder", fn := fun _ => fun
  | [d] => { results := [.lit (.bool true)], args := [d] }
  | _ => none }
def numbersInOrderRow : OpenClaim := { program := "qxb6500777a", sum := "5576fd4c72d3d544d046e5fcb761537608c9ca5316495f13f432d7b69007b780", func := "e2e/trackslaw.NumbersInOrder", spec := "numbersInOrder", apart := false }
def NumbersInOrderSaid : Prop := numbersInOrderRow.holds Try.pinned (OpenSpec.ofChange numbersInOrderSpec)

/-- ITS FALSE NEIGHBOUR: 'it returns false'. Refute it at one input. -/
def numbersInOrderWrong : ChangeSpec := { name := "numbersInOrder", fn := fun _ => fun
  | [d] => { results := [.lit (.bool false)], args := [d] }
  | _ => none }
def NumbersInOrderWrongFalsely : Prop := numbersInOrderRow.holds Try.pinned (OpenSpec.ofChange numbersInOrderWrong)

/-- 'trackslaw.ObservationsOnly': WHATEVER THE INPUT: true; the input reads as it did. -/
def observationsOnlySpec : ChangeSpec := { name := "observationsOnly", fn := fun _ => fun
  | [d] => { results := [.lit (.bool true)], args := [d] }
  | _ => none }
def observationsOnlyRow : OpenClaim := { program := "qxb6500777a", sum := "5576fd4c72d3d544d046e5fcb761537608c9ca5316495f13f432d7b69007b780", func := "e2e/trackslaw.ObservationsOnly", spec := "observationsOnly", apart := false }
def ObservationsOnlySaid : Prop := observationsOnlyRow.holds Try.pinned (OpenSpec.ofChange observationsOnlySpec)

/-- ITS FALSE NEIGHBOUR: 'it returns false'. Refute it at one input. -/
def observationsOnlyWrong : ChangeSpec := { name := "observationsOnly", fn := fun _ => fun
  | [d] => { results := [.lit (.bool false)], args := [d] }
  | _ => none }
def ObservationsOnlyWrongFalsely : Prop := observationsOnlyRow.holds Try.pinned (OpenSpec.ofChange observationsOnlyWrong)

/-- 'trackslaw.ListFree': WHATEVER THE INPUT: true; the input reads as it did. -/
def listFreeSpec : ChangeSpec := { name := "listFree", fn := fun _ => fun
  | [d] => { results := [.lit (.bool true)], args := [d] }
  | _ => none }
def listFreeRow : OpenClaim := { program := "qxb6500777a", sum := "5576fd4c72d3d544d046e5fcb761537608c9ca5316495f13f432d7b69007b780", func := "e2e/trackslaw.ListFree", spec := "listFree", apart := false }
def ListFreeSaid : Prop := listFreeRow.holds Try.pinned (OpenSpec.ofChange listFreeSpec)

/-- ITS FALSE NEIGHBOUR: 'it returns false'. Refute it at one input. -/
def listFreeWrong : ChangeSpec := { name := "listFree", fn := fun _ => fun
  | [d] => { results := [.lit (.bool false)], args := [d] }
  | _ => none }
def ListFreeWrongFalsely : Prop := listFreeRow.holds Try.pinned (OpenSpec.ofChange listFreeWrong)

/-- 'trackslaw.LookupsAgree': WHATEVER THE INPUT: true; the input reads as it did. -/
def lookupsAgreeSpec : ChangeSpec := { name := "lookupsAgree", fn := fun _ => fun
  | [d] => { results := [.lit (.bool true)], args := [d] }
  | _ => none }
def lookupsAgreeRow : OpenClaim := { program := "qxb6500777a", sum := "5576fd4c72d3d544d046e5fcb761537608c9ca5316495f13f432d7b69007b780", func := "e2e/trackslaw.LookupsAgree", spec := "lookupsAgree", apart := false }
def LookupsAgreeSaid : Prop := lookupsAgreeRow.holds Try.pinned (OpenSpec.ofChange lookupsAgreeSpec)

/-- ITS FALSE NEIGHBOUR: 'it returns false'. Refute it at one input. -/
def lookupsAgreeWrong : ChangeSpec := { name := "lookupsAgree", fn := fun _ => fun
  | [d] => { results := [.lit (.bool false)], args := [d] }
  | _ => none }
def LookupsAgreeWrongFalsely : Prop := lookupsAgreeRow.holds Try.pinned (OpenSpec.ofChange lookupsAgreeWrong)

/-- 'trackslaw.EvictsOldest': WHATEVER THE INPUT: true; the input reads as it did. -/
def evictsOldestSpec : ChangeSpec := { name := "evictsOldest", fn := fun _ => fun
  | [d] => { results := [.lit (.bool true)], args := [d] }
  | _ => none }
def evictsOldestRow : OpenClaim := { program := "qxb6500777a", sum := "5576fd4c72d3d544d046e5fcb761537608c9ca5316495f13f432d7b69007b780", func := "e2e/trackslaw.EvictsOldest", spec := "evictsOldest", apart := false }
def EvictsOldestSaid : Prop := evictsOldestRow.holds Try.pinned (OpenSpec.ofChange evictsOldestSpec)

/-- ITS FALSE NEIGHBOUR: 'it returns false'. Refute it at one input. -/
def evictsOldestWrong : ChangeSpec := { name := "evictsOldest", fn := fun _ => fun
  | [d] => { results := [.lit (.bool false)], args := [d] }
  | _ => none }
def EvictsOldestWrongFalsely : Prop := evictsOldestRow.holds Try.pinned (OpenSpec.ofChange evictsOldestWrong)

end Rows
end Go.Proofs.Qxb6500777a
