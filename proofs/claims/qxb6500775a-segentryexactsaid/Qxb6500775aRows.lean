/-
  No cell of these rows narrows 'for every input' (looked for: loops, veiled, ifaces, maps, wideKeys, modest, calm, conditions, laid).
  DERIVED. THE GIVEN ROWS OF THIS SEAT. 11 by the template 'for every input the law returns true; each argument reads behind the call as it read before'; 0 by the template 'total and deterministic' (their statements: Qxb6500775aTotals.lean).
  GIVEN WITH THE SEED: the statements are not yours to turn. If you find one false, say at which input.
  Laid BY PROGRAM, IN A SANDBOX (cutbox-rows.mjs): the forced cells as the released guide's own fill.sh prints them over the translation 94b1ca97c6a779ab… (all of the seat's roots in one cut). By AI agents, Wed Nov 11 2026. No macro, syntax, notation, axiom, sorry.
-/
import Derived.Test.Qxb6500775aChecked
import GoSem.Claim
import GoSem.ClaimJoined
import GoSem.ClaimMapViews
import Derived.JoinedTies
import Derived.KernelRfl
namespace Go.Proofs.Qxb6500775a
/- THE CELL 'sum', in the pinned program and in every row, IS THE sha256 OF THE DUMP (.gsa) THAT Qxb6500775aProg.lean LOADS. Nothing in Lean hashes anything: it is a label: what it is worth is what the hold of that sum in a sandbox is worth. -/
noncomputable def Try.pinned : Pinned := { name := "qxb6500775a", sum := "94b1ca97c6a779abb389c5a55c31fa8c7170d41c1791a6281959cab3a84ab1bd", checked := Try.checked }
namespace Rows
def none {H : Type} : Left H := { results := [], args := [] }

/-- 'fixmathlaw.MulDivFloorClamped': WHATEVER THE INPUT: true; the input reads as it did. -/
def mulDivFloorClampedSpec : ChangeSpec := { name := "mulDivFloorClamped", fn := fun _ => fun
  | [d] => { results := [.lit (.bool true)], args := [d] }
  | _ => none }
def mulDivFloorClampedRow : OpenClaim := { program := "qxb6500775a", sum := "94b1ca97c6a779abb389c5a55c31fa8c7170d41c1791a6281959cab3a84ab1bd", func := "e2e/fixmathlaw.MulDivFloorClamped", spec := "mulDivFloorClamped", apart := false }
def MulDivFloorClampedSaid : Prop := mulDivFloorClampedRow.holds Try.pinned (OpenSpec.ofChange mulDivFloorClampedSpec)

/-- ITS FALSE NEIGHBOUR: 'it returns false'. Refute it at one input. -/
def mulDivFloorClampedWrong : ChangeSpec := { name := "mulDivFloorClamped", fn := fun _ => fun
  | [d] => { results := [.lit (.bool false)], args := [d] }
  | _ => none }
def MulDivFloorClampedWrongFalsely : Prop := mulDivFloorClampedRow.holds Try.pinned (OpenSpec.ofChange mulDivFloorClampedWrong)

/-- 'fixmathlaw.IsqrtExact': WHATEVER THE INPUT: true; the input reads as it did. -/
def isqrtExactSpec : ChangeSpec := { name := "isqrtExact", fn := fun _ => fun
  | [d] => { results := [.lit (.bool true)], args := [d] }
  | _ => none }
def isqrtExactRow : OpenClaim := { program := "qxb6500775a", sum := "94b1ca97c6a779abb389c5a55c31fa8c7170d41c1791a6281959cab3a84ab1bd", func := "e2e/fixmathlaw.IsqrtExact", spec := "isqrtExact", apart := false }
def IsqrtExactSaid : Prop := isqrtExactRow.holds Try.pinned (OpenSpec.ofChange isqrtExactSpec)

/-- ITS FALSE NEIGHBOUR: 'it returns false'. Refute it at one input. -/
def isqrtExactWrong : ChangeSpec := { name := "isqrtExact", fn := fun _ => fun
  | [d] => { results := [.lit (.bool false)], args := [d] }
  | _ => none }
def IsqrtExactWrongFalsely : Prop := isqrtExactRow.holds Try.pinned (OpenSpec.ofChange isqrtExactWrong)

/-- 'fixmathlaw.BearingUniqueSector': WHATEVER THE INPUT: true; the input reads as it did. -/
def bearingUniqueSectorSpec : ChangeSpec := { name := "bearingUniqueSector", fn := fun _ => fun
  | [d] => { results := [.lit (.bool true)], args := [d] }
  | _ => none }
def bearingUniqueSectorRow : OpenClaim := { program := "qxb6500775a", sum := "94b1ca97c6a779abb389c5a55c31fa8c7170d41c1791a6281959cab3a84ab1bd", func := "e2e/fixmathlaw.BearingUniqueSector", spec := "bearingUniqueSector", apart := false }
def BearingUniqueSectorSaid : Prop := bearingUniqueSectorRow.holds Try.pinned (OpenSpec.ofChange bearingUniqueSectorSpec)

/-- ITS FALSE NEIGHBOUR: 'it returns false'. Refute it at one input. -/
def bearingUniqueSectorWrong : ChangeSpec := { name := "bearingUniqueSector", fn := fun _ => fun
  | [d] => { results := [.lit (.bool false)], args := [d] }
  | _ => none }
def BearingUniqueSectorWrongFalsely : Prop := bearingUniqueSectorRow.holds Try.pinned (OpenSpec.ofChange bearingUniqueSectorWrong)

/-- 'fixmathlaw.OctantExact': WHATEVER THE INPUT: true; the input reads as it did. -/
def octantExactSpec : ChangeSpec := { name := "octantExact", fn := fun _ => fun
  | [d] => { results := [.lit (.bool true)], args := [d] }
  | _ => none }
def octantExactRow : OpenClaim := { program := "qxb6500775a", sum := "94b1ca97c6a779abb389c5a55c31fa8c7170d41c1791a6281959cab3a84ab1bd", func := "e2e/fixmathlaw.OctantExact", spec := "octantExact", apart := false }
def OctantExactSaid : Prop := octantExactRow.holds Try.pinned (OpenSpec.ofChange octantExactSpec)

/-- ITS FALSE NEIGHBOUR: 'it returns false'. Refute it at one input. -/
def octantExactWrong : ChangeSpec := { name := "octantExact", fn := fun _ => fun
  | [d] => { results := [.lit (.bool false)], args := [d] }
  | _ => none }
def OctantExactWrongFalsely : Prop := octantExactRow.holds Try.pinned (OpenSpec.ofChange octantExactWrong)

/-- 'fixmathlaw.SegDiscExact': WHATEVER THE INPUT: true; the input reads as it did. -/
def segDiscExactSpec : ChangeSpec := { name := "segDiscExact", fn := fun _ => fun
  | [d] => { results := [.lit (.bool true)], args := [d] }
  | _ => none }
def segDiscExactRow : OpenClaim := { program := "qxb6500775a", sum := "94b1ca97c6a779abb389c5a55c31fa8c7170d41c1791a6281959cab3a84ab1bd", func := "e2e/fixmathlaw.SegDiscExact", spec := "segDiscExact", apart := false }
def SegDiscExactSaid : Prop := segDiscExactRow.holds Try.pinned (OpenSpec.ofChange segDiscExactSpec)

/-- ITS FALSE NEIGHBOUR: 'it returns false'. Refute it at one input. -/
def segDiscExactWrong : ChangeSpec := { name := "segDiscExact", fn := fun _ => fun
  | [d] => { results := [.lit (.bool false)], args := [d] }
  | _ => none }
def SegDiscExactWrongFalsely : Prop := segDiscExactRow.holds Try.pinned (OpenSpec.ofChange segDiscExactWrong)

/-- 'fixmathlaw.SegDiscMissesNoPoint': WHATEVER THE INPUT: true; the input reads as it did. -/
def segDiscMissesNoPointSpec : ChangeSpec := { name := "segDiscMissesNoPoint", fn := fun _ => fun
  | [d] => { results := [.lit (.bool true)], args := [d] }
  | _ => none }
def segDiscMissesNoPointRow : OpenClaim := { program := "qxb6500775a", sum := "94b1ca97c6a779abb389c5a55c31fa8c7170d41c1791a6281959cab3a84ab1bd", func := "e2e/fixmathlaw.SegDiscMissesNoPoint", spec := "segDiscMissesNoPoint", apart := false }
def SegDiscMissesNoPointSaid : Prop := segDiscMissesNoPointRow.holds Try.pinned (OpenSpec.ofChange segDiscMissesNoPointSpec)

/-- ITS FALSE NEIGHBOUR: 'it returns false'. Refute it at one input. -/
def segDiscMissesNoPointWrong : ChangeSpec := { name := "segDiscMissesNoPoint", fn := fun _ => fun
  | [d] => { results := [.lit (.bool false)], args := [d] }
  | _ => none }
def SegDiscMissesNoPointWrongFalsely : Prop := segDiscMissesNoPointRow.holds Try.pinned (OpenSpec.ofChange segDiscMissesNoPointWrong)

/-- 'fixmathlaw.SegEntryExact': WHATEVER THE INPUT: true; the input reads as it did. -/
def segEntryExactSpec : ChangeSpec := { name := "segEntryExact", fn := fun _ => fun
  | [d] => { results := [.lit (.bool true)], args := [d] }
  | _ => none }
def segEntryExactRow : OpenClaim := { program := "qxb6500775a", sum := "94b1ca97c6a779abb389c5a55c31fa8c7170d41c1791a6281959cab3a84ab1bd", func := "e2e/fixmathlaw.SegEntryExact", spec := "segEntryExact", apart := false }
def SegEntryExactSaid : Prop := segEntryExactRow.holds Try.pinned (OpenSpec.ofChange segEntryExactSpec)

/-- ITS FALSE NEIGHBOUR: 'it returns false'. Refute it at one input. -/
def segEntryExactWrong : ChangeSpec := { name := "segEntryExact", fn := fun _ => fun
  | [d] => { results := [.lit (.bool false)], args := [d] }
  | _ => none }
def SegEntryExactWrongFalsely : Prop := segEntryExactRow.holds Try.pinned (OpenSpec.ofChange segEntryExactWrong)

/-- 'fixmathlaw.DecibelExact': WHATEVER THE INPUT: true; the input reads as it did. -/
def decibelExactSpec : ChangeSpec := { name := "decibelExact", fn := fun _ => fun
  | [d] => { results := [.lit (.bool true)], args := [d] }
  | _ => none }
def decibelExactRow : OpenClaim := { program := "qxb6500775a", sum := "94b1ca97c6a779abb389c5a55c31fa8c7170d41c1791a6281959cab3a84ab1bd", func := "e2e/fixmathlaw.DecibelExact", spec := "decibelExact", apart := false }
def DecibelExactSaid : Prop := decibelExactRow.holds Try.pinned (OpenSpec.ofChange decibelExactSpec)

/-- ITS FALSE NEIGHBOUR: 'it returns false'. Refute it at one input. -/
def decibelExactWrong : ChangeSpec := { name := "decibelExact", fn := fun _ => fun
  | [d] => { results := [.lit (.bool false)], args := [d] }
  | _ => none }
def DecibelExactWrongFalsely : Prop := decibelExactRow.holds Try.pinned (OpenSpec.ofChange decibelExactWrong)

/-- 'fixmathlaw.RatioExact': WHATEVER THE INPUT: true; the input reads as it did. -/
def ratioExactSpec : ChangeSpec := { name := "ratioExact", fn := fun _ => fun
  | [d] => { results := [.lit (.bool true)], args := [d] }
  | _ => none }
def ratioExactRow : OpenClaim := { program := "qxb6500775a", sum := "94b1ca97c6a779abb389c5a55c31fa8c7170d41c1791a6281959cab3a84ab1bd", func := "e2e/fixmathlaw.RatioExact", spec := "ratioExact", apart := false }
def RatioExactSaid : Prop := ratioExactRow.holds Try.pinned (OpenSpec.ofChange ratioExactSpec)

/-- ITS FALSE NEIGHBOUR: 'it returns false'. Refute it at one input. -/
def ratioExactWrong : ChangeSpec := { name := "ratioExact", fn := fun _ => fun
  | [d] => { results := [.lit (.bool false)], args := [d] }
  | _ => none }
def RatioExactWrongFalsely : Prop := ratioExactRow.holds Try.pinned (OpenSpec.ofChange ratioExactWrong)

/-- 'fixmathlaw.TableMatchesSeries': WHATEVER THE INPUT: true; the input reads as it did. -/
def tableMatchesSeriesSpec : ChangeSpec := { name := "tableMatchesSeries", fn := fun _ => fun
  | [] => { results := [.lit (.bool true)], args := [] }
  | _ => none }
def tableMatchesSeriesRow : OpenClaim := { program := "qxb6500775a", sum := "94b1ca97c6a779abb389c5a55c31fa8c7170d41c1791a6281959cab3a84ab1bd", func := "e2e/fixmathlaw.TableMatchesSeries", spec := "tableMatchesSeries", apart := false }
def TableMatchesSeriesSaid : Prop := tableMatchesSeriesRow.holds Try.pinned (OpenSpec.ofChange tableMatchesSeriesSpec)

/-- ITS FALSE NEIGHBOUR: 'it returns false'. Refute it at one input. -/
def tableMatchesSeriesWrong : ChangeSpec := { name := "tableMatchesSeries", fn := fun _ => fun
  | [] => { results := [.lit (.bool false)], args := [] }
  | _ => none }
def TableMatchesSeriesWrongFalsely : Prop := tableMatchesSeriesRow.holds Try.pinned (OpenSpec.ofChange tableMatchesSeriesWrong)

/-- 'fixmathlaw.TableTurnsOnce': WHATEVER THE INPUT: true; the input reads as it did. -/
def tableTurnsOnceSpec : ChangeSpec := { name := "tableTurnsOnce", fn := fun _ => fun
  | [] => { results := [.lit (.bool true)], args := [] }
  | _ => none }
def tableTurnsOnceRow : OpenClaim := { program := "qxb6500775a", sum := "94b1ca97c6a779abb389c5a55c31fa8c7170d41c1791a6281959cab3a84ab1bd", func := "e2e/fixmathlaw.TableTurnsOnce", spec := "tableTurnsOnce", apart := false }
def TableTurnsOnceSaid : Prop := tableTurnsOnceRow.holds Try.pinned (OpenSpec.ofChange tableTurnsOnceSpec)

/-- ITS FALSE NEIGHBOUR: 'it returns false'. Refute it at one input. -/
def tableTurnsOnceWrong : ChangeSpec := { name := "tableTurnsOnce", fn := fun _ => fun
  | [] => { results := [.lit (.bool false)], args := [] }
  | _ => none }
def TableTurnsOnceWrongFalsely : Prop := tableTurnsOnceRow.holds Try.pinned (OpenSpec.ofChange tableTurnsOnceWrong)

end Rows
end Go.Proofs.Qxb6500775a
