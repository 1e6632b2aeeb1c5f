/-
  No cell of these rows narrows 'for every input' (looked for: loops, veiled, ifaces, maps, wideKeys, modest, calm, conditions, laid).
  DERIVED. THE GIVEN ROWS OF THIS SEAT. 3 by the template 'for every input the law returns true; each argument reads behind the call as it read before'; 0 by the template 'total and deterministic' (their statements: Qxb6500773aTotals.lean).
  GIVEN WITH THE SEED: the statements are not yours to turn. If you find one false, say at which input.
  Laid BY PROGRAM, IN A SANDBOX (cutbox-rows.mjs): the forced cells as the released guide's own fill.sh prints them over the translation 6b66fa007d0e0dbf… (all of the seat's roots in one cut). By AI agents, Wed Nov 11 2026. No macro, syntax, notation, axiom, sorry.
-/
import Derived.Test.Qxb6500773aChecked
import GoSem.Claim
import GoSem.ClaimJoined
import GoSem.ClaimMapViews
import Derived.JoinedTies
import Derived.KernelRfl
namespace Go.Proofs.Qxb6500773a
/- THE CELL 'sum', in the pinned program and in every row, IS THE sha256 OF THE DUMP (.gsa) THAT Qxb6500773aProg.lean LOADS. Nothing in Lean hashes anything: it is a label: what it is worth is what the hold of that sum in a sandbox is worth. -/
noncomputable def Try.pinned : Pinned := { name := "qxb6500773a", sum := "6b66fa007d0e0dbfe273972f2f0cf0bfb19601cce7ecd20fe7a99a240ae0512e", checked := Try.checked }
namespace Rows
def none {H : Type} : Left H := { results := [], args := [] }

/-- 'cnflaw.DimacsRoundTrip': WHATEVER THE INPUT: true; the input reads as it did. -/
def dimacsRoundTripSpec : ChangeSpec := { name := "dimacsRoundTrip", fn := fun _ => fun
  | [d] => { results := [.lit (.bool true)], args := [d] }
  | _ => none }
def dimacsRoundTripRow : OpenClaim := { program := "qxb6500773a", sum := "6b66fa007d0e0dbfe273972f2f0cf0bfb19601cce7ecd20fe7a99a240ae0512e", func := "e2e/cnflaw.DimacsRoundTrip", spec := "dimacsRoundTrip", apart := false }
def DimacsRoundTripSaid : Prop := dimacsRoundTripRow.holds Try.pinned (OpenSpec.ofChange dimacsRoundTripSpec)

/-- ITS FALSE NEIGHBOUR: 'it returns false'. Refute it at one input. -/
def dimacsRoundTripWrong : ChangeSpec := { name := "dimacsRoundTrip", fn := fun _ => fun
  | [d] => { results := [.lit (.bool false)], args := [d] }
  | _ => none }
def DimacsRoundTripWrongFalsely : Prop := dimacsRoundTripRow.holds Try.pinned (OpenSpec.ofChange dimacsRoundTripWrong)

/-- 'cnflaw.DratRoundTrip': WHATEVER THE INPUT: true; the input reads as it did. -/
def dratRoundTripSpec : ChangeSpec := { name := "dratRoundTrip", fn := fun _ => fun
  | [d] => { results := [.lit (.bool true)], args := [d] }
  | _ => none }
def dratRoundTripRow : OpenClaim := { program := "qxb6500773a", sum := "6b66fa007d0e0dbfe273972f2f0cf0bfb19601cce7ecd20fe7a99a240ae0512e", func := "e2e/cnflaw.DratRoundTrip", spec := "dratRoundTrip", apart := false }
def DratRoundTripSaid : Prop := dratRoundTripRow.holds Try.pinned (OpenSpec.ofChange dratRoundTripSpec)

/-- ITS FALSE NEIGHBOUR: 'it returns false'. Refute it at one input. -/
def dratRoundTripWrong : ChangeSpec := { name := "dratRoundTrip", fn := fun _ => fun
  | [d] => { results := [.lit (.bool false)], args := [d] }
  | _ => none }
def DratRoundTripWrongFalsely : Prop := dratRoundTripRow.holds Try.pinned (OpenSpec.ofChange dratRoundTripWrong)

/-- 'cnflaw.LiteralOverflowIsAnError': WHATEVER THE INPUT: true; the input reads as it did. -/
def literalOverflowIsAnErrorSpec : ChangeSpec := { name := "literalOverflowIsAnError", fn := fun _ => fun
  | [d] => { results := [.lit (.bool true)], args := [d] }
  | _ => none }
def literalOverflowIsAnErrorRow : OpenClaim := { program := "qxb6500773a", sum := "6b66fa007d0e0dbfe273972f2f0cf0bfb19601cce7ecd20fe7a99a240ae0512e", func := "e2e/cnflaw.LiteralOverflowIsAnError", spec := "literalOverflowIsAnError", apart := false }
def LiteralOverflowIsAnErrorSaid : Prop := literalOverflowIsAnErrorRow.holds Try.pinned (OpenSpec.ofChange literalOverflowIsAnErrorSpec)

/-- ITS FALSE NEIGHBOUR: 'it returns false'. Refute it at one input. -/
def literalOverflowIsAnErrorWrong : ChangeSpec := { name := "literalOverflowIsAnError", fn := fun _ => fun
  | [d] => { results := [.lit (.bool false)], args := [d] }
  | _ => none }
def LiteralOverflowIsAnErrorWrongFalsely : Prop := literalOverflowIsAnErrorRow.holds Try.pinned (OpenSpec.ofChange literalOverflowIsAnErrorWrong)

end Rows
end Go.Proofs.Qxb6500773a
