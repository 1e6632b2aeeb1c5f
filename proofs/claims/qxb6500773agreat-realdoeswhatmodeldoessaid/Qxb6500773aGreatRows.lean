/-
  No cell of these rows narrows 'for every input' (looked for: loops, veiled, ifaces, maps, wideKeys, modest, calm, conditions, laid).
  DERIVED. THE GIVEN ROWS OF THIS SEAT. 3 by the template 'for every input the law returns true; each argument reads behind the call as it read before'; 0 by the template 'total and deterministic' (their statements: Qxb6500773aGreatTotals.lean).
  GIVEN WITH THE SEED: the statements are not yours to turn. If you find one false, say at which input.
  Laid BY PROGRAM, IN A SANDBOX (cutbox-rows.mjs): the forced cells as the released guide's own fill.sh prints them over the translation 7ca17690f8e96284… (all of the seat's roots in one cut). By AI agents, Wed Nov 11 2026. No macro, syntax, notation, axiom, sorry.
-/
import Derived.Test.Qxb6500773aGreatChecked
import GoSem.Claim
import GoSem.ClaimJoined
import GoSem.ClaimMapViews
import Derived.JoinedTies
import Derived.KernelRfl
namespace Go.Proofs.Qxb6500773aGreat
/- THE CELL 'sum', in the pinned program and in every row, IS THE sha256 OF THE DUMP (.gsa) THAT Qxb6500773aGreatProg.lean LOADS. Nothing in Lean hashes anything: it is a label: what it is worth is what the hold of that sum in a sandbox is worth. -/
noncomputable def Tryz.pinned : Pinned := { name := "qxb6500773agreat", sum := "7ca17690f8e962840c2d05e45d21cac97e92d00efa6156c26d2bdbdd03c936f2", checked := Tryz.checked }
namespace Rows
def none {H : Type} : Left H := { results := [], args := [] }

/-- 'cnflaw.RealDoesWhatModelDoes': WHATEVER THE INPUT: true; the input reads as it did. -/
def realDoesWhatModelDoesSpec : ChangeSpec := { name := "realDoesWhatModelDoes", fn := fun _ => fun
  | [d] => { results := [.lit (.bool true)], args := [d] }
  | _ => none }
def realDoesWhatModelDoesRow : OpenClaim := { program := "qxb6500773agreat", sum := "7ca17690f8e962840c2d05e45d21cac97e92d00efa6156c26d2bdbdd03c936f2", func := "e2e/cnflaw.RealDoesWhatModelDoes", spec := "realDoesWhatModelDoes", recurses := true, apart := false }
def RealDoesWhatModelDoesSaid : Prop := realDoesWhatModelDoesRow.holds Tryz.pinned (OpenSpec.ofChange realDoesWhatModelDoesSpec)

/-- ITS FALSE NEIGHBOUR: 'it returns false'. Refute it at one input. -/
def realDoesWhatModelDoesWrong : ChangeSpec := { name := "realDoesWhatModelDoes", fn := fun _ => fun
  | [d] => { results := [.lit (.bool false)], args := [d] }
  | _ => none }
def RealDoesWhatModelDoesWrongFalsely : Prop := realDoesWhatModelDoesRow.holds Tryz.pinned (OpenSpec.ofChange realDoesWhatModelDoesWrong)

/-- 'cnflaw.BuiltComesBack': WHATEVER THE INPUT: true; the input reads as it did. -/
def builtComesBackSpec : ChangeSpec := { name := "builtComesBack", fn := fun _ => fun
  | [d] => { results := [.lit (.bool true)], args := [d] }
  | _ => none }
def builtComesBackRow : OpenClaim := { program := "qxb6500773agreat", sum := "7ca17690f8e962840c2d05e45d21cac97e92d00efa6156c26d2bdbdd03c936f2", func := "e2e/cnflaw.BuiltComesBack", spec := "builtComesBack", apart := false }
def BuiltComesBackSaid : Prop := builtComesBackRow.holds Tryz.pinned (OpenSpec.ofChange builtComesBackSpec)

/-- ITS FALSE NEIGHBOUR: 'it returns false'. Refute it at one input. -/
def builtComesBackWrong : ChangeSpec := { name := "builtComesBack", fn := fun _ => fun
  | [d] => { results := [.lit (.bool false)], args := [d] }
  | _ => none }
def BuiltComesBackWrongFalsely : Prop := builtComesBackRow.holds Tryz.pinned (OpenSpec.ofChange builtComesBackWrong)

/-- 'cnflaw.NormalizeKeepsMeaning': WHATEVER THE INPUT: true; the input reads as it did. -/
def normalizeKeepsMeaningSpec : ChangeSpec := { name := "normalizeKeepsMeaning", fn := fun _ => fun
  | [d] => { results := [.lit (.bool true)], args := [d] }
  | _ => none }
def normalizeKeepsMeaningRow : OpenClaim := { program := "qxb6500773agreat", sum := "7ca17690f8e962840c2d05e45d21cac97e92d00efa6156c26d2bdbdd03c936f2", func := "e2e/cnflaw.NormalizeKeepsMeaning", spec := "normalizeKeepsMeaning", apart := false }
def NormalizeKeepsMeaningSaid : Prop := normalizeKeepsMeaningRow.holds Tryz.pinned (OpenSpec.ofChange normalizeKeepsMeaningSpec)

/-- ITS FALSE NEIGHBOUR: 'it returns false'. Refute it at one input. -/
def normalizeKeepsMeaningWrong : ChangeSpec := { name := "normalizeKeepsMeaning", fn := fun _ => fun
  | [d] => { results := [.lit (.bool false)], args := [d] }
  | _ => none }
def NormalizeKeepsMeaningWrongFalsely : Prop := normalizeKeepsMeaningRow.holds Tryz.pinned (OpenSpec.ofChange normalizeKeepsMeaningWrong)

end Rows
end Go.Proofs.Qxb6500773aGreat
