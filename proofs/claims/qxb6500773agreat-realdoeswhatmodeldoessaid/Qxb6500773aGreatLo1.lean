import Derived.Test.Qxb6500773aGreatFm0
import Derived.Deep.CutBlock
namespace Go.Proofs.Qxb6500773aGreat
set_option maxRecDepth 100000
open Go.RowKit

/-! ### Small functions of the package -/
def validP (l : Int) : Bool := decide (2 ≤ l) && decide (l / 2 ≤ 16777215)
set_option linter.unusedSimpArgs false in
set_option maxHeartbeats 2000000 in
/-- cnf.Lit.Valid -/
theorem valid_any (w : World) (l : Int) (h : -2147483648 ≤ l ∧ l ≤ 2147483647) : Calls Tryz.prog 105 #[.int .i32 l] w fun e w' => e = .returned (.bool (validP l)) ∧ w' = w := by
  by_cases h2 : 2 ≤ l
  · have h2b : decide (2 ≤ l) = true := by simpa using h2
    have HV := hide (show validP l = decide (l / 2 ≤ 16777215) by unfold validP; rw [h2b, Bool.true_and])
    have w1 : IntKind.i32.wrap (l / 2) = l / 2 := by rw [IntKind.wrap_i32]; omega
    go_enter Tryz.func105, Tryz.ntmps105
    go_wp2
    go_ret
    exact ⟨ret_bool HV.out.symm, rfl⟩
  · have h2b : decide (2 ≤ l) = false := by simpa using h2
    have HV := hide (show validP l = false by unfold validP; rw [h2b, Bool.false_and])
    go_enter Tryz.func105, Tryz.ntmps105
    go_wp2
    go_ret
    exact ⟨ret_bool HV.out.symm, rfl⟩
def notP (l : Int) : Int := if l % 2 = 0 then l + 1 else l - 1
theorem xor_one (v : Int) (h : 0 ≤ v ∧ v ≤ 2147483647) : bits BinOp.xor .i32 v 1 = notP v := by
  obtain ⟨n, rfl⟩ : ∃ n : Nat, v = n := ⟨v.toNat, by omega⟩
  have hx : n ^^^ 1 = if n % 2 = 0 then n + 1 else n - 1 := by
    have h1 : (n ^^^ 1) / 2 = n / 2 ^^^ 1 / 2 := Nat.xor_div_two
    have h2 : (n ^^^ 1) % 2 = 1 ↔ ¬ (n % 2 = 1 ↔ 1 % 2 = 1) := Nat.xor_mod_two_eq_one
    have h3 : (n ^^^ 1) % 2 < 2 := Nat.mod_lt _ (by decide)
    rw [show (1 % 2 = 1) = True from by simp] at h2
    simp only [iff_true] at h2
    rw [show 1 / 2 = 0 from rfl, Nat.xor_zero] at h1
    split <;> omega
  have hn : n % 2 ^ IntKind.i32.bits = n := Nat.mod_eq_of_lt (by show n < 4294967296; omega)
  have key : bits BinOp.xor .i32 (n : Int) ((1 : Nat) : Int) = ((n ^^^ 1 : Nat) : Int) := by
    simp only [bits, BitVec.ofInt_natCast, BitVec.toNat_xor, BitVec.toNat_ofNat, hn, show 1 % 2 ^ IntKind.i32.bits = 1 from rfl]
    refine wraps_i32 _ (Int.natCast_nonneg _) ?_
    rw [hx]
    split <;> omega
  show bits BinOp.xor .i32 (n : Int) ((1 : Nat) : Int) = notP n
  rw [key, hx]
  unfold notP
  split <;> split <;> omega
set_option linter.unusedSimpArgs false in
set_option maxHeartbeats 2000000 in
/-- cnf.Lit.Not -/
theorem not_any (w : World) (l : Int) (h : 0 ≤ l ∧ l ≤ 2147483646) : Calls Tryz.prog 20 #[.int .i32 l] w fun e w' => e = .returned (.int .i32 (notP l)) ∧ w' = w := by
  have hx := xor_one l (by omega)
  go_enter Tryz.func20, Tryz.ntmps20
  go_wp2
  go_ret
  exact ⟨rfl, rfl⟩
set_option linter.unusedSimpArgs false in
set_option maxHeartbeats 2000000 in
/-- cnf.Lit.Index -/
theorem index_any (w : World) (l : Int) (h : -2147483648 ≤ l ∧ l ≤ 2147483647) : Calls Tryz.prog 39 #[.int .i32 l] w fun e w' => e = .returned (.int .i64 l) ∧ w' = w := by
  have w1 : IntKind.i64.wrap l = l := by rw [IntKind.wrap_i64]; omega
  go_enter Tryz.func39, Tryz.ntmps39
  go_wp2
  go_ret
  exact ⟨rfl, rfl⟩
/-- A new formula, a new proof. -/
def NfPost (w : World) (e : Ending) (w' : World) : Prop := ∃ b, e = .returned (.pointer (some ⟨b, 0, none⟩)) ∧ FF w' w.heap.size b (.slice none 0 0) (.slice none 0 0) 0 [] [] ∧ w.heap.size ≤ b ∧ Below w.heap.size w w'
set_option linter.unusedSimpArgs false in
set_option maxHeartbeats 2000000 in
/-- cnf.NewFormula -/
theorem newFormula_any (w : World) : Calls Tryz.prog 21 #[] w (NfPost w) := by
  go_enter Tryz.func21, Tryz.ntmps21
  go_wp2
  go_ret
  exact ⟨_, rfl, ff_new (World.ownsRow_nil _ _ _ _) (World.ownsRow_nil _ _ _ _) (fun k z => by cases z), Nat.le_refl _, be1 w _⟩
def NpPost (w : World) (e : Ending) (w' : World) : Prop := ∃ b, e = .returned (.pointer (some ⟨b, 0, none⟩)) ∧ PF w' w.heap.size b (.slice none 0 0) (.slice none 0 0) (.slice none 0 0) [] [] [] ∧ w.heap.size ≤ b ∧ Below w.heap.size w w'
set_option linter.unusedSimpArgs false in
set_option maxHeartbeats 2000000 in
/-- cnf.NewProof -/
theorem newProof_any (w : World) : Calls Tryz.prog 23 #[] w (NpPost w) := by
  go_enter Tryz.func23, Tryz.ntmps23
  go_wp2
  go_ret
  exact ⟨_, rfl, pf_new (World.ownsRow_nil _ _ _ _) (World.ownsRow_nil _ _ _ _) (World.ownsRow_nil _ _ _ _) (fun k z => by cases z) (fun k z => by cases z) (fun k z => by cases z), Nat.le_refl _, be1 w _⟩
end Go.Proofs.Qxb6500773aGreat
