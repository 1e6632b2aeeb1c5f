import Derived.Test.Qxb6500773aGreatAr1
import Derived.Test.Qxb6500773aGreatPr1
import Derived.Laws.IdiomCopy
namespace Go.Proofs.Qxb6500773aGreat
open Go.RowKit

/-! ### An assignment in memory -/
theorem Tryz.inf61 : (Tryz.prog.info? 61).map (fun i => (i.zero, i.size, i.bytes)) = some (some (.int .i8 0), 1, 1) := by kernel_rfl
theorem Tryz.siz61 : (Tryz.prog.info? 61).map (·.size) = some 1 := by kernel_rfl
structure AT (w : World) (B b : Nat) (va : Value) (k : Int) (V : List Int) : Prop where
  c0 : w.cell? ⟨b, 0, none⟩ = some va
  c1 : w.cell? ⟨b, 1, none⟩ = some (.int .i64 k)
  fz : ∀ j, w.frozen? ⟨b, j, none⟩ = false
  row : w.ownsRow B 61 1 va V.length (V.map (Value.int .i8))
  ne : va.ownBlock ≠ some b
/-- how many are not undefined -/
def nzP (V : List Int) : Int := ((V.filter (fun x => x != 0)).length : Int)
structure VOk (k : Int) (V : List Int) : Prop where
  rng : ∀ x ∈ V, -1 ≤ x ∧ x ≤ 1
  len : V.length ≤ 16777216
  cnt : k = nzP V
  z0 : ∀ x, V[0]? = some x → x = 0
section
variable {w w' : World} {B b : Nat} {va : Value} {k : Int} {V : List Int}
theorem AT.lt (h : AT w B b va k V) : b < w.heap.size := World.block_lt_of_cell? _ _ h.c0
theorem AT.keep (h : AT w B b va k V) {S : Nat → Prop} (e : Ex S w w') (h1 : ¬ S b) (h2 : ∀ j, va.ownBlock = some j → ¬ S j) : AT w' B b va k V :=
  ⟨e.cell h1 h.c0, e.cell h1 h.c1, fun j => (e.frozen h1 h.lt).trans (h.fz j), own_kept h.row e h2, h.ne⟩
theorem AT.below (h : AT w B b va k V) (e : Below w.heap.size w w') : AT w' B b va k V := h.keep (Ex.of (S := fun _ => False) e) (fun z => z) (fun _ _ z => z)
end
/-- the value of a variable -/
def varP (V : List Int) (v : Int) : Int := if 1 ≤ v then V.getD v.toNat 0 else 0
set_option linter.unusedSimpArgs false in
set_option maxRecDepth 100000 in
set_option maxHeartbeats 4000000 in
/-- cnf.Assignment.NumVars -/
theorem numVarsA_any (w : World) (B b : Nat) (va : Value) (k : Int) (V : List Int) (h : AT w B b va k V) (hl : V.length ≤ 16777216) :
    Calls Tryz.prog 129 #[.pointer (some ⟨b, 0, none⟩)] w fun e w' => e = .returned (.int .i64 ((V.length - 1 : Nat) : Int)) ∧ w' = w := by
  have c0 := h.c0
  obtain ⟨a, c, rfl⟩ := own_form h.row
  clear h
  obtain ⟨n, hn⟩ : ∃ n, V.length = n := ⟨_, rfl⟩
  rw [hn] at c0 hl ⊢
  clear hn
  by_cases h0 : n = 0
  · subst h0
    go_enter Tryz.func129, Tryz.ntmps129
    go_wp2
    go_ret
    exact ⟨rfl, rfl⟩
  · have d0 : ((n : Int) == 0) = false := by simp; omega
    have hw : wrap64 ((n : Int) - 1) = ((n - 1 : Nat) : Int) := by unfold wrap64; omega
    go_enter Tryz.func129, Tryz.ntmps129
    go_wp2
    go_ret
    exact ⟨ret_int (by omega), rfl⟩
set_option maxRecDepth 100000 in
set_option maxHeartbeats 4000000 in
/-- cnf.Assignment.Assigned -/
theorem assignedA_any (w : World) (B b : Nat) (va : Value) (k : Int) (V : List Int) (h : AT w B b va k V) :
    Calls Tryz.prog 35 #[.pointer (some ⟨b, 0, none⟩)] w fun e w' => e = .returned (.int .i64 k) ∧ w' = w := by
  have c1 := h.c1
  clear h
  go_enter Tryz.func35, Tryz.ntmps35
  go_wp2
  go_ret
  exact ⟨rfl, rfl⟩
set_option linter.unusedSimpArgs false in
set_option maxRecDepth 100000 in
set_option maxHeartbeats 4000000 in
/-- cnf.Assignment.Var -/
theorem varA_any (w : World) (B b : Nat) (va : Value) (k : Int) (V : List Int) (h : AT w B b va k V) (v : Int) (hv : -2147483648 ≤ v ∧ v ≤ 2147483647) :
    Calls Tryz.prog 108 #[.pointer (some ⟨b, 0, none⟩), .int .i32 v] w fun e w' => e = .returned (.int .i8 (varP V v)) ∧ w' = w := by
  have c0 := h.c0
  obtain ⟨a, c, rfl⟩ := own_form h.row
  by_cases h1 : v < 1
  · have d1 : decide (v < 1) = true := decide_eq_true h1
    have HR : Hid (varP V v = 0) := by show _ = _; unfold varP; rw [if_neg (by omega)]
    clear h
    go_enter Tryz.func108, Tryz.ntmps108
    go_wp2
    go_ret
    exact ⟨ret_int HR.out.symm, rfl⟩
  · obtain ⟨i, rfl⟩ : ∃ i : Nat, v = (i : Int) := ⟨v.toNat, by omega⟩
    have d1 : decide ((i : Int) < 1) = false := decide_eq_false h1
    have a2 : IntKind.i64.wrap (i : Int) = (i : Int) := by rw [IntKind.wrap_i64]; omega
    by_cases h2 : i < V.length
    · obtain ⟨x, hx⟩ : ∃ x, V[i]? = some x := ⟨_, List.getElem?_eq_getElem h2⟩
      obtain ⟨g, c', e1, hc, _⟩ := row_cell h.row (i := i) (u := .int .i8 x) (by rw [List.getElem?_map, hx]; rfl)
      injection e1 with e1 e2 e3
      subst e1
      have HR : Hid (varP V (i : Int) = x) := by
        show _ = _
        unfold varP
        rw [if_pos (by omega), Int.toNat_natCast, List.getD_eq_getElem?_getD, hx]
        rfl
      obtain ⟨n, hn⟩ : ∃ n, V.length = n := ⟨_, rfl⟩
      rw [hn] at c0 h2
      have d2 : decide ((n : Int) ≤ (i : Int)) = false := decide_eq_false (by omega)
      have d2n : ¬ n ≤ i := by omega
      have d3 : (i : Int) < (n : Int) := by omega
      clear h hn hx e2 e3
      go_enter Tryz.func108, Tryz.ntmps108
      go_wp2
      go_ret
      exact ⟨ret_int HR.out.symm, rfl⟩
    · have HR : Hid (varP V (i : Int) = 0) := by
        show _ = _
        unfold varP
        rw [if_pos (by omega), Int.toNat_natCast, List.getD_eq_getElem?_getD, List.getElem?_eq_none (by omega)]
        rfl
      obtain ⟨n, hn⟩ : ∃ n, V.length = n := ⟨_, rfl⟩
      rw [hn] at c0 h2
      have d2 : decide ((n : Int) ≤ (i : Int)) = true := decide_eq_true (by omega)
      have d2n : n ≤ i := by omega
      clear h hn
      go_enter Tryz.func108, Tryz.ntmps108
      go_wp2
      go_ret
      exact ⟨ret_int HR.out.symm, rfl⟩
end Go.Proofs.Qxb6500773aGreat
