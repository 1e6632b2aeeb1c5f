import Derived.Test.Qxb6500773aGreatZ8
namespace Go.Proofs.Qxb6500773aGreat
open Go.RowKit

/-! ### Clauses -/
theorem Tryz.inf64 : (Tryz.prog.info? 64).map (fun i => (i.zero, i.size, i.bytes)) = some (some (.int .i32 0), 1, 4) := by kernel_rfl
theorem Tryz.siz64 : (Tryz.prog.info? 64).map (·.size) = some 1 := by kernel_rfl
def hasP (C : List Int) (l : Int) : Bool := C.any (fun x => x == l)
theorem has_cons (x : Int) (C : List Int) (l : Int) : hasP (x :: C) l = ((x == l) || hasP C l) := rfl
set_option linter.unusedSimpArgs false in
set_option maxRecDepth 100000 in
set_option maxHeartbeats 8000000 in
/-- cnf.Clause.Has -/
theorem has_any (w : World) (a : Option Addr) (c : Nat) (C : List Int) (hc : CL w a C) (hl : C.length ≤ 1000000000) (l : Int) :
    Calls Tryz.prog 19 #[.slice a C.length c, .int .i32 l] w fun e w' => e = .returned (.bool (hasP C l)) ∧ w' = w := by
  have HC := hide hc
  obtain ⟨n, hn⟩ : ∃ n, C.length = n := ⟨_, rfl⟩
  have HNL := hide hn
  rw [hn] at hl ⊢
  clear hc hn
  go_enter Tryz.func19, Tryz.ntmps19
  go_wp2_with fail
  go_loopw [9] (fun s9 wr => ∃ (i : Nat), s9 = .int .i64 i ∧ i ≤ n ∧ Hid (hasP (C.drop i) l = hasP C l) ∧ wr = w) (fun s9 _ => n - (intOf s9).toNat)
  case atStart => exact ⟨0, rfl, Nat.zero_le _, rfl, rfl⟩
  case round =>
    obtain ⟨i, rfl, hin, HS, rfl⟩ := hrel
    by_cases hi : i < n
    · have hib : decide ((i : Int) < (n : Int)) = true := decide_eq_true (by omega)
      have hii : (i : Int) < (n : Int) := by omega
      obtain ⟨x, hx⟩ : ∃ x, C[i]? = some x := ⟨_, List.getElem?_eq_getElem (by rw [HNL.out]; exact hi)⟩
      obtain ⟨g, off, rfl, x0⟩ := HC.out i x hx
      rw [drop_consG hx, has_cons] at HS
      clear hx
      by_cases h1 : x = l
      · subst h1
        rw [beq_self_eq_true, Bool.true_or] at HS
        go_wp2
        go_ret
        exact ⟨ret_bool HS.out, rfl⟩
      · have hb1 : (x == l) = false := by simpa using h1
        rw [hb1, Bool.false_or] at HS
        clear h1
        go_wp2
        go_roundw
        case rel => exact ⟨i + 1, by go_num, by omega, HS, trivial⟩
        case measure => (simp [intOf]; try omega)
    · obtain rfl : i = n := by omega
      have hib : decide ((i : Int) < (i : Int)) = false := decide_eq_false (by omega)
      rw [List.drop_of_length_le (by rw [HNL.out]; exact Nat.le_refl _)] at HS
      go_wp2
      go_ret
      exact ⟨ret_bool HS.out, rfl⟩
def row32 (C : List Int) : List Value := C.map (Value.int .i32)
set_option maxRecDepth 100000 in
/-- copying a clause into a new row -/
theorem copy32 (W : World) (a : Option Addr) (n c g2 B2 : Nat) (C : List Int) (hc : CL W a C) (xs : List Value) (hn : C.length = n) (hd : W.ownsRow B2 64 1 (.slice (some ⟨g2, 0, none⟩) n n) n xs) (ty : TypeId) :
    (Builtin.copy_ #[54, 54] ty #[.slice (some ⟨g2, 0, none⟩) n n, .slice a n c]).run Tryz.prog W = .ok (goInt (row32 C).length) (W.setCells g2 0 (row32 C)) := by
  by_cases h0 : n = 0
  · subst h0
    have hV : C = [] := List.length_eq_zero_iff.1 hn
    subst hV
    exact run_copy_none (P := Tryz.prog) W 54 54 ty 64 (some ⟨g2, 0, none⟩) a 0 0 0 c Tryz.underlying54 Tryz.siz64 (by simp)
  · obtain ⟨x, hx⟩ : ∃ x, C[0]? = some x := ⟨_, List.getElem?_eq_getElem (by omega)⟩
    obtain ⟨g, off, rfl, _⟩ := hc 0 x hx
    have hxl : xs.length = n := by have := hd.1; omega
    refine run_copy_cells (P := Tryz.prog) W 54 54 ty 64 g2 0 n n ⟨g, off, none⟩ n c (row32 C) Tryz.underlying54 Tryz.siz64 (by unfold row32; rw [List.length_map, hn]; exact (Nat.min_eq_left (Nat.le_refl _)).symm) (fun j v hj => ?_) (fun j hj => ?_) (fun j hj => ?_) (fun v hv => ?_)
    · unfold row32 at hj
      rw [List.getElem?_map] at hj
      obtain ⟨y, hy, rfl⟩ := Option.map_eq_some_iff.1 hj
      obtain ⟨g3, o3, e1, hc2⟩ := hc j y hy
      injection e1 with e1
      injection e1 with e1 e2
      subst e1 e2
      rw [Addr.add_mid]
      exact hc2
    · have hjl : j < n := by unfold row32 at hj; simp at hj; omega
      obtain ⟨u, hu⟩ : ∃ u, xs[j]? = some u := ⟨_, List.getElem?_eq_getElem (by omega)⟩
      obtain ⟨g3, c3, e4, hc4, _⟩ := row_cell hd hu
      injection e4 with e4
      injection e4 with e4
      injection e4 with e4
      rw [Nat.zero_add, e4, hc4]; rfl
    · rw [Nat.zero_add]; exact hd.frozenAt j
    · obtain ⟨x, _, rfl⟩ := List.mem_map.1 hv
      rfl
def CcPost (w : World) (C : List Int) (e : Ending) (w' : World) : Prop :=
  ∃ g, e = .returned (.slice (some ⟨g, 0, none⟩) C.length C.length) ∧ w'.ownsRow w.heap.size 64 1 (.slice (some ⟨g, 0, none⟩) C.length C.length) C.length (row32 C) ∧ Ex (fun _ => False) w w'
set_option linter.unusedSimpArgs false in
set_option maxRecDepth 100000 in
set_option maxHeartbeats 8000000 in
/-- cnf.Clause.Clone -/
theorem cloneC_any (w : World) (a : Option Addr) (c : Nat) (C : List Int) (hc : CL w a C) (hl : C.length ≤ 1000000000) : Calls Tryz.prog 15 #[.slice a C.length c] w (CcPost w C) := by
  obtain ⟨n, hn⟩ : ∃ n, C.length = n := ⟨_, rfl⟩
  have HNL := hide hn
  rw [hn] at hl ⊢
  have hmk := run_make_row' (P := Tryz.prog) 54 64 (.int .i32 0) 4 Tryz.underlying54 Tryz.inf64 rfl .i64 .i64 n (by omega) (by omega) w
  have E1 : Ex (fun _ => False) w (w.alloc (.cells (madeCells #[.int .i32 0] n) 64)) := (Ex.refl _ w).alloc _
  have hR := own_made w w.heap.size 64 n (.int .i32 0) (Nat.le_refl _) (by unfold maxLen; omega)
  have hcp := fun ty => copy32 (w.alloc (.cells (madeCells #[.int .i32 0] n) 64)) a n c w.heap.size w.heap.size C (hc.keep E1 (fun _ _ _ z => z)) _ hn hR ty
  have r1 := own_sets (row32 C) _ _ 0 hR
  rw [setL_zero (by unfold row32; simp; omega), List.drop_of_length_le (by unfold row32; simp; omega), List.append_nil] at r1
  have HP : Hid (CcPost w C (.returned (.slice (some ⟨w.heap.size, 0, none⟩) n n)) ((w.alloc (.cells (madeCells #[.int .i32 0] n) 64)).setCells w.heap.size 0 (row32 C))) := ⟨w.heap.size, (by rw [hn]), (by rw [hn]; exact r1), Ex.setsNew (Nat.le_refl _) _ _ _ E1⟩
  clear hc hn r1 hR E1
  go_enter Tryz.func15, Tryz.ntmps15
  go_wp2
  go_ret
  exact HP.out
end Go.Proofs.Qxb6500773aGreat
