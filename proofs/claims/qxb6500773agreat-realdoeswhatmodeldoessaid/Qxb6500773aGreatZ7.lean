import Derived.Test.Qxb6500773aGreatZ6
namespace Go.Proofs.Qxb6500773aGreat
open Go.RowKit

set_option maxRecDepth 100000 in
/-- copying an assignment's values into a row -/
theorem copy8 (W : World) (B b : Nat) (va : Value) (k : Int) (V : List Int) (h : AT W B b va k V) (a : Option Addr) (n c z g2 B2 : Nat) (xs : List Value) (hva : va = .slice a n c) (hn : V.length = n) (hd : W.ownsRow B2 61 1 (.slice (some ⟨g2, 0, none⟩) z z) z xs) (hz : n ≤ z) (ty : TypeId) :
    (Builtin.copy_ #[74, 74] ty #[.slice (some ⟨g2, 0, none⟩) z z, .slice a n c]).run Tryz.prog W = .ok (goInt (row8 V).length) (W.setCells g2 0 (row8 V)) := by
  have hr := h.row
  subst hva
  by_cases h0 : n = 0
  · subst h0
    have hV : V = [] := List.length_eq_zero_iff.1 hn
    subst hV
    exact run_copy_none (P := Tryz.prog) W 74 74 ty 61 (some ⟨g2, 0, none⟩) a z z 0 c Tryz.underlying74 Tryz.siz61 (by simp)
  · obtain ⟨x, hx⟩ : ∃ x, V[0]? = some x := ⟨_, List.getElem?_eq_getElem (by omega)⟩
    obtain ⟨g, c', e1, hc, _⟩ := row_cell hr (i := 0) (u := .int .i8 x) (by rw [List.getElem?_map, hx]; rfl)
    injection e1 with e1 e2 e3
    subst e1
    have hxl : xs.length = z := by have := hd.1; omega
    refine run_copy_cells (P := Tryz.prog) W 74 74 ty 61 g2 0 z z ⟨g, 0, none⟩ n c (row8 V) Tryz.underlying74 Tryz.siz61 (by unfold row8; rw [List.length_map, hn]; exact (Nat.min_eq_left hz).symm) (fun j v hj => ?_) (fun j hj => ?_) (fun j hj => ?_) (fun v hv => ?_)
    · obtain ⟨g3, c2, e1, hc2, _⟩ := row_cell hr hj
      injection e1 with e1
      injection e1 with e1
      injection e1 with e1
      rw [Addr.add_mid, Nat.zero_add]
      rw [e1]
      exact hc2
    · have hjl : j < z := by unfold row8 at hj; simp at hj; omega
      obtain ⟨u, hu⟩ : ∃ u, xs[j]? = some u := ⟨_, List.getElem?_eq_getElem (by omega)⟩
      obtain ⟨g3, c3, e4, hc4, _⟩ := row_cell hd hu
      injection e4 with e4
      injection e4 with e4
      injection e4 with e4
      rw [Nat.zero_add, e4, hc4]; rfl
    · rw [Nat.zero_add]; exact hd.frozenAt j
    · obtain ⟨x, _, rfl⟩ := List.mem_map.1 hv
      rfl
def CaPost (w : World) (B : Nat) (k : Int) (V : List Int) (e : Ending) (w' : World) : Prop :=
  ∃ b va, e = .returned (.pointer (some ⟨b, 0, none⟩)) ∧ AT w' B b va k V ∧ w.heap.size ≤ b ∧ (∀ j, va.ownBlock = some j → w.heap.size ≤ j) ∧ Ex (fun _ => False) w w'
set_option linter.unusedSimpArgs false in
set_option maxRecDepth 100000 in
set_option maxHeartbeats 8000000 in
/-- cnf.Assignment.Clone -/
theorem cloneA_any (w : World) (B b : Nat) (va : Value) (k : Int) (V : List Int) (h : AT w B b va k V) (hB : B ≤ w.heap.size) (hln : V.length ≤ 16777216) :
    Calls Tryz.prog 69 #[.pointer (some ⟨b, 0, none⟩)] w (CaPost w B k V) := by
  have c0 := h.c0
  have c1 := h.c1
  obtain ⟨a, c, hva⟩ := own_form h.row
  obtain ⟨n, hn⟩ : ∃ n, V.length = n := ⟨_, rfl⟩
  rw [hn] at hva hln
  rw [hva] at c0
  have hmk := run_make_row' (P := Tryz.prog) 74 61 (.int .i8 0) 1 Tryz.underlying74 Tryz.inf61 rfl .i64 .i64 n (by omega) (by omega)
  have HA := hide h
  have HVA := hide hva
  have HNL := hide hn
  have HBB := hide hB
  have hbl := h.lt
  clear h hva hn hB
  go_enter Tryz.func69, Tryz.ntmps69
  go_upto_region 1 with fail
  go_region
  have E1 : Ex (fun _ => False) w ((w.alloc (.cells (madeCells #[.int .i8 0] n) 61)).alloc (.cells #[.slice (some ⟨w.heap.size, 0, none⟩) n n, .int .i64 k] 76)).drew := (((Ex.refl _ w).alloc _).alloc _).drew
  have hR0 := own_made w B 61 n (.int .i8 0) HBB.out (by unfold maxLen; omega)
  have hR1 : ((w.alloc (.cells (madeCells #[.int .i8 0] n) 61)).alloc (.cells #[.slice (some ⟨w.heap.size, 0, none⟩) n n, .int .i64 k] 76)).drew.ownsRow B 61 1 (.slice (some ⟨w.heap.size, 0, none⟩) n n) n (List.replicate n (.int .i8 0)) := own_kept hR0 (((Ex.refl (fun _ => False) _).alloc _).drew) (fun _ _ e => e)
  have b0 := new_cells (w.alloc (.cells (madeCells #[.int .i8 0] n) 61)) [.slice (some ⟨w.heap.size, 0, none⟩) n n, .int .i64 k] 76 0 _ rfl
  have b1 := new_cells (w.alloc (.cells (madeCells #[.int .i8 0] n) 61)) [.slice (some ⟨w.heap.size, 0, none⟩) n n, .int .i64 k] 76 1 _ rfl
  rw [Addr.add_mid, show (w.alloc (.cells (madeCells #[.int .i8 0] n) 61)).heap.size = w.heap.size + 1 by simp [go_sem]] at b0 b1
  have b0 : ((w.alloc (.cells (madeCells #[.int .i8 0] n) 61)).alloc (.cells #[.slice (some ⟨w.heap.size, 0, none⟩) n n, .int .i64 k] 76)).drew.cell? ⟨w.heap.size + 1, 0, none⟩ = some (.slice (some ⟨w.heap.size, 0, none⟩) n n) := b0
  have b1 : ((w.alloc (.cells (madeCells #[.int .i8 0] n) 61)).alloc (.cells #[.slice (some ⟨w.heap.size, 0, none⟩) n n, .int .i64 k] 76)).drew.cell? ⟨w.heap.size + 1, 1, none⟩ = some (.int .i64 k) := b1
  have bf : ∀ j, ((w.alloc (.cells (madeCells #[.int .i8 0] n) 61)).alloc (.cells #[.slice (some ⟨w.heap.size, 0, none⟩) n n, .int .i64 k] 76)).drew.frozen? ⟨w.heap.size + 1, j, none⟩ = false := fun j => by simp [go_sem]
  have HE1 := hide E1
  have HA1 := hide (HA.out.keep E1 (fun e => e) (fun _ _ e => e))
  have HR1 := hide hR1
  have HBF := hide bf
  clear hR0 hR1 E1 hmk c0 c1 bf
  generalize ((w.alloc (.cells (madeCells #[.int .i8 0] n) 61)).alloc (.cells #[.slice (some ⟨w.heap.size, 0, none⟩) n n, .int .i64 k] 76)).drew = W2 at *
  obtain ⟨b', hb'⟩ : ∃ q, w.heap.size + 1 = q := ⟨_, rfl⟩
  rw [hb'] at b0 b1 HBF ⊢
  obtain ⟨g2, hg2⟩ : ∃ q, w.heap.size = q := ⟨_, rfl⟩
  rw [hg2] at b0 HR1 ⊢
  have hgb : g2 ≠ b' := by omega
  have hgn : w.heap.size ≤ g2 := by omega
  have hbn : w.heap.size ≤ b' := by omega
  clear hb' hg2
  have c0 := HA1.out.c0
  rw [HVA.out] at c0
  have HAD := hide (HA1.out.keep ((Ex.refl (fun _ => False) W2).drew) (fun e => e) (fun _ _ e => e))
  have HRD : Hid (W2.drew.ownsRow B 61 1 (.slice (some ⟨g2, 0, none⟩) n n) n (List.replicate n (.int .i8 0))) := own_kept HR1.out ((Ex.refl (fun _ => False) W2).drew) (fun _ _ e => e)
  have hcp := fun ty => copy8 W2.drew B b va k V HAD.out a n c n g2 B _ HVA.out HNL.out HRD.out (Nat.le_refl _) ty
  have ES : Ex (fun j => j = g2) W2 (W2.drew.setCells g2 0 (row8 V)) := Ex.sets (S := fun j => j = g2) (p := g2) rfl _ _ _ ((Ex.refl _ W2).drew)
  have HEF : Hid (Ex (fun _ => False) w (W2.drew.setCells g2 0 (row8 V))) := Ex.setsNew hgn _ _ _ HE1.out.drew
  have r1 := own_sets (row8 V) _ _ 0 HRD.out
  rw [setL_zero (by unfold row8; simp; have := HNL.out; omega), List.drop_of_length_le (by unfold row8; simp; have := HNL.out; omega), List.append_nil] at r1
  have HP : Hid (CaPost w B k V (.returned (.pointer (some ⟨b', 0, none⟩))) (W2.drew.setCells g2 0 (row8 V))) := ⟨b', _, rfl, ⟨ES.cell (fun z => hgb z.symm) b0, ES.cell (fun z => hgb z.symm) b1, fun j => (ES.frozen (fun z => hgb z.symm) (World.block_lt_of_cell? _ _ b0)).trans (HBF.out j), (by rw [HNL.out]; exact r1), fun z => hgb (by injection z)⟩, hbn, fun j hj => (by injection hj with hj; have : g2 = j := hj; omega), HEF.out⟩
  clear r1 ES HEF HRD HAD HA1 HR1 HE1 HA
  go_upto_region 2 with fail
  go_region
  go_wp2
  go_ret
  exact HP.out
set_option linter.unusedSimpArgs false in
set_option maxRecDepth 100000 in
set_option maxHeartbeats 4000000 in
/-- cnf.ToVar -/
theorem toVar_any (w : World) (n : Int) : Calls Tryz.prog 36 #[.int .i64 n] w fun e w' => e = .returned (.tuple #[.int .i32 (if 1 ≤ n ∧ n ≤ 16777215 then n else 0), .int .i64 (if 1 ≤ n ∧ n ≤ 16777215 then 0 else 3)]) ∧ w' = w := by
  by_cases h1 : n < 1
  · have d1 : decide (n < 1) = true := decide_eq_true h1
    rw [if_neg (by omega), if_neg (by omega)]
    go_enter Tryz.func36, Tryz.ntmps36
    go_wp2
    exact bodyPost_ret (v := .tuple #[.int .i32 0, .int .i64 3]) (by simp [results, Tryz.results36, go_sem]) rfl ⟨rfl, rfl⟩
  · have d1 : decide (n < 1) = false := decide_eq_false h1
    by_cases h2 : 16777215 < n
    · have d2 : decide (16777215 < n) = true := decide_eq_true h2
      rw [if_neg (by omega), if_neg (by omega)]
      go_enter Tryz.func36, Tryz.ntmps36
      go_wp2
      exact bodyPost_ret (v := .tuple #[.int .i32 0, .int .i64 3]) (by simp [results, Tryz.results36, go_sem]) rfl ⟨rfl, rfl⟩
    · have d2 : decide (16777215 < n) = false := decide_eq_false h2
      have hw : IntKind.i32.wrap n = n := by rw [IntKind.wrap_i32]; omega
      rw [if_pos (by omega), if_pos (by omega)]
      go_enter Tryz.func36, Tryz.ntmps36
      go_wp2
      exact bodyPost_ret (v := .tuple #[.int .i32 n, .int .i64 0]) (by simp [results, Tryz.results36, go_sem]) rfl ⟨rfl, rfl⟩
end Go.Proofs.Qxb6500773aGreat
