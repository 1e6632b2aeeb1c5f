import Derived.Test.Qxb6500773aGreatZ1
import Derived.Laws.OwnMore
namespace Go.Proofs.Qxb6500773aGreat
open Go.RowKit

theorem cnt_set : ∀ (V : List Int) (i : Nat) (x y : Int), V[i]? = some y → nzP (V.set i x) = nzP V - (if y = 0 then 0 else 1) + (if x = 0 then 0 else 1)
  | [], i, x, y, h => by simp at h
  | z :: V, 0, x, y, h => by
    simp only [List.getElem?_cons_zero, Option.some.injEq] at h
    subst h
    unfold nzP
    rw [List.set_cons_zero, List.filter_cons, List.filter_cons]
    by_cases hx : x = 0 <;> by_cases hz : z = 0 <;> simp [hx, hz] <;> omega
  | z :: V, i + 1, x, y, h => by
    rw [List.getElem?_cons_succ] at h
    have ih := cnt_set V i x y h
    unfold nzP at ih ⊢
    rw [List.set_cons_succ, List.filter_cons, List.filter_cons]
    by_cases hz : z = 0
    · simp [hz]; exact ih
    · simp [hz]; omega
theorem cnt_pos {V : List Int} {i : Nat} {y : Int} (h : V[i]? = some y) (hy : y ≠ 0) : 1 ≤ nzP V := by
  unfold nzP
  have : y ∈ V.filter (fun x => x != 0) := List.mem_filter.2 ⟨List.mem_of_getElem? h, by simpa using hy⟩
  have := List.length_pos_of_mem this
  omega
theorem cnt_nn (V : List Int) : 0 ≤ nzP V ∧ nzP V ≤ V.length := by
  unfold nzP
  have := List.length_filter_le (fun x : Int => x != 0) V
  omega
section
variable {w w' : World} {B b g n c : Nat} {va : Value} {k : Int} {V : List Int}
theorem AT.put (h : AT w B b (.slice (some ⟨g, 0, none⟩) n c) k V) (hn : V.length = n) (i : Nat) (x : Int) : AT (w.setCell ⟨g, i, none⟩ (.int .i8 x)) B b (.slice (some ⟨g, 0, none⟩) n c) k (V.set i x) := by
  have hgb : g ≠ b := fun z => h.ne (by rw [← z]; rfl)
  have e : Ex (fun j => j = g) w (w.setCell ⟨g, i, none⟩ (.int .i8 x)) := (Ex.refl (fun j => j = g) w).set (p := g) rfl _
  refine ⟨e.cell (fun z => hgb z.symm) h.c0, e.cell (fun z => hgb z.symm) h.c1, fun j => (e.frozen (fun z => hgb z.symm) h.lt).trans (h.fz j), ?_, h.ne⟩
  have hr := h.row
  rw [hn] at hr
  have := (hr.stored i (.int .i8 x)).1
  rw [List.length_set, hn, List.map_set]
  exact this
theorem AT.setK (h : AT w B b va k V) (k' : Int) : AT (w.setCell ⟨b, 1, none⟩ (.int .i64 k')) B b va k' V := by
  have e : Ex (fun j => j = b) w (w.setCell ⟨b, 1, none⟩ (.int .i64 k')) := (Ex.refl (fun j => j = b) w).set (p := b) rfl _
  refine ⟨?_, World.cell?_setCell_same _ _ _ h.c1, fun j => by rw [set_frozen]; exact h.fz j, own_kept h.row e (fun j hj (z : j = b) => h.ne (by rw [← z]; exact hj)), h.ne⟩
  rw [World.cell?_setCell_other _ _ _ _ (fun z => by injection z with _ z; omega)]
  exact h.c0
theorem VOk.put (h : VOk k V) {i : Nat} {x y : Int} (hi : V[i]? = some y) (h0 : 1 ≤ i) (hx : -1 ≤ x ∧ x ≤ 1) : VOk (k - (if y = 0 then 0 else 1) + (if x = 0 then 0 else 1)) (V.set i x) := by
  refine ⟨fun z hz => ?_, by rw [List.length_set]; exact h.len, by rw [cnt_set V i x y hi, h.cnt], fun z hz => h.z0 z ?_⟩
  · rcases List.mem_or_eq_of_mem_set hz with hz | hz
    · exact h.rng z hz
    · rw [hz]; exact hx
  · rw [List.getElem?_set, if_neg (by omega)] at hz
    exact hz
end
theorem varP_in {V : List Int} {v : Int} (h : varP V v ≠ 0) : ∃ i : Nat, v = (i : Int) ∧ 1 ≤ i ∧ V[i]? = some (varP V v) := by
  unfold varP at h ⊢
  split at h
  · rename_i h1
    refine ⟨v.toNat, by omega, by omega, ?_⟩
    rw [if_pos h1]
    rw [List.getD_eq_getElem?_getD] at h ⊢
    cases hq : V[v.toNat]? with
    | none => rw [hq] at h; exact absurd rfl h
    | some x => rfl
  · exact absurd rfl h
theorem varP_rng {V : List Int} (h : ∀ x ∈ V, -1 ≤ x ∧ x ≤ 1) (v : Int) : -1 ≤ varP V v ∧ varP V v ≤ 1 := by
  by_cases h0 : varP V v = 0
  · rw [h0]; omega
  · obtain ⟨i, _, _, hi⟩ := varP_in h0
    exact h _ (List.mem_of_getElem? hi)
set_option linter.unusedSimpArgs false in
set_option maxHeartbeats 2000000 in
theorem litVarZ_any (w : World) (l : Int) (h : 0 ≤ l ∧ l ≤ 2147483647) : Calls Tryz.prog 106 #[.int .i32 l] w fun e w' => e = .returned (.int .i32 (l / 2)) ∧ w' = w := by
  have w3 : IntKind.i32.wrap (l / 2) = l / 2 := by rw [IntKind.wrap_i32]; omega
  go_enter Tryz.func106, Tryz.ntmps106
  go_wp2
  go_ret
  exact ⟨rfl, rfl⟩
/-- the value of a literal -/
def lvP (V : List Int) (l : Int) : Int := if l % 2 = 0 then varP V (l / 2) else -(varP V (l / 2))
set_option linter.unusedSimpArgs false in
set_option maxRecDepth 100000 in
set_option maxHeartbeats 4000000 in
/-- cnf.Assignment.Lit -/
theorem litA_any (w : World) (B b : Nat) (va : Value) (k : Int) (V : List Int) (h : AT w B b va k V) (hr : ∀ x ∈ V, -1 ≤ x ∧ x ≤ 1) (l : Int) (hl : 0 ≤ l ∧ l ≤ 2147483647) :
    Calls Tryz.prog 38 #[.pointer (some ⟨b, 0, none⟩), .int .i32 l] w fun e w' => e = .returned (.int .i8 (lvP V l)) ∧ w' = w := by
  have cL := litVarZ_any w l hl
  have cV := varA_any w B b va k V h (l / 2) (by omega)
  have cN := negative_any w l hl
  have hx := varP_rng hr (l / 2)
  have HLP : Hid (lvP V l = if l % 2 = 0 then varP V (l / 2) else -(varP V (l / 2))) := rfl
  generalize varP V (l / 2) = x at *
  have hw : IntKind.i8.wrap (-x) = -x := by
    rcases (by omega : x = -1 ∨ x = 0 ∨ x = 1) with rfl | rfl | rfl <;> rfl
  clear h
  obtain ⟨R, hR⟩ : ∃ R, lvP V l = R := ⟨_, rfl⟩
  rw [hR] at HLP ⊢
  clear hR
  go_enter Tryz.func38, Tryz.ntmps38
  go_wp2_with fail
  refine cL.mono ?_
  rintro e w' ⟨rfl, hw'⟩
  rw [hw']
  clear hw' w'
  go_wp2_with fail
  refine cV.mono ?_
  rintro e w' ⟨rfl, hw'⟩
  rw [hw']
  clear hw' w'
  go_wp2_with fail
  refine cN.mono ?_
  rintro e w' ⟨rfl, hw'⟩
  rw [hw']
  clear hw' w' cL cV cN
  by_cases h2 : l % 2 = 0
  · have hb : (l % 2 != 0) = false := by simp [h2]
    rw [if_pos h2] at HLP
    rw [hb]
    clear h2 hb
    go_wp2
    go_ret
    exact ⟨ret_int HLP.out.symm, rfl⟩
  · have hb : (l % 2 != 0) = true := by simpa using h2
    rw [if_neg h2] at HLP
    rw [hb]
    clear h2 hb
    go_wp2
    go_ret
    exact ⟨ret_int HLP.out.symm, rfl⟩
/-- what an assignment's turn leaves -/
def AgPost (w : World) (B b : Nat) (va : Value) (k' : Int) (V' : List Int) (e : Ending) (w' : World) : Prop :=
  e = .returned (.tuple #[]) ∧ Ex (fun j => j = b ∨ va.ownBlock = some j) w w' ∧ ∃ va', AT w' B b va' k' V' ∧ (∀ j, va'.ownBlock = some j → va.ownBlock = some j ∨ w.heap.size ≤ j)
set_option linter.unusedSimpArgs false in
set_option maxRecDepth 100000 in
set_option maxHeartbeats 4000000 in
/-- cnf.Assignment.Unset -/
theorem unset_any (w : World) (B b : Nat) (va : Value) (k : Int) (V : List Int) (h : AT w B b va k V) (hok : VOk k V) (v : Int) (hv : -2147483648 ≤ v ∧ v ≤ 2147483647) :
    Calls Tryz.prog 37 #[.pointer (some ⟨b, 0, none⟩), .int .i32 v] w (AgPost w B b va (if varP V v = 0 then k else k - 1) (if varP V v = 0 then V else V.set v.toNat 0)) := by
  have cV := varA_any w B b va k V h v hv
  by_cases h0 : varP V v = 0
  · rw [if_pos h0, if_pos h0]
    rw [h0] at cV
    have HP := hide (show AgPost w B b va k V (.returned (.tuple #[])) w from ⟨rfl, Ex.refl _ _, va, h, fun j hj => .inl hj⟩)
    clear h hok
    go_enter Tryz.func37, Tryz.ntmps37
    go_wp2_with fail
    refine cV.mono ?_
    rintro e w' ⟨rfl, hw'⟩
    rw [hw']
    clear hw' w' cV
    go_wp2
    exact bodyPost_ret (v := .tuple #[]) (by simp [results, Tryz.results37, go_sem]) rfl HP.out
  · obtain ⟨i, rfl, hi1, hi⟩ := varP_in h0
    rw [if_neg h0, if_neg h0, Int.toNat_natCast]
    have c0 := h.c0
    have c1 := h.c1
    have bf := h.fz
    obtain ⟨g, c, rfl, hc, hin⟩ := row_cell h.row (i := i) (u := .int .i8 (varP V (i : Int))) (by rw [List.getElem?_map, hi]; rfl)
    have hk := cnt_nn V
    have hk1 := cnt_pos hi h0
    have hkc := hok.cnt
    have hln := hok.len
    obtain ⟨n, hn⟩ : ∃ n, V.length = n := ⟨_, rfl⟩
    have hrf : ∀ j, w.frozen? ⟨g, j, none⟩ = false := fun j => by have := h.row; rw [hn] at this; exact this.frozenAt j
    rw [hn] at c0 hin hk hln h
    have hA1 := h.put hn i 0
    have hA2 := hA1.setK (k - 1)
    have hgb : g ≠ b := fun z => h.ne (by rw [← z]; rfl)
    have HP := hide (show AgPost w B b (.slice (some ⟨g, 0, none⟩) n c) (k - 1) (V.set i 0) (.returned (.tuple #[])) ((w.setCell ⟨g, i, none⟩ (.int .i8 0)).setCell ⟨b, 1, none⟩ (.int .i64 (k - 1))) from ⟨rfl, ((Ex.refl _ w).set (p := g) (.inr rfl) _).set (p := b) (.inl rfl) _, _, hA2, fun j hj => .inl hj⟩)
    have hw : wrap64 (k - 1) = k - 1 := by unfold wrap64; omega
    have hii : (i : Int) < (n : Int) := by omega
    have hx0 : (varP V (i : Int) == 0) = false := by simpa using h0
    generalize varP V (i : Int) = x at *
    clear h hok hA1 hA2 hi hk hk1 hkc h0 hn hv
    go_enter Tryz.func37, Tryz.ntmps37
    go_wp2_with fail
    refine cV.mono ?_
    rintro e w' ⟨rfl, hw'⟩
    rw [hw']
    clear hw' w' cV
    go_wp2
    exact bodyPost_ret (v := .tuple #[]) (by simp [results, Tryz.results37, go_sem]) rfl HP.out
end Go.Proofs.Qxb6500773aGreat
