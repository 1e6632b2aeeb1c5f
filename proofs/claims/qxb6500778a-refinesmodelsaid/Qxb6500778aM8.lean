import Derived.Test.Qxb6500778aM6
namespace Go.Proofs.Qxb6500778a
open Go.RowKit

set_option linter.unusedSimpArgs false in
set_option maxRecDepth 100000 in
set_option maxHeartbeats 8000000 in
theorem slot_P1 (w : World) (g vc n q : Nat) (L : List Wd) (c : Chg) (i : Nat) (x : Wd) (he1 : uE false x.t 255 ≠ 0) (h : WS w g vc n q L c) (hi : L[i]? = some x) :
    Calls Try.prog 67 #[.string ⟨#[80]⟩, .slice (some ⟨g, 0, none⟩) n vc, .int .i64 i, .pointer (some ⟨q, 0, none⟩)] w (SlPost w q { c with pr := uV false x.t 255 } 0 (uE false x.t 255) x.q) := by
  obtain ⟨x0, x1, hxs, hxl, hin⟩ := h.wd hi
  have hn1 := h.sm
  have hii : (i : Int) < (n : Int) := by omega
  obtain ⟨h1, h2, h3, h4⟩ := two_new w [.int .i64 0, .int .i64 0] [.int .i64 0, .int .i64 0] 109 109
  have d0 := h1 0 _ rfl
  have d1 := h1 1 _ rfl
  have b0 := h2 0 _ rfl
  have b1 := h2 1 _ rfl
  have df : ∀ j, ((w.alloc (.cells #[.int .i64 0, .int .i64 0] 109)).alloc (.cells #[.int .i64 0, .int .i64 0] 109)).frozen? ⟨w.heap.size, j, none⟩ = false := fun j => by simp [go_sem]
  have HE := hide h4
  have HC := hide (h.cs.other h4 (fun e => e))
  have hql := h.lt
  have x0 := h4.cell (fun e => e) x0
  have x1 := h4.cell (fun e => e) x1
  have hgq := h.gq
  have HWS := hide (show Hid (WS w g vc n q L c) from h)
  clear h1 h2 h4 h hn1
  have HUP := hide (fun V => upTo_0 V (strOfNums x.t) x.t x.q 255 hxs hxl)
  obtain ⟨ue, hue⟩ : ∃ e, uE false x.t 255 = e := ⟨_, rfl⟩
  obtain ⟨uv, huv⟩ : ∃ e, uV false x.t 255 = e := ⟨_, rfl⟩
  rw [hue, huv] at HUP
  rw [huv, hue]
  rw [hue] at he1
  unfold fltV at HUP
  clear hue huv
  rw [if_neg he1] at HUP
  have hzb : (ue == 0) = false := by simpa using he1
  clear he1
  go_enter Try.func67, Try.ntmps67
  go_upto_region 2 with fail
  obtain ⟨W, hW⟩ : ∃ W, W = (w.alloc (.cells #[.int .i64 0, .int .i64 0] 109)).alloc (.cells #[.int .i64 0, .int .i64 0] 109) := ⟨_, rfl⟩
  have hr9l : w.heap.size < W.heap.size := by rw [hW]; simp; omega
  have hr10l : w.heap.size + 1 < W.heap.size := by rw [hW]; simp
  rw [← hW] at HE HC d0 d1 df b0 b1 h3 x0 x1 ⊢
  clear hW
  obtain ⟨r10, hr10⟩ : ∃ r, w.heap.size + 1 = r := ⟨_, rfl⟩
  rw [hr10] at b0 b1 h3 hr10l ⊢
  obtain ⟨r9, hr9⟩ : ∃ r, w.heap.size = r := ⟨_, rfl⟩
  rw [hr9] at d0 d1 df hr9l ⊢
  have n1 : q ≠ r9 := by omega
  have n2 : q ≠ r10 := by omega
  have n3 : r9 ≠ r10 := by omega
  have n4 : w.heap.size ≤ r9 := by omega
  have n5 : w.heap.size ≤ r10 := by omega
  clear hr9 hr10 hql
  go_wp2_with fail
  refine (HUP.out _).mono ?_
  rintro e w2 ⟨rfl, hex2⟩
  have y0 := hex2.cell (fun e => e) d0
  have y1 := hex2.cell (fun e => e) d1
  have z0 := hex2.cell (fun e => e) b0
  have z1 := hex2.cell (fun e => e) b1
  have yf := fun j => (hex2.frozen (q := r9) (j := j) (fun e => e) hr9l).trans (df j)
  have zf := fun j => (hex2.frozen (q := r10) (j := j) (fun e => e) hr10l).trans (h3 j)
  have HC2 := hide (HC.out.other hex2 (fun e => e))
  have HE2 : Hid (Ex (fun k => k = q) w w2) := (HE.out.trans hex2).mono (fun _ z => z.elim)
  clear hex2 HC HE d0 d1 b0 b1 df h3
  have k3 := HC2.out.c3
  have kf := HC2.out.fr
  obtain ⟨W3, hW3⟩ : ∃ V, V = (((w2.setCell ⟨q, 3, none⟩ (.int .i64 uv)).setCell ⟨r10, 0, none⟩ (.int .i64 ue)).setCell ⟨r10, 1, none⟩ (.int .i64 x.q)) := ⟨_, rfl⟩
  have HC3 : Hid (CS W3 q { c with pr := uv }) := by rw [hW3]; exact (HC2.out.put3 uv).other (((Ex.refl (fun k => k = r10) _).set (p := r10) (j := 0) rfl _).set (p := r10) (j := 1) rfl _) n2
  have HE3 : Hid (Ex (fun k => k = q) w W3) := by rw [hW3]; exact ((HE2.out.set (p := q) (j := 3) rfl (.int .i64 uv)).setNew n5 _).setNew n5 _
  have u0 : W3.cell? ⟨r9, 0, none⟩ = some (.int .i64 0) := by rw [hW3]; simp [set_cell_ne, n1, n2, n3, Ne.symm n1, Ne.symm n2, y0]
  have u1 : W3.cell? ⟨r9, 1, none⟩ = some (.int .i64 0) := by rw [hW3]; simp [set_cell_ne, n1, n2, n3, Ne.symm n1, Ne.symm n2, y1]
  have uf : ∀ j, W3.frozen? ⟨r9, j, none⟩ = false := fun j => by rw [hW3]; simp only [set_frozen]; exact yf j
  have t0' : (w2.setCell ⟨q, 3, none⟩ (.int .i64 uv)).cell? ⟨r10, 0, none⟩ = some (.int .i64 0) := by simp [set_cell_ne, n1, n2, n3, Ne.symm n1, Ne.symm n2, z0]
  have t1' : (w2.setCell ⟨q, 3, none⟩ (.int .i64 uv)).cell? ⟨r10, 1, none⟩ = some (.int .i64 0) := by simp [set_cell_ne, n1, n2, n3, Ne.symm n1, Ne.symm n2, z1]
  have t1'' : ((w2.setCell ⟨q, 3, none⟩ (.int .i64 uv)).setCell ⟨r10, 0, none⟩ (.int .i64 ue)).cell? ⟨r10, 1, none⟩ = some (.int .i64 0) := by rw [set_at _ _ _ _ _ _ t0', if_neg (by omega)]; exact t1'
  have t1 : W3.cell? ⟨r10, 1, none⟩ = some (.int .i64 x.q) := by rw [hW3]; exact World.cell?_setCell_same _ _ _ t1''
  have t0 : W3.cell? ⟨r10, 0, none⟩ = some (.int .i64 ue) := by rw [hW3, set_at _ _ _ _ _ _ t1'', if_neg (by omega)]; exact World.cell?_setCell_same _ _ _ t0'
  clear t0' t1' t1''
  clear HC2 HE2 x0 x1
  go_upto_region 26 with fail
  rw [← hW3]
  clear hW3 k3 kf y0 y1 yf z0 z1 zf
  have HF : Hid (Ex (fun k => k = q) w ((W3.setCell ⟨r9, 0, none⟩ (.int .i64 ue)).setCell ⟨r9, 1, none⟩ (.int .i64 x.q)).drew) := ((HE3.out.setNew n4 _).setNew n4 _).drew
  have HG := hide (HC3.out.other ((((Ex.refl (fun k => k = r9) W3).set (p := r9) (j := 0) rfl (.int .i64 ue)).set (p := r9) (j := 1) rfl (.int .i64 x.q)).drew) n1)
  clear HC3 HE3
  go_upto_region 26 with fail
  go_region
  go_wp2
  exact bodyPost_ret (v := .tuple #[.int .i64 0, .agg #[.int .i64 ue, .int .i64 x.q]]) (by simp [results, Try.results67, go_sem, u0, u1]) rfl ⟨rfl, HG.out, HF.out⟩
set_option linter.unusedSimpArgs false in
set_option maxRecDepth 100000 in
set_option maxHeartbeats 8000000 in
theorem slot_P2 (w : World) (g vc n q : Nat) (L : List Wd) (c : Chg) (i : Nat) (x : Wd) (y : Wd) (he1 : uE false x.t 255 = 0) (hy47 : y.t ≠ [47]) (hy : L[i + 1]? = some y) (h : WS w g vc n q L c) (hi : L[i]? = some x) :
    Calls Try.prog 67 #[.string ⟨#[80]⟩, .slice (some ⟨g, 0, none⟩) n vc, .int .i64 i, .pointer (some ⟨q, 0, none⟩)] w (SlPost w q { c with pr := uV false x.t 255 } 0 (wrE y.t) y.q) := by
  obtain ⟨x0, x1, hxs, hxl, hin⟩ := h.wd hi
  have hn1 := h.sm
  have hii : (i : Int) < (n : Int) := by omega
  obtain ⟨h1, h2, h3, h4⟩ := two_new w [.int .i64 0, .int .i64 0] [.int .i64 0, .int .i64 0] 109 109
  have d0 := h1 0 _ rfl
  have d1 := h1 1 _ rfl
  have b0 := h2 0 _ rfl
  have b1 := h2 1 _ rfl
  have df : ∀ j, ((w.alloc (.cells #[.int .i64 0, .int .i64 0] 109)).alloc (.cells #[.int .i64 0, .int .i64 0] 109)).frozen? ⟨w.heap.size, j, none⟩ = false := fun j => by simp [go_sem]
  have HE := hide h4
  have HC := hide (h.cs.other h4 (fun e => e))
  have hql := h.lt
  have x0 := h4.cell (fun e => e) x0
  have x1 := h4.cell (fun e => e) x1
  have hgq := h.gq
  have HWS := hide (show Hid (WS w g vc n q L c) from h)
  clear h1 h2 h4 h hn1
  have HYY : Hid (∀ V, Ex (fun k => k = q) w V → V.cell? ⟨g, (i + 1) * 2, none⟩ = some (.string (strOfNums y.t)) ∧ V.cell? ⟨g, (i + 1) * 2 + 1, none⟩ = some (.int .i64 y.q)) := fun V hV => ⟨hV.cell hgq (HWS.out.out.wd hy).1, hV.cell hgq (HWS.out.out.wd hy).2.1⟩
  obtain ⟨hys, hyl, hyn⟩ := (HWS.out.out.wd hy).2.2
  have hcmp : ((strOfNums y.t).toList == [47]) = false := by rw [str_eq, hys]; exact beq_eq_false_iff_ne.2 hy47
  have HUP := hide (fun V => upTo_0 V (strOfNums x.t) x.t x.q 255 hxs hxl)
  obtain ⟨ue, hue⟩ : ∃ e, uE false x.t 255 = e := ⟨_, rfl⟩
  obtain ⟨uv, huv⟩ : ∃ e, uV false x.t 255 = e := ⟨_, rfl⟩
  rw [hue, huv] at HUP
  rw [huv]
  rw [hue] at he1
  unfold fltV at HUP
  clear hue huv
  subst he1
  have HWR := hide (fun V => wrong_any V (strOfNums y.t) y.t y.q hys hyl)
  obtain ⟨we, hwe⟩ : ∃ e, wrE y.t = e := ⟨_, rfl⟩
  rw [hwe] at HWR ⊢
  clear hwe hy47
  have hsm := HWS.out.out.sm
  obtain ⟨j1, hj1⟩ : ∃ j, i + 1 = j := ⟨_, rfl⟩
  have hi1n : (j1 : Int) < (n : Int) := by omega
  have hi1 := wrap_1 i j1 (by omega) hj1
  clear hsm
  rw [hj1] at HYY
  clear hj1
  go_enter Try.func67, Try.ntmps67
  go_upto_region 2 with fail
  obtain ⟨W, hW⟩ : ∃ W, W = (w.alloc (.cells #[.int .i64 0, .int .i64 0] 109)).alloc (.cells #[.int .i64 0, .int .i64 0] 109) := ⟨_, rfl⟩
  have hr9l : w.heap.size < W.heap.size := by rw [hW]; simp; omega
  have hr10l : w.heap.size + 1 < W.heap.size := by rw [hW]; simp
  rw [← hW] at HE HC d0 d1 df b0 b1 h3 x0 x1 ⊢
  clear hW
  obtain ⟨r10, hr10⟩ : ∃ r, w.heap.size + 1 = r := ⟨_, rfl⟩
  rw [hr10] at b0 b1 h3 hr10l ⊢
  obtain ⟨r9, hr9⟩ : ∃ r, w.heap.size = r := ⟨_, rfl⟩
  rw [hr9] at d0 d1 df hr9l ⊢
  have n1 : q ≠ r9 := by omega
  have n2 : q ≠ r10 := by omega
  have n3 : r9 ≠ r10 := by omega
  have n4 : w.heap.size ≤ r9 := by omega
  have n5 : w.heap.size ≤ r10 := by omega
  clear hr9 hr10 hql
  go_wp2_with fail
  refine (HUP.out _).mono ?_
  rintro e w2 ⟨rfl, hex2⟩
  have y0 := hex2.cell (fun e => e) d0
  have y1 := hex2.cell (fun e => e) d1
  have z0 := hex2.cell (fun e => e) b0
  have z1 := hex2.cell (fun e => e) b1
  have yf := fun j => (hex2.frozen (q := r9) (j := j) (fun e => e) hr9l).trans (df j)
  have zf := fun j => (hex2.frozen (q := r10) (j := j) (fun e => e) hr10l).trans (h3 j)
  have HC2 := hide (HC.out.other hex2 (fun e => e))
  have HE2 : Hid (Ex (fun k => k = q) w w2) := (HE.out.trans hex2).mono (fun _ z => z.elim)
  clear hex2 HC HE d0 d1 b0 b1 df h3
  have k3 := HC2.out.c3
  have kf := HC2.out.fr
  obtain ⟨W3, hW3⟩ : ∃ V, V = (((w2.setCell ⟨q, 3, none⟩ (.int .i64 uv)).setCell ⟨r10, 0, none⟩ (.int .i64 0)).setCell ⟨r10, 1, none⟩ (.int .i64 0)) := ⟨_, rfl⟩
  have HC3 : Hid (CS W3 q { c with pr := uv }) := by rw [hW3]; exact (HC2.out.put3 uv).other (((Ex.refl (fun k => k = r10) _).set (p := r10) (j := 0) rfl _).set (p := r10) (j := 1) rfl _) n2
  have HE3 : Hid (Ex (fun k => k = q) w W3) := by rw [hW3]; exact ((HE2.out.set (p := q) (j := 3) rfl (.int .i64 uv)).setNew n5 _).setNew n5 _
  have u0 : W3.cell? ⟨r9, 0, none⟩ = some (.int .i64 0) := by rw [hW3]; simp [set_cell_ne, n1, n2, n3, Ne.symm n1, Ne.symm n2, y0]
  have u1 : W3.cell? ⟨r9, 1, none⟩ = some (.int .i64 0) := by rw [hW3]; simp [set_cell_ne, n1, n2, n3, Ne.symm n1, Ne.symm n2, y1]
  have uf : ∀ j, W3.frozen? ⟨r9, j, none⟩ = false := fun j => by rw [hW3]; simp only [set_frozen]; exact yf j
  have t0' : (w2.setCell ⟨q, 3, none⟩ (.int .i64 uv)).cell? ⟨r10, 0, none⟩ = some (.int .i64 0) := by simp [set_cell_ne, n1, n2, n3, Ne.symm n1, Ne.symm n2, z0]
  have t1' : (w2.setCell ⟨q, 3, none⟩ (.int .i64 uv)).cell? ⟨r10, 1, none⟩ = some (.int .i64 0) := by simp [set_cell_ne, n1, n2, n3, Ne.symm n1, Ne.symm n2, z1]
  have t1'' : ((w2.setCell ⟨q, 3, none⟩ (.int .i64 uv)).setCell ⟨r10, 0, none⟩ (.int .i64 0)).cell? ⟨r10, 1, none⟩ = some (.int .i64 0) := by rw [set_at _ _ _ _ _ _ t0', if_neg (by omega)]; exact t1'
  have t1 : W3.cell? ⟨r10, 1, none⟩ = some (.int .i64 0) := by rw [hW3]; exact World.cell?_setCell_same _ _ _ t1''
  have t0 : W3.cell? ⟨r10, 0, none⟩ = some (.int .i64 0) := by rw [hW3, set_at _ _ _ _ _ _ t1'', if_neg (by omega)]; exact World.cell?_setCell_same _ _ _ t0'
  clear t0' t1' t1''
  have zf10 : ∀ j, W3.frozen? ⟨r10, j, none⟩ = false := fun j => by rw [hW3]; simp only [set_frozen]; exact zf j
  have yy0 := (HYY.out W3 HE3.out).1
  have yy1 := (HYY.out W3 HE3.out).2
  clear HC2 HE2 x0 x1
  go_upto_region 27 with fail
  rw [← hW3]
  clear hW3 k3 kf y0 y1 yf z0 z1 zf
  go_wp2_with fail
  refine (HWR.out _).mono ?_
  rintro e w5 ⟨rfl, hex5⟩
  have p0 := hex5.cell (fun e => e) u0
  have p1 := hex5.cell (fun e => e) u1
  have pf := fun j => (hex5.frozen (q := r9) (j := j) (fun e => e) (World.block_lt_of_cell? _ _ u0)).trans (uf j)
  have HF : Hid (Ex (fun k => k = q) w ((w5.setCell ⟨r9, 0, none⟩ (.int .i64 we)).setCell ⟨r9, 1, none⟩ (.int .i64 y.q))) := ((HE3.out.trans (hex5.mono (fun _ z => z.elim))).setNew n4 _).setNew n4 _
  have HG := hide ((HC3.out.other hex5 (fun e => e)).other (((Ex.refl (fun k => k = r9) w5).set (p := r9) (j := 0) rfl (.int .i64 we)).set (p := r9) (j := 1) rfl (.int .i64 y.q)) n1)
  clear HC3 HE3 hex5 u0 u1 uf t0 t1 yy0 yy1 zf10
  go_wp2
  exact bodyPost_ret (v := .tuple #[.int .i64 0, .agg #[.int .i64 we, .int .i64 y.q]]) (by simp [results, Try.results67, go_sem, p0, p1]) rfl ⟨rfl, HG.out, HF.out⟩
end Go.Proofs.Qxb6500778a
