import Derived.Test.Qxb6500778aM6
namespace Go.Proofs.Qxb6500778a
open Go.RowKit

def pfE (l m : List Int) : Int := if uE false m 8 = 0 then (if gfM (uV false l 255) (uV false m 8) = true then 0 else 3) else uE false m 8
set_option linter.unusedSimpArgs false in
set_option maxRecDepth 100000 in
set_option maxHeartbeats 8000000 in
theorem slot_P3 (w : World) (g vc n q : Nat) (L : List Wd) (c : Chg) (i : Nat) (x : Wd) (y z : Wd) (he1 : uE false x.t 255 = 0) (hy47 : y.t = [47]) (hy : L[i + 1]? = some y) (hz : L[i + 2]? = some z) (h : WS w g vc n q L c) (hi : L[i]? = some x) :
    Calls Try.prog 67 #[.string ⟨#[80]⟩, .slice (some ⟨g, 0, none⟩) n vc, .int .i64 i, .pointer (some ⟨q, 0, none⟩)] w (SlPost w q { { c with pr := uV false x.t 255 } with ln := uV false z.t 8 } 3 (pfE x.t z.t) (if pfE x.t z.t = 0 then 0 else if uE false z.t 8 = 0 then x.q else z.q)) := by
  obtain ⟨x0, x1, hxs, hxl, hin⟩ := h.wd hi
  have hn1 := h.sm
  have hii : (i : Int) < (n : Int) := by omega
  obtain ⟨h1, h2, h3, h4⟩ := two_new w [.int .i64 0, .int .i64 0] [.int .i64 0, .int .i64 0] 109 109
  have d0 := h1 0 _ rfl
  have d1 := h1 1 _ rfl
  have b0 := h2 0 _ rfl
  have b1 := h2 1 _ rfl
  have df : ∀ j, ((w.alloc (.cells #[.int .i64 0, .int .i64 0] 109)).alloc (.cells #[.int .i64 0, .int .i64 0] 109)).frozen? ⟨w.heap.size, j, none⟩ = false := fun j => by simp [go_sem]
  have HE := hide h4
  have HC := hide (h.cs.other h4 (fun e => e))
  have hql := h.lt
  have x0 := h4.cell (fun e => e) x0
  have x1 := h4.cell (fun e => e) x1
  have hgq := h.gq
  have HWS := hide (show Hid (WS w g vc n q L c) from h)
  clear h1 h2 h4 h hn1
  have HYY : Hid (∀ V, Ex (fun k => k = q) w V → V.cell? ⟨g, (i + 1) * 2, none⟩ = some (.string (strOfNums y.t)) ∧ V.cell? ⟨g, (i + 1) * 2 + 1, none⟩ = some (.int .i64 y.q)) := fun V hV => ⟨hV.cell hgq (HWS.out.out.wd hy).1, hV.cell hgq (HWS.out.out.wd hy).2.1⟩
  obtain ⟨hys, hyl, hyn⟩ := (HWS.out.out.wd hy).2.2
  have HZZ : Hid (∀ V, Ex (fun k => k = q) w V → V.cell? ⟨g, (i + 2) * 2, none⟩ = some (.string (strOfNums z.t)) ∧ V.cell? ⟨g, (i + 2) * 2 + 1, none⟩ = some (.int .i64 z.q)) := fun V hV => ⟨hV.cell hgq (HWS.out.out.wd hz).1, hV.cell hgq (HWS.out.out.wd hz).2.1⟩
  obtain ⟨hzs, hzl, hzn⟩ := (HWS.out.out.wd hz).2.2
  have HXX : Hid (∀ V, Ex (fun k => k = q) w V → V.cell? ⟨g, i * 2 + 1, none⟩ = some (.int .i64 x.q)) := fun V hV => hV.cell hgq (HWS.out.out.wd hi).2.1
  have hcmp : ((strOfNums y.t).toList == [47]) = true := (str_eq _ _).trans (by rw [hys, hy47]; exact beq_self_eq_true _)
  have HUQ := hide (fun V => upTo_0 V (strOfNums z.t) z.t z.q 8 hzs hzl)
  have HPF : Hid (pfE x.t z.t = if uE false z.t 8 = 0 then (if gfM (uV false x.t 255) (uV false z.t 8) = true then 0 else 3) else uE false z.t 8) := rfl
  obtain ⟨pe, hpe⟩ : ∃ e, pfE x.t z.t = e := ⟨_, rfl⟩
  rw [hpe] at HPF ⊢
  obtain ⟨ze, hze⟩ : ∃ e, uE false z.t 8 = e := ⟨_, rfl⟩
  obtain ⟨zv, hzv⟩ : ∃ e, uV false z.t 8 = e := ⟨_, rfl⟩
  rw [hze, hzv] at HUQ HPF
  rw [hze, hzv]
  have HUP := hide (fun V => upTo_0 V (strOfNums x.t) x.t x.q 255 hxs hxl)
  obtain ⟨ue, hue⟩ : ∃ e, uE false x.t 255 = e := ⟨_, rfl⟩
  obtain ⟨uv, huv⟩ : ∃ e, uV false x.t 255 = e := ⟨_, rfl⟩
  rw [hue, huv] at HUP
  rw [huv] at HPF ⊢
  rw [hue] at he1
  unfold fltV at HUP
  clear hue huv
  subst he1
  unfold fltV at HUQ
  clear hpe hze hzv hy47 hy hz hi
  have hsm := HWS.out.out.sm
  obtain ⟨j1, hj1⟩ : ∃ j, i + 1 = j := ⟨_, rfl⟩
  obtain ⟨j2, hj2⟩ : ∃ j, i + 2 = j := ⟨_, rfl⟩
  have hi1n : (j1 : Int) < (n : Int) := by omega
  have hi2n : (j2 : Int) < (n : Int) := by omega
  have hi1 := wrap_1 i j1 (by omega) hj1
  have hi2 := wrap_2 i j2 (by omega) hj2
  clear hsm
  rw [hj1] at HYY
  rw [hj2] at HZZ
  clear hj1 hj2
  have HGP := hide (fun V => (goodPrefixM_any V uv zv).mono (R' := fun e w' => e = .returned (.bool (gfM uv zv)) ∧ w' = V) (fun e w' h => ⟨h.1, h.2.symm⟩))
  obtain ⟨bg, hbg⟩ : ∃ b, gfM uv zv = b := ⟨_, rfl⟩
  rw [hbg] at HGP HPF
  clear hbg
  by_cases hz : ze = 0
  · rw [if_pos hz] at HPF HUQ
    subst hz
    cases bg
    · rw [if_neg (by decide)] at HPF
      obtain rfl : pe = 3 := HPF.out
      rw [if_neg (by decide), if_pos rfl]
      go_enter Try.func67, Try.ntmps67
      go_upto_region 2 with fail
      obtain ⟨W, hW⟩ : ∃ W, W = (w.alloc (.cells #[.int .i64 0, .int .i64 0] 109)).alloc (.cells #[.int .i64 0, .int .i64 0] 109) := ⟨_, rfl⟩
      have hr9l : w.heap.size < W.heap.size := by rw [hW]; simp; omega
      have hr10l : w.heap.size + 1 < W.heap.size := by rw [hW]; simp
      rw [← hW] at HE HC d0 d1 df b0 b1 h3 x0 x1 ⊢
      clear hW
      obtain ⟨r10, hr10⟩ : ∃ r, w.heap.size + 1 = r := ⟨_, rfl⟩
      rw [hr10] at b0 b1 h3 hr10l ⊢
      obtain ⟨r9, hr9⟩ : ∃ r, w.heap.size = r := ⟨_, rfl⟩
      rw [hr9] at d0 d1 df hr9l ⊢
      have n1 : q ≠ r9 := by omega
      have n2 : q ≠ r10 := by omega
      have n3 : r9 ≠ r10 := by omega
      have n4 : w.heap.size ≤ r9 := by omega
      have n5 : w.heap.size ≤ r10 := by omega
      clear hr9 hr10 hql
      go_wp2_with fail
      refine (HUP.out _).mono ?_
      rintro e w2 ⟨rfl, hex2⟩
      have y0 := hex2.cell (fun e => e) d0
      have y1 := hex2.cell (fun e => e) d1
      have z0 := hex2.cell (fun e => e) b0
      have z1 := hex2.cell (fun e => e) b1
      have yf := fun j => (hex2.frozen (q := r9) (j := j) (fun e => e) hr9l).trans (df j)
      have zf := fun j => (hex2.frozen (q := r10) (j := j) (fun e => e) hr10l).trans (h3 j)
      have HC2 := hide (HC.out.other hex2 (fun e => e))
      have HE2 : Hid (Ex (fun k => k = q) w w2) := (HE.out.trans hex2).mono (fun _ z => z.elim)
      clear hex2 HC HE d0 d1 b0 b1 df h3
      have k3 := HC2.out.c3
      have kf := HC2.out.fr
      obtain ⟨W3, hW3⟩ : ∃ V, V = (((w2.setCell ⟨q, 3, none⟩ (.int .i64 uv)).setCell ⟨r10, 0, none⟩ (.int .i64 0)).setCell ⟨r10, 1, none⟩ (.int .i64 0)) := ⟨_, rfl⟩
      have HC3 : Hid (CS W3 q { c with pr := uv }) := by rw [hW3]; exact (HC2.out.put3 uv).other (((Ex.refl (fun k => k = r10) _).set (p := r10) (j := 0) rfl _).set (p := r10) (j := 1) rfl _) n2
      have HE3 : Hid (Ex (fun k => k = q) w W3) := by rw [hW3]; exact ((HE2.out.set (p := q) (j := 3) rfl (.int .i64 uv)).setNew n5 _).setNew n5 _
      have u0 : W3.cell? ⟨r9, 0, none⟩ = some (.int .i64 0) := by rw [hW3]; simp [set_cell_ne, n1, n2, n3, Ne.symm n1, Ne.symm n2, y0]
      have u1 : W3.cell? ⟨r9, 1, none⟩ = some (.int .i64 0) := by rw [hW3]; simp [set_cell_ne, n1, n2, n3, Ne.symm n1, Ne.symm n2, y1]
      have uf : ∀ j, W3.frozen? ⟨r9, j, none⟩ = false := fun j => by rw [hW3]; simp only [set_frozen]; exact yf j
      have t0' : (w2.setCell ⟨q, 3, none⟩ (.int .i64 uv)).cell? ⟨r10, 0, none⟩ = some (.int .i64 0) := by simp [set_cell_ne, n1, n2, n3, Ne.symm n1, Ne.symm n2, z0]
      have t1' : (w2.setCell ⟨q, 3, none⟩ (.int .i64 uv)).cell? ⟨r10, 1, none⟩ = some (.int .i64 0) := by simp [set_cell_ne, n1, n2, n3, Ne.symm n1, Ne.symm n2, z1]
      have t1'' : ((w2.setCell ⟨q, 3, none⟩ (.int .i64 uv)).setCell ⟨r10, 0, none⟩ (.int .i64 0)).cell? ⟨r10, 1, none⟩ = some (.int .i64 0) := by rw [set_at _ _ _ _ _ _ t0', if_neg (by omega)]; exact t1'
      have t1 : W3.cell? ⟨r10, 1, none⟩ = some (.int .i64 0) := by rw [hW3]; exact World.cell?_setCell_same _ _ _ t1''
      have t0 : W3.cell? ⟨r10, 0, none⟩ = some (.int .i64 0) := by rw [hW3, set_at _ _ _ _ _ _ t1'', if_neg (by omega)]; exact World.cell?_setCell_same _ _ _ t0'
      clear t0' t1' t1''
      have zf10 : ∀ j, W3.frozen? ⟨r10, j, none⟩ = false := fun j => by rw [hW3]; simp only [set_frozen]; exact zf j
      have yy0 := (HYY.out W3 HE3.out).1
      have zz0 := (HZZ.out W3 HE3.out).1
      have zz1 := (HZZ.out W3 HE3.out).2
      clear HC2 HE2 x0 x1
      go_upto_region 27 with fail
      rw [← hW3]
      clear hW3 k3 kf y0 y1 yf z0 z1 zf
      go_wp2_with fail
      refine (HUQ.out _).mono ?_
      rintro e w5 ⟨rfl, hex5⟩
      have p0 := hex5.cell (fun e => e) u0
      have p1 := hex5.cell (fun e => e) u1
      have pf := fun j => (hex5.frozen (q := r9) (j := j) (fun e => e) (World.block_lt_of_cell? _ _ u0)).trans (uf j)
      have s0 := hex5.cell (fun e => e) t0
      have s1 := hex5.cell (fun e => e) t1
      have sf := fun j => (hex5.frozen (q := r10) (j := j) (fun e => e) (World.block_lt_of_cell? _ _ t0)).trans (zf10 j)
      have HC5 := hide (HC3.out.other hex5 (fun e => e))
      have HE5 := hide (HE3.out.trans (hex5.mono (fun _ z => z.elim)))
      have k4 := HC5.out.c4
      have kf := HC5.out.fr
      clear HC3 HE3 hex5 u0 u1 uf t0 t1 yy0 zz0 zz1 zf10
      obtain ⟨W6, hW6⟩ : ∃ V, V = (((w5.setCell ⟨q, 4, none⟩ (.int .i64 zv)).setCell ⟨r10, 0, none⟩ (.int .i64 0)).setCell ⟨r10, 1, none⟩ (.int .i64 0)) := ⟨_, rfl⟩
      have HC6 : Hid (CS W6 q { { c with pr := uv } with ln := zv }) := by rw [hW6]; exact (HC5.out.put4 zv).other (((Ex.refl (fun k => k = r10) _).set (p := r10) (j := 0) rfl _).set (p := r10) (j := 1) rfl _) n2
      have HE6 : Hid (Ex (fun k => k = q) w W6) := by rw [hW6]; exact ((HE5.out.set (p := q) (j := 4) rfl (.int .i64 zv)).setNew n5 _).setNew n5 _
      have U0 : W6.cell? ⟨r9, 0, none⟩ = some (.int .i64 0) := by rw [hW6]; simp [set_cell_ne, n1, n2, n3, Ne.symm n1, Ne.symm n2, p0]
      have U1 : W6.cell? ⟨r9, 1, none⟩ = some (.int .i64 0) := by rw [hW6]; simp [set_cell_ne, n1, n2, n3, Ne.symm n1, Ne.symm n2, p1]
      have Uf : ∀ j, W6.frozen? ⟨r9, j, none⟩ = false := fun j => by rw [hW6]; simp only [set_frozen]; exact pf j
      have t0x : (w5.setCell ⟨q, 4, none⟩ (.int .i64 zv)).cell? ⟨r10, 0, none⟩ = some (.int .i64 0) := by simp [set_cell_ne, n1, n2, n3, Ne.symm n1, Ne.symm n2, s0]
      have t1x : (w5.setCell ⟨q, 4, none⟩ (.int .i64 zv)).cell? ⟨r10, 1, none⟩ = some (.int .i64 0) := by simp [set_cell_ne, n1, n2, n3, Ne.symm n1, Ne.symm n2, s1]
      have t1y : ((w5.setCell ⟨q, 4, none⟩ (.int .i64 zv)).setCell ⟨r10, 0, none⟩ (.int .i64 0)).cell? ⟨r10, 1, none⟩ = some (.int .i64 0) := by rw [set_at _ _ _ _ _ _ t0x, if_neg (by omega)]; exact t1x
      have T1 : W6.cell? ⟨r10, 1, none⟩ = some (.int .i64 0) := by rw [hW6]; exact World.cell?_setCell_same _ _ _ t1y
      have T0 : W6.cell? ⟨r10, 0, none⟩ = some (.int .i64 0) := by rw [hW6, set_at _ _ _ _ _ _ t1y, if_neg (by omega)]; exact World.cell?_setCell_same _ _ _ t0x
      clear t0x t1x t1y
      have Zf : ∀ j, W6.frozen? ⟨r10, j, none⟩ = false := fun j => by rw [hW6]; simp only [set_frozen]; exact sf j
      have kk3 := HC6.out.c3
      have kk4 := HC6.out.c4
      try simp only [] at kk3 kk4
      have xx1 := HXX.out W6 HE6.out
      go_upto_region 30 with fail
      rw [← hW6]
      clear hW6 k4 kf p0 p1 pf s0 s1 sf HC5 HE5
      go_quiet (first | (go_at_call 79; refine Calls.quiet_of_same (HGP.out _)))
      have hEQ : Ex (fun _ => False) W6 (W6.drewN nq) := (Ex.refl _ _).drewN nq
      have u0 := hEQ.cell (fun e => e) U0
      have u1 := hEQ.cell (fun e => e) U1
      have uf := fun j => (hEQ.frozen (q := r9) (j := j) (fun e => e) (World.block_lt_of_cell? _ _ U0)).trans (Uf j)
      have t0 := hEQ.cell (fun e => e) T0
      have t1 := hEQ.cell (fun e => e) T1
      have zf10 := fun j => (hEQ.frozen (q := r10) (j := j) (fun e => e) (World.block_lt_of_cell? _ _ T0)).trans (Zf j)
      have xx1 := hEQ.cell (fun e => e) xx1
      have HC4 := hide (HC6.out.other hEQ (fun e => e))
      have HE4 : Hid (Ex (fun k => k = q) w (W6.drewN nq)) := HE6.out.drewN nq
      clear hEQ
      generalize W6.drewN nq = W4 at *
      clear HC6 HE6 kk3 kk4 U0 U1 Uf T0 T1 Zf
      go_upto_region 31 with fail
      have g1' : (W4.setCell ⟨r10, 0, none⟩ (.int .i64 3)).cell? ⟨r10, 1, none⟩ = some (.int .i64 0) := by rw [set_at _ _ _ _ _ _ t0, if_neg (by omega)]; exact t1
      have hex5 : Ex (fun k => k = r10) W4 ((W4.setCell ⟨r10, 0, none⟩ (.int .i64 3)).setCell ⟨r10, 1, none⟩ (.int .i64 x.q)) := ((Ex.refl (fun k => k = r10) _).set (p := r10) (j := 0) rfl _).set (p := r10) (j := 1) rfl _
      have HC5 := hide (HC4.out.other hex5 n2)
      have HE5 : Hid (Ex (fun k => k = q) w ((W4.setCell ⟨r10, 0, none⟩ (.int .i64 3)).setCell ⟨r10, 1, none⟩ (.int .i64 x.q))) := (HE4.out.setNew n5 _).setNew n5 _
      have v1 : ((W4.setCell ⟨r10, 0, none⟩ (.int .i64 3)).setCell ⟨r10, 1, none⟩ (.int .i64 x.q)).cell? ⟨r10, 1, none⟩ = some (.int .i64 x.q) := World.cell?_setCell_same _ _ _ g1'
      have v0 : ((W4.setCell ⟨r10, 0, none⟩ (.int .i64 3)).setCell ⟨r10, 1, none⟩ (.int .i64 x.q)).cell? ⟨r10, 0, none⟩ = some (.int .i64 3) := by rw [set_at _ _ _ _ _ _ g1', if_neg (by omega)]; exact World.cell?_setCell_same _ _ _ t0
      have s0 := hex5.cell (q := r9) n3 u0
      have s1 := hex5.cell (q := r9) n3 u1
      have sf : ∀ j, ((W4.setCell ⟨r10, 0, none⟩ (.int .i64 3)).setCell ⟨r10, 1, none⟩ (.int .i64 x.q)).frozen? ⟨r9, j, none⟩ = false := fun j => by simp only [set_frozen]; exact uf j
      clear g1'
      go_upto_region 32 with fail
      generalize (W4.setCell ⟨r10, 0, none⟩ (.int .i64 3)).setCell ⟨r10, 1, none⟩ (.int .i64 x.q) = W5 at *
      clear u0 u1 uf t0 t1 HC4 HE4 hex5 xx1
      have u0 := s0
      have u1 := s1
      have HF : Hid (Ex (fun k => k = q) w ((W5.setCell ⟨r9, 0, none⟩ (.int .i64 3)).setCell ⟨r9, 1, none⟩ (.int .i64 x.q)).drew) := ((HE5.out.setNew n4 _).setNew n4 _).drew
      have HG := hide (HC5.out.other ((((Ex.refl (fun k => k = r9) W5).set (p := r9) (j := 0) rfl (.int .i64 3)).set (p := r9) (j := 1) rfl (.int .i64 x.q)).drew) n1)
      clear HC5 HE5
      go_upto_region 32 with fail
      go_region
      go_wp2
      exact bodyPost_ret (v := .tuple #[.int .i64 3, .agg #[.int .i64 3, .int .i64 x.q]]) (by simp [results, Try.results67, go_sem, u0, u1]) rfl ⟨rfl, HG.out, HF.out⟩
    · rw [if_pos rfl] at HPF
      obtain rfl : pe = 0 := HPF.out
      rw [if_pos rfl]
      go_enter Try.func67, Try.ntmps67
      go_upto_region 2 with fail
      obtain ⟨W, hW⟩ : ∃ W, W = (w.alloc (.cells #[.int .i64 0, .int .i64 0] 109)).alloc (.cells #[.int .i64 0, .int .i64 0] 109) := ⟨_, rfl⟩
      have hr9l : w.heap.size < W.heap.size := by rw [hW]; simp; omega
      have hr10l : w.heap.size + 1 < W.heap.size := by rw [hW]; simp
      rw [← hW] at HE HC d0 d1 df b0 b1 h3 x0 x1 ⊢
      clear hW
      obtain ⟨r10, hr10⟩ : ∃ r, w.heap.size + 1 = r := ⟨_, rfl⟩
      rw [hr10] at b0 b1 h3 hr10l ⊢
      obtain ⟨r9, hr9⟩ : ∃ r, w.heap.size = r := ⟨_, rfl⟩
      rw [hr9] at d0 d1 df hr9l ⊢
      have n1 : q ≠ r9 := by omega
      have n2 : q ≠ r10 := by omega
      have n3 : r9 ≠ r10 := by omega
      have n4 : w.heap.size ≤ r9 := by omega
      have n5 : w.heap.size ≤ r10 := by omega
      clear hr9 hr10 hql
      go_wp2_with fail
      refine (HUP.out _).mono ?_
      rintro e w2 ⟨rfl, hex2⟩
      have y0 := hex2.cell (fun e => e) d0
      have y1 := hex2.cell (fun e => e) d1
      have z0 := hex2.cell (fun e => e) b0
      have z1 := hex2.cell (fun e => e) b1
      have yf := fun j => (hex2.frozen (q := r9) (j := j) (fun e => e) hr9l).trans (df j)
      have zf := fun j => (hex2.frozen (q := r10) (j := j) (fun e => e) hr10l).trans (h3 j)
      have HC2 := hide (HC.out.other hex2 (fun e => e))
      have HE2 : Hid (Ex (fun k => k = q) w w2) := (HE.out.trans hex2).mono (fun _ z => z.elim)
      clear hex2 HC HE d0 d1 b0 b1 df h3
      have k3 := HC2.out.c3
      have kf := HC2.out.fr
      obtain ⟨W3, hW3⟩ : ∃ V, V = (((w2.setCell ⟨q, 3, none⟩ (.int .i64 uv)).setCell ⟨r10, 0, none⟩ (.int .i64 0)).setCell ⟨r10, 1, none⟩ (.int .i64 0)) := ⟨_, rfl⟩
      have HC3 : Hid (CS W3 q { c with pr := uv }) := by rw [hW3]; exact (HC2.out.put3 uv).other (((Ex.refl (fun k => k = r10) _).set (p := r10) (j := 0) rfl _).set (p := r10) (j := 1) rfl _) n2
      have HE3 : Hid (Ex (fun k => k = q) w W3) := by rw [hW3]; exact ((HE2.out.set (p := q) (j := 3) rfl (.int .i64 uv)).setNew n5 _).setNew n5 _
      have u0 : W3.cell? ⟨r9, 0, none⟩ = some (.int .i64 0) := by rw [hW3]; simp [set_cell_ne, n1, n2, n3, Ne.symm n1, Ne.symm n2, y0]
      have u1 : W3.cell? ⟨r9, 1, none⟩ = some (.int .i64 0) := by rw [hW3]; simp [set_cell_ne, n1, n2, n3, Ne.symm n1, Ne.symm n2, y1]
      have uf : ∀ j, W3.frozen? ⟨r9, j, none⟩ = false := fun j => by rw [hW3]; simp only [set_frozen]; exact yf j
      have t0' : (w2.setCell ⟨q, 3, none⟩ (.int .i64 uv)).cell? ⟨r10, 0, none⟩ = some (.int .i64 0) := by simp [set_cell_ne, n1, n2, n3, Ne.symm n1, Ne.symm n2, z0]
      have t1' : (w2.setCell ⟨q, 3, none⟩ (.int .i64 uv)).cell? ⟨r10, 1, none⟩ = some (.int .i64 0) := by simp [set_cell_ne, n1, n2, n3, Ne.symm n1, Ne.symm n2, z1]
      have t1'' : ((w2.setCell ⟨q, 3, none⟩ (.int .i64 uv)).setCell ⟨r10, 0, none⟩ (.int .i64 0)).cell? ⟨r10, 1, none⟩ = some (.int .i64 0) := by rw [set_at _ _ _ _ _ _ t0', if_neg (by omega)]; exact t1'
      have t1 : W3.cell? ⟨r10, 1, none⟩ = some (.int .i64 0) := by rw [hW3]; exact World.cell?_setCell_same _ _ _ t1''
      have t0 : W3.cell? ⟨r10, 0, none⟩ = some (.int .i64 0) := by rw [hW3, set_at _ _ _ _ _ _ t1'', if_neg (by omega)]; exact World.cell?_setCell_same _ _ _ t0'
      clear t0' t1' t1''
      have zf10 : ∀ j, W3.frozen? ⟨r10, j, none⟩ = false := fun j => by rw [hW3]; simp only [set_frozen]; exact zf j
      have yy0 := (HYY.out W3 HE3.out).1
      have zz0 := (HZZ.out W3 HE3.out).1
      have zz1 := (HZZ.out W3 HE3.out).2
      clear HC2 HE2 x0 x1
      go_upto_region 27 with fail
      rw [← hW3]
      clear hW3 k3 kf y0 y1 yf z0 z1 zf
      go_wp2_with fail
      refine (HUQ.out _).mono ?_
      rintro e w5 ⟨rfl, hex5⟩
      have p0 := hex5.cell (fun e => e) u0
      have p1 := hex5.cell (fun e => e) u1
      have pf := fun j => (hex5.frozen (q := r9) (j := j) (fun e => e) (World.block_lt_of_cell? _ _ u0)).trans (uf j)
      have s0 := hex5.cell (fun e => e) t0
      have s1 := hex5.cell (fun e => e) t1
      have sf := fun j => (hex5.frozen (q := r10) (j := j) (fun e => e) (World.block_lt_of_cell? _ _ t0)).trans (zf10 j)
      have HC5 := hide (HC3.out.other hex5 (fun e => e))
      have HE5 := hide (HE3.out.trans (hex5.mono (fun _ z => z.elim)))
      have k4 := HC5.out.c4
      have kf := HC5.out.fr
      clear HC3 HE3 hex5 u0 u1 uf t0 t1 yy0 zz0 zz1 zf10
      obtain ⟨W6, hW6⟩ : ∃ V, V = (((w5.setCell ⟨q, 4, none⟩ (.int .i64 zv)).setCell ⟨r10, 0, none⟩ (.int .i64 0)).setCell ⟨r10, 1, none⟩ (.int .i64 0)) := ⟨_, rfl⟩
      have HC6 : Hid (CS W6 q { { c with pr := uv } with ln := zv }) := by rw [hW6]; exact (HC5.out.put4 zv).other (((Ex.refl (fun k => k = r10) _).set (p := r10) (j := 0) rfl _).set (p := r10) (j := 1) rfl _) n2
      have HE6 : Hid (Ex (fun k => k = q) w W6) := by rw [hW6]; exact ((HE5.out.set (p := q) (j := 4) rfl (.int .i64 zv)).setNew n5 _).setNew n5 _
      have U0 : W6.cell? ⟨r9, 0, none⟩ = some (.int .i64 0) := by rw [hW6]; simp [set_cell_ne, n1, n2, n3, Ne.symm n1, Ne.symm n2, p0]
      have U1 : W6.cell? ⟨r9, 1, none⟩ = some (.int .i64 0) := by rw [hW6]; simp [set_cell_ne, n1, n2, n3, Ne.symm n1, Ne.symm n2, p1]
      have Uf : ∀ j, W6.frozen? ⟨r9, j, none⟩ = false := fun j => by rw [hW6]; simp only [set_frozen]; exact pf j
      have t0x : (w5.setCell ⟨q, 4, none⟩ (.int .i64 zv)).cell? ⟨r10, 0, none⟩ = some (.int .i64 0) := by simp [set_cell_ne, n1, n2, n3, Ne.symm n1, Ne.symm n2, s0]
      have t1x : (w5.setCell ⟨q, 4, none⟩ (.int .i64 zv)).cell? ⟨r10, 1, none⟩ = some (.int .i64 0) := by simp [set_cell_ne, n1, n2, n3, Ne.symm n1, Ne.symm n2, s1]
      have t1y : ((w5.setCell ⟨q, 4, none⟩ (.int .i64 zv)).setCell ⟨r10, 0, none⟩ (.int .i64 0)).cell? ⟨r10, 1, none⟩ = some (.int .i64 0) := by rw [set_at _ _ _ _ _ _ t0x, if_neg (by omega)]; exact t1x
      have T1 : W6.cell? ⟨r10, 1, none⟩ = some (.int .i64 0) := by rw [hW6]; exact World.cell?_setCell_same _ _ _ t1y
      have T0 : W6.cell? ⟨r10, 0, none⟩ = some (.int .i64 0) := by rw [hW6, set_at _ _ _ _ _ _ t1y, if_neg (by omega)]; exact World.cell?_setCell_same _ _ _ t0x
      clear t0x t1x t1y
      have Zf : ∀ j, W6.frozen? ⟨r10, j, none⟩ = false := fun j => by rw [hW6]; simp only [set_frozen]; exact sf j
      have kk3 := HC6.out.c3
      have kk4 := HC6.out.c4
      try simp only [] at kk3 kk4
      have xx1 := HXX.out W6 HE6.out
      go_upto_region 30 with fail
      rw [← hW6]
      clear hW6 k4 kf p0 p1 pf s0 s1 sf HC5 HE5
      go_quiet (first | (go_at_call 79; refine Calls.quiet_of_same (HGP.out _)))
      have hEQ : Ex (fun _ => False) W6 (W6.drewN nq) := (Ex.refl _ _).drewN nq
      have u0 := hEQ.cell (fun e => e) U0
      have u1 := hEQ.cell (fun e => e) U1
      have uf := fun j => (hEQ.frozen (q := r9) (j := j) (fun e => e) (World.block_lt_of_cell? _ _ U0)).trans (Uf j)
      have t0 := hEQ.cell (fun e => e) T0
      have t1 := hEQ.cell (fun e => e) T1
      have zf10 := fun j => (hEQ.frozen (q := r10) (j := j) (fun e => e) (World.block_lt_of_cell? _ _ T0)).trans (Zf j)
      have xx1 := hEQ.cell (fun e => e) xx1
      have HC4 := hide (HC6.out.other hEQ (fun e => e))
      have HE4 : Hid (Ex (fun k => k = q) w (W6.drewN nq)) := HE6.out.drewN nq
      clear hEQ
      generalize W6.drewN nq = W4 at *
      clear HC6 HE6 kk3 kk4 U0 U1 Uf T0 T1 Zf
      go_upto_region 32 with fail
      have HF : Hid (Ex (fun k => k = q) w ((W4.setCell ⟨r9, 0, none⟩ (.int .i64 0)).setCell ⟨r9, 1, none⟩ (.int .i64 0)).drew) := ((HE4.out.setNew n4 _).setNew n4 _).drew
      have HG := hide (HC4.out.other ((((Ex.refl (fun k => k = r9) W4).set (p := r9) (j := 0) rfl (.int .i64 0)).set (p := r9) (j := 1) rfl (.int .i64 0)).drew) n1)
      clear HC4 HE4
      go_upto_region 32 with fail
      go_region
      go_wp2
      exact bodyPost_ret (v := .tuple #[.int .i64 3, .agg #[.int .i64 0, .int .i64 0]]) (by simp [results, Try.results67, go_sem, u0, u1]) rfl ⟨rfl, HG.out, HF.out⟩
  · rw [if_neg hz] at HPF HUQ
    obtain rfl : pe = ze := HPF.out
    have hzb : (pe == 0) = false := by simpa using hz
    rw [if_neg hz, if_neg hz]
    go_enter Try.func67, Try.ntmps67
    go_upto_region 2 with fail
    obtain ⟨W, hW⟩ : ∃ W, W = (w.alloc (.cells #[.int .i64 0, .int .i64 0] 109)).alloc (.cells #[.int .i64 0, .int .i64 0] 109) := ⟨_, rfl⟩
    have hr9l : w.heap.size < W.heap.size := by rw [hW]; simp; omega
    have hr10l : w.heap.size + 1 < W.heap.size := by rw [hW]; simp
    rw [← hW] at HE HC d0 d1 df b0 b1 h3 x0 x1 ⊢
    clear hW
    obtain ⟨r10, hr10⟩ : ∃ r, w.heap.size + 1 = r := ⟨_, rfl⟩
    rw [hr10] at b0 b1 h3 hr10l ⊢
    obtain ⟨r9, hr9⟩ : ∃ r, w.heap.size = r := ⟨_, rfl⟩
    rw [hr9] at d0 d1 df hr9l ⊢
    have n1 : q ≠ r9 := by omega
    have n2 : q ≠ r10 := by omega
    have n3 : r9 ≠ r10 := by omega
    have n4 : w.heap.size ≤ r9 := by omega
    have n5 : w.heap.size ≤ r10 := by omega
    clear hr9 hr10 hql
    go_wp2_with fail
    refine (HUP.out _).mono ?_
    rintro e w2 ⟨rfl, hex2⟩
    have y0 := hex2.cell (fun e => e) d0
    have y1 := hex2.cell (fun e => e) d1
    have z0 := hex2.cell (fun e => e) b0
    have z1 := hex2.cell (fun e => e) b1
    have yf := fun j => (hex2.frozen (q := r9) (j := j) (fun e => e) hr9l).trans (df j)
    have zf := fun j => (hex2.frozen (q := r10) (j := j) (fun e => e) hr10l).trans (h3 j)
    have HC2 := hide (HC.out.other hex2 (fun e => e))
    have HE2 : Hid (Ex (fun k => k = q) w w2) := (HE.out.trans hex2).mono (fun _ z => z.elim)
    clear hex2 HC HE d0 d1 b0 b1 df h3
    have k3 := HC2.out.c3
    have kf := HC2.out.fr
    obtain ⟨W3, hW3⟩ : ∃ V, V = (((w2.setCell ⟨q, 3, none⟩ (.int .i64 uv)).setCell ⟨r10, 0, none⟩ (.int .i64 0)).setCell ⟨r10, 1, none⟩ (.int .i64 0)) := ⟨_, rfl⟩
    have HC3 : Hid (CS W3 q { c with pr := uv }) := by rw [hW3]; exact (HC2.out.put3 uv).other (((Ex.refl (fun k => k = r10) _).set (p := r10) (j := 0) rfl _).set (p := r10) (j := 1) rfl _) n2
    have HE3 : Hid (Ex (fun k => k = q) w W3) := by rw [hW3]; exact ((HE2.out.set (p := q) (j := 3) rfl (.int .i64 uv)).setNew n5 _).setNew n5 _
    have u0 : W3.cell? ⟨r9, 0, none⟩ = some (.int .i64 0) := by rw [hW3]; simp [set_cell_ne, n1, n2, n3, Ne.symm n1, Ne.symm n2, y0]
    have u1 : W3.cell? ⟨r9, 1, none⟩ = some (.int .i64 0) := by rw [hW3]; simp [set_cell_ne, n1, n2, n3, Ne.symm n1, Ne.symm n2, y1]
    have uf : ∀ j, W3.frozen? ⟨r9, j, none⟩ = false := fun j => by rw [hW3]; simp only [set_frozen]; exact yf j
    have t0' : (w2.setCell ⟨q, 3, none⟩ (.int .i64 uv)).cell? ⟨r10, 0, none⟩ = some (.int .i64 0) := by simp [set_cell_ne, n1, n2, n3, Ne.symm n1, Ne.symm n2, z0]
    have t1' : (w2.setCell ⟨q, 3, none⟩ (.int .i64 uv)).cell? ⟨r10, 1, none⟩ = some (.int .i64 0) := by simp [set_cell_ne, n1, n2, n3, Ne.symm n1, Ne.symm n2, z1]
    have t1'' : ((w2.setCell ⟨q, 3, none⟩ (.int .i64 uv)).setCell ⟨r10, 0, none⟩ (.int .i64 0)).cell? ⟨r10, 1, none⟩ = some (.int .i64 0) := by rw [set_at _ _ _ _ _ _ t0', if_neg (by omega)]; exact t1'
    have t1 : W3.cell? ⟨r10, 1, none⟩ = some (.int .i64 0) := by rw [hW3]; exact World.cell?_setCell_same _ _ _ t1''
    have t0 : W3.cell? ⟨r10, 0, none⟩ = some (.int .i64 0) := by rw [hW3, set_at _ _ _ _ _ _ t1'', if_neg (by omega)]; exact World.cell?_setCell_same _ _ _ t0'
    clear t0' t1' t1''
    have zf10 : ∀ j, W3.frozen? ⟨r10, j, none⟩ = false := fun j => by rw [hW3]; simp only [set_frozen]; exact zf j
    have yy0 := (HYY.out W3 HE3.out).1
    have zz0 := (HZZ.out W3 HE3.out).1
    have zz1 := (HZZ.out W3 HE3.out).2
    clear HC2 HE2 x0 x1
    go_upto_region 27 with fail
    rw [← hW3]
    clear hW3 k3 kf y0 y1 yf z0 z1 zf
    go_wp2_with fail
    refine (HUQ.out _).mono ?_
    rintro e w5 ⟨rfl, hex5⟩
    have p0 := hex5.cell (fun e => e) u0
    have p1 := hex5.cell (fun e => e) u1
    have pf := fun j => (hex5.frozen (q := r9) (j := j) (fun e => e) (World.block_lt_of_cell? _ _ u0)).trans (uf j)
    have s0 := hex5.cell (fun e => e) t0
    have s1 := hex5.cell (fun e => e) t1
    have sf := fun j => (hex5.frozen (q := r10) (j := j) (fun e => e) (World.block_lt_of_cell? _ _ t0)).trans (zf10 j)
    have HC5 := hide (HC3.out.other hex5 (fun e => e))
    have HE5 := hide (HE3.out.trans (hex5.mono (fun _ z => z.elim)))
    have k4 := HC5.out.c4
    have kf := HC5.out.fr
    clear HC3 HE3 hex5 u0 u1 uf t0 t1 yy0 zz0 zz1 zf10
    obtain ⟨W6, hW6⟩ : ∃ V, V = (((w5.setCell ⟨q, 4, none⟩ (.int .i64 zv)).setCell ⟨r10, 0, none⟩ (.int .i64 pe)).setCell ⟨r10, 1, none⟩ (.int .i64 z.q)) := ⟨_, rfl⟩
    have HC6 : Hid (CS W6 q { { c with pr := uv } with ln := zv }) := by rw [hW6]; exact (HC5.out.put4 zv).other (((Ex.refl (fun k => k = r10) _).set (p := r10) (j := 0) rfl _).set (p := r10) (j := 1) rfl _) n2
    have HE6 : Hid (Ex (fun k => k = q) w W6) := by rw [hW6]; exact ((HE5.out.set (p := q) (j := 4) rfl (.int .i64 zv)).setNew n5 _).setNew n5 _
    have U0 : W6.cell? ⟨r9, 0, none⟩ = some (.int .i64 0) := by rw [hW6]; simp [set_cell_ne, n1, n2, n3, Ne.symm n1, Ne.symm n2, p0]
    have U1 : W6.cell? ⟨r9, 1, none⟩ = some (.int .i64 0) := by rw [hW6]; simp [set_cell_ne, n1, n2, n3, Ne.symm n1, Ne.symm n2, p1]
    have Uf : ∀ j, W6.frozen? ⟨r9, j, none⟩ = false := fun j => by rw [hW6]; simp only [set_frozen]; exact pf j
    have t0x : (w5.setCell ⟨q, 4, none⟩ (.int .i64 zv)).cell? ⟨r10, 0, none⟩ = some (.int .i64 0) := by simp [set_cell_ne, n1, n2, n3, Ne.symm n1, Ne.symm n2, s0]
    have t1x : (w5.setCell ⟨q, 4, none⟩ (.int .i64 zv)).cell? ⟨r10, 1, none⟩ = some (.int .i64 0) := by simp [set_cell_ne, n1, n2, n3, Ne.symm n1, Ne.symm n2, s1]
    have t1y : ((w5.setCell ⟨q, 4, none⟩ (.int .i64 zv)).setCell ⟨r10, 0, none⟩ (.int .i64 pe)).cell? ⟨r10, 1, none⟩ = some (.int .i64 0) := by rw [set_at _ _ _ _ _ _ t0x, if_neg (by omega)]; exact t1x
    have T1 : W6.cell? ⟨r10, 1, none⟩ = some (.int .i64 z.q) := by rw [hW6]; exact World.cell?_setCell_same _ _ _ t1y
    have T0 : W6.cell? ⟨r10, 0, none⟩ = some (.int .i64 pe) := by rw [hW6, set_at _ _ _ _ _ _ t1y, if_neg (by omega)]; exact World.cell?_setCell_same _ _ _ t0x
    clear t0x t1x t1y
    have Zf : ∀ j, W6.frozen? ⟨r10, j, none⟩ = false := fun j => by rw [hW6]; simp only [set_frozen]; exact sf j
    have kk3 := HC6.out.c3
    have kk4 := HC6.out.c4
    try simp only [] at kk3 kk4
    have xx1 := HXX.out W6 HE6.out
    go_upto_region 30 with fail
    rw [← hW6]
    clear hW6 k4 kf p0 p1 pf s0 s1 sf HC5 HE5
    go_quiet (first | (go_at_call 79; refine Calls.quiet_of_same (HGP.out _)))
    have hEQ : Ex (fun _ => False) W6 (W6.drewN nq) := (Ex.refl _ _).drewN nq
    have u0 := hEQ.cell (fun e => e) U0
    have u1 := hEQ.cell (fun e => e) U1
    have uf := fun j => (hEQ.frozen (q := r9) (j := j) (fun e => e) (World.block_lt_of_cell? _ _ U0)).trans (Uf j)
    have t0 := hEQ.cell (fun e => e) T0
    have t1 := hEQ.cell (fun e => e) T1
    have zf10 := fun j => (hEQ.frozen (q := r10) (j := j) (fun e => e) (World.block_lt_of_cell? _ _ T0)).trans (Zf j)
    have xx1 := hEQ.cell (fun e => e) xx1
    have HC4 := hide (HC6.out.other hEQ (fun e => e))
    have HE4 : Hid (Ex (fun k => k = q) w (W6.drewN nq)) := HE6.out.drewN nq
    clear hEQ
    generalize W6.drewN nq = W4 at *
    clear HC6 HE6 kk3 kk4 U0 U1 Uf T0 T1 Zf
    go_upto_region 32 with fail
    have HF : Hid (Ex (fun k => k = q) w ((W4.setCell ⟨r9, 0, none⟩ (.int .i64 pe)).setCell ⟨r9, 1, none⟩ (.int .i64 z.q)).drew) := ((HE4.out.setNew n4 _).setNew n4 _).drew
    have HG := hide (HC4.out.other ((((Ex.refl (fun k => k = r9) W4).set (p := r9) (j := 0) rfl (.int .i64 pe)).set (p := r9) (j := 1) rfl (.int .i64 z.q)).drew) n1)
    clear HC4 HE4
    go_upto_region 32 with fail
    go_region
    go_wp2
    exact bodyPost_ret (v := .tuple #[.int .i64 3, .agg #[.int .i64 pe, .int .i64 z.q]]) (by simp [results, Try.results67, go_sem, u0, u1]) rfl ⟨rfl, HG.out, HF.out⟩
end Go.Proofs.Qxb6500778a
