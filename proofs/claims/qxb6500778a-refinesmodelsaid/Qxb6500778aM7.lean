import Derived.Test.Qxb6500778aM6
namespace Go.Proofs.Qxb6500778a
open Go.RowKit

def lkE (l : List Int) (d : Int) : Int := if uE true l 15 = 0 then (if uV true l 15 ≤ d then 3 else 0) else uE true l 15
set_option linter.unusedSimpArgs false in
set_option maxRecDepth 100000 in
set_option maxHeartbeats 8000000 in
theorem slot_L (w : World) (g vc n q : Nat) (L : List Wd) (c : Chg) (i : Nat) (x : Wd) (h : WS w g vc n q L c) (hi : L[i]? = some x) :
    Calls Try.prog 67 #[.string ⟨#[76]⟩, .slice (some ⟨g, 0, none⟩) n vc, .int .i64 i, .pointer (some ⟨q, 0, none⟩)] w (SlPost w q { c with hp := uV true x.t 15 } 1 (lkE x.t c.dv) (if lkE x.t c.dv = 0 then 0 else x.q)) := by
  obtain ⟨x0, x1, hxs, hxl, hin⟩ := h.wd hi
  have hn1 := h.sm
  have hii : (i : Int) < (n : Int) := by omega
  obtain ⟨h1, h2, h3, h4⟩ := two_new w [.int .i64 0, .int .i64 0] [.int .i64 0, .int .i64 0] 109 109
  have d0 := h1 0 _ rfl
  have d1 := h1 1 _ rfl
  have b0 := h2 0 _ rfl
  have b1 := h2 1 _ rfl
  have df : ∀ j, ((w.alloc (.cells #[.int .i64 0, .int .i64 0] 109)).alloc (.cells #[.int .i64 0, .int .i64 0] 109)).frozen? ⟨w.heap.size, j, none⟩ = false := fun j => by simp [go_sem]
  have HE := hide h4
  have HC := hide (h.cs.other h4 (fun e => e))
  have hql := h.lt
  have x0 := h4.cell (fun e => e) x0
  have x1 := h4.cell (fun e => e) x1
  have hgq := h.gq
  have HWS := hide (show Hid (WS w g vc n q L c) from h)
  clear h1 h2 h4 h hn1
  have HUP := hide (fun V => upTo_r V (strOfNums x.t) x.t x.q 15 hxs hxl)
  have HLK : Hid (lkE x.t c.dv = if uE true x.t 15 = 0 then (if uV true x.t 15 ≤ c.dv then 3 else 0) else uE true x.t 15) := rfl
  obtain ⟨ue, hue⟩ : ∃ e, uE true x.t 15 = e := ⟨_, rfl⟩
  obtain ⟨uv, huv⟩ : ∃ e, uV true x.t 15 = e := ⟨_, rfl⟩
  rw [hue, huv] at HUP HLK
  rw [huv]
  obtain ⟨le, hle⟩ : ∃ e, lkE x.t c.dv = e := ⟨_, rfl⟩
  rw [hle] at HLK ⊢
  unfold fltV at HUP
  clear hue huv hle
  have HXX : Hid (∀ V, Ex (fun k => k = q) w V → V.cell? ⟨g, i * 2 + 1, none⟩ = some (.int .i64 x.q)) := fun V hV => hV.cell hgq (HWS.out.out.wd hi).2.1
  by_cases hz : ue = 0
  · rw [if_pos hz] at HLK HUP
    subst hz
    by_cases hl : uv ≤ c.dv
    · rw [if_pos hl] at HLK
      obtain rfl : le = 3 := HLK.out
      have dl : decide (uv ≤ c.dv) = true := decide_eq_true hl
      rw [if_neg (by decide)]
      go_enter Try.func67, Try.ntmps67
      go_upto_region 2 with fail
      obtain ⟨W, hW⟩ : ∃ W, W = (w.alloc (.cells #[.int .i64 0, .int .i64 0] 109)).alloc (.cells #[.int .i64 0, .int .i64 0] 109) := ⟨_, rfl⟩
      have hr9l : w.heap.size < W.heap.size := by rw [hW]; simp; omega
      have hr10l : w.heap.size + 1 < W.heap.size := by rw [hW]; simp
      rw [← hW] at HE HC d0 d1 df b0 b1 h3 x0 x1 ⊢
      clear hW
      obtain ⟨r10, hr10⟩ : ∃ r, w.heap.size + 1 = r := ⟨_, rfl⟩
      rw [hr10] at b0 b1 h3 hr10l ⊢
      obtain ⟨r9, hr9⟩ : ∃ r, w.heap.size = r := ⟨_, rfl⟩
      rw [hr9] at d0 d1 df hr9l ⊢
      have n1 : q ≠ r9 := by omega
      have n2 : q ≠ r10 := by omega
      have n3 : r9 ≠ r10 := by omega
      have n4 : w.heap.size ≤ r9 := by omega
      have n5 : w.heap.size ≤ r10 := by omega
      clear hr9 hr10 hql
      go_wp2_with fail
      refine (HUP.out _).mono ?_
      rintro e w2 ⟨rfl, hex2⟩
      have y0 := hex2.cell (fun e => e) d0
      have y1 := hex2.cell (fun e => e) d1
      have z0 := hex2.cell (fun e => e) b0
      have z1 := hex2.cell (fun e => e) b1
      have yf := fun j => (hex2.frozen (q := r9) (j := j) (fun e => e) hr9l).trans (df j)
      have zf := fun j => (hex2.frozen (q := r10) (j := j) (fun e => e) hr10l).trans (h3 j)
      have HC2 := hide (HC.out.other hex2 (fun e => e))
      have HE2 : Hid (Ex (fun k => k = q) w w2) := (HE.out.trans hex2).mono (fun _ z => z.elim)
      clear hex2 HC HE d0 d1 b0 b1 df h3
      have k2 := HC2.out.c2
      have kf := HC2.out.fr
      obtain ⟨W3, hW3⟩ : ∃ V, V = (((w2.setCell ⟨q, 2, none⟩ (.int .i64 uv)).setCell ⟨r10, 0, none⟩ (.int .i64 0)).setCell ⟨r10, 1, none⟩ (.int .i64 0)) := ⟨_, rfl⟩
      have HC3 : Hid (CS W3 q { c with hp := uv }) := by rw [hW3]; exact (HC2.out.put2 uv).other (((Ex.refl (fun k => k = r10) _).set (p := r10) (j := 0) rfl _).set (p := r10) (j := 1) rfl _) n2
      have HE3 : Hid (Ex (fun k => k = q) w W3) := by rw [hW3]; exact ((HE2.out.set (p := q) (j := 2) rfl (.int .i64 uv)).setNew n5 _).setNew n5 _
      have u0 : W3.cell? ⟨r9, 0, none⟩ = some (.int .i64 0) := by rw [hW3]; simp [set_cell_ne, n1, n2, n3, Ne.symm n1, Ne.symm n2, y0]
      have u1 : W3.cell? ⟨r9, 1, none⟩ = some (.int .i64 0) := by rw [hW3]; simp [set_cell_ne, n1, n2, n3, Ne.symm n1, Ne.symm n2, y1]
      have uf : ∀ j, W3.frozen? ⟨r9, j, none⟩ = false := fun j => by rw [hW3]; simp only [set_frozen]; exact yf j
      have t0' : (w2.setCell ⟨q, 2, none⟩ (.int .i64 uv)).cell? ⟨r10, 0, none⟩ = some (.int .i64 0) := by simp [set_cell_ne, n1, n2, n3, Ne.symm n1, Ne.symm n2, z0]
      have t1' : (w2.setCell ⟨q, 2, none⟩ (.int .i64 uv)).cell? ⟨r10, 1, none⟩ = some (.int .i64 0) := by simp [set_cell_ne, n1, n2, n3, Ne.symm n1, Ne.symm n2, z1]
      have t1'' : ((w2.setCell ⟨q, 2, none⟩ (.int .i64 uv)).setCell ⟨r10, 0, none⟩ (.int .i64 0)).cell? ⟨r10, 1, none⟩ = some (.int .i64 0) := by rw [set_at _ _ _ _ _ _ t0', if_neg (by omega)]; exact t1'
      have t1 : W3.cell? ⟨r10, 1, none⟩ = some (.int .i64 0) := by rw [hW3]; exact World.cell?_setCell_same _ _ _ t1''
      have t0 : W3.cell? ⟨r10, 0, none⟩ = some (.int .i64 0) := by rw [hW3, set_at _ _ _ _ _ _ t1'', if_neg (by omega)]; exact World.cell?_setCell_same _ _ _ t0'
      clear t0' t1' t1''
      clear HC2 HE2
      have zf10 : ∀ j, W3.frozen? ⟨r10, j, none⟩ = false := fun j => by rw [hW3]; simp only [set_frozen]; exact zf j
      have kk1 := HC3.out.c1
      have kk2 := HC3.out.c2
      have xx1 : W3.cell? ⟨g, i * 2 + 1, none⟩ = some (.int .i64 x.q) := HXX.out W3 HE3.out
      go_upto_region 11 with fail
      rw [← hW3]
      clear hW3 k2 kf y0 y1 yf z0 z1 zf x0 x1
      try simp only [] at kk1 kk2
      go_quiet (fail)
      have hEQ : Ex (fun _ => False) W3 (W3.drewN nq) := (Ex.refl _ _).drewN nq
      have uf := fun j => (hEQ.frozen (q := r9) (j := j) (fun e => e) (World.block_lt_of_cell? _ _ u0)).trans (uf j)
      have zf10 := fun j => (hEQ.frozen (q := r10) (j := j) (fun e => e) (World.block_lt_of_cell? _ _ t0)).trans (zf10 j)
      have u0 := hEQ.cell (fun e => e) u0
      have u1 := hEQ.cell (fun e => e) u1
      have t0 := hEQ.cell (fun e => e) t0
      have t1 := hEQ.cell (fun e => e) t1
      have xx1 := hEQ.cell (fun e => e) xx1
      clear hEQ
      have HC4 := hide (HC3.out.other ((Ex.refl (fun _ => False) W3).drewN nq) (fun e => e))
      have HE4 : Hid (Ex (fun k => k = q) w (W3.drewN nq)) := HE3.out.drewN nq
      generalize W3.drewN nq = W4 at *
      clear HC3 HE3 kk1 kk2
      go_upto_region 12 with fail
      have g1' : (W4.setCell ⟨r10, 0, none⟩ (.int .i64 3)).cell? ⟨r10, 1, none⟩ = some (.int .i64 0) := by rw [set_at _ _ _ _ _ _ t0, if_neg (by omega)]; exact t1
      have hex5 : Ex (fun k => k = r10) W4 ((W4.setCell ⟨r10, 0, none⟩ (.int .i64 3)).setCell ⟨r10, 1, none⟩ (.int .i64 x.q)) := ((Ex.refl (fun k => k = r10) _).set (p := r10) (j := 0) rfl _).set (p := r10) (j := 1) rfl _
      have HC5 := hide (HC4.out.other hex5 n2)
      have HE5 : Hid (Ex (fun k => k = q) w ((W4.setCell ⟨r10, 0, none⟩ (.int .i64 3)).setCell ⟨r10, 1, none⟩ (.int .i64 x.q))) := (HE4.out.setNew n5 _).setNew n5 _
      have v1 : ((W4.setCell ⟨r10, 0, none⟩ (.int .i64 3)).setCell ⟨r10, 1, none⟩ (.int .i64 x.q)).cell? ⟨r10, 1, none⟩ = some (.int .i64 x.q) := World.cell?_setCell_same _ _ _ g1'
      have v0 : ((W4.setCell ⟨r10, 0, none⟩ (.int .i64 3)).setCell ⟨r10, 1, none⟩ (.int .i64 x.q)).cell? ⟨r10, 0, none⟩ = some (.int .i64 3) := by rw [set_at _ _ _ _ _ _ g1', if_neg (by omega)]; exact World.cell?_setCell_same _ _ _ t0
      have s0 := hex5.cell (q := r9) n3 u0
      have s1 := hex5.cell (q := r9) n3 u1
      have sf : ∀ j, ((W4.setCell ⟨r10, 0, none⟩ (.int .i64 3)).setCell ⟨r10, 1, none⟩ (.int .i64 x.q)).frozen? ⟨r9, j, none⟩ = false := fun j => by simp only [set_frozen]; exact uf j
      clear g1'
      go_upto_region 33 with fail
      generalize (W4.setCell ⟨r10, 0, none⟩ (.int .i64 3)).setCell ⟨r10, 1, none⟩ (.int .i64 x.q) = W5 at *
      clear u0 u1 uf t0 t1 HC4 HE4 hex5 xx1
      have u0 := s0
      have u1 := s1
      have HF : Hid (Ex (fun k => k = q) w ((W5.setCell ⟨r9, 0, none⟩ (.int .i64 3)).setCell ⟨r9, 1, none⟩ (.int .i64 x.q)).drew) := ((HE5.out.setNew n4 _).setNew n4 _).drew
      have HG := hide (HC5.out.other ((((Ex.refl (fun k => k = r9) W5).set (p := r9) (j := 0) rfl (.int .i64 3)).set (p := r9) (j := 1) rfl (.int .i64 x.q)).drew) n1)
      clear HC5 HE5
      go_upto_region 33 with fail
      go_region
      go_wp2
      exact bodyPost_ret (v := .tuple #[.int .i64 1, .agg #[.int .i64 3, .int .i64 x.q]]) (by simp [results, Try.results67, go_sem, u0, u1]) rfl ⟨rfl, HG.out, HF.out⟩
    · rw [if_neg hl] at HLK
      obtain rfl : le = 0 := HLK.out
      have dl : decide (uv ≤ c.dv) = false := decide_eq_false hl
      rw [if_pos rfl]
      go_enter Try.func67, Try.ntmps67
      go_upto_region 2 with fail
      obtain ⟨W, hW⟩ : ∃ W, W = (w.alloc (.cells #[.int .i64 0, .int .i64 0] 109)).alloc (.cells #[.int .i64 0, .int .i64 0] 109) := ⟨_, rfl⟩
      have hr9l : w.heap.size < W.heap.size := by rw [hW]; simp; omega
      have hr10l : w.heap.size + 1 < W.heap.size := by rw [hW]; simp
      rw [← hW] at HE HC d0 d1 df b0 b1 h3 x0 x1 ⊢
      clear hW
      obtain ⟨r10, hr10⟩ : ∃ r, w.heap.size + 1 = r := ⟨_, rfl⟩
      rw [hr10] at b0 b1 h3 hr10l ⊢
      obtain ⟨r9, hr9⟩ : ∃ r, w.heap.size = r := ⟨_, rfl⟩
      rw [hr9] at d0 d1 df hr9l ⊢
      have n1 : q ≠ r9 := by omega
      have n2 : q ≠ r10 := by omega
      have n3 : r9 ≠ r10 := by omega
      have n4 : w.heap.size ≤ r9 := by omega
      have n5 : w.heap.size ≤ r10 := by omega
      clear hr9 hr10 hql
      go_wp2_with fail
      refine (HUP.out _).mono ?_
      rintro e w2 ⟨rfl, hex2⟩
      have y0 := hex2.cell (fun e => e) d0
      have y1 := hex2.cell (fun e => e) d1
      have z0 := hex2.cell (fun e => e) b0
      have z1 := hex2.cell (fun e => e) b1
      have yf := fun j => (hex2.frozen (q := r9) (j := j) (fun e => e) hr9l).trans (df j)
      have zf := fun j => (hex2.frozen (q := r10) (j := j) (fun e => e) hr10l).trans (h3 j)
      have HC2 := hide (HC.out.other hex2 (fun e => e))
      have HE2 : Hid (Ex (fun k => k = q) w w2) := (HE.out.trans hex2).mono (fun _ z => z.elim)
      clear hex2 HC HE d0 d1 b0 b1 df h3
      have k2 := HC2.out.c2
      have kf := HC2.out.fr
      obtain ⟨W3, hW3⟩ : ∃ V, V = (((w2.setCell ⟨q, 2, none⟩ (.int .i64 uv)).setCell ⟨r10, 0, none⟩ (.int .i64 0)).setCell ⟨r10, 1, none⟩ (.int .i64 0)) := ⟨_, rfl⟩
      have HC3 : Hid (CS W3 q { c with hp := uv }) := by rw [hW3]; exact (HC2.out.put2 uv).other (((Ex.refl (fun k => k = r10) _).set (p := r10) (j := 0) rfl _).set (p := r10) (j := 1) rfl _) n2
      have HE3 : Hid (Ex (fun k => k = q) w W3) := by rw [hW3]; exact ((HE2.out.set (p := q) (j := 2) rfl (.int .i64 uv)).setNew n5 _).setNew n5 _
      have u0 : W3.cell? ⟨r9, 0, none⟩ = some (.int .i64 0) := by rw [hW3]; simp [set_cell_ne, n1, n2, n3, Ne.symm n1, Ne.symm n2, y0]
      have u1 : W3.cell? ⟨r9, 1, none⟩ = some (.int .i64 0) := by rw [hW3]; simp [set_cell_ne, n1, n2, n3, Ne.symm n1, Ne.symm n2, y1]
      have uf : ∀ j, W3.frozen? ⟨r9, j, none⟩ = false := fun j => by rw [hW3]; simp only [set_frozen]; exact yf j
      have t0' : (w2.setCell ⟨q, 2, none⟩ (.int .i64 uv)).cell? ⟨r10, 0, none⟩ = some (.int .i64 0) := by simp [set_cell_ne, n1, n2, n3, Ne.symm n1, Ne.symm n2, z0]
      have t1' : (w2.setCell ⟨q, 2, none⟩ (.int .i64 uv)).cell? ⟨r10, 1, none⟩ = some (.int .i64 0) := by simp [set_cell_ne, n1, n2, n3, Ne.symm n1, Ne.symm n2, z1]
      have t1'' : ((w2.setCell ⟨q, 2, none⟩ (.int .i64 uv)).setCell ⟨r10, 0, none⟩ (.int .i64 0)).cell? ⟨r10, 1, none⟩ = some (.int .i64 0) := by rw [set_at _ _ _ _ _ _ t0', if_neg (by omega)]; exact t1'
      have t1 : W3.cell? ⟨r10, 1, none⟩ = some (.int .i64 0) := by rw [hW3]; exact World.cell?_setCell_same _ _ _ t1''
      have t0 : W3.cell? ⟨r10, 0, none⟩ = some (.int .i64 0) := by rw [hW3, set_at _ _ _ _ _ _ t1'', if_neg (by omega)]; exact World.cell?_setCell_same _ _ _ t0'
      clear t0' t1' t1''
      clear HC2 HE2
      have zf10 : ∀ j, W3.frozen? ⟨r10, j, none⟩ = false := fun j => by rw [hW3]; simp only [set_frozen]; exact zf j
      have kk1 := HC3.out.c1
      have kk2 := HC3.out.c2
      have xx1 : W3.cell? ⟨g, i * 2 + 1, none⟩ = some (.int .i64 x.q) := HXX.out W3 HE3.out
      go_upto_region 11 with fail
      rw [← hW3]
      clear hW3 k2 kf y0 y1 yf z0 z1 zf x0 x1
      try simp only [] at kk1 kk2
      go_quiet (fail)
      have hEQ : Ex (fun _ => False) W3 (W3.drewN nq) := (Ex.refl _ _).drewN nq
      have uf := fun j => (hEQ.frozen (q := r9) (j := j) (fun e => e) (World.block_lt_of_cell? _ _ u0)).trans (uf j)
      have zf10 := fun j => (hEQ.frozen (q := r10) (j := j) (fun e => e) (World.block_lt_of_cell? _ _ t0)).trans (zf10 j)
      have u0 := hEQ.cell (fun e => e) u0
      have u1 := hEQ.cell (fun e => e) u1
      have t0 := hEQ.cell (fun e => e) t0
      have t1 := hEQ.cell (fun e => e) t1
      have xx1 := hEQ.cell (fun e => e) xx1
      clear hEQ
      have HC4 := hide (HC3.out.other ((Ex.refl (fun _ => False) W3).drewN nq) (fun e => e))
      have HE4 : Hid (Ex (fun k => k = q) w (W3.drewN nq)) := HE3.out.drewN nq
      generalize W3.drewN nq = W4 at *
      clear HC3 HE3 kk1 kk2
      go_upto_region 33 with fail
      have HF : Hid (Ex (fun k => k = q) w ((W4.setCell ⟨r9, 0, none⟩ (.int .i64 0)).setCell ⟨r9, 1, none⟩ (.int .i64 0)).drew) := ((HE4.out.setNew n4 _).setNew n4 _).drew
      have HG := hide (HC4.out.other ((((Ex.refl (fun k => k = r9) W4).set (p := r9) (j := 0) rfl (.int .i64 0)).set (p := r9) (j := 1) rfl (.int .i64 0)).drew) n1)
      clear HC4 HE4
      go_upto_region 33 with fail
      go_region
      go_wp2
      exact bodyPost_ret (v := .tuple #[.int .i64 1, .agg #[.int .i64 0, .int .i64 0]]) (by simp [results, Try.results67, go_sem, u0, u1]) rfl ⟨rfl, HG.out, HF.out⟩
  · rw [if_neg hz] at HLK HUP
    obtain rfl : le = ue := HLK.out
    have hzb : (le == 0) = false := by simpa using hz
    rw [if_neg hz]
    go_enter Try.func67, Try.ntmps67
    go_upto_region 2 with fail
    obtain ⟨W, hW⟩ : ∃ W, W = (w.alloc (.cells #[.int .i64 0, .int .i64 0] 109)).alloc (.cells #[.int .i64 0, .int .i64 0] 109) := ⟨_, rfl⟩
    have hr9l : w.heap.size < W.heap.size := by rw [hW]; simp; omega
    have hr10l : w.heap.size + 1 < W.heap.size := by rw [hW]; simp
    rw [← hW] at HE HC d0 d1 df b0 b1 h3 x0 x1 ⊢
    clear hW
    obtain ⟨r10, hr10⟩ : ∃ r, w.heap.size + 1 = r := ⟨_, rfl⟩
    rw [hr10] at b0 b1 h3 hr10l ⊢
    obtain ⟨r9, hr9⟩ : ∃ r, w.heap.size = r := ⟨_, rfl⟩
    rw [hr9] at d0 d1 df hr9l ⊢
    have n1 : q ≠ r9 := by omega
    have n2 : q ≠ r10 := by omega
    have n3 : r9 ≠ r10 := by omega
    have n4 : w.heap.size ≤ r9 := by omega
    have n5 : w.heap.size ≤ r10 := by omega
    clear hr9 hr10 hql
    go_wp2_with fail
    refine (HUP.out _).mono ?_
    rintro e w2 ⟨rfl, hex2⟩
    have y0 := hex2.cell (fun e => e) d0
    have y1 := hex2.cell (fun e => e) d1
    have z0 := hex2.cell (fun e => e) b0
    have z1 := hex2.cell (fun e => e) b1
    have yf := fun j => (hex2.frozen (q := r9) (j := j) (fun e => e) hr9l).trans (df j)
    have zf := fun j => (hex2.frozen (q := r10) (j := j) (fun e => e) hr10l).trans (h3 j)
    have HC2 := hide (HC.out.other hex2 (fun e => e))
    have HE2 : Hid (Ex (fun k => k = q) w w2) := (HE.out.trans hex2).mono (fun _ z => z.elim)
    clear hex2 HC HE d0 d1 b0 b1 df h3
    have k2 := HC2.out.c2
    have kf := HC2.out.fr
    obtain ⟨W3, hW3⟩ : ∃ V, V = (((w2.setCell ⟨q, 2, none⟩ (.int .i64 uv)).setCell ⟨r10, 0, none⟩ (.int .i64 le)).setCell ⟨r10, 1, none⟩ (.int .i64 x.q)) := ⟨_, rfl⟩
    have HC3 : Hid (CS W3 q { c with hp := uv }) := by rw [hW3]; exact (HC2.out.put2 uv).other (((Ex.refl (fun k => k = r10) _).set (p := r10) (j := 0) rfl _).set (p := r10) (j := 1) rfl _) n2
    have HE3 : Hid (Ex (fun k => k = q) w W3) := by rw [hW3]; exact ((HE2.out.set (p := q) (j := 2) rfl (.int .i64 uv)).setNew n5 _).setNew n5 _
    have u0 : W3.cell? ⟨r9, 0, none⟩ = some (.int .i64 0) := by rw [hW3]; simp [set_cell_ne, n1, n2, n3, Ne.symm n1, Ne.symm n2, y0]
    have u1 : W3.cell? ⟨r9, 1, none⟩ = some (.int .i64 0) := by rw [hW3]; simp [set_cell_ne, n1, n2, n3, Ne.symm n1, Ne.symm n2, y1]
    have uf : ∀ j, W3.frozen? ⟨r9, j, none⟩ = false := fun j => by rw [hW3]; simp only [set_frozen]; exact yf j
    have t0' : (w2.setCell ⟨q, 2, none⟩ (.int .i64 uv)).cell? ⟨r10, 0, none⟩ = some (.int .i64 0) := by simp [set_cell_ne, n1, n2, n3, Ne.symm n1, Ne.symm n2, z0]
    have t1' : (w2.setCell ⟨q, 2, none⟩ (.int .i64 uv)).cell? ⟨r10, 1, none⟩ = some (.int .i64 0) := by simp [set_cell_ne, n1, n2, n3, Ne.symm n1, Ne.symm n2, z1]
    have t1'' : ((w2.setCell ⟨q, 2, none⟩ (.int .i64 uv)).setCell ⟨r10, 0, none⟩ (.int .i64 le)).cell? ⟨r10, 1, none⟩ = some (.int .i64 0) := by rw [set_at _ _ _ _ _ _ t0', if_neg (by omega)]; exact t1'
    have t1 : W3.cell? ⟨r10, 1, none⟩ = some (.int .i64 x.q) := by rw [hW3]; exact World.cell?_setCell_same _ _ _ t1''
    have t0 : W3.cell? ⟨r10, 0, none⟩ = some (.int .i64 le) := by rw [hW3, set_at _ _ _ _ _ _ t1'', if_neg (by omega)]; exact World.cell?_setCell_same _ _ _ t0'
    clear t0' t1' t1''
    clear HC2 HE2
    have zf10 : ∀ j, W3.frozen? ⟨r10, j, none⟩ = false := fun j => by rw [hW3]; simp only [set_frozen]; exact zf j
    have kk1 := HC3.out.c1
    have kk2 := HC3.out.c2
    have xx1 : W3.cell? ⟨g, i * 2 + 1, none⟩ = some (.int .i64 x.q) := HXX.out W3 HE3.out
    go_upto_region 11 with fail
    rw [← hW3]
    clear hW3 k2 kf y0 y1 yf z0 z1 zf x0 x1
    try simp only [] at kk1 kk2
    go_quiet (fail)
    have hEQ : Ex (fun _ => False) W3 (W3.drewN nq) := (Ex.refl _ _).drewN nq
    have uf := fun j => (hEQ.frozen (q := r9) (j := j) (fun e => e) (World.block_lt_of_cell? _ _ u0)).trans (uf j)
    have zf10 := fun j => (hEQ.frozen (q := r10) (j := j) (fun e => e) (World.block_lt_of_cell? _ _ t0)).trans (zf10 j)
    have u0 := hEQ.cell (fun e => e) u0
    have u1 := hEQ.cell (fun e => e) u1
    have t0 := hEQ.cell (fun e => e) t0
    have t1 := hEQ.cell (fun e => e) t1
    have xx1 := hEQ.cell (fun e => e) xx1
    clear hEQ
    have HC4 := hide (HC3.out.other ((Ex.refl (fun _ => False) W3).drewN nq) (fun e => e))
    have HE4 : Hid (Ex (fun k => k = q) w (W3.drewN nq)) := HE3.out.drewN nq
    generalize W3.drewN nq = W4 at *
    clear HC3 HE3 kk1 kk2
    go_upto_region 33 with fail
    have HF : Hid (Ex (fun k => k = q) w ((W4.setCell ⟨r9, 0, none⟩ (.int .i64 le)).setCell ⟨r9, 1, none⟩ (.int .i64 x.q)).drew) := ((HE4.out.setNew n4 _).setNew n4 _).drew
    have HG := hide (HC4.out.other ((((Ex.refl (fun k => k = r9) W4).set (p := r9) (j := 0) rfl (.int .i64 le)).set (p := r9) (j := 1) rfl (.int .i64 x.q)).drew) n1)
    clear HC4 HE4
    go_upto_region 33 with fail
    go_region
    go_wp2
    exact bodyPost_ret (v := .tuple #[.int .i64 1, .agg #[.int .i64 le, .int .i64 x.q]]) (by simp [results, Try.results67, go_sem, u0, u1]) rfl ⟨rfl, HG.out, HF.out⟩
end Go.Proofs.Qxb6500778a
