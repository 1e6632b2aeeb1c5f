import Derived.Test.Qxb6500778aM5
namespace Go.Proofs.Qxb6500778a
open Go.RowKit

theorem wd_cells {w : World} {B : Nat} {v : Value} {L : List Wd} (h : w.ownsRow B 107 2 v L.length (flatW L)) {g c : Nat} (hv : v = .slice (some ⟨g, 0, none⟩) L.length c) {i : Nat} {x : Wd} (hi : L[i]? = some x) :
    w.cell? ⟨g, i * 2, none⟩ = some (.string (strOfNums x.t)) ∧ w.cell? ⟨g, i * 2 + 1, none⟩ = some (.int .i64 x.q) := by
  subst hv
  have f := fun j hj => flat_at Wd.vals 2 wd_len L i x hi j hj
  have c := fun j u hu => h.cells (g := g) rfl j u hu
  refine ⟨?_, ?_⟩
  · have := c (i * 2 + 0) _ (f 0 (by omega)); rwa [Addr.add_mid, Nat.zero_add] at this
  · have := c (i * 2 + 1) _ (f 1 (by omega)); rwa [Addr.add_mid, Nat.zero_add] at this
/-- The words that the model's parser reads, and the change it fills at q. -/
structure WS (w : World) (g vc n q : Nat) (L : List Wd) (c : Chg) : Prop where
  len : n = L.length
  own : w.ownsRow 0 107 2 (.slice (some ⟨g, 0, none⟩) L.length vc) L.length (flatW L)
  cs : CS w q c
  gq : g ≠ q
  byt : ∀ x ∈ L, Byt x.t ∧ x.t.length ≤ 65536
  sm : n ≤ 1000000
theorem WS.wd {w : World} {g vc n q : Nat} {L : List Wd} {c : Chg} (h : WS w g vc n q L c) {i : Nat} {x : Wd} (hi : L[i]? = some x) : w.cell? ⟨g, i * 2, none⟩ = some (.string (strOfNums x.t)) ∧ w.cell? ⟨g, i * 2 + 1, none⟩ = some (.int .i64 x.q) ∧ strL (strOfNums x.t) = x.t ∧ x.t.length ≤ 1000000 ∧ i < n := by
  obtain ⟨h1, h2⟩ := wd_cells h.own rfl hi
  have hm := h.byt x (List.mem_of_getElem? hi)
  have := (List.getElem?_eq_some_iff.1 hi).1
  exact ⟨h1, h2, strL_of hm.1, by omega, by rw [h.len]; exact this⟩
theorem WS.lt {w : World} {g vc n q : Nat} {L : List Wd} {c : Chg} (h : WS w g vc n q L c) : q < w.heap.size := World.block_lt_of_cell? _ _ h.cs.c0
theorem WS.keep {w w' : World} {g vc n q : Nat} {L : List Wd} {c c' : Chg} (h : WS w g vc n q L c) (e : Ex (fun k => k = q) w w') (hc : CS w' q c') : WS w' g vc n q L c' :=
  ⟨h.len, own_kept h.own e (fun k hk (z : k = q) => h.gq (by injection hk with hk; have : g = k := hk; omega)), hc, h.gq, h.byt, h.sm⟩
theorem wrap_1 (i j : Nat) (h : i ≤ 2000000) (hj : i + 1 = j) : wrap64 ((i : Int) + 1) = (j : Int) := by subst hj; unfold wrap64; omega
theorem wrap_2 (i j : Nat) (h : i ≤ 2000000) (hj : i + 2 = j) : wrap64 ((i : Int) + 2) = (j : Int) := by subst hj; unfold wrap64; omega
def SlPost (w : World) (q : Nat) (c' : Chg) (tk e at_ : Int) (er : Ending) (w' : World) : Prop :=
  er = .returned (.tuple #[.int .i64 tk, .agg #[.int .i64 e, .int .i64 at_]]) ∧ CS w' q c' ∧ Ex (fun k => k = q) w w'
def chE (l : List Int) (y z : ByteArray) : Int := if (l == strL y) = true then 0 else if (l == strL z) = true then 0 else wrE l
set_option linter.unusedSimpArgs false in
set_option maxRecDepth 100000 in
set_option maxHeartbeats 8000000 in
theorem slot_D (w : World) (g vc n q : Nat) (L : List Wd) (c : Chg) (i : Nat) (x : Wd) (h : WS w g vc n q L c) (hi : L[i]? = some x) :
    Calls Try.prog 67 #[.string ⟨#[68]⟩, .slice (some ⟨g, 0, none⟩) n vc, .int .i64 i, .pointer (some ⟨q, 0, none⟩)] w (SlPost w q { c with dv := uV true x.t 15 } 1 (uE true x.t 15) (if uE true x.t 15 = 0 then 0 else x.q)) := by
  obtain ⟨x0, x1, hxs, hxl, hin⟩ := h.wd hi
  have hn1 := h.sm
  have hii : (i : Int) < (n : Int) := by omega
  obtain ⟨h1, h2, h3, h4⟩ := two_new w [.int .i64 0, .int .i64 0] [.int .i64 0, .int .i64 0] 109 109
  have d0 := h1 0 _ rfl
  have d1 := h1 1 _ rfl
  have b0 := h2 0 _ rfl
  have b1 := h2 1 _ rfl
  have df : ∀ j, ((w.alloc (.cells #[.int .i64 0, .int .i64 0] 109)).alloc (.cells #[.int .i64 0, .int .i64 0] 109)).frozen? ⟨w.heap.size, j, none⟩ = false := fun j => by simp [go_sem]
  have HE := hide h4
  have HC := hide (h.cs.other h4 (fun e => e))
  have hql := h.lt
  have x0 := h4.cell (fun e => e) x0
  have x1 := h4.cell (fun e => e) x1
  have hgq := h.gq
  have HWS := hide (show Hid (WS w g vc n q L c) from h)
  clear h1 h2 h4 h hn1
  have HUP := hide (fun V => upTo_r V (strOfNums x.t) x.t x.q 15 hxs hxl)
  obtain ⟨ue, hue⟩ : ∃ e, uE true x.t 15 = e := ⟨_, rfl⟩
  obtain ⟨uv, huv⟩ : ∃ e, uV true x.t 15 = e := ⟨_, rfl⟩
  rw [hue, huv] at HUP ⊢
  obtain ⟨ua, hua⟩ : ∃ a, (if ue = 0 then 0 else x.q) = a := ⟨_, rfl⟩
  unfold fltV at HUP
  rw [hua] at HUP ⊢
  clear hue huv hua
  go_enter Try.func67, Try.ntmps67
  go_upto_region 2 with fail
  obtain ⟨W, hW⟩ : ∃ W, W = (w.alloc (.cells #[.int .i64 0, .int .i64 0] 109)).alloc (.cells #[.int .i64 0, .int .i64 0] 109) := ⟨_, rfl⟩
  have hr9l : w.heap.size < W.heap.size := by rw [hW]; simp; omega
  have hr10l : w.heap.size + 1 < W.heap.size := by rw [hW]; simp
  rw [← hW] at HE HC d0 d1 df b0 b1 h3 x0 x1 ⊢
  clear hW
  obtain ⟨r10, hr10⟩ : ∃ r, w.heap.size + 1 = r := ⟨_, rfl⟩
  rw [hr10] at b0 b1 h3 hr10l ⊢
  obtain ⟨r9, hr9⟩ : ∃ r, w.heap.size = r := ⟨_, rfl⟩
  rw [hr9] at d0 d1 df hr9l ⊢
  have n1 : q ≠ r9 := by omega
  have n2 : q ≠ r10 := by omega
  have n3 : r9 ≠ r10 := by omega
  have n4 : w.heap.size ≤ r9 := by omega
  have n5 : w.heap.size ≤ r10 := by omega
  clear hr9 hr10 hql
  go_wp2_with fail
  refine (HUP.out _).mono ?_
  rintro e w2 ⟨rfl, hex2⟩
  have y0 := hex2.cell (fun e => e) d0
  have y1 := hex2.cell (fun e => e) d1
  have z0 := hex2.cell (fun e => e) b0
  have z1 := hex2.cell (fun e => e) b1
  have yf := fun j => (hex2.frozen (q := r9) (j := j) (fun e => e) hr9l).trans (df j)
  have zf := fun j => (hex2.frozen (q := r10) (j := j) (fun e => e) hr10l).trans (h3 j)
  have HC2 := hide (HC.out.other hex2 (fun e => e))
  have HE2 : Hid (Ex (fun k => k = q) w w2) := (HE.out.trans hex2).mono (fun _ z => z.elim)
  clear hex2 HC HE d0 d1 b0 b1 df h3
  have k1 := HC2.out.c1
  have kf := HC2.out.fr
  obtain ⟨W3, hW3⟩ : ∃ V, V = (((w2.setCell ⟨q, 1, none⟩ (.int .i64 uv)).setCell ⟨r10, 0, none⟩ (.int .i64 ue)).setCell ⟨r10, 1, none⟩ (.int .i64 ua)) := ⟨_, rfl⟩
  have HC3 : Hid (CS W3 q { c with dv := uv }) := by rw [hW3]; exact (HC2.out.put1 uv).other (((Ex.refl (fun k => k = r10) _).set (p := r10) (j := 0) rfl _).set (p := r10) (j := 1) rfl _) n2
  have HE3 : Hid (Ex (fun k => k = q) w W3) := by rw [hW3]; exact ((HE2.out.set (p := q) (j := 1) rfl (.int .i64 uv)).setNew n5 _).setNew n5 _
  have u0 : W3.cell? ⟨r9, 0, none⟩ = some (.int .i64 0) := by rw [hW3]; simp [set_cell_ne, n1, n2, n3, Ne.symm n1, Ne.symm n2, y0]
  have u1 : W3.cell? ⟨r9, 1, none⟩ = some (.int .i64 0) := by rw [hW3]; simp [set_cell_ne, n1, n2, n3, Ne.symm n1, Ne.symm n2, y1]
  have uf : ∀ j, W3.frozen? ⟨r9, j, none⟩ = false := fun j => by rw [hW3]; simp only [set_frozen]; exact yf j
  have t0' : (w2.setCell ⟨q, 1, none⟩ (.int .i64 uv)).cell? ⟨r10, 0, none⟩ = some (.int .i64 0) := by simp [set_cell_ne, n1, n2, n3, Ne.symm n1, Ne.symm n2, z0]
  have t1' : (w2.setCell ⟨q, 1, none⟩ (.int .i64 uv)).cell? ⟨r10, 1, none⟩ = some (.int .i64 0) := by simp [set_cell_ne, n1, n2, n3, Ne.symm n1, Ne.symm n2, z1]
  have t1'' : ((w2.setCell ⟨q, 1, none⟩ (.int .i64 uv)).setCell ⟨r10, 0, none⟩ (.int .i64 ue)).cell? ⟨r10, 1, none⟩ = some (.int .i64 0) := by rw [set_at _ _ _ _ _ _ t0', if_neg (by omega)]; exact t1'
  have t1 : W3.cell? ⟨r10, 1, none⟩ = some (.int .i64 ua) := by rw [hW3]; exact World.cell?_setCell_same _ _ _ t1''
  have t0 : W3.cell? ⟨r10, 0, none⟩ = some (.int .i64 ue) := by rw [hW3, set_at _ _ _ _ _ _ t1'', if_neg (by omega)]; exact World.cell?_setCell_same _ _ _ t0'
  clear t0' t1' t1''
  clear HC2 HE2 x0 x1
  go_upto_region 33 with fail
  rw [← hW3]
  clear hW3 k1 kf y0 y1 yf z0 z1 zf
  have HF : Hid (Ex (fun k => k = q) w ((W3.setCell ⟨r9, 0, none⟩ (.int .i64 ue)).setCell ⟨r9, 1, none⟩ (.int .i64 ua)).drew) := ((HE3.out.setNew n4 _).setNew n4 _).drew
  have HG := hide (HC3.out.other ((((Ex.refl (fun k => k = r9) W3).set (p := r9) (j := 0) rfl (.int .i64 ue)).set (p := r9) (j := 1) rfl (.int .i64 ua)).drew) n1)
  clear HC3 HE3
  go_upto_region 33 with fail
  go_region
  go_wp2
  exact bodyPost_ret (v := .tuple #[.int .i64 1, .agg #[.int .i64 ue, .int .i64 ua]]) (by simp [results, Try.results67, go_sem, u0, u1]) rfl ⟨rfl, HG.out, HF.out⟩
set_option linter.unusedSimpArgs false in
set_option maxRecDepth 100000 in
set_option maxHeartbeats 8000000 in
theorem slot_H (w : World) (g vc n q : Nat) (L : List Wd) (c : Chg) (i : Nat) (x : Wd) (h : WS w g vc n q L c) (hi : L[i]? = some x) :
    Calls Try.prog 67 #[.string ⟨#[72]⟩, .slice (some ⟨g, 0, none⟩) n vc, .int .i64 i, .pointer (some ⟨q, 0, none⟩)] w (SlPost w q { c with hp := uV true x.t 15 } 1 (uE true x.t 15) (if uE true x.t 15 = 0 then 0 else x.q)) := by
  obtain ⟨x0, x1, hxs, hxl, hin⟩ := h.wd hi
  have hn1 := h.sm
  have hii : (i : Int) < (n : Int) := by omega
  obtain ⟨h1, h2, h3, h4⟩ := two_new w [.int .i64 0, .int .i64 0] [.int .i64 0, .int .i64 0] 109 109
  have d0 := h1 0 _ rfl
  have d1 := h1 1 _ rfl
  have b0 := h2 0 _ rfl
  have b1 := h2 1 _ rfl
  have df : ∀ j, ((w.alloc (.cells #[.int .i64 0, .int .i64 0] 109)).alloc (.cells #[.int .i64 0, .int .i64 0] 109)).frozen? ⟨w.heap.size, j, none⟩ = false := fun j => by simp [go_sem]
  have HE := hide h4
  have HC := hide (h.cs.other h4 (fun e => e))
  have hql := h.lt
  have x0 := h4.cell (fun e => e) x0
  have x1 := h4.cell (fun e => e) x1
  have hgq := h.gq
  have HWS := hide (show Hid (WS w g vc n q L c) from h)
  clear h1 h2 h4 h hn1
  have HUP := hide (fun V => upTo_r V (strOfNums x.t) x.t x.q 15 hxs hxl)
  obtain ⟨ue, hue⟩ : ∃ e, uE true x.t 15 = e := ⟨_, rfl⟩
  obtain ⟨uv, huv⟩ : ∃ e, uV true x.t 15 = e := ⟨_, rfl⟩
  rw [hue, huv] at HUP ⊢
  obtain ⟨ua, hua⟩ : ∃ a, (if ue = 0 then 0 else x.q) = a := ⟨_, rfl⟩
  unfold fltV at HUP
  rw [hua] at HUP ⊢
  clear hue huv hua
  go_enter Try.func67, Try.ntmps67
  go_upto_region 2 with fail
  obtain ⟨W, hW⟩ : ∃ W, W = (w.alloc (.cells #[.int .i64 0, .int .i64 0] 109)).alloc (.cells #[.int .i64 0, .int .i64 0] 109) := ⟨_, rfl⟩
  have hr9l : w.heap.size < W.heap.size := by rw [hW]; simp; omega
  have hr10l : w.heap.size + 1 < W.heap.size := by rw [hW]; simp
  rw [← hW] at HE HC d0 d1 df b0 b1 h3 x0 x1 ⊢
  clear hW
  obtain ⟨r10, hr10⟩ : ∃ r, w.heap.size + 1 = r := ⟨_, rfl⟩
  rw [hr10] at b0 b1 h3 hr10l ⊢
  obtain ⟨r9, hr9⟩ : ∃ r, w.heap.size = r := ⟨_, rfl⟩
  rw [hr9] at d0 d1 df hr9l ⊢
  have n1 : q ≠ r9 := by omega
  have n2 : q ≠ r10 := by omega
  have n3 : r9 ≠ r10 := by omega
  have n4 : w.heap.size ≤ r9 := by omega
  have n5 : w.heap.size ≤ r10 := by omega
  clear hr9 hr10 hql
  go_wp2_with fail
  refine (HUP.out _).mono ?_
  rintro e w2 ⟨rfl, hex2⟩
  have y0 := hex2.cell (fun e => e) d0
  have y1 := hex2.cell (fun e => e) d1
  have z0 := hex2.cell (fun e => e) b0
  have z1 := hex2.cell (fun e => e) b1
  have yf := fun j => (hex2.frozen (q := r9) (j := j) (fun e => e) hr9l).trans (df j)
  have zf := fun j => (hex2.frozen (q := r10) (j := j) (fun e => e) hr10l).trans (h3 j)
  have HC2 := hide (HC.out.other hex2 (fun e => e))
  have HE2 : Hid (Ex (fun k => k = q) w w2) := (HE.out.trans hex2).mono (fun _ z => z.elim)
  clear hex2 HC HE d0 d1 b0 b1 df h3
  have k2 := HC2.out.c2
  have kf := HC2.out.fr
  obtain ⟨W3, hW3⟩ : ∃ V, V = (((w2.setCell ⟨q, 2, none⟩ (.int .i64 uv)).setCell ⟨r10, 0, none⟩ (.int .i64 ue)).setCell ⟨r10, 1, none⟩ (.int .i64 ua)) := ⟨_, rfl⟩
  have HC3 : Hid (CS W3 q { c with hp := uv }) := by rw [hW3]; exact (HC2.out.put2 uv).other (((Ex.refl (fun k => k = r10) _).set (p := r10) (j := 0) rfl _).set (p := r10) (j := 1) rfl _) n2
  have HE3 : Hid (Ex (fun k => k = q) w W3) := by rw [hW3]; exact ((HE2.out.set (p := q) (j := 2) rfl (.int .i64 uv)).setNew n5 _).setNew n5 _
  have u0 : W3.cell? ⟨r9, 0, none⟩ = some (.int .i64 0) := by rw [hW3]; simp [set_cell_ne, n1, n2, n3, Ne.symm n1, Ne.symm n2, y0]
  have u1 : W3.cell? ⟨r9, 1, none⟩ = some (.int .i64 0) := by rw [hW3]; simp [set_cell_ne, n1, n2, n3, Ne.symm n1, Ne.symm n2, y1]
  have uf : ∀ j, W3.frozen? ⟨r9, j, none⟩ = false := fun j => by rw [hW3]; simp only [set_frozen]; exact yf j
  have t0' : (w2.setCell ⟨q, 2, none⟩ (.int .i64 uv)).cell? ⟨r10, 0, none⟩ = some (.int .i64 0) := by simp [set_cell_ne, n1, n2, n3, Ne.symm n1, Ne.symm n2, z0]
  have t1' : (w2.setCell ⟨q, 2, none⟩ (.int .i64 uv)).cell? ⟨r10, 1, none⟩ = some (.int .i64 0) := by simp [set_cell_ne, n1, n2, n3, Ne.symm n1, Ne.symm n2, z1]
  have t1'' : ((w2.setCell ⟨q, 2, none⟩ (.int .i64 uv)).setCell ⟨r10, 0, none⟩ (.int .i64 ue)).cell? ⟨r10, 1, none⟩ = some (.int .i64 0) := by rw [set_at _ _ _ _ _ _ t0', if_neg (by omega)]; exact t1'
  have t1 : W3.cell? ⟨r10, 1, none⟩ = some (.int .i64 ua) := by rw [hW3]; exact World.cell?_setCell_same _ _ _ t1''
  have t0 : W3.cell? ⟨r10, 0, none⟩ = some (.int .i64 ue) := by rw [hW3, set_at _ _ _ _ _ _ t1'', if_neg (by omega)]; exact World.cell?_setCell_same _ _ _ t0'
  clear t0' t1' t1''
  clear HC2 HE2 x0 x1
  go_upto_region 33 with fail
  rw [← hW3]
  clear hW3 k2 kf y0 y1 yf z0 z1 zf
  have HF : Hid (Ex (fun k => k = q) w ((W3.setCell ⟨r9, 0, none⟩ (.int .i64 ue)).setCell ⟨r9, 1, none⟩ (.int .i64 ua)).drew) := ((HE3.out.setNew n4 _).setNew n4 _).drew
  have HG := hide (HC3.out.other ((((Ex.refl (fun k => k = r9) W3).set (p := r9) (j := 0) rfl (.int .i64 ue)).set (p := r9) (j := 1) rfl (.int .i64 ua)).drew) n1)
  clear HC3 HE3
  go_upto_region 33 with fail
  go_region
  go_wp2
  exact bodyPost_ret (v := .tuple #[.int .i64 1, .agg #[.int .i64 ue, .int .i64 ua]]) (by simp [results, Try.results67, go_sem, u0, u1]) rfl ⟨rfl, HG.out, HF.out⟩
set_option linter.unusedSimpArgs false in
set_option maxRecDepth 100000 in
set_option maxHeartbeats 8000000 in
theorem slot_I (w : World) (g vc n q : Nat) (L : List Wd) (c : Chg) (i : Nat) (x : Wd) (h : WS w g vc n q L c) (hi : L[i]? = some x) :
    Calls Try.prog 67 #[.string ⟨#[73]⟩, .slice (some ⟨g, 0, none⟩) n vc, .int .i64 i, .pointer (some ⟨q, 0, none⟩)] w (SlPost w q { c with ix := uV false x.t 63 } 1 (uE false x.t 63) (if uE false x.t 63 = 0 then 0 else x.q)) := by
  obtain ⟨x0, x1, hxs, hxl, hin⟩ := h.wd hi
  have hn1 := h.sm
  have hii : (i : Int) < (n : Int) := by omega
  obtain ⟨h1, h2, h3, h4⟩ := two_new w [.int .i64 0, .int .i64 0] [.int .i64 0, .int .i64 0] 109 109
  have d0 := h1 0 _ rfl
  have d1 := h1 1 _ rfl
  have b0 := h2 0 _ rfl
  have b1 := h2 1 _ rfl
  have df : ∀ j, ((w.alloc (.cells #[.int .i64 0, .int .i64 0] 109)).alloc (.cells #[.int .i64 0, .int .i64 0] 109)).frozen? ⟨w.heap.size, j, none⟩ = false := fun j => by simp [go_sem]
  have HE := hide h4
  have HC := hide (h.cs.other h4 (fun e => e))
  have hql := h.lt
  have x0 := h4.cell (fun e => e) x0
  have x1 := h4.cell (fun e => e) x1
  have hgq := h.gq
  have HWS := hide (show Hid (WS w g vc n q L c) from h)
  clear h1 h2 h4 h hn1
  have HUP := hide (fun V => upTo_0 V (strOfNums x.t) x.t x.q 63 hxs hxl)
  obtain ⟨ue, hue⟩ : ∃ e, uE false x.t 63 = e := ⟨_, rfl⟩
  obtain ⟨uv, huv⟩ : ∃ e, uV false x.t 63 = e := ⟨_, rfl⟩
  rw [hue, huv] at HUP ⊢
  obtain ⟨ua, hua⟩ : ∃ a, (if ue = 0 then 0 else x.q) = a := ⟨_, rfl⟩
  unfold fltV at HUP
  rw [hua] at HUP ⊢
  clear hue huv hua
  go_enter Try.func67, Try.ntmps67
  go_upto_region 2 with fail
  obtain ⟨W, hW⟩ : ∃ W, W = (w.alloc (.cells #[.int .i64 0, .int .i64 0] 109)).alloc (.cells #[.int .i64 0, .int .i64 0] 109) := ⟨_, rfl⟩
  have hr9l : w.heap.size < W.heap.size := by rw [hW]; simp; omega
  have hr10l : w.heap.size + 1 < W.heap.size := by rw [hW]; simp
  rw [← hW] at HE HC d0 d1 df b0 b1 h3 x0 x1 ⊢
  clear hW
  obtain ⟨r10, hr10⟩ : ∃ r, w.heap.size + 1 = r := ⟨_, rfl⟩
  rw [hr10] at b0 b1 h3 hr10l ⊢
  obtain ⟨r9, hr9⟩ : ∃ r, w.heap.size = r := ⟨_, rfl⟩
  rw [hr9] at d0 d1 df hr9l ⊢
  have n1 : q ≠ r9 := by omega
  have n2 : q ≠ r10 := by omega
  have n3 : r9 ≠ r10 := by omega
  have n4 : w.heap.size ≤ r9 := by omega
  have n5 : w.heap.size ≤ r10 := by omega
  clear hr9 hr10 hql
  go_wp2_with fail
  refine (HUP.out _).mono ?_
  rintro e w2 ⟨rfl, hex2⟩
  have y0 := hex2.cell (fun e => e) d0
  have y1 := hex2.cell (fun e => e) d1
  have z0 := hex2.cell (fun e => e) b0
  have z1 := hex2.cell (fun e => e) b1
  have yf := fun j => (hex2.frozen (q := r9) (j := j) (fun e => e) hr9l).trans (df j)
  have zf := fun j => (hex2.frozen (q := r10) (j := j) (fun e => e) hr10l).trans (h3 j)
  have HC2 := hide (HC.out.other hex2 (fun e => e))
  have HE2 : Hid (Ex (fun k => k = q) w w2) := (HE.out.trans hex2).mono (fun _ z => z.elim)
  clear hex2 HC HE d0 d1 b0 b1 df h3
  have k5 := HC2.out.c5
  have kf := HC2.out.fr
  obtain ⟨W3, hW3⟩ : ∃ V, V = (((w2.setCell ⟨q, 5, none⟩ (.int .i64 uv)).setCell ⟨r10, 0, none⟩ (.int .i64 ue)).setCell ⟨r10, 1, none⟩ (.int .i64 ua)) := ⟨_, rfl⟩
  have HC3 : Hid (CS W3 q { c with ix := uv }) := by rw [hW3]; exact (HC2.out.put5 uv).other (((Ex.refl (fun k => k = r10) _).set (p := r10) (j := 0) rfl _).set (p := r10) (j := 1) rfl _) n2
  have HE3 : Hid (Ex (fun k => k = q) w W3) := by rw [hW3]; exact ((HE2.out.set (p := q) (j := 5) rfl (.int .i64 uv)).setNew n5 _).setNew n5 _
  have u0 : W3.cell? ⟨r9, 0, none⟩ = some (.int .i64 0) := by rw [hW3]; simp [set_cell_ne, n1, n2, n3, Ne.symm n1, Ne.symm n2, y0]
  have u1 : W3.cell? ⟨r9, 1, none⟩ = some (.int .i64 0) := by rw [hW3]; simp [set_cell_ne, n1, n2, n3, Ne.symm n1, Ne.symm n2, y1]
  have uf : ∀ j, W3.frozen? ⟨r9, j, none⟩ = false := fun j => by rw [hW3]; simp only [set_frozen]; exact yf j
  have t0' : (w2.setCell ⟨q, 5, none⟩ (.int .i64 uv)).cell? ⟨r10, 0, none⟩ = some (.int .i64 0) := by simp [set_cell_ne, n1, n2, n3, Ne.symm n1, Ne.symm n2, z0]
  have t1' : (w2.setCell ⟨q, 5, none⟩ (.int .i64 uv)).cell? ⟨r10, 1, none⟩ = some (.int .i64 0) := by simp [set_cell_ne, n1, n2, n3, Ne.symm n1, Ne.symm n2, z1]
  have t1'' : ((w2.setCell ⟨q, 5, none⟩ (.int .i64 uv)).setCell ⟨r10, 0, none⟩ (.int .i64 ue)).cell? ⟨r10, 1, none⟩ = some (.int .i64 0) := by rw [set_at _ _ _ _ _ _ t0', if_neg (by omega)]; exact t1'
  have t1 : W3.cell? ⟨r10, 1, none⟩ = some (.int .i64 ua) := by rw [hW3]; exact World.cell?_setCell_same _ _ _ t1''
  have t0 : W3.cell? ⟨r10, 0, none⟩ = some (.int .i64 ue) := by rw [hW3, set_at _ _ _ _ _ _ t1'', if_neg (by omega)]; exact World.cell?_setCell_same _ _ _ t0'
  clear t0' t1' t1''
  clear HC2 HE2 x0 x1
  go_upto_region 33 with fail
  rw [← hW3]
  clear hW3 k5 kf y0 y1 yf z0 z1 zf
  have HF : Hid (Ex (fun k => k = q) w ((W3.setCell ⟨r9, 0, none⟩ (.int .i64 ue)).setCell ⟨r9, 1, none⟩ (.int .i64 ua)).drew) := ((HE3.out.setNew n4 _).setNew n4 _).drew
  have HG := hide (HC3.out.other ((((Ex.refl (fun k => k = r9) W3).set (p := r9) (j := 0) rfl (.int .i64 ue)).set (p := r9) (j := 1) rfl (.int .i64 ua)).drew) n1)
  clear HC3 HE3
  go_upto_region 33 with fail
  go_region
  go_wp2
  exact bodyPost_ret (v := .tuple #[.int .i64 1, .agg #[.int .i64 ue, .int .i64 ua]]) (by simp [results, Try.results67, go_sem, u0, u1]) rfl ⟨rfl, HG.out, HF.out⟩
set_option linter.unusedSimpArgs false in
set_option maxRecDepth 100000 in
set_option maxHeartbeats 8000000 in
theorem slot_A (w : World) (g vc n q : Nat) (L : List Wd) (c : Chg) (i : Nat) (x : Wd) (h : WS w g vc n q L c) (hi : L[i]? = some x) :
    Calls Try.prog 67 #[.string ⟨#[65]⟩, .slice (some ⟨g, 0, none⟩) n vc, .int .i64 i, .pointer (some ⟨q, 0, none⟩)] w (SlPost w q { c with pm := (x.t == strL ⟨#[112, 101, 114, 109, 105, 116]⟩) } 1 (chE x.t ⟨#[112, 101, 114, 109, 105, 116]⟩ ⟨#[100, 101, 110, 121]⟩) (if chE x.t ⟨#[112, 101, 114, 109, 105, 116]⟩ ⟨#[100, 101, 110, 121]⟩ = 0 then 0 else x.q)) := by
  obtain ⟨x0, x1, hxs, hxl, hin⟩ := h.wd hi
  have hn1 := h.sm
  have hii : (i : Int) < (n : Int) := by omega
  obtain ⟨h1, h2, h3, h4⟩ := two_new w [.int .i64 0, .int .i64 0] [.int .i64 0, .int .i64 0] 109 109
  have d0 := h1 0 _ rfl
  have d1 := h1 1 _ rfl
  have b0 := h2 0 _ rfl
  have b1 := h2 1 _ rfl
  have df : ∀ j, ((w.alloc (.cells #[.int .i64 0, .int .i64 0] 109)).alloc (.cells #[.int .i64 0, .int .i64 0] 109)).frozen? ⟨w.heap.size, j, none⟩ = false := fun j => by simp [go_sem]
  have HE := hide h4
  have HC := hide (h.cs.other h4 (fun e => e))
  have hql := h.lt
  have x0 := h4.cell (fun e => e) x0
  have x1 := h4.cell (fun e => e) x1
  have hgq := h.gq
  have HWS := hide (show Hid (WS w g vc n q L c) from h)
  clear h1 h2 h4 h hn1
  have HUP := hide (fun V => choice_any V (strOfNums x.t) x.t x.q ⟨#[112, 101, 114, 109, 105, 116]⟩ ⟨#[100, 101, 110, 121]⟩ hxs hxl)
  have hc0 : (if (x.t == strL ⟨#[112, 101, 114, 109, 105, 116]⟩) = true then 0 else if (x.t == strL ⟨#[100, 101, 110, 121]⟩) = true then 0 else wrE x.t) = chE x.t ⟨#[112, 101, 114, 109, 105, 116]⟩ ⟨#[100, 101, 110, 121]⟩ := rfl
  rw [hc0] at HUP
  obtain ⟨ue, hue⟩ : ∃ e, chE x.t ⟨#[112, 101, 114, 109, 105, 116]⟩ ⟨#[100, 101, 110, 121]⟩ = e := ⟨_, rfl⟩
  obtain ⟨uv, huv⟩ : ∃ e, (x.t == strL ⟨#[112, 101, 114, 109, 105, 116]⟩) = e := ⟨_, rfl⟩
  rw [hue, huv] at HUP
  rw [hue, huv]
  obtain ⟨ua, hua⟩ : ∃ a, (if ue = 0 then 0 else x.q) = a := ⟨_, rfl⟩
  unfold fltV at HUP
  rw [hua] at HUP ⊢
  clear hue huv hua hc0
  go_enter Try.func67, Try.ntmps67
  go_upto_region 2 with fail
  obtain ⟨W, hW⟩ : ∃ W, W = (w.alloc (.cells #[.int .i64 0, .int .i64 0] 109)).alloc (.cells #[.int .i64 0, .int .i64 0] 109) := ⟨_, rfl⟩
  have hr9l : w.heap.size < W.heap.size := by rw [hW]; simp; omega
  have hr10l : w.heap.size + 1 < W.heap.size := by rw [hW]; simp
  rw [← hW] at HE HC d0 d1 df b0 b1 h3 x0 x1 ⊢
  clear hW
  obtain ⟨r10, hr10⟩ : ∃ r, w.heap.size + 1 = r := ⟨_, rfl⟩
  rw [hr10] at b0 b1 h3 hr10l ⊢
  obtain ⟨r9, hr9⟩ : ∃ r, w.heap.size = r := ⟨_, rfl⟩
  rw [hr9] at d0 d1 df hr9l ⊢
  have n1 : q ≠ r9 := by omega
  have n2 : q ≠ r10 := by omega
  have n3 : r9 ≠ r10 := by omega
  have n4 : w.heap.size ≤ r9 := by omega
  have n5 : w.heap.size ≤ r10 := by omega
  clear hr9 hr10 hql
  go_wp2_with fail
  refine (HUP.out _).mono ?_
  rintro e w2 ⟨rfl, hex2⟩
  have y0 := hex2.cell (fun e => e) d0
  have y1 := hex2.cell (fun e => e) d1
  have z0 := hex2.cell (fun e => e) b0
  have z1 := hex2.cell (fun e => e) b1
  have yf := fun j => (hex2.frozen (q := r9) (j := j) (fun e => e) hr9l).trans (df j)
  have zf := fun j => (hex2.frozen (q := r10) (j := j) (fun e => e) hr10l).trans (h3 j)
  have HC2 := hide (HC.out.other hex2 (fun e => e))
  have HE2 : Hid (Ex (fun k => k = q) w w2) := (HE.out.trans hex2).mono (fun _ z => z.elim)
  clear hex2 HC HE d0 d1 b0 b1 df h3
  have k7 := HC2.out.c7
  have kf := HC2.out.fr
  obtain ⟨W3, hW3⟩ : ∃ V, V = (((w2.setCell ⟨q, 7, none⟩ (.bool uv)).setCell ⟨r10, 0, none⟩ (.int .i64 ue)).setCell ⟨r10, 1, none⟩ (.int .i64 ua)) := ⟨_, rfl⟩
  have HC3 : Hid (CS W3 q { c with pm := uv }) := by rw [hW3]; exact (HC2.out.put7 uv).other (((Ex.refl (fun k => k = r10) _).set (p := r10) (j := 0) rfl _).set (p := r10) (j := 1) rfl _) n2
  have HE3 : Hid (Ex (fun k => k = q) w W3) := by rw [hW3]; exact ((HE2.out.set (p := q) (j := 7) rfl (.bool uv)).setNew n5 _).setNew n5 _
  have u0 : W3.cell? ⟨r9, 0, none⟩ = some (.int .i64 0) := by rw [hW3]; simp [set_cell_ne, n1, n2, n3, Ne.symm n1, Ne.symm n2, y0]
  have u1 : W3.cell? ⟨r9, 1, none⟩ = some (.int .i64 0) := by rw [hW3]; simp [set_cell_ne, n1, n2, n3, Ne.symm n1, Ne.symm n2, y1]
  have uf : ∀ j, W3.frozen? ⟨r9, j, none⟩ = false := fun j => by rw [hW3]; simp only [set_frozen]; exact yf j
  have t0' : (w2.setCell ⟨q, 7, none⟩ (.bool uv)).cell? ⟨r10, 0, none⟩ = some (.int .i64 0) := by simp [set_cell_ne, n1, n2, n3, Ne.symm n1, Ne.symm n2, z0]
  have t1' : (w2.setCell ⟨q, 7, none⟩ (.bool uv)).cell? ⟨r10, 1, none⟩ = some (.int .i64 0) := by simp [set_cell_ne, n1, n2, n3, Ne.symm n1, Ne.symm n2, z1]
  have t1'' : ((w2.setCell ⟨q, 7, none⟩ (.bool uv)).setCell ⟨r10, 0, none⟩ (.int .i64 ue)).cell? ⟨r10, 1, none⟩ = some (.int .i64 0) := by rw [set_at _ _ _ _ _ _ t0', if_neg (by omega)]; exact t1'
  have t1 : W3.cell? ⟨r10, 1, none⟩ = some (.int .i64 ua) := by rw [hW3]; exact World.cell?_setCell_same _ _ _ t1''
  have t0 : W3.cell? ⟨r10, 0, none⟩ = some (.int .i64 ue) := by rw [hW3, set_at _ _ _ _ _ _ t1'', if_neg (by omega)]; exact World.cell?_setCell_same _ _ _ t0'
  clear t0' t1' t1''
  clear HC2 HE2 x0 x1
  go_upto_region 33 with fail
  rw [← hW3]
  clear hW3 k7 kf y0 y1 yf z0 z1 zf
  have HF : Hid (Ex (fun k => k = q) w ((W3.setCell ⟨r9, 0, none⟩ (.int .i64 ue)).setCell ⟨r9, 1, none⟩ (.int .i64 ua)).drew) := ((HE3.out.setNew n4 _).setNew n4 _).drew
  have HG := hide (HC3.out.other ((((Ex.refl (fun k => k = r9) W3).set (p := r9) (j := 0) rfl (.int .i64 ue)).set (p := r9) (j := 1) rfl (.int .i64 ua)).drew) n1)
  clear HC3 HE3
  go_upto_region 33 with fail
  go_region
  go_wp2
  exact bodyPost_ret (v := .tuple #[.int .i64 1, .agg #[.int .i64 ue, .int .i64 ua]]) (by simp [results, Try.results67, go_sem, u0, u1]) rfl ⟨rfl, HG.out, HF.out⟩
set_option linter.unusedSimpArgs false in
set_option maxRecDepth 100000 in
set_option maxHeartbeats 8000000 in
theorem slot_U (w : World) (g vc n q : Nat) (L : List Wd) (c : Chg) (i : Nat) (x : Wd) (h : WS w g vc n q L c) (hi : L[i]? = some x) :
    Calls Try.prog 67 #[.string ⟨#[85]⟩, .slice (some ⟨g, 0, none⟩) n vc, .int .i64 i, .pointer (some ⟨q, 0, none⟩)] w (SlPost w q { c with up := (x.t == strL ⟨#[117, 112]⟩) } 1 (chE x.t ⟨#[117, 112]⟩ ⟨#[100, 111, 119, 110]⟩) (if chE x.t ⟨#[117, 112]⟩ ⟨#[100, 111, 119, 110]⟩ = 0 then 0 else x.q)) := by
  obtain ⟨x0, x1, hxs, hxl, hin⟩ := h.wd hi
  have hn1 := h.sm
  have hii : (i : Int) < (n : Int) := by omega
  obtain ⟨h1, h2, h3, h4⟩ := two_new w [.int .i64 0, .int .i64 0] [.int .i64 0, .int .i64 0] 109 109
  have d0 := h1 0 _ rfl
  have d1 := h1 1 _ rfl
  have b0 := h2 0 _ rfl
  have b1 := h2 1 _ rfl
  have df : ∀ j, ((w.alloc (.cells #[.int .i64 0, .int .i64 0] 109)).alloc (.cells #[.int .i64 0, .int .i64 0] 109)).frozen? ⟨w.heap.size, j, none⟩ = false := fun j => by simp [go_sem]
  have HE := hide h4
  have HC := hide (h.cs.other h4 (fun e => e))
  have hql := h.lt
  have x0 := h4.cell (fun e => e) x0
  have x1 := h4.cell (fun e => e) x1
  have hgq := h.gq
  have HWS := hide (show Hid (WS w g vc n q L c) from h)
  clear h1 h2 h4 h hn1
  have HUP := hide (fun V => choice_any V (strOfNums x.t) x.t x.q ⟨#[117, 112]⟩ ⟨#[100, 111, 119, 110]⟩ hxs hxl)
  have hc0 : (if (x.t == strL ⟨#[117, 112]⟩) = true then 0 else if (x.t == strL ⟨#[100, 111, 119, 110]⟩) = true then 0 else wrE x.t) = chE x.t ⟨#[117, 112]⟩ ⟨#[100, 111, 119, 110]⟩ := rfl
  rw [hc0] at HUP
  obtain ⟨ue, hue⟩ : ∃ e, chE x.t ⟨#[117, 112]⟩ ⟨#[100, 111, 119, 110]⟩ = e := ⟨_, rfl⟩
  obtain ⟨uv, huv⟩ : ∃ e, (x.t == strL ⟨#[117, 112]⟩) = e := ⟨_, rfl⟩
  rw [hue, huv] at HUP
  rw [hue, huv]
  obtain ⟨ua, hua⟩ : ∃ a, (if ue = 0 then 0 else x.q) = a := ⟨_, rfl⟩
  unfold fltV at HUP
  rw [hua] at HUP ⊢
  clear hue huv hua hc0
  go_enter Try.func67, Try.ntmps67
  go_upto_region 2 with fail
  obtain ⟨W, hW⟩ : ∃ W, W = (w.alloc (.cells #[.int .i64 0, .int .i64 0] 109)).alloc (.cells #[.int .i64 0, .int .i64 0] 109) := ⟨_, rfl⟩
  have hr9l : w.heap.size < W.heap.size := by rw [hW]; simp; omega
  have hr10l : w.heap.size + 1 < W.heap.size := by rw [hW]; simp
  rw [← hW] at HE HC d0 d1 df b0 b1 h3 x0 x1 ⊢
  clear hW
  obtain ⟨r10, hr10⟩ : ∃ r, w.heap.size + 1 = r := ⟨_, rfl⟩
  rw [hr10] at b0 b1 h3 hr10l ⊢
  obtain ⟨r9, hr9⟩ : ∃ r, w.heap.size = r := ⟨_, rfl⟩
  rw [hr9] at d0 d1 df hr9l ⊢
  have n1 : q ≠ r9 := by omega
  have n2 : q ≠ r10 := by omega
  have n3 : r9 ≠ r10 := by omega
  have n4 : w.heap.size ≤ r9 := by omega
  have n5 : w.heap.size ≤ r10 := by omega
  clear hr9 hr10 hql
  go_wp2_with fail
  refine (HUP.out _).mono ?_
  rintro e w2 ⟨rfl, hex2⟩
  have y0 := hex2.cell (fun e => e) d0
  have y1 := hex2.cell (fun e => e) d1
  have z0 := hex2.cell (fun e => e) b0
  have z1 := hex2.cell (fun e => e) b1
  have yf := fun j => (hex2.frozen (q := r9) (j := j) (fun e => e) hr9l).trans (df j)
  have zf := fun j => (hex2.frozen (q := r10) (j := j) (fun e => e) hr10l).trans (h3 j)
  have HC2 := hide (HC.out.other hex2 (fun e => e))
  have HE2 : Hid (Ex (fun k => k = q) w w2) := (HE.out.trans hex2).mono (fun _ z => z.elim)
  clear hex2 HC HE d0 d1 b0 b1 df h3
  have k8 := HC2.out.c8
  have kf := HC2.out.fr
  obtain ⟨W3, hW3⟩ : ∃ V, V = (((w2.setCell ⟨q, 8, none⟩ (.bool uv)).setCell ⟨r10, 0, none⟩ (.int .i64 ue)).setCell ⟨r10, 1, none⟩ (.int .i64 ua)) := ⟨_, rfl⟩
  have HC3 : Hid (CS W3 q { c with up := uv }) := by rw [hW3]; exact (HC2.out.put8 uv).other (((Ex.refl (fun k => k = r10) _).set (p := r10) (j := 0) rfl _).set (p := r10) (j := 1) rfl _) n2
  have HE3 : Hid (Ex (fun k => k = q) w W3) := by rw [hW3]; exact ((HE2.out.set (p := q) (j := 8) rfl (.bool uv)).setNew n5 _).setNew n5 _
  have u0 : W3.cell? ⟨r9, 0, none⟩ = some (.int .i64 0) := by rw [hW3]; simp [set_cell_ne, n1, n2, n3, Ne.symm n1, Ne.symm n2, y0]
  have u1 : W3.cell? ⟨r9, 1, none⟩ = some (.int .i64 0) := by rw [hW3]; simp [set_cell_ne, n1, n2, n3, Ne.symm n1, Ne.symm n2, y1]
  have uf : ∀ j, W3.frozen? ⟨r9, j, none⟩ = false := fun j => by rw [hW3]; simp only [set_frozen]; exact yf j
  have t0' : (w2.setCell ⟨q, 8, none⟩ (.bool uv)).cell? ⟨r10, 0, none⟩ = some (.int .i64 0) := by simp [set_cell_ne, n1, n2, n3, Ne.symm n1, Ne.symm n2, z0]
  have t1' : (w2.setCell ⟨q, 8, none⟩ (.bool uv)).cell? ⟨r10, 1, none⟩ = some (.int .i64 0) := by simp [set_cell_ne, n1, n2, n3, Ne.symm n1, Ne.symm n2, z1]
  have t1'' : ((w2.setCell ⟨q, 8, none⟩ (.bool uv)).setCell ⟨r10, 0, none⟩ (.int .i64 ue)).cell? ⟨r10, 1, none⟩ = some (.int .i64 0) := by rw [set_at _ _ _ _ _ _ t0', if_neg (by omega)]; exact t1'
  have t1 : W3.cell? ⟨r10, 1, none⟩ = some (.int .i64 ua) := by rw [hW3]; exact World.cell?_setCell_same _ _ _ t1''
  have t0 : W3.cell? ⟨r10, 0, none⟩ = some (.int .i64 ue) := by rw [hW3, set_at _ _ _ _ _ _ t1'', if_neg (by omega)]; exact World.cell?_setCell_same _ _ _ t0'
  clear t0' t1' t1''
  clear HC2 HE2 x0 x1
  go_upto_region 33 with fail
  rw [← hW3]
  clear hW3 k8 kf y0 y1 yf z0 z1 zf
  have HF : Hid (Ex (fun k => k = q) w ((W3.setCell ⟨r9, 0, none⟩ (.int .i64 ue)).setCell ⟨r9, 1, none⟩ (.int .i64 ua)).drew) := ((HE3.out.setNew n4 _).setNew n4 _).drew
  have HG := hide (HC3.out.other ((((Ex.refl (fun k => k = r9) W3).set (p := r9) (j := 0) rfl (.int .i64 ue)).set (p := r9) (j := 1) rfl (.int .i64 ua)).drew) n1)
  clear HC3 HE3
  go_upto_region 33 with fail
  go_region
  go_wp2
  exact bodyPost_ret (v := .tuple #[.int .i64 1, .agg #[.int .i64 ue, .int .i64 ua]]) (by simp [results, Try.results67, go_sem, u0, u1]) rfl ⟨rfl, HG.out, HF.out⟩
set_option linter.unusedSimpArgs false in
set_option maxRecDepth 100000 in
set_option maxHeartbeats 8000000 in
theorem slot_Cany (w : World) (g vc n q : Nat) (L : List Wd) (c : Chg) (i : Nat) (x : Wd) (hany : x.t = strL ⟨#[97, 110, 121]⟩) (h : WS w g vc n q L c) (hi : L[i]? = some x) :
    Calls Try.prog 67 #[.string ⟨#[67]⟩, .slice (some ⟨g, 0, none⟩) n vc, .int .i64 i, .pointer (some ⟨q, 0, none⟩)] w (SlPost w q { c with cl := 16 } 1 0 0) := by
  obtain ⟨x0, x1, hxs, hxl, hin⟩ := h.wd hi
  have hn1 := h.sm
  have hii : (i : Int) < (n : Int) := by omega
  obtain ⟨h1, h2, h3, h4⟩ := two_new w [.int .i64 0, .int .i64 0] [.int .i64 0, .int .i64 0] 109 109
  have d0 := h1 0 _ rfl
  have d1 := h1 1 _ rfl
  have b0 := h2 0 _ rfl
  have b1 := h2 1 _ rfl
  have df : ∀ j, ((w.alloc (.cells #[.int .i64 0, .int .i64 0] 109)).alloc (.cells #[.int .i64 0, .int .i64 0] 109)).frozen? ⟨w.heap.size, j, none⟩ = false := fun j => by simp [go_sem]
  have HE := hide h4
  have HC := hide (h.cs.other h4 (fun e => e))
  have hql := h.lt
  have x0 := h4.cell (fun e => e) x0
  have x1 := h4.cell (fun e => e) x1
  have hgq := h.gq
  have HWS := hide (show Hid (WS w g vc n q L c) from h)
  clear h1 h2 h4 h hn1
  have hcmp : ((strOfNums x.t).toList == [97, 110, 121]) = true := by rw [str_eq, hxs, hany]; rfl
  clear hany
  go_enter Try.func67, Try.ntmps67
  go_upto_region 2 with fail
  obtain ⟨W, hW⟩ : ∃ W, W = (w.alloc (.cells #[.int .i64 0, .int .i64 0] 109)).alloc (.cells #[.int .i64 0, .int .i64 0] 109) := ⟨_, rfl⟩
  have hr9l : w.heap.size < W.heap.size := by rw [hW]; simp; omega
  have hr10l : w.heap.size + 1 < W.heap.size := by rw [hW]; simp
  rw [← hW] at HE HC d0 d1 df b0 b1 h3 x0 x1 ⊢
  clear hW
  obtain ⟨r10, hr10⟩ : ∃ r, w.heap.size + 1 = r := ⟨_, rfl⟩
  rw [hr10] at b0 b1 h3 hr10l ⊢
  obtain ⟨r9, hr9⟩ : ∃ r, w.heap.size = r := ⟨_, rfl⟩
  rw [hr9] at d0 d1 df hr9l ⊢
  have n1 : q ≠ r9 := by omega
  have n2 : q ≠ r10 := by omega
  have n3 : r9 ≠ r10 := by omega
  have n4 : w.heap.size ≤ r9 := by omega
  have n5 : w.heap.size ≤ r10 := by omega
  clear hr9 hr10 hql
  obtain ⟨w2, hw2⟩ : ∃ V, W = V := ⟨_, rfl⟩
  have hex2 : Ex (fun _ => False) W w2 := by rw [hw2]; exact Ex.refl _ _
  rw [hw2] at x0 x1 ⊢
  have y0 := hex2.cell (fun e => e) d0
  have y1 := hex2.cell (fun e => e) d1
  have z0 := hex2.cell (fun e => e) b0
  have z1 := hex2.cell (fun e => e) b1
  have yf := fun j => (hex2.frozen (q := r9) (j := j) (fun e => e) hr9l).trans (df j)
  have zf := fun j => (hex2.frozen (q := r10) (j := j) (fun e => e) hr10l).trans (h3 j)
  have HC2 := hide (HC.out.other hex2 (fun e => e))
  have HE2 : Hid (Ex (fun k => k = q) w w2) := (HE.out.trans hex2).mono (fun _ z => z.elim)
  clear hex2 HC HE d0 d1 b0 b1 df h3
  clear hw2
  have k6 := HC2.out.c6
  have kf := HC2.out.fr
  obtain ⟨W3, hW3⟩ : ∃ V, V = w2.setCell ⟨q, 6, none⟩ (.int .i64 16) := ⟨_, rfl⟩
  have HC3 : Hid (CS W3 q { c with cl := 16 }) := by rw [hW3]; exact HC2.out.put6 16
  have HE3 : Hid (Ex (fun k => k = q) w W3) := by rw [hW3]; exact HE2.out.set (p := q) (j := 6) rfl (.int .i64 16)
  have u0 : W3.cell? ⟨r9, 0, none⟩ = some (.int .i64 0) := by rw [hW3]; simp [set_cell_ne, n1, n2, n3, Ne.symm n1, Ne.symm n2, y0]
  have u1 : W3.cell? ⟨r9, 1, none⟩ = some (.int .i64 0) := by rw [hW3]; simp [set_cell_ne, n1, n2, n3, Ne.symm n1, Ne.symm n2, y1]
  have uf : ∀ j, W3.frozen? ⟨r9, j, none⟩ = false := fun j => by rw [hW3]; simp only [set_frozen]; exact yf j
  have t0 : W3.cell? ⟨r10, 0, none⟩ = some (.int .i64 0) := by rw [hW3]; simp [set_cell_ne, n1, n2, n3, Ne.symm n1, Ne.symm n2, z0]
  have t1 : W3.cell? ⟨r10, 1, none⟩ = some (.int .i64 0) := by rw [hW3]; simp [set_cell_ne, n1, n2, n3, Ne.symm n1, Ne.symm n2, z1]
  go_upto_region 33 with fail
  rw [← hW3]
  clear hW3 k6 kf y0 y1 yf z0 z1 zf HC2 HE2 x0 x1
  have HF : Hid (Ex (fun k => k = q) w ((W3.setCell ⟨r9, 0, none⟩ (.int .i64 0)).setCell ⟨r9, 1, none⟩ (.int .i64 0)).drew) := ((HE3.out.setNew n4 _).setNew n4 _).drew
  have HG := hide (HC3.out.other ((((Ex.refl (fun k => k = r9) W3).set (p := r9) (j := 0) rfl (.int .i64 0)).set (p := r9) (j := 1) rfl (.int .i64 0)).drew) n1)
  clear HC3 HE3
  go_upto_region 33 with fail
  go_region
  go_wp2
  exact bodyPost_ret (v := .tuple #[.int .i64 1, .agg #[.int .i64 0, .int .i64 0]]) (by simp [results, Try.results67, go_sem, u0, u1]) rfl ⟨rfl, HG.out, HF.out⟩
set_option linter.unusedSimpArgs false in
set_option maxRecDepth 100000 in
set_option maxHeartbeats 8000000 in
theorem slot_Cnum (w : World) (g vc n q : Nat) (L : List Wd) (c : Chg) (i : Nat) (x : Wd) (hany : x.t ≠ strL ⟨#[97, 110, 121]⟩) (h : WS w g vc n q L c) (hi : L[i]? = some x) :
    Calls Try.prog 67 #[.string ⟨#[67]⟩, .slice (some ⟨g, 0, none⟩) n vc, .int .i64 i, .pointer (some ⟨q, 0, none⟩)] w (SlPost w q { c with cl := uV false x.t 15 } 1 (uE false x.t 15) (if uE false x.t 15 = 0 then 0 else x.q)) := by
  obtain ⟨x0, x1, hxs, hxl, hin⟩ := h.wd hi
  have hn1 := h.sm
  have hii : (i : Int) < (n : Int) := by omega
  obtain ⟨h1, h2, h3, h4⟩ := two_new w [.int .i64 0, .int .i64 0] [.int .i64 0, .int .i64 0] 109 109
  have d0 := h1 0 _ rfl
  have d1 := h1 1 _ rfl
  have b0 := h2 0 _ rfl
  have b1 := h2 1 _ rfl
  have df : ∀ j, ((w.alloc (.cells #[.int .i64 0, .int .i64 0] 109)).alloc (.cells #[.int .i64 0, .int .i64 0] 109)).frozen? ⟨w.heap.size, j, none⟩ = false := fun j => by simp [go_sem]
  have HE := hide h4
  have HC := hide (h.cs.other h4 (fun e => e))
  have hql := h.lt
  have x0 := h4.cell (fun e => e) x0
  have x1 := h4.cell (fun e => e) x1
  have hgq := h.gq
  have HWS := hide (show Hid (WS w g vc n q L c) from h)
  clear h1 h2 h4 h hn1
  have hcmp : ((strOfNums x.t).toList == [97, 110, 121]) = false := by
    rw [str_eq, hxs]
    exact beq_eq_false_iff_ne.2 hany
  clear hany
  have HUP := hide (fun V => upTo_0 V (strOfNums x.t) x.t x.q 15 hxs hxl)
  obtain ⟨ue, hue⟩ : ∃ e, uE false x.t 15 = e := ⟨_, rfl⟩
  obtain ⟨uv, huv⟩ : ∃ e, uV false x.t 15 = e := ⟨_, rfl⟩
  rw [hue, huv] at HUP ⊢
  obtain ⟨ua, hua⟩ : ∃ a, (if ue = 0 then 0 else x.q) = a := ⟨_, rfl⟩
  unfold fltV at HUP
  rw [hua] at HUP ⊢
  clear hue huv hua
  go_enter Try.func67, Try.ntmps67
  go_upto_region 2 with fail
  obtain ⟨W, hW⟩ : ∃ W, W = (w.alloc (.cells #[.int .i64 0, .int .i64 0] 109)).alloc (.cells #[.int .i64 0, .int .i64 0] 109) := ⟨_, rfl⟩
  have hr9l : w.heap.size < W.heap.size := by rw [hW]; simp; omega
  have hr10l : w.heap.size + 1 < W.heap.size := by rw [hW]; simp
  rw [← hW] at HE HC d0 d1 df b0 b1 h3 x0 x1 ⊢
  clear hW
  obtain ⟨r10, hr10⟩ : ∃ r, w.heap.size + 1 = r := ⟨_, rfl⟩
  rw [hr10] at b0 b1 h3 hr10l ⊢
  obtain ⟨r9, hr9⟩ : ∃ r, w.heap.size = r := ⟨_, rfl⟩
  rw [hr9] at d0 d1 df hr9l ⊢
  have n1 : q ≠ r9 := by omega
  have n2 : q ≠ r10 := by omega
  have n3 : r9 ≠ r10 := by omega
  have n4 : w.heap.size ≤ r9 := by omega
  have n5 : w.heap.size ≤ r10 := by omega
  clear hr9 hr10 hql
  go_wp2_with fail
  refine (HUP.out _).mono ?_
  rintro e w2 ⟨rfl, hex2⟩
  have y0 := hex2.cell (fun e => e) d0
  have y1 := hex2.cell (fun e => e) d1
  have z0 := hex2.cell (fun e => e) b0
  have z1 := hex2.cell (fun e => e) b1
  have yf := fun j => (hex2.frozen (q := r9) (j := j) (fun e => e) hr9l).trans (df j)
  have zf := fun j => (hex2.frozen (q := r10) (j := j) (fun e => e) hr10l).trans (h3 j)
  have HC2 := hide (HC.out.other hex2 (fun e => e))
  have HE2 : Hid (Ex (fun k => k = q) w w2) := (HE.out.trans hex2).mono (fun _ z => z.elim)
  clear hex2 HC HE d0 d1 b0 b1 df h3
  have k6 := HC2.out.c6
  have kf := HC2.out.fr
  obtain ⟨W3, hW3⟩ : ∃ V, V = (((w2.setCell ⟨q, 6, none⟩ (.int .i64 uv)).setCell ⟨r10, 0, none⟩ (.int .i64 ue)).setCell ⟨r10, 1, none⟩ (.int .i64 ua)) := ⟨_, rfl⟩
  have HC3 : Hid (CS W3 q { c with cl := uv }) := by rw [hW3]; exact (HC2.out.put6 uv).other (((Ex.refl (fun k => k = r10) _).set (p := r10) (j := 0) rfl _).set (p := r10) (j := 1) rfl _) n2
  have HE3 : Hid (Ex (fun k => k = q) w W3) := by rw [hW3]; exact ((HE2.out.set (p := q) (j := 6) rfl (.int .i64 uv)).setNew n5 _).setNew n5 _
  have u0 : W3.cell? ⟨r9, 0, none⟩ = some (.int .i64 0) := by rw [hW3]; simp [set_cell_ne, n1, n2, n3, Ne.symm n1, Ne.symm n2, y0]
  have u1 : W3.cell? ⟨r9, 1, none⟩ = some (.int .i64 0) := by rw [hW3]; simp [set_cell_ne, n1, n2, n3, Ne.symm n1, Ne.symm n2, y1]
  have uf : ∀ j, W3.frozen? ⟨r9, j, none⟩ = false := fun j => by rw [hW3]; simp only [set_frozen]; exact yf j
  have t0' : (w2.setCell ⟨q, 6, none⟩ (.int .i64 uv)).cell? ⟨r10, 0, none⟩ = some (.int .i64 0) := by simp [set_cell_ne, n1, n2, n3, Ne.symm n1, Ne.symm n2, z0]
  have t1' : (w2.setCell ⟨q, 6, none⟩ (.int .i64 uv)).cell? ⟨r10, 1, none⟩ = some (.int .i64 0) := by simp [set_cell_ne, n1, n2, n3, Ne.symm n1, Ne.symm n2, z1]
  have t1'' : ((w2.setCell ⟨q, 6, none⟩ (.int .i64 uv)).setCell ⟨r10, 0, none⟩ (.int .i64 ue)).cell? ⟨r10, 1, none⟩ = some (.int .i64 0) := by rw [set_at _ _ _ _ _ _ t0', if_neg (by omega)]; exact t1'
  have t1 : W3.cell? ⟨r10, 1, none⟩ = some (.int .i64 ua) := by rw [hW3]; exact World.cell?_setCell_same _ _ _ t1''
  have t0 : W3.cell? ⟨r10, 0, none⟩ = some (.int .i64 ue) := by rw [hW3, set_at _ _ _ _ _ _ t1'', if_neg (by omega)]; exact World.cell?_setCell_same _ _ _ t0'
  clear t0' t1' t1''
  clear HC2 HE2 x0 x1
  go_upto_region 33 with fail
  rw [← hW3]
  clear hW3 k6 kf y0 y1 yf z0 z1 zf
  have HF : Hid (Ex (fun k => k = q) w ((W3.setCell ⟨r9, 0, none⟩ (.int .i64 ue)).setCell ⟨r9, 1, none⟩ (.int .i64 ua)).drew) := ((HE3.out.setNew n4 _).setNew n4 _).drew
  have HG := hide (HC3.out.other ((((Ex.refl (fun k => k = r9) W3).set (p := r9) (j := 0) rfl (.int .i64 ue)).set (p := r9) (j := 1) rfl (.int .i64 ua)).drew) n1)
  clear HC3 HE3
  go_upto_region 33 with fail
  go_region
  go_wp2
  exact bodyPost_ret (v := .tuple #[.int .i64 1, .agg #[.int .i64 ue, .int .i64 ua]]) (by simp [results, Try.results67, go_sem, u0, u1]) rfl ⟨rfl, HG.out, HF.out⟩
set_option linter.unusedSimpArgs false in
set_option maxRecDepth 100000 in
set_option maxHeartbeats 8000000 in
theorem slot_W (w : World) (g vc n q : Nat) (L : List Wd) (c : Chg) (i : Nat) (x : Wd) (f : ByteArray) (hf : (f.toList == [68]) = false ∧ (f.toList == [72]) = false ∧ (f.toList == [76]) = false ∧ (f.toList == [73]) = false ∧ (f.toList == [65]) = false ∧ (f.toList == [85]) = false ∧ (f.toList == [67]) = false ∧ (f.toList == [80]) = false) (h : WS w g vc n q L c) (hi : L[i]? = some x) :
    Calls Try.prog 67 #[.string f, .slice (some ⟨g, 0, none⟩) n vc, .int .i64 i, .pointer (some ⟨q, 0, none⟩)] w (SlPost w q c 1 (if (x.t == strL f) = true then 0 else wrE x.t) (if (x.t == strL f) = true then 0 else x.q)) := by
  obtain ⟨x0, x1, hxs, hxl, hin⟩ := h.wd hi
  have hn1 := h.sm
  have hii : (i : Int) < (n : Int) := by omega
  obtain ⟨h1, h2, h3, h4⟩ := two_new w [.int .i64 0, .int .i64 0] [.int .i64 0, .int .i64 0] 109 109
  have d0 := h1 0 _ rfl
  have d1 := h1 1 _ rfl
  have b0 := h2 0 _ rfl
  have b1 := h2 1 _ rfl
  have df : ∀ j, ((w.alloc (.cells #[.int .i64 0, .int .i64 0] 109)).alloc (.cells #[.int .i64 0, .int .i64 0] 109)).frozen? ⟨w.heap.size, j, none⟩ = false := fun j => by simp [go_sem]
  have HE := hide h4
  have HC := hide (h.cs.other h4 (fun e => e))
  have hql := h.lt
  have x0 := h4.cell (fun e => e) x0
  have x1 := h4.cell (fun e => e) x1
  have hgq := h.gq
  have HWS := hide (show Hid (WS w g vc n q L c) from h)
  clear h1 h2 h4 h hn1
  obtain ⟨f1, f2, f3, f4, f5, f6, f7, f8⟩ := hf
  have HWR := hide (fun V => wrong_any V (strOfNums x.t) x.t x.q hxs hxl)
  have hcmp := ch_eq (strOfNums x.t) x.t hxs f
  obtain ⟨we, hwe⟩ : ∃ e, wrE x.t = e := ⟨_, rfl⟩
  rw [hwe] at HWR ⊢
  obtain ⟨bq, hbq⟩ : ∃ b, (x.t == strL f) = b := ⟨_, rfl⟩
  rw [hbq] at hcmp ⊢
  clear hbq hwe
  cases bq
  · rw [if_neg (by decide), if_neg (by decide)]
    go_enter Try.func67, Try.ntmps67
    go_upto_region 2 with fail
    obtain ⟨W, hW⟩ : ∃ W, W = (w.alloc (.cells #[.int .i64 0, .int .i64 0] 109)).alloc (.cells #[.int .i64 0, .int .i64 0] 109) := ⟨_, rfl⟩
    have hr9l : w.heap.size < W.heap.size := by rw [hW]; simp; omega
    have hr10l : w.heap.size + 1 < W.heap.size := by rw [hW]; simp
    rw [← hW] at HE HC d0 d1 df b0 b1 h3 x0 x1 ⊢
    clear hW
    obtain ⟨r10, hr10⟩ : ∃ r, w.heap.size + 1 = r := ⟨_, rfl⟩
    rw [hr10] at b0 b1 h3 hr10l ⊢
    obtain ⟨r9, hr9⟩ : ∃ r, w.heap.size = r := ⟨_, rfl⟩
    rw [hr9] at d0 d1 df hr9l ⊢
    have n1 : q ≠ r9 := by omega
    have n2 : q ≠ r10 := by omega
    have n3 : r9 ≠ r10 := by omega
    have n4 : w.heap.size ≤ r9 := by omega
    have n5 : w.heap.size ≤ r10 := by omega
    clear hr9 hr10 hql
    go_wp2_with fail
    refine (HWR.out _).mono ?_
    rintro e w2 ⟨rfl, hex2⟩
    have y0 := hex2.cell (fun e => e) d0
    have y1 := hex2.cell (fun e => e) d1
    have z0 := hex2.cell (fun e => e) b0
    have z1 := hex2.cell (fun e => e) b1
    have yf := fun j => (hex2.frozen (q := r9) (j := j) (fun e => e) hr9l).trans (df j)
    have zf := fun j => (hex2.frozen (q := r10) (j := j) (fun e => e) hr10l).trans (h3 j)
    have HC2 := hide (HC.out.other hex2 (fun e => e))
    have HE2 : Hid (Ex (fun k => k = q) w w2) := (HE.out.trans hex2).mono (fun _ z => z.elim)
    clear hex2 HC HE d0 d1 b0 b1 df h3
    obtain ⟨W3, hW3⟩ : ∃ V, V = ((w2.setCell ⟨r10, 0, none⟩ (.int .i64 we)).setCell ⟨r10, 1, none⟩ (.int .i64 x.q)) := ⟨_, rfl⟩
    have HC3 : Hid (CS W3 q c) := by rw [hW3]; exact HC2.out.other (((Ex.refl (fun k => k = r10) _).set (p := r10) (j := 0) rfl _).set (p := r10) (j := 1) rfl _) n2
    have HE3 : Hid (Ex (fun k => k = q) w W3) := by rw [hW3]; exact (HE2.out.setNew n5 _).setNew n5 _
    have u0 : W3.cell? ⟨r9, 0, none⟩ = some (.int .i64 0) := by rw [hW3]; simp [set_cell_ne, n1, n2, n3, Ne.symm n1, Ne.symm n2, y0]
    have u1 : W3.cell? ⟨r9, 1, none⟩ = some (.int .i64 0) := by rw [hW3]; simp [set_cell_ne, n1, n2, n3, Ne.symm n1, Ne.symm n2, y1]
    have uf : ∀ j, W3.frozen? ⟨r9, j, none⟩ = false := fun j => by rw [hW3]; simp only [set_frozen]; exact yf j
    have t0' : w2.cell? ⟨r10, 0, none⟩ = some (.int .i64 0) := by simp [set_cell_ne, n1, n2, n3, Ne.symm n1, Ne.symm n2, z0]
    have t1' : w2.cell? ⟨r10, 1, none⟩ = some (.int .i64 0) := by simp [set_cell_ne, n1, n2, n3, Ne.symm n1, Ne.symm n2, z1]
    have t1'' : (w2.setCell ⟨r10, 0, none⟩ (.int .i64 we)).cell? ⟨r10, 1, none⟩ = some (.int .i64 0) := by rw [set_at _ _ _ _ _ _ t0', if_neg (by omega)]; exact t1'
    have t1 : W3.cell? ⟨r10, 1, none⟩ = some (.int .i64 x.q) := by rw [hW3]; exact World.cell?_setCell_same _ _ _ t1''
    have t0 : W3.cell? ⟨r10, 0, none⟩ = some (.int .i64 we) := by rw [hW3, set_at _ _ _ _ _ _ t1'', if_neg (by omega)]; exact World.cell?_setCell_same _ _ _ t0'
    clear t0' t1' t1''
    clear HC2 HE2 x0 x1
    go_upto_region 33 with fail
    rw [← hW3]
    clear hW3 y0 y1 yf z0 z1 zf
    have HF : Hid (Ex (fun k => k = q) w ((W3.setCell ⟨r9, 0, none⟩ (.int .i64 we)).setCell ⟨r9, 1, none⟩ (.int .i64 x.q)).drew) := ((HE3.out.setNew n4 _).setNew n4 _).drew
    have HG := hide (HC3.out.other ((((Ex.refl (fun k => k = r9) W3).set (p := r9) (j := 0) rfl (.int .i64 we)).set (p := r9) (j := 1) rfl (.int .i64 x.q)).drew) n1)
    clear HC3 HE3
    go_upto_region 33 with fail
    go_region
    go_wp2
    exact bodyPost_ret (v := .tuple #[.int .i64 1, .agg #[.int .i64 we, .int .i64 x.q]]) (by simp [results, Try.results67, go_sem, u0, u1]) rfl ⟨rfl, HG.out, HF.out⟩
  · rw [if_pos rfl, if_pos rfl]
    go_enter Try.func67, Try.ntmps67
    go_upto_region 2 with fail
    obtain ⟨W, hW⟩ : ∃ W, W = (w.alloc (.cells #[.int .i64 0, .int .i64 0] 109)).alloc (.cells #[.int .i64 0, .int .i64 0] 109) := ⟨_, rfl⟩
    have hr9l : w.heap.size < W.heap.size := by rw [hW]; simp; omega
    have hr10l : w.heap.size + 1 < W.heap.size := by rw [hW]; simp
    rw [← hW] at HE HC d0 d1 df b0 b1 h3 x0 x1 ⊢
    clear hW
    obtain ⟨r10, hr10⟩ : ∃ r, w.heap.size + 1 = r := ⟨_, rfl⟩
    rw [hr10] at b0 b1 h3 hr10l ⊢
    obtain ⟨r9, hr9⟩ : ∃ r, w.heap.size = r := ⟨_, rfl⟩
    rw [hr9] at d0 d1 df hr9l ⊢
    have n1 : q ≠ r9 := by omega
    have n2 : q ≠ r10 := by omega
    have n3 : r9 ≠ r10 := by omega
    have n4 : w.heap.size ≤ r9 := by omega
    have n5 : w.heap.size ≤ r10 := by omega
    clear hr9 hr10 hql
    obtain ⟨w2, hw2⟩ : ∃ V, W = V := ⟨_, rfl⟩
    have hex2 : Ex (fun _ => False) W w2 := by rw [hw2]; exact Ex.refl _ _
    rw [hw2] at x0 x1 ⊢
    have y0 := hex2.cell (fun e => e) d0
    have y1 := hex2.cell (fun e => e) d1
    have z0 := hex2.cell (fun e => e) b0
    have z1 := hex2.cell (fun e => e) b1
    have yf := fun j => (hex2.frozen (q := r9) (j := j) (fun e => e) hr9l).trans (df j)
    have zf := fun j => (hex2.frozen (q := r10) (j := j) (fun e => e) hr10l).trans (h3 j)
    have HC2 := hide (HC.out.other hex2 (fun e => e))
    have HE2 : Hid (Ex (fun k => k = q) w w2) := (HE.out.trans hex2).mono (fun _ z => z.elim)
    clear hex2 HC HE d0 d1 b0 b1 df h3
    have HC3 := HC2
    have HE3 := HE2
    have u0 := y0
    have u1 := y1
    have uf := yf
    have t0 := z0
    have t1 := z1
    have hW3 : True := trivial
    go_upto_region 33 with fail
    obtain ⟨W3, hW3⟩ : ∃ V, w2 = V := ⟨_, rfl⟩
    rw [hW3] at HC3 HE3 u0 u1 uf t0 t1 ⊢
    clear hW3 y0 y1 yf z0 z1 zf HC2 HE2 hw2 x0 x1
    have HF : Hid (Ex (fun k => k = q) w ((W3.setCell ⟨r9, 0, none⟩ (.int .i64 0)).setCell ⟨r9, 1, none⟩ (.int .i64 0)).drew) := ((HE3.out.setNew n4 _).setNew n4 _).drew
    have HG := hide (HC3.out.other ((((Ex.refl (fun k => k = r9) W3).set (p := r9) (j := 0) rfl (.int .i64 0)).set (p := r9) (j := 1) rfl (.int .i64 0)).drew) n1)
    clear HC3 HE3
    go_upto_region 33 with fail
    go_region
    go_wp2
    exact bodyPost_ret (v := .tuple #[.int .i64 1, .agg #[.int .i64 0, .int .i64 0]]) (by simp [results, Try.results67, go_sem, u0, u1]) rfl ⟨rfl, HG.out, HF.out⟩
end Go.Proofs.Qxb6500778a
