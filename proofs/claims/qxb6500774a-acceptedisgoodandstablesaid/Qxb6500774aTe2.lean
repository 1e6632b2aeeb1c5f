import Derived.Test.Qxb6500774aTe1
namespace Go.Proofs.Qxb6500774a
open Go.RowKit
set_option linter.unusedVariables false
set_option linter.unusedSimpArgs false

theorem spL_inj {f g : SP} (h : spL f = spL g) : f = g := by
  obtain ⟨k, x, ⟨e1, e2, e3⟩, ⟨a1, a2, a3⟩, ⟨b1, b2, b3⟩, ⟨c1, c2, c3⟩, ⟨d1, d2, d3⟩, ⟨g1, g2, g3⟩, li, cl⟩ := f
  obtain ⟨k', x', ⟨e1', e2', e3'⟩, ⟨a1', a2', a3'⟩, ⟨b1', b2', b3'⟩, ⟨c1', c2', c3'⟩, ⟨d1', d2', d3'⟩, ⟨g1', g2', g3'⟩, li', cl'⟩ := g
  simp only [spL, slV, List.cons.injEq, Value.int.injEq, Value.string.injEq, Value.slice.injEq, true_and, and_true] at h
  obtain ⟨h1, h2, ⟨h3, h4, h5⟩, ⟨h6, h7, h8⟩, ⟨h9, h10, h11⟩, ⟨h12, h13, h14⟩, ⟨h15, h16, h17⟩, ⟨h18, h19, h20⟩, h21, h22⟩ := h
  subst h1 h2 h3 h4 h5 h6 h7 h8 h9 h10 h11 h12 h13 h14 h15 h16 h17 h18 h19 h20 h21 h22
  rfl
set_option linter.unusedSimpArgs false in
set_option linter.unusedVariables false in
set_option maxRecDepth 100000 in
set_option maxHeartbeats 32000000 in
theorem st_asg (t e : E) (l c : Int) (r : S) (hg1 : gE t) (hg2 : gE e) : STC (.asg t e l c r) := by
  intro w b X n f F hpr hss hl hn
  obtain ⟨_, g, f1, f2, F', hF, hg, hk1, hk2, he1, he2, _⟩ := hss
  injection hF with hf1 hF
  have hf := spL_inj hf1
  subst hf
  have HL := hide hl
  have HN := hide hn
  have HI1 := hide (pexpr_any t hg1)
  have HI2 := hide (pexpr_any e hg2)
  have ex1 : Ex (fun _ => False) w (w.alloc (spO ⟨0, nb, ⟨some ⟨g, 0, none⟩, 2, 2⟩, nl, nl, nl, nl, nl, l, c⟩)) := (Ex.refl _ _).alloc _
  have HP1 := hide (hpr.low ex1)
  have HB1 := hide (BS.new hpr ⟨0, nb, ⟨some ⟨g, 0, none⟩, 2, 2⟩, nl, nl, nl, nl, nl, l, c⟩)
  have HK1 := hide (RC.go hk1 hg (hpr.low ex1).2)
  have HK2 := hide (RC.go hk2 hg (hpr.low ex1).2)
  have HE1 := hide (he1.go (hpr.low ex1).2)
  have HE2 := hide (he2.go (hpr.low ex1).2)
  clear hpr hl hn ex1 hf1 hF hg hk1 hk2 he1 he2 hg1 hg2
  obtain ⟨w1, hw1⟩ : ∃ wz, w.alloc (spO ⟨0, nb, ⟨some ⟨g, 0, none⟩, 2, 2⟩, nl, nl, nl, nl, nl, l, c⟩) = wz := ⟨_, rfl⟩
  rw [hw1] at HP1 HB1 HK1 HK2 HE1 HE2
  have HW1 := hide hw1
  unfold spO nl at HW1
  dsimp only at HW1
  clear hw1
  unfold spV nl
  dsimp only
  obtain ⟨TT, hTT⟩ : ∃ T, X ++ hdT (.asg t e l c r) n = T := ⟨_, rfl⟩
  have HTT := hide hTT
  rw [hTT]
  clear hTT
  unfold hdT at HTT HL
  go_enter Try.func69, Try.ntmps69
  go_upto_region 1 with fail
  rw [HW1.out]
  generalize w.heap.size = r3 at *
  clear HW1
  have k0 := HB1.out.te.c0
  dsimp only at k0
  have HG1 := hide HP1.out.2
  have HC := hide (HI1.out w1 b X n ⟨#[]⟩ f1 0 HP1.out.1 HE1.out (by have := HL.out; rw [show strL ⟨#[]⟩ = [] from rfl, List.append_nil]; simp only [List.length_append] at this ⊢; omega) (by decide) (by decide))
  rw [show strL ⟨#[]⟩ = [] from rfl, List.append_nil] at HC
  unfold xV at HC
  have q0 := HK1.out.1.c0
  have q1 := HK1.out.1.c1
  have q2 := HK1.out.1.c2
  have q3 := HK1.out.1.c3
  have q4 := HK1.out.1.c4
  have q5 := HK1.out.1.c5
  have q6 := HK1.out.1.c6
  have k2 := HB1.out.te.c2
  dsimp only at k2
  go_upto_region 3 with fail
  go_wp2_with fail
  refine HC.out.mono ?_
  rintro e9 w2 ⟨rfl, hp9, hg9⟩
  have HP2 := hide hp9
  have HG2 := hide (HG1.out.trans hg9)
  have HB2 := hide (HB1.out.go hg9)
  have HK3 := hide (RC.go HK2.out.1 HK2.out.2 hg9)
  have HE3 := hide (HE2.out.go hg9)
  clear hp9 hg9 HP1 HG1 HB1 HK1 HK2 HE1 HE2 HC k0 k2 q0 q1 q2 q3 q4 q5 q6
  simp only []
  have HC := hide (HI2.out w2 b (X ++ prE t 0) n ⟨#[32, 58, 61, 32]⟩ f2 0 HP2.out HE3.out (by have := HL.out; rw [show strL ⟨#[32, 58, 61, 32]⟩ = [32, 58, 61, 32] from rfl]; simp only [List.length_append] at this ⊢; omega) (by decide) (by decide))
  rw [show strL ⟨#[32, 58, 61, 32]⟩ = [32, 58, 61, 32] from rfl, show X ++ prE t 0 ++ [32, 58, 61, 32] ++ prE e 0 = X ++ (prE t 0 ++ ([32, 58, 61, 32] ++ prE e 0)) by simp only [List.append_assoc]] at HC
  unfold xV at HC
  have q0 := HK3.out.1.c0
  have q1 := HK3.out.1.c1
  have q2 := HK3.out.1.c2
  have q3 := HK3.out.1.c3
  have q4 := HK3.out.1.c4
  have q5 := HK3.out.1.c5
  have q6 := HK3.out.1.c6
  have k2 := HB2.out.te.c2
  dsimp only at k2
  go_upto_region 4 with fail
  go_wp2_with fail
  refine HC.out.mono ?_
  rintro e9 w3 ⟨rfl, hp9, hg9⟩
  have HP3 := hide hp9
  have HG3 := hide (HG2.out.trans hg9)
  clear hp9 hg9 HP2 HG2 HB2 HK3 HE3 HC k2 q0 q1 q2 q3 q4 q5 q6
  simp only []
  go_wp2
  exact bodyPost_ret (v := .tuple #[]) (by simp [results, Try.results69]) rfl ⟨rfl, by rw [← HTT.out]; exact HP3.out, HG3.out⟩
set_option linter.unusedSimpArgs false in
set_option linter.unusedVariables false in
set_option maxRecDepth 100000 in
set_option maxHeartbeats 32000000 in
theorem st_fr (x : ByteArray) (a e : E) (L : S) (l c : Int) (r : S) (hg1 : gE a) (hg2 : gE e) (hLS : LST L) : STC (.fr x a e L l c r) := by
  intro w b X n f F hpr hss hl hn
  obtain ⟨_, g, f1, f2, vl, FL, F', hF, hg, hk1, hk2, he1, he2, hrl, hsl, _⟩ := hss
  injection hF with hf1 hF
  have hf := spL_inj hf1
  subst hf
  have HL := hide hl
  have HN := hide hn
  have HI1 := hide (pexpr_any a hg1)
  have HI2 := hide (pexpr_any e hg2)
  have HLS := hide hLS
  have HSX : Hid (strL (⟨#[70, 79, 82, 32]⟩ ++ x ++ ⟨#[32, 58, 61, 32]⟩) = [70, 79, 82, 32] ++ strL x ++ [32, 58, 61, 32]) := by show _ = _; rw [strL_app, strL_app]; rfl
  have hsz1 : ¬ 9223372036854775807 < 4 + x.size := by
    have := HL.out
    unfold hdT at this
    simp only [List.length_append] at this
    have := strL_len x
    omega
  have hsz2 : ¬ 9223372036854775807 < 4 + x.size + 4 := by
    have := HL.out
    unfold hdT at this
    simp only [List.length_append] at this
    have := strL_len x
    omega
  have hsz3 : ¬ 9223372036854775807 < (⟨#[70, 79, 82, 32]⟩ ++ x : ByteArray).size + 4 := by rw [app_size]; exact hsz2
  have HNX : Hid (n + 1 + sdep L ≤ 1000000) := by have h : n + max (1 + sdep L) (sdep r) ≤ 1000000 := hn; have := Nat.le_max_left (1 + sdep L) (sdep r); show _ ≤ _; omega
  have ex1 : Ex (fun _ => False) w (w.alloc (spO ⟨3, x, ⟨some ⟨g, 0, none⟩, 2, 2⟩, nl, nl, vl, nl, nl, l, c⟩)) := (Ex.refl _ _).alloc _
  have HP1 := hide (hpr.low ex1)
  have HB1 := hide (BS.new hpr ⟨3, x, ⟨some ⟨g, 0, none⟩, 2, 2⟩, nl, nl, vl, nl, nl, l, c⟩)
  have HK1 := hide (RC.go hk1 hg (hpr.low ex1).2)
  have HK2 := hide (RC.go hk2 hg (hpr.low ex1).2)
  have HE1 := hide (he1.go (hpr.low ex1).2)
  have HE2 := hide (he2.go (hpr.low ex1).2)
  have HR1 := hide (hrl.go (hpr.low ex1).2)
  have HS1 := hide (hsl.go (hpr.low ex1).2)
  clear hpr hl hn ex1 hf1 hF hg hk1 hk2 he1 he2 hg1 hg2 hrl hsl hLS
  obtain ⟨w1, hw1⟩ : ∃ wz, w.alloc (spO ⟨3, x, ⟨some ⟨g, 0, none⟩, 2, 2⟩, nl, nl, vl, nl, nl, l, c⟩) = wz := ⟨_, rfl⟩
  rw [hw1] at HP1 HB1 HK1 HK2 HE1 HE2 HR1 HS1
  have HW1 := hide hw1
  unfold spO nl at HW1
  dsimp only at HW1
  clear hw1
  unfold spV nl
  dsimp only
  obtain ⟨TT, hTT⟩ : ∃ T, X ++ hdT (.fr x a e L l c r) n = T := ⟨_, rfl⟩
  have HTT := hide hTT
  rw [hTT]
  clear hTT
  unfold hdT at HTT HL
  go_enter Try.func69, Try.ntmps69
  go_upto_region 1 with fail
  rw [HW1.out]
  generalize w.heap.size = r3 at *
  clear HW1
  have k0 := HB1.out.te.c0
  dsimp only at k0
  have HG1 := hide HP1.out.2
  go_upto_region 28 with fail
  have HPd := hide (HP1.out.1.low ((Ex.refl (fun _ => False) w1).drew))
  have HC := hide (HI1.out w1.drew b X n (⟨#[70, 79, 82, 32]⟩ ++ x ++ ⟨#[32, 58, 61, 32]⟩) f1 0 HPd.out.1 (HE1.out.go HPd.out.2) (by have := HL.out; rw [HSX.out]; simp only [List.length_append] at this ⊢; omega) (by decide) (by decide))
  unfold xV at HC
  have HBd := hide (HB1.out.go HPd.out.2)
  have HKd := hide (RC.go HK1.out.1 HK1.out.2 HPd.out.2)
  have HKd2 := hide (RC.go HK2.out.1 HK2.out.2 HPd.out.2)
  have HEd := hide (HE2.out.go HPd.out.2)
  have HRd := hide (HR1.out.go HPd.out.2)
  have HSd := hide (HS1.out.go HPd.out.2)
  have HGd := hide (HG1.out.trans HPd.out.2)
  clear HB1 HK1 HK2 HE1 HE2 HR1 HS1 HG1 HP1 k0
  refine wp_region_until (fun w6 => (w6.cell? ⟨r3, 1, none⟩ = some (.string x) ∧ w6.cell? ⟨r3, 2, none⟩ = some (.slice (some ⟨g, 0, none⟩) 2 2)) ∧ RC w6 g 0 f1) 9 (by kernel_rfl) (⟨⟨HBd.out.te.c1, HBd.out.te.c2⟩, HKd.out.1⟩) (fun hHeld => ?_)
  generalize w1.drew = w1d at *
  refine wpAnyU_take (i := 0) (v := ?_) [9] rfl (by kernel_rfl) (by kernel_rfl) (by kernel_rfl) (by kernel_rfl) (fun _ _ _ h => h) (Or.inl ⟨by rfl, ?_⟩) (by assumption) ?_
  rotate_left
  · (intro w hSw; (try dsimp only at hSw); (skip); go_simp; try (with_reducible rfl))
  try simp only [Act.put, List.getElem_toArray, List.getElem_cons_zero, List.getElem_cons_succ, List.setIfInBounds_toArray, List.set_cons_zero, List.set_cons_succ]
  refine wpAnyU_take (i := 1) (v := ?_) [2, 3, 4, 9] rfl (by kernel_rfl) (by kernel_rfl) (by kernel_rfl) (by kernel_rfl) (fun _ _ _ h => h) (Or.inl ⟨by rfl, ?_⟩) (by assumption) ?_
  rotate_left
  · (intro w hSw; (try dsimp only at hSw); (skip); go_simp; try (with_reducible rfl))
  try simp only [Act.put, List.getElem_toArray, List.getElem_cons_zero, List.getElem_cons_succ, List.setIfInBounds_toArray, List.set_cons_zero, List.set_cons_succ]
  refine wpAnyU_take (i := 2) (v := ?_) [3, 4, 9] rfl (by kernel_rfl) (by kernel_rfl) (by kernel_rfl) (by kernel_rfl) (fun _ _ _ h => h) (Or.inl ⟨by rfl, ?_⟩) (by assumption) ?_
  rotate_left
  · (intro w hSw; (try dsimp only at hSw); (obtain ⟨⟨k1, k4⟩, hrc⟩ := hSw; have q0 := hrc.c0; have q1 := hrc.c1; have q2 := hrc.c2; have q3 := hrc.c3; have q4 := hrc.c4; have q5 := hrc.c5; have q6 := hrc.c6); go_simp; try (with_reducible rfl))
  try simp only [Act.put, List.getElem_toArray, List.getElem_cons_zero, List.getElem_cons_succ, List.setIfInBounds_toArray, List.set_cons_zero, List.set_cons_succ]
  refine wpAnyU_take (i := 3) (v := ?_) [4, 9] rfl (by kernel_rfl) (by kernel_rfl) (by kernel_rfl) (by kernel_rfl) (fun _ _ _ h => h) (Or.inl ⟨by rfl, ?_⟩) (by assumption) ?_
  rotate_left
  · (intro w hSw; (try dsimp only at hSw); (skip); go_simp; try (with_reducible rfl))
  try simp only [Act.put, List.getElem_toArray, List.getElem_cons_zero, List.getElem_cons_succ, List.setIfInBounds_toArray, List.set_cons_zero, List.set_cons_succ]
  refine wpAnyU_take (i := 4) (v := ?_) [9] rfl (by kernel_rfl) (by kernel_rfl) (by kernel_rfl) (by kernel_rfl) (fun _ _ _ h => h) (Or.inl ⟨by rfl, ?_⟩) (by assumption) ?_
  rotate_left
  · (intro w hSw; (try dsimp only at hSw); (skip); go_simp; try (with_reducible rfl))
  try simp only [Act.put, List.getElem_toArray, List.getElem_cons_zero, List.getElem_cons_succ, List.setIfInBounds_toArray, List.set_cons_zero, List.set_cons_succ]
  refine wpAnyU_take (i := 5) (v := ?_) [6, 7, 8, 9] rfl (by kernel_rfl) (by kernel_rfl) (by kernel_rfl) (by kernel_rfl) (fun _ _ _ h => h) (Or.inl ⟨by rfl, ?_⟩) (by assumption) ?_
  rotate_left
  · (intro w hSw; (try dsimp only at hSw); (skip); go_simp; try (with_reducible rfl))
  try simp only [Act.put, List.getElem_toArray, List.getElem_cons_zero, List.getElem_cons_succ, List.setIfInBounds_toArray, List.set_cons_zero, List.set_cons_succ]
  refine wpAnyU_take (i := 6) (v := ?_) [7, 8, 9] rfl (by kernel_rfl) (by kernel_rfl) (by kernel_rfl) (by kernel_rfl) (fun _ _ _ h => h) (Or.inl ⟨by rfl, ?_⟩) (by assumption) ?_
  rotate_left
  · (intro w hSw; (try dsimp only at hSw); (obtain ⟨⟨k1, k4⟩, hrc⟩ := hSw; have q0 := hrc.c0; have q1 := hrc.c1; have q2 := hrc.c2; have q3 := hrc.c3; have q4 := hrc.c4; have q5 := hrc.c5; have q6 := hrc.c6); go_simp; try (with_reducible rfl))
  try simp only [Act.put, List.getElem_toArray, List.getElem_cons_zero, List.getElem_cons_succ, List.setIfInBounds_toArray, List.set_cons_zero, List.set_cons_succ]
  refine wpAnyU_take (i := 7) (v := ?_) [8, 9] rfl (by kernel_rfl) (by kernel_rfl) (by kernel_rfl) (by kernel_rfl) (fun _ _ _ h => h) (Or.inl ⟨by rfl, ?_⟩) (by assumption) ?_
  rotate_left
  · (intro w hSw; (try dsimp only at hSw); (skip); go_simp; try (with_reducible rfl))
  try simp only [Act.put, List.getElem_toArray, List.getElem_cons_zero, List.getElem_cons_succ, List.setIfInBounds_toArray, List.set_cons_zero, List.set_cons_succ]
  refine wpAnyU_take (i := 8) (v := ?_) [9] rfl (by kernel_rfl) (by kernel_rfl) (by kernel_rfl) (by kernel_rfl) (fun _ _ _ h => h) (Or.inl ⟨by rfl, ?_⟩) (by assumption) ?_
  rotate_left
  · (intro w hSw; (try dsimp only at hSw); (obtain ⟨⟨k1, k4⟩, hrc⟩ := hSw; have q0 := hrc.c0; have q1 := hrc.c1; have q2 := hrc.c2; have q3 := hrc.c3; have q4 := hrc.c4; have q5 := hrc.c5; have q6 := hrc.c6); go_simp; try (with_reducible rfl))
  try simp only [Act.put, List.getElem_toArray, List.getElem_cons_zero, List.getElem_cons_succ, List.setIfInBounds_toArray, List.set_cons_zero, List.set_cons_succ]
  refine wpAnyU_ready (rs := [9]) (by kernel_rfl) (by simp) ?_
  refine AllReadyU.last rfl (fun K hK => ?_)
  refine step_call rfl 31 _ (by simp [go_sem]) HC.out ?_
  rintro e9 w2 ⟨rfl, hp9, hg9⟩
  have HP2 := hide hp9
  have HG2 := hide (HGd.out.trans hg9)
  have HB2 := hide (HBd.out.go hg9)
  have HK3 := hide (RC.go HKd2.out.1 HKd2.out.2 hg9)
  have HE3 := hide (HEd.out.go hg9)
  have HR2 := hide (HRd.out.go hg9)
  have HS2 := hide (HSd.out.go hg9)
  clear hp9 hg9 HPd HGd HBd HKd HKd2 HEd HC HRd HSd
  refine ⟨_, rfl, ?_⟩
  refine hK.out _ _ ?_
  clear hK K
  try simp only [Act.put, List.getElem_toArray, List.getElem_cons_zero, List.getElem_cons_succ, List.setIfInBounds_toArray, List.set_cons_zero, List.set_cons_succ]
  refine wpAnyU_done (by kernel_rfl) ?_ _
  rw [HSX.out, show X ++ ([70, 79, 82, 32] ++ strL x ++ [32, 58, 61, 32]) ++ prE a 0 = X ++ [70, 79, 82, 32] ++ strL x ++ [32, 58, 61, 32] ++ prE a 0 by simp only [List.append_assoc]] at HP2
  have HC := hide (HI2.out w2 b (X ++ [70, 79, 82, 32] ++ strL x ++ [32, 58, 61, 32] ++ prE a 0) n ⟨#[32, 84, 79, 32]⟩ f2 0 HP2.out HE3.out (by have := HL.out; rw [show strL ⟨#[32, 84, 79, 32]⟩ = [32, 84, 79, 32] from rfl]; simp only [List.length_append] at this ⊢; omega) (by decide) (by decide))
  rw [show strL ⟨#[32, 84, 79, 32]⟩ = [32, 84, 79, 32] from rfl] at HC
  unfold xV at HC
  have q0 := HK3.out.1.c0
  have q1 := HK3.out.1.c1
  have q2 := HK3.out.1.c2
  have q3 := HK3.out.1.c3
  have q4 := HK3.out.1.c4
  have q5 := HK3.out.1.c5
  have q6 := HK3.out.1.c6
  have k2 := HB2.out.te.c2
  dsimp only at k2
  go_upto_region 29 with fail
  go_wp2_with fail
  refine HC.out.mono ?_
  rintro e9 w3 ⟨rfl, hp9, hg9⟩
  have HP3 := hide hp9
  have HG3 := hide (HG2.out.trans hg9)
  have HB3 := hide (HB2.out.go hg9)
  have HR3 := hide (HR2.out.go hg9)
  have HS3 := hide (HS2.out.go hg9)
  clear hp9 hg9 HP2 HG2 HB2 HK3 HE3 HC HR2 HS2 k2 q0 q1 q2 q3 q4 q5 q6
  simp only []
  have HT := hide (text_any w3 b (X ++ [70, 79, 82, 32] ++ strL x ++ [32, 58, 61, 32] ++ prE a 0 ++ [32, 84, 79, 32] ++ prE e 0) n ⟨#[32, 68, 79, 10]⟩ HP3.out (by have := HL.out; rw [show strL ⟨#[32, 68, 79, 10]⟩ = [32, 68, 79, 10] from rfl]; simp only [List.length_append] at this ⊢; omega))
  rw [show strL ⟨#[32, 68, 79, 10]⟩ = [32, 68, 79, 10] from rfl] at HT
  go_upto_region 30 with fail
  go_wp2_with fail
  refine HT.out.mono ?_
  rintro e9 w4 ⟨rfl, hp9, hg9⟩
  have HP4 := hide hp9
  have HG4 := hide (HG3.out.trans hg9)
  have HB4 := hide (HB3.out.go hg9)
  have HR4 := hide (HR3.out.go hg9)
  have HS4 := hide (HS3.out.go hg9)
  clear hp9 hg9 HP3 HG3 HB3 HT HR3 HS3
  simp only []
  have HC := hide (HLS.out w4 b (X ++ [70, 79, 82, 32] ++ strL x ++ [32, 58, 61, 32] ++ prE a 0 ++ [32, 84, 79, 32] ++ prE e 0 ++ [32, 68, 79, 10]) n vl FL HP4.out HR4.out HS4.out (by have := HL.out; simp only [List.length_append] at this ⊢; omega) HNX.out)
  unfold slV at HC
  have k5 := HB4.out.te.c5
  dsimp only at k5
  go_upto_region 31 with fail
  go_wp2_with fail
  refine HC.out.mono ?_
  rintro e9 w5 ⟨rfl, hp9, hg9⟩
  have HP5 := hide hp9
  have HG5 := hide (HG4.out.trans hg9)
  clear hp9 hg9 HP4 HG4 HB4 HC HR4 HS4 k5
  simp only []
  have HT := hide (line_any w5 b (X ++ [70, 79, 82, 32] ++ strL x ++ [32, 58, 61, 32] ++ prE a 0 ++ [32, 84, 79, 32] ++ prE e 0 ++ [32, 68, 79, 10] ++ pr L (n + 1) true) n ⟨#[69, 78, 68, 95, 70, 79, 82]⟩ HP5.out (by have := HNX.out; omega) (by have := HL.out; rw [show strL ⟨#[69, 78, 68, 95, 70, 79, 82]⟩ = [69, 78, 68, 95, 70, 79, 82] from rfl]; simp only [List.length_append, mrg_len] at this ⊢; omega))
  rw [show strL ⟨#[69, 78, 68, 95, 70, 79, 82]⟩ = [69, 78, 68, 95, 70, 79, 82] from rfl, show X ++ [70, 79, 82, 32] ++ strL x ++ [32, 58, 61, 32] ++ prE a 0 ++ [32, 84, 79, 32] ++ prE e 0 ++ [32, 68, 79, 10] ++ pr L (n + 1) true ++ mrg n ++ [69, 78, 68, 95, 70, 79, 82] = X ++ ([70, 79, 82, 32] ++ strL x ++ [32, 58, 61, 32] ++ prE a 0 ++ ([32, 84, 79, 32] ++ prE e 0) ++ [32, 68, 79, 10] ++ pr L (n + 1) true ++ (mrg n ++ [69, 78, 68, 95, 70, 79, 82])) by simp only [List.append_assoc]] at HT
  go_upto_region 32 with fail
  go_wp2_with fail
  refine HT.out.mono ?_
  rintro e9 w6 ⟨rfl, hp9, hg9⟩
  have HP6 := hide hp9
  have HG6 := hide (HG5.out.trans hg9)
  clear hp9 hg9 HP5 HG5 HT
  simp only []
  go_wp2
  exact bodyPost_ret (v := .tuple #[]) (by simp [results, Try.results69]) rfl ⟨rfl, by rw [← HTT.out]; exact HP6.out, HG6.out⟩
end Go.Proofs.Qxb6500774a
