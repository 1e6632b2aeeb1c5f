import Derived.Test.Qxb6500784aCx
namespace Go.Proofs.Qxb6500784a
open Go.RowKit

theorem WV.lens {w : World} {P : Pr} {Va Vb Vc Vd Ve : List Value} {f : Nat → List Nat} (h : WV w P Va Vb Vc Vd Ve f) : Va.length = 326 ∧ Vb.length = 326 ∧ Vc.length = 5 ∧ Vd.length = 5 ∧ Ve.length = 5 := by
  obtain ⟨_, _, _, _, e1, _, _, o1, _⟩ := h.a
  obtain ⟨_, _, _, _, e2, _, _, o2, _⟩ := h.b
  obtain ⟨_, _, _, _, _, e3, _⟩ := h.c
  obtain ⟨_, _, _, _, _, e4, _⟩ := h.d
  obtain ⟨_, _, _, _, _, e5, _⟩ := h.e
  exact ⟨by rw [e1]; exact Led0.len o1 _ _, by rw [e2]; exact Led0.len o2 _ _, by rw [e3]; rfl, by rw [e4]; rfl, by rw [e5]; rfl⟩
theorem WV.len {w : World} {P : Pr} {Va Vb Vc Vd Ve : List Value} {f : Nat → List Nat} (h : WV w P Va Vb Vc Vd Ve f) : (Va ++ (Vb ++ (Vc ++ (Vd ++ Ve)))).length = 667 := by
  obtain ⟨h1, h2, h3, h4, h5⟩ := h.lens
  simp only [List.length_append, h1, h2, h3, h4, h5]
theorem WV.one {w : World} {P : Pr} {Va Vb Vc Vd Ve : List Value} {f : Nat → List Nat} (h : WV w P Va Vb Vc Vd Ve f) : ∀ u ∈ Va ++ (Vb ++ (Vc ++ (Vd ++ Ve))), u.oneCell' = true := fun u hu => by
  obtain ⟨s1, m1, t1, a1, a2, a3, a4, _⟩ := h.a
  obtain ⟨s2, m2, t2, b1, b2, b3, b4, _⟩ := h.b
  obtain ⟨s3, u3, v3, t3, c1, c2, c3, c4, _⟩ := h.c
  obtain ⟨s4, u4, v4, t4, d1, d2, d3, d4, _⟩ := h.d
  obtain ⟨s5, u5, v5, t5, e1, e2, e3, e4, _⟩ := h.e
  simp only [List.mem_append] at hu
  rcases hu with z | z | z | z | z
  · exact PtL.one (x := ({ w with heap := #[] } : World)) (y := w) ⟨s1, m1, t1, a1, a2, a3, a4, fun j hj => ⟨Nat.zero_le _, a3.lt (a4 ▸ hj)⟩⟩ u z
  · exact PtL.one (x := ({ w with heap := #[] } : World)) (y := w) ⟨s2, m2, t2, b1, b2, b3, b4, fun j hj => ⟨Nat.zero_le _, b3.lt (b4 ▸ hj)⟩⟩ u z
  · exact PtB.one (x := ({ w with heap := #[] } : World)) (y := w) ⟨s3, u3, v3, t3, c1, c2, c3, c4, fun j hj => ⟨Nat.zero_le _, c3.lt (c4 ▸ hj)⟩⟩ u z
  · exact PtB.one (x := ({ w with heap := #[] } : World)) (y := w) ⟨s4, u4, v4, t4, d1, d2, d3, d4, fun j hj => ⟨Nat.zero_le _, d3.lt (d4 ▸ hj)⟩⟩ u z
  · exact PtB.one (x := ({ w with heap := #[] } : World)) (y := w) ⟨s5, u5, v5, t5, e1, e2, e3, e4, fun j hj => ⟨Nat.zero_le _, e3.lt (e4 ▸ hj)⟩⟩ u z
theorem WV.ex {w w' : World} {P : Pr} {Va Vb Vc Vd Ve : List Value} {f : Nat → List Nat} {Z : Nat → Prop} (h : WV w P Va Vb Vc Vd Ve f) (k : Ex Z w w') (hz : ∀ i, i < 5 → ∀ j, j ∈ f i → ¬ Z j) : WV w' P Va Vb Vc Vd Ve f := by
  obtain ⟨s1, m1, t1, a1, a2, a3, a4, a5⟩ := h.a
  obtain ⟨s2, m2, t2, b1, b2, b3, b4, b5⟩ := h.b
  obtain ⟨s3, u3, v3, t3, c1, c2, c3, c4, c5⟩ := h.c
  obtain ⟨s4, u4, v4, t4, d1, d2, d3, d4, d5⟩ := h.d
  obtain ⟨s5, u5, v5, t5, e1, e2, e3, e4, e5⟩ := h.e
  exact ⟨⟨s1, m1, t1, a1, a2, a3.keep k (fun j hj => hz 0 (by omega) j (a4 ▸ hj)), a4, a5⟩, ⟨s2, m2, t2, b1, b2, b3.keep k (fun j hj => hz 1 (by omega) j (b4 ▸ hj)), b4, b5⟩, ⟨s3, u3, v3, t3, c1, c2, c3.keep k (fun j hj => hz 2 (by omega) j (c4 ▸ hj)), c4, c5⟩, ⟨s4, u4, v4, t4, d1, d2, d3.keep k (fun j hj => hz 3 (by omega) j (d4 ▸ hj)), d4, d5⟩, ⟨s5, u5, v5, t5, e1, e2, e3.keep k (fun j hj => hz 4 (by omega) j (e4 ▸ hj)), e4, e5⟩, h.dj⟩
attribute [-simp] Try.isAgg50 Try.sizeOf50 Try.typeInfo50 Try.isAgg54 Try.sizeOf54 Try.typeInfo54 Try.isAgg56 Try.sizeOf56 Try.typeInfo56
set_option linter.unusedSimpArgs false in
set_option maxRecDepth 100000 in
set_option maxHeartbeats 8000000 in
/-- worldOf -/
theorem worldOf_any (w : World) (b : Nat) (P : Pr) (S : List Nat) (h : PP w b P S) (hsm : PSm P) :
    Calls Try.prog 20 #[.pointer (some ⟨b, 0, none⟩)] w fun e w' => ∃ Ua Ub Uc Ud Ue f', e = .returned (.agg (Ua ++ (Ub ++ (Uc ++ (Ud ++ Ue)))).toArray) ∧ WV w' P Ua Ub Uc Ud Ue f' ∧ Below w.heap.size w w' ∧ ∀ i, i < 5 → ∀ k, k ∈ f' i → w.heap.size ≤ k := by
  obtain ⟨f, hpa, -⟩ := h
  have HPA := hide hpa
  have HSM := hide hsm
  have HBW := hide hpa.pa.bl.1
  clear hpa hsm
  go_enter Try.func20, Try.ntmps20
  go_upto_region 1 with fail
  obtain ⟨D, hD⟩ : ∃ D, w.heap.size = D := ⟨_, rfl⟩
  have HD := hide hD
  have HX0 : Hid (Below w.heap.size w (w.alloc (.cells Try.zeroCells56 56)).drew) := (be1 w _).drew
  have HTT := hide (newTz w Try.zeroCells56 56)
  rw [Try.zs56] at HTT
  have HDL : Hid (D < (w.alloc (.cells Try.zeroCells56 56)).heap.size) := by rw [← hD]; simp [Hid]
  have HBD : Hid (b ≠ D) := by have := HBW.out; show b ≠ D; omega
  rw [hD] at HTT ⊢
  clear hD
  generalize w.alloc (.cells Try.zeroCells56 56) = w1 at *
  have HBL : Hid (b < w1.drew.heap.size) := Nat.lt_of_lt_of_le HBW.out HX0.out.size
  have hpa2 : PA w1.drew b P f := by
    have k := HX0.out
    exact ⟨HPA.out.pa.below k, HPA.out.pb.below k, HPA.out.pc.below k, HPA.out.pd.below k, HPA.out.pe.below k, HPA.out.dj⟩
  obtain ⟨Va, Vb, Vc, Vd, Ve, hwv, r1, r2, r3, r4, r5⟩ := hpa2.wv
  have HS0 : Hid (w1.drew.rangeAt b 0 Va ∧ w1.drew.rangeAt b 326 Vb ∧ w1.drew.rangeAt b 652 Vc ∧ w1.drew.rangeAt b 657 Vd ∧ w1.drew.rangeAt b 662 Ve) := ⟨r1, r2, r3, r4, r5⟩
  have HCW := hide (copyW_any w1.drew P Va Vb Vc Vd Ve f hwv HSM.out)
  have HLa := hide hwv.lens.1
  have HLb := hide hwv.lens.2.1
  have HLc := hide hwv.lens.2.2.1
  have HLd := hide hwv.lens.2.2.2.1
  have HLe := hide hwv.lens.2.2.2.2
  clear hpa2 hwv r1 r2 r3 r4 r5 HPA
  have hz50 := Try.sizeOf50
  have hz54 := Try.sizeOf54
  refine wp_region_held_drew (S := fun w' => w'.rangeAt b 0 Va ∧ w'.rangeAt b 326 Vb ∧ w'.rangeAt b 652 Vc ∧ w'.rangeAt b 657 Vd ∧ w'.rangeAt b 662 Ve) (by kernel_rfl) HS0.out (fun hHeld => ?_)
  refine wpAnyH_take (i := 0) (v := ?_) rfl (by kernel_rfl) (by kernel_rfl) (by kernel_rfl) (fun _ _ _ h => h) (Or.inl ⟨by rfl, ?_⟩) (by assumption) ?_
  rotate_left
  · (intro w hSw; (try dsimp only at hSw); go_simp; try (with_reducible rfl))
  try simp only [Act.put, List.getElem_toArray, List.getElem_cons_zero, List.getElem_cons_succ, List.setIfInBounds_toArray, List.set_cons_zero, List.set_cons_succ]
  refine wpAnyH_take (i := 1) (v := ?_) rfl (by kernel_rfl) (by kernel_rfl) (by kernel_rfl) (fun _ _ _ h => h) (Or.inl ⟨by rfl, ?_⟩) (by assumption) ?_
  rotate_left
  · (intro w hSw; (try dsimp only at hSw); go_simp; try (with_reducible rfl))
  try simp only [Act.put, List.getElem_toArray, List.getElem_cons_zero, List.getElem_cons_succ, List.setIfInBounds_toArray, List.set_cons_zero, List.set_cons_succ]
  refine wpAnyH_take (i := 2) (v := ?_) rfl (by kernel_rfl) (by kernel_rfl) (by kernel_rfl) (fun _ _ _ h => h) (Or.inl ⟨by rfl, ?_⟩) (by assumption) ?_
  rotate_left
  · (intro w hSw; (try dsimp only at hSw); go_simp; try (with_reducible rfl))
  try simp only [Act.put, List.getElem_toArray, List.getElem_cons_zero, List.getElem_cons_succ, List.setIfInBounds_toArray, List.set_cons_zero, List.set_cons_succ]
  refine wpAnyH_take (i := 3) rfl (by kernel_rfl) (by kernel_rfl) (by kernel_rfl) (fun _ _ _ h => h) (yieldsIf_load_mid (by rfl) 50 (.tmp 5) rfl b 0 rfl Va _ (fun w h => h.1) Try.underlying50 rfl (by rw [HLa.out]; exact Try.sz50)) (by assumption) ?_
  try simp only [Act.put, List.getElem_toArray, List.getElem_cons_zero, List.getElem_cons_succ, List.setIfInBounds_toArray, List.set_cons_zero, List.set_cons_succ]
  refine wpAnyH_take (i := 4) (v := ?_) rfl (by kernel_rfl) (by kernel_rfl) (by kernel_rfl) (fun _ _ _ h => h) (Or.inl ⟨by rfl, ?_⟩) (by assumption) ?_
  rotate_left
  · (intro w hSw; (try dsimp only at hSw); go_simp; try (with_reducible rfl))
  try simp only [Act.put, List.getElem_toArray, List.getElem_cons_zero, List.getElem_cons_succ, List.setIfInBounds_toArray, List.set_cons_zero, List.set_cons_succ]
  refine wpAnyH_take (i := 5) (v := ?_) rfl (by kernel_rfl) (by kernel_rfl) (by kernel_rfl) (fun _ _ _ h => h) (Or.inl ⟨by rfl, ?_⟩) (by assumption) ?_
  rotate_left
  · (intro w hSw; (try dsimp only at hSw); go_simp; try (with_reducible rfl))
  try simp only [Act.put, List.getElem_toArray, List.getElem_cons_zero, List.getElem_cons_succ, List.setIfInBounds_toArray, List.set_cons_zero, List.set_cons_succ]
  refine wpAnyH_take (i := 6) (v := ?_) rfl (by kernel_rfl) (by kernel_rfl) (by kernel_rfl) (fun _ _ _ h => h) (Or.inl ⟨by rfl, ?_⟩) (by assumption) ?_
  rotate_left
  · (intro w hSw; (try dsimp only at hSw); go_simp; try (with_reducible rfl))
  try simp only [Act.put, List.getElem_toArray, List.getElem_cons_zero, List.getElem_cons_succ, List.setIfInBounds_toArray, List.set_cons_zero, List.set_cons_succ]
  refine wpAnyH_take (i := 7) rfl (by kernel_rfl) (by kernel_rfl) (by kernel_rfl) (fun _ _ _ h => h) (yieldsIf_load_mid (by rfl) 50 (.tmp 9) rfl b 326 rfl Vb _ (fun w h => h.2.1) Try.underlying50 rfl (by rw [HLb.out]; exact Try.sz50)) (by assumption) ?_
  try simp only [Act.put, List.getElem_toArray, List.getElem_cons_zero, List.getElem_cons_succ, List.setIfInBounds_toArray, List.set_cons_zero, List.set_cons_succ]
  refine wpAnyH_take (i := 8) (v := ?_) rfl (by kernel_rfl) (by kernel_rfl) (by kernel_rfl) (fun _ _ _ h => h) (Or.inl ⟨by rfl, ?_⟩) (by assumption) ?_
  rotate_left
  · (intro w hSw; (try dsimp only at hSw); go_simp; try (with_reducible rfl))
  try simp only [Act.put, List.getElem_toArray, List.getElem_cons_zero, List.getElem_cons_succ, List.setIfInBounds_toArray, List.set_cons_zero, List.set_cons_succ]
  refine wpAnyH_take (i := 9) (v := ?_) rfl (by kernel_rfl) (by kernel_rfl) (by kernel_rfl) (fun _ _ _ h => h) (Or.inl ⟨by rfl, ?_⟩) (by assumption) ?_
  rotate_left
  · (intro w hSw; (try dsimp only at hSw); go_simp; try (with_reducible rfl))
  try simp only [Act.put, List.getElem_toArray, List.getElem_cons_zero, List.getElem_cons_succ, List.setIfInBounds_toArray, List.set_cons_zero, List.set_cons_succ]
  refine wpAnyH_take (i := 10) (v := ?_) rfl (by kernel_rfl) (by kernel_rfl) (by kernel_rfl) (fun _ _ _ h => h) (Or.inl ⟨by rfl, ?_⟩) (by assumption) ?_
  rotate_left
  · (intro w hSw; (try dsimp only at hSw); go_simp; try (with_reducible rfl))
  try simp only [Act.put, List.getElem_toArray, List.getElem_cons_zero, List.getElem_cons_succ, List.setIfInBounds_toArray, List.set_cons_zero, List.set_cons_succ]
  refine wpAnyH_take (i := 11) rfl (by kernel_rfl) (by kernel_rfl) (by kernel_rfl) (fun _ _ _ h => h) (yieldsIf_load_mid (by rfl) 54 (.tmp 13) rfl b 652 rfl Vc _ (fun w h => h.2.2.1) Try.underlying54 rfl (by rw [HLc.out]; exact Try.sz54)) (by assumption) ?_
  try simp only [Act.put, List.getElem_toArray, List.getElem_cons_zero, List.getElem_cons_succ, List.setIfInBounds_toArray, List.set_cons_zero, List.set_cons_succ]
  refine wpAnyH_take (i := 12) (v := ?_) rfl (by kernel_rfl) (by kernel_rfl) (by kernel_rfl) (fun _ _ _ h => h) (Or.inl ⟨by rfl, ?_⟩) (by assumption) ?_
  rotate_left
  · (intro w hSw; (try dsimp only at hSw); go_simp; try (with_reducible rfl))
  try simp only [Act.put, List.getElem_toArray, List.getElem_cons_zero, List.getElem_cons_succ, List.setIfInBounds_toArray, List.set_cons_zero, List.set_cons_succ]
  refine wpAnyH_take (i := 13) (v := ?_) rfl (by kernel_rfl) (by kernel_rfl) (by kernel_rfl) (fun _ _ _ h => h) (Or.inl ⟨by rfl, ?_⟩) (by assumption) ?_
  rotate_left
  · (intro w hSw; (try dsimp only at hSw); go_simp; try (with_reducible rfl))
  try simp only [Act.put, List.getElem_toArray, List.getElem_cons_zero, List.getElem_cons_succ, List.setIfInBounds_toArray, List.set_cons_zero, List.set_cons_succ]
  refine wpAnyH_take (i := 14) (v := ?_) rfl (by kernel_rfl) (by kernel_rfl) (by kernel_rfl) (fun _ _ _ h => h) (Or.inl ⟨by rfl, ?_⟩) (by assumption) ?_
  rotate_left
  · (intro w hSw; (try dsimp only at hSw); go_simp; try (with_reducible rfl))
  try simp only [Act.put, List.getElem_toArray, List.getElem_cons_zero, List.getElem_cons_succ, List.setIfInBounds_toArray, List.set_cons_zero, List.set_cons_succ]
  refine wpAnyH_take (i := 15) rfl (by kernel_rfl) (by kernel_rfl) (by kernel_rfl) (fun _ _ _ h => h) (yieldsIf_load_mid (by rfl) 54 (.tmp 17) rfl b 657 rfl Vd _ (fun w h => h.2.2.2.1) Try.underlying54 rfl (by rw [HLd.out]; exact Try.sz54)) (by assumption) ?_
  try simp only [Act.put, List.getElem_toArray, List.getElem_cons_zero, List.getElem_cons_succ, List.setIfInBounds_toArray, List.set_cons_zero, List.set_cons_succ]
  refine wpAnyH_take (i := 16) (v := ?_) rfl (by kernel_rfl) (by kernel_rfl) (by kernel_rfl) (fun _ _ _ h => h) (Or.inl ⟨by rfl, ?_⟩) (by assumption) ?_
  rotate_left
  · (intro w hSw; (try dsimp only at hSw); go_simp; try (with_reducible rfl))
  try simp only [Act.put, List.getElem_toArray, List.getElem_cons_zero, List.getElem_cons_succ, List.setIfInBounds_toArray, List.set_cons_zero, List.set_cons_succ]
  refine wpAnyH_take (i := 17) (v := ?_) rfl (by kernel_rfl) (by kernel_rfl) (by kernel_rfl) (fun _ _ _ h => h) (Or.inl ⟨by rfl, ?_⟩) (by assumption) ?_
  rotate_left
  · (intro w hSw; (try dsimp only at hSw); go_simp; try (with_reducible rfl))
  try simp only [Act.put, List.getElem_toArray, List.getElem_cons_zero, List.getElem_cons_succ, List.setIfInBounds_toArray, List.set_cons_zero, List.set_cons_succ]
  refine wpAnyH_take (i := 18) (v := ?_) rfl (by kernel_rfl) (by kernel_rfl) (by kernel_rfl) (fun _ _ _ h => h) (Or.inl ⟨by rfl, ?_⟩) (by assumption) ?_
  rotate_left
  · (intro w hSw; (try dsimp only at hSw); go_simp; try (with_reducible rfl))
  try simp only [Act.put, List.getElem_toArray, List.getElem_cons_zero, List.getElem_cons_succ, List.setIfInBounds_toArray, List.set_cons_zero, List.set_cons_succ]
  refine wpAnyH_take (i := 19) rfl (by kernel_rfl) (by kernel_rfl) (by kernel_rfl) (fun _ _ _ h => h) (yieldsIf_load_mid (by rfl) 54 (.tmp 21) rfl b 662 rfl Ve _ (fun w h => h.2.2.2.2) Try.underlying54 rfl (by rw [HLe.out]; exact Try.sz54)) (by assumption) ?_
  try simp only [Act.put, List.getElem_toArray, List.getElem_cons_zero, List.getElem_cons_succ, List.setIfInBounds_toArray, List.set_cons_zero, List.set_cons_succ]
  refine wpAnyH_take (i := 20) rfl (by kernel_rfl) (by kernel_rfl) (by kernel_rfl) (fun _ _ _ h => h) (yieldsIf_build (by rfl) 56 _ rfl (Va ++ (Vb ++ (Vc ++ (Vd ++ Ve)))).toArray (by exact built_w HLa.out HLb.out HLc.out HLd.out HLe.out)) (by assumption) ?_
  try simp only [Act.put, List.getElem_toArray, List.getElem_cons_zero, List.getElem_cons_succ, List.setIfInBounds_toArray, List.set_cons_zero, List.set_cons_succ]
  refine wpAnyH_ready (rs := [21]) (by kernel_rfl) (by simp) ?_
  refine (AllReadyH.cons rfl (fun K hK => ?_) AllReadyH.nil)
  refine step_call rfl 49 #[.agg (Va ++ (Vb ++ (Vc ++ (Vd ++ Ve)))).toArray] (by simp [go_sem]) HCW.out ?_
  rintro e x1 ⟨Ua, Ub, Uc, Ud, Ue, f', rfl, hwv, hbe, hge⟩
  have HWV := hide hwv
  have HB1 := hide hbe
  have HGE := hide hge
  have HS1 : Hid (x1.rangeAt b 0 Va ∧ x1.rangeAt b 326 Vb ∧ x1.rangeAt b 652 Vc ∧ x1.rangeAt b 657 Vd ∧ x1.rangeAt b 662 Ve) := by
    obtain ⟨z1, z2, z3, z4, z5⟩ := HS0.out
    have z0 := HBL.out
    exact ⟨range_below z1 z0 hbe, range_below z2 z0 hbe, range_below z3 z0 hbe, range_below z4 z0 hbe, range_below z5 z0 hbe⟩
  clear hwv hbe hge
  refine ⟨_, rfl, ?_⟩
  refine hK.out _ _ ?_ (fun hHeld => ?_)
  · exact HS1.out
  clear hK K
  try simp only [Act.put, List.getElem_toArray, List.getElem_cons_zero, List.getElem_cons_succ, List.setIfInBounds_toArray, List.set_cons_zero, List.set_cons_succ]
  refine wpAnyH_ready (rs := [22]) (by kernel_rfl) (by simp) ?_
  refine (AllReadyH.cons rfl (fun K hK => ?_) AllReadyH.nil)
  have HRl : Hid ((Ua ++ (Ub ++ (Uc ++ (Ud ++ Ue)))).length = 667) := HWV.out.len
  have HR1 : Hid (∀ u ∈ Ua ++ (Ub ++ (Uc ++ (Ud ++ Ue))), u.oneCell' = true) := HWV.out.one
  have HTH : Hid (x1.there D 0 667) := there_below (show w1.drew.there D 0 667 from HTT.out) (show D < w1.drew.heap.size from HDL.out) HB1.out
  have HEX : Hid (Ex (fun j => j = D) x1 (x1.setCells D 0 (Ua ++ (Ub ++ (Uc ++ (Ud ++ Ue)))))) := Ex.sets (S := fun j => j = D) rfl _ _ _ (Ex.refl _ _)
  have HS6 : Hid ((x1.setCells D 0 (Ua ++ (Ub ++ (Uc ++ (Ud ++ Ue))))).rangeAt b 0 Va ∧ (x1.setCells D 0 (Ua ++ (Ub ++ (Uc ++ (Ud ++ Ue))))).rangeAt b 326 Vb ∧ (x1.setCells D 0 (Ua ++ (Ub ++ (Uc ++ (Ud ++ Ue))))).rangeAt b 652 Vc ∧ (x1.setCells D 0 (Ua ++ (Ub ++ (Uc ++ (Ud ++ Ue))))).rangeAt b 657 Vd ∧ (x1.setCells D 0 (Ua ++ (Ub ++ (Uc ++ (Ud ++ Ue))))).rangeAt b 662 Ve) := by
    obtain ⟨z1, z2, z3, z4, z5⟩ := HS1.out
    have z0 : b < x1.heap.size := Nat.lt_of_lt_of_le HBL.out HB1.out.size
    have zd := HBD.out
    exact ⟨range_ex z1 z0 HEX.out zd, range_ex z2 z0 HEX.out zd, range_ex z3 z0 HEX.out zd, range_ex z4 z0 HEX.out zd, range_ex z5 z0 HEX.out zd⟩
  refine step_storeM rfl 56 (.tmp 2) (.tmp 24) rfl D 0 (Ua ++ (Ub ++ (Uc ++ (Ud ++ Ue)))) rfl rfl (by rw [HRl.out]; exact HTH.out) (by rw [HRl.out]; exact Try.sz56) HR1.out ?_
  refine hK.out _ _ ?_ (fun hHeld => ?_)
  · exact HS6.out
  clear hK K
  try simp only [Act.put, List.getElem_toArray, List.getElem_cons_zero, List.getElem_cons_succ, List.setIfInBounds_toArray, List.set_cons_zero, List.set_cons_succ]
  refine wpAnyH_done (by kernel_rfl) ?_ _
  have HRZ := hide (World.rangeAt_setCells_same x1 D 0 (Ua ++ (Ub ++ (Uc ++ (Ud ++ Ue)))) (by rw [HRl.out]; exact HTH.out))
  have HBZ : Hid (Below w.heap.size w (x1.setCells D 0 (Ua ++ (Ub ++ (Uc ++ (Ud ++ Ue)))))) := (lec HX0.out HB1.out).trans (HEX.out.below (lec HX0.out HB1.out).size (fun j hj e => by have := HD.out; omega))
  have HWZ := hide (HWV.out.ex HEX.out (fun i hi k hk e => by have := HGE.out i hi k hk; have := HDL.out; have : w1.drew.heap.size = w1.heap.size := rfl; omega))
  generalize x1.setCells D 0 (Ua ++ (Ub ++ (Uc ++ (Ud ++ Ue)))) = wz at *
  obtain ⟨R, hR⟩ : ∃ R, Ua ++ (Ub ++ (Uc ++ (Ud ++ Ue))) = R := ⟨_, rfl⟩
  have HPO : Hid (∃ Ua Ub Uc Ud Ue f', Ending.returned (.agg R.toArray) = .returned (.agg (Ua ++ (Ub ++ (Uc ++ (Ud ++ Ue)))).toArray) ∧ WV wz P Ua Ub Uc Ud Ue f' ∧ Below w.heap.size w wz ∧ ∀ i, i < 5 → ∀ k, k ∈ f' i → w.heap.size ≤ k) :=
    ⟨Ua, Ub, Uc, Ud, Ue, f', by rw [hR], HWZ.out, HBZ.out, fun i hi k hk => Nat.le_trans HX0.out.size (HGE.out i hi k hk)⟩
  simp only [hR] at HRZ HRl ⊢
  clear hR HWZ HWV
  go_wp2_with fail
  exact bodyPost_ret (v := .agg R.toArray) (res_cell Try.results20 rfl (run_loadVar_mid wz D 0 56 R _ HRZ.out Try.underlying56 rfl (by rw [HRl.out]; exact Try.sz56))) rfl HPO.out
end Go.Proofs.Qxb6500784a
