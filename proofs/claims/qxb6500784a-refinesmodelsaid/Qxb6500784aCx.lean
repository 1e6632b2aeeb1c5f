import Derived.Test.Qxb6500784aCw
namespace Go.Proofs.Qxb6500784a
open Go.RowKit

attribute [-simp] Try.isAgg50 Try.sizeOf50 Try.typeInfo50 Try.isAgg54 Try.sizeOf54 Try.typeInfo54 Try.isAgg56 Try.sizeOf56 Try.typeInfo56
set_option linter.unusedSimpArgs false in
set_option maxRecDepth 100000 in
set_option maxHeartbeats 8000000 in
theorem copyW_any (w : World) (P : Pr) (Va Vb Vc Vd Ve : List Value) (f : Nat → List Nat) (h : WV w P Va Vb Vc Vd Ve f) (hsm : PSm P) :
    Calls Try.prog 49 #[.agg (Va ++ (Vb ++ (Vc ++ (Vd ++ Ve)))).toArray] w fun e w' => ∃ Ua Ub Uc Ud Ue f', e = .returned (.agg (Ua ++ (Ub ++ (Uc ++ (Ud ++ Ue)))).toArray) ∧ WV w' P Ua Ub Uc Ud Ue f' ∧ Below w.heap.size w w' ∧ ∀ i, i < 5 → ∀ k, k ∈ f' i → w.heap.size ≤ k := by
  have HF0 := hide (cpL h.a hsm.1)
  have HF1 := hide (cpL h.b hsm.2.1)
  have HF2 := hide (cpB h.c hsm.2.2.1)
  have HF3 := hide (cpB h.d hsm.2.2.2.1)
  have HF4 := hide (cpB h.e hsm.2.2.2.2)
  have HH0 := hide h
  clear hsm h
  obtain ⟨V, hV⟩ : ∃ V, Va ++ (Vb ++ (Vc ++ (Vd ++ Ve))) = V := ⟨_, rfl⟩
  have HV := hide hV
  rw [hV]
  clear hV
  go_enter Try.func49, Try.ntmps49
  go_upto_region 1 with fail
  obtain ⟨A, hA⟩ : ∃ A, w.heap.size = A := ⟨_, rfl⟩
  have HA := hide hA
  have HX0 : Hid (Below w.heap.size w ((w.alloc (.cells V.toArray 56)).alloc (.cells Try.zeroCells56 56)).drew) := (below2 w _ _).drew
  have HR := hide (range_below (newR w V 56) (by simp) (be1 (w.alloc (.cells V.toArray 56)) (.cells Try.zeroCells56 56)))
  have HTT := hide (newTz (w.alloc (.cells V.toArray 56)) Try.zeroCells56 56)
  rw [Try.zs56, show (w.alloc (.cells V.toArray 56)).heap.size = w.heap.size + 1 by simp] at HTT
  have HZ0 : Hid (A + 2 ≤ ((w.alloc (.cells V.toArray 56)).alloc (.cells Try.zeroCells56 56)).drew.heap.size) := by show _ ≤ ((w.alloc (.cells V.toArray 56)).alloc (.cells Try.zeroCells56 56)).heap.size; rw [← hA]; simp
  rw [hA] at HR HTT ⊢
  clear hA
  generalize (w.alloc (.cells V.toArray 56)).alloc (.cells Try.zeroCells56 56) = w1 at *
  have HLa : Hid (Va.length = 326) := by obtain ⟨_, _, _, _, e, _, _, o, _⟩ := HH0.out.a; rw [e]; exact Led0.len o _ _
  have HLb : Hid (Vb.length = 326) := by obtain ⟨_, _, _, _, e, _, _, o, _⟩ := HH0.out.b; rw [e]; exact Led0.len o _ _
  have HLc : Hid (Vc.length = 5) := by obtain ⟨_, _, _, _, _, e, _⟩ := HH0.out.c; rw [e]; rfl
  have HLd : Hid (Vd.length = 5) := by obtain ⟨_, _, _, _, _, e, _⟩ := HH0.out.d; rw [e]; rfl
  have HLe : Hid (Ve.length = 5) := by obtain ⟨_, _, _, _, _, e, _⟩ := HH0.out.e; rw [e]; rfl
  have HS0 : Hid (w1.drew.rangeAt A 0 Va ∧ w1.drew.rangeAt A 326 Vb ∧ w1.drew.rangeAt A 652 Vc ∧ w1.drew.rangeAt A 657 Vd ∧ w1.drew.rangeAt A 662 Ve) := by
    have r := HR.out
    rw [← HV.out] at r
    obtain ⟨r1, q1⟩ := range_app r
    obtain ⟨r2, q2⟩ := range_app q1
    obtain ⟨r3, q3⟩ := range_app q2
    obtain ⟨r4, r5⟩ := range_app q3
    rw [HLa.out] at r2 q2 r3 q3 r4 r5
    rw [HLb.out] at r3 q3 r4 r5
    rw [HLc.out] at r4 r5
    rw [HLd.out] at r5
    exact ⟨r1, r2, r3, r4, r5⟩
  have hz50 := Try.sizeOf50
  have hz54 := Try.sizeOf54
  clear HR HV
  refine wp_region_held_drew (S := fun w' => w'.rangeAt A 0 Va ∧ w'.rangeAt A 326 Vb ∧ w'.rangeAt A 652 Vc ∧ w'.rangeAt A 657 Vd ∧ w'.rangeAt A 662 Ve) (by kernel_rfl) HS0.out (fun hHeld => ?_)
  refine wpAnyH_take (i := 0) (v := ?_) rfl (by kernel_rfl) (by kernel_rfl) (by kernel_rfl) (fun _ _ _ h => h) (Or.inl ⟨by rfl, ?_⟩) (by assumption) ?_
  rotate_left
  · (intro w hSw; (try dsimp only at hSw); go_simp; try (with_reducible rfl))
  try simp only [Act.put, List.getElem_toArray, List.getElem_cons_zero, List.getElem_cons_succ, List.setIfInBounds_toArray, List.set_cons_zero, List.set_cons_succ]
  refine wpAnyH_take (i := 1) rfl (by kernel_rfl) (by kernel_rfl) (by kernel_rfl) (fun _ _ _ h => h) (yieldsIf_load_mid (by rfl) 50 (.tmp 3) rfl A 0 rfl Va _ (fun w h => h.1) Try.underlying50 rfl (by rw [HLa.out]; exact Try.sz50)) (by assumption) ?_
  try simp only [Act.put, List.getElem_toArray, List.getElem_cons_zero, List.getElem_cons_succ, List.setIfInBounds_toArray, List.set_cons_zero, List.set_cons_succ]
  refine wpAnyH_take (i := 3) (v := ?_) rfl (by kernel_rfl) (by kernel_rfl) (by kernel_rfl) (fun _ _ _ h => h) (Or.inl ⟨by rfl, ?_⟩) (by assumption) ?_
  rotate_left
  · (intro w hSw; (try dsimp only at hSw); go_simp; try (with_reducible rfl))
  try simp only [Act.put, List.getElem_toArray, List.getElem_cons_zero, List.getElem_cons_succ, List.setIfInBounds_toArray, List.set_cons_zero, List.set_cons_succ]
  refine wpAnyH_take (i := 4) rfl (by kernel_rfl) (by kernel_rfl) (by kernel_rfl) (fun _ _ _ h => h) (yieldsIf_load_mid (by rfl) 50 (.tmp 6) rfl A 326 rfl Vb _ (fun w h => h.2.1) Try.underlying50 rfl (by rw [HLb.out]; exact Try.sz50)) (by assumption) ?_
  try simp only [Act.put, List.getElem_toArray, List.getElem_cons_zero, List.getElem_cons_succ, List.setIfInBounds_toArray, List.set_cons_zero, List.set_cons_succ]
  refine wpAnyH_take (i := 6) (v := ?_) rfl (by kernel_rfl) (by kernel_rfl) (by kernel_rfl) (fun _ _ _ h => h) (Or.inl ⟨by rfl, ?_⟩) (by assumption) ?_
  rotate_left
  · (intro w hSw; (try dsimp only at hSw); go_simp; try (with_reducible rfl))
  try simp only [Act.put, List.getElem_toArray, List.getElem_cons_zero, List.getElem_cons_succ, List.setIfInBounds_toArray, List.set_cons_zero, List.set_cons_succ]
  refine wpAnyH_take (i := 7) rfl (by kernel_rfl) (by kernel_rfl) (by kernel_rfl) (fun _ _ _ h => h) (yieldsIf_load_mid (by rfl) 54 (.tmp 9) rfl A 652 rfl Vc _ (fun w h => h.2.2.1) Try.underlying54 rfl (by rw [HLc.out]; exact Try.sz54)) (by assumption) ?_
  try simp only [Act.put, List.getElem_toArray, List.getElem_cons_zero, List.getElem_cons_succ, List.setIfInBounds_toArray, List.set_cons_zero, List.set_cons_succ]
  refine wpAnyH_take (i := 9) (v := ?_) rfl (by kernel_rfl) (by kernel_rfl) (by kernel_rfl) (fun _ _ _ h => h) (Or.inl ⟨by rfl, ?_⟩) (by assumption) ?_
  rotate_left
  · (intro w hSw; (try dsimp only at hSw); go_simp; try (with_reducible rfl))
  try simp only [Act.put, List.getElem_toArray, List.getElem_cons_zero, List.getElem_cons_succ, List.setIfInBounds_toArray, List.set_cons_zero, List.set_cons_succ]
  refine wpAnyH_take (i := 10) rfl (by kernel_rfl) (by kernel_rfl) (by kernel_rfl) (fun _ _ _ h => h) (yieldsIf_load_mid (by rfl) 54 (.tmp 12) rfl A 657 rfl Vd _ (fun w h => h.2.2.2.1) Try.underlying54 rfl (by rw [HLd.out]; exact Try.sz54)) (by assumption) ?_
  try simp only [Act.put, List.getElem_toArray, List.getElem_cons_zero, List.getElem_cons_succ, List.setIfInBounds_toArray, List.set_cons_zero, List.set_cons_succ]
  refine wpAnyH_take (i := 12) (v := ?_) rfl (by kernel_rfl) (by kernel_rfl) (by kernel_rfl) (fun _ _ _ h => h) (Or.inl ⟨by rfl, ?_⟩) (by assumption) ?_
  rotate_left
  · (intro w hSw; (try dsimp only at hSw); go_simp; try (with_reducible rfl))
  try simp only [Act.put, List.getElem_toArray, List.getElem_cons_zero, List.getElem_cons_succ, List.setIfInBounds_toArray, List.set_cons_zero, List.set_cons_succ]
  refine wpAnyH_take (i := 13) rfl (by kernel_rfl) (by kernel_rfl) (by kernel_rfl) (fun _ _ _ h => h) (yieldsIf_load_mid (by rfl) 54 (.tmp 15) rfl A 662 rfl Ve _ (fun w h => h.2.2.2.2) Try.underlying54 rfl (by rw [HLe.out]; exact Try.sz54)) (by assumption) ?_
  try simp only [Act.put, List.getElem_toArray, List.getElem_cons_zero, List.getElem_cons_succ, List.setIfInBounds_toArray, List.set_cons_zero, List.set_cons_succ]
  refine wpAnyH_ready (rs := [2]) (by kernel_rfl) (by simp) ?_
  refine (AllReadyH.cons rfl (fun K hK => ?_) AllReadyH.nil)
  refine step_call rfl 76 #[.agg Va.toArray] (by simp [go_sem]) (HF0.out _ HX0.out) ?_
  rintro e x1 ⟨Ua, Ba, rfl, hl, hb, hp⟩
  have HU0 := hide hl
  have HT0 := hide hp
  have HW0 := hide hb
  have HX1 := hide (lec HX0.out hb)
  have HS1 : Hid (x1.rangeAt A 0 Va ∧ x1.rangeAt A 326 Vb ∧ x1.rangeAt A 652 Vc ∧ x1.rangeAt A 657 Vd ∧ x1.rangeAt A 662 Ve) := by
    obtain ⟨z1, z2, z3, z4, z5⟩ := HS0.out
    have z0 := HZ0.out
    exact ⟨range_below z1 (by omega) hb, range_below z2 (by omega) hb, range_below z3 (by omega) hb, range_below z4 (by omega) hb, range_below z5 (by omega) hb⟩
  have HZ1 : Hid (A + 2 ≤ x1.heap.size) := Nat.le_trans HZ0.out hb.size
  clear hl hb hp
  refine ⟨_, rfl, ?_⟩
  refine hK.out _ _ ?_ (fun hHeld => ?_)
  · exact HS1.out
  clear hK K
  try simp only [Act.put, List.getElem_toArray, List.getElem_cons_zero, List.getElem_cons_succ, List.setIfInBounds_toArray, List.set_cons_zero, List.set_cons_succ]
  refine wpAnyH_ready (rs := [5]) (by kernel_rfl) (by simp) ?_
  refine (AllReadyH.cons rfl (fun K hK => ?_) AllReadyH.nil)
  refine step_call rfl 76 #[.agg Vb.toArray] (by simp [go_sem]) (HF1.out _ HX1.out) ?_
  rintro e x2 ⟨Ub, Bb, rfl, hl, hb, hp⟩
  have HU1 := hide hl
  have HT1 := hide hp
  have HW1 := hide hb
  have HX2 := hide (lec HX1.out hb)
  have HS2 : Hid (x2.rangeAt A 0 Va ∧ x2.rangeAt A 326 Vb ∧ x2.rangeAt A 652 Vc ∧ x2.rangeAt A 657 Vd ∧ x2.rangeAt A 662 Ve) := by
    obtain ⟨z1, z2, z3, z4, z5⟩ := HS1.out
    have z0 := HZ1.out
    exact ⟨range_below z1 (by omega) hb, range_below z2 (by omega) hb, range_below z3 (by omega) hb, range_below z4 (by omega) hb, range_below z5 (by omega) hb⟩
  have HZ2 : Hid (A + 2 ≤ x2.heap.size) := Nat.le_trans HZ1.out hb.size
  clear hl hb hp
  refine ⟨_, rfl, ?_⟩
  refine hK.out _ _ ?_ (fun hHeld => ?_)
  · exact HS2.out
  clear hK K
  try simp only [Act.put, List.getElem_toArray, List.getElem_cons_zero, List.getElem_cons_succ, List.setIfInBounds_toArray, List.set_cons_zero, List.set_cons_succ]
  refine wpAnyH_ready (rs := [8]) (by kernel_rfl) (by simp) ?_
  refine (AllReadyH.cons rfl (fun K hK => ?_) AllReadyH.nil)
  refine step_call rfl 77 #[.agg Vc.toArray] (by simp [go_sem]) (HF2.out _ HX2.out) ?_
  rintro e x3 ⟨Uc, Bc, rfl, hl, hb, hp⟩
  have HU2 := hide hl
  have HT2 := hide hp
  have HW2 := hide hb
  have HX3 := hide (lec HX2.out hb)
  have HS3 : Hid (x3.rangeAt A 0 Va ∧ x3.rangeAt A 326 Vb ∧ x3.rangeAt A 652 Vc ∧ x3.rangeAt A 657 Vd ∧ x3.rangeAt A 662 Ve) := by
    obtain ⟨z1, z2, z3, z4, z5⟩ := HS2.out
    have z0 := HZ2.out
    exact ⟨range_below z1 (by omega) hb, range_below z2 (by omega) hb, range_below z3 (by omega) hb, range_below z4 (by omega) hb, range_below z5 (by omega) hb⟩
  have HZ3 : Hid (A + 2 ≤ x3.heap.size) := Nat.le_trans HZ2.out hb.size
  clear hl hb hp
  refine ⟨_, rfl, ?_⟩
  refine hK.out _ _ ?_ (fun hHeld => ?_)
  · exact HS3.out
  clear hK K
  try simp only [Act.put, List.getElem_toArray, List.getElem_cons_zero, List.getElem_cons_succ, List.setIfInBounds_toArray, List.set_cons_zero, List.set_cons_succ]
  refine wpAnyH_ready (rs := [11]) (by kernel_rfl) (by simp) ?_
  refine (AllReadyH.cons rfl (fun K hK => ?_) AllReadyH.nil)
  refine step_call rfl 77 #[.agg Vd.toArray] (by simp [go_sem]) (HF3.out _ HX3.out) ?_
  rintro e x4 ⟨Ud, Bd, rfl, hl, hb, hp⟩
  have HU3 := hide hl
  have HT3 := hide hp
  have HW3 := hide hb
  have HX4 := hide (lec HX3.out hb)
  have HS4 : Hid (x4.rangeAt A 0 Va ∧ x4.rangeAt A 326 Vb ∧ x4.rangeAt A 652 Vc ∧ x4.rangeAt A 657 Vd ∧ x4.rangeAt A 662 Ve) := by
    obtain ⟨z1, z2, z3, z4, z5⟩ := HS3.out
    have z0 := HZ3.out
    exact ⟨range_below z1 (by omega) hb, range_below z2 (by omega) hb, range_below z3 (by omega) hb, range_below z4 (by omega) hb, range_below z5 (by omega) hb⟩
  have HZ4 : Hid (A + 2 ≤ x4.heap.size) := Nat.le_trans HZ3.out hb.size
  clear hl hb hp
  refine ⟨_, rfl, ?_⟩
  refine hK.out _ _ ?_ (fun hHeld => ?_)
  · exact HS4.out
  clear hK K
  try simp only [Act.put, List.getElem_toArray, List.getElem_cons_zero, List.getElem_cons_succ, List.setIfInBounds_toArray, List.set_cons_zero, List.set_cons_succ]
  refine wpAnyH_ready (rs := [14]) (by kernel_rfl) (by simp) ?_
  refine (AllReadyH.cons rfl (fun K hK => ?_) AllReadyH.nil)
  refine step_call rfl 77 #[.agg Ve.toArray] (by simp [go_sem]) (HF4.out _ HX4.out) ?_
  rintro e x5 ⟨Ue, Be, rfl, hl, hb, hp⟩
  have HU4 := hide hl
  have HT4 := hide hp
  have HW4 := hide hb
  have HX5 := hide (lec HX4.out hb)
  have HS5 : Hid (x5.rangeAt A 0 Va ∧ x5.rangeAt A 326 Vb ∧ x5.rangeAt A 652 Vc ∧ x5.rangeAt A 657 Vd ∧ x5.rangeAt A 662 Ve) := by
    obtain ⟨z1, z2, z3, z4, z5⟩ := HS4.out
    have z0 := HZ4.out
    exact ⟨range_below z1 (by omega) hb, range_below z2 (by omega) hb, range_below z3 (by omega) hb, range_below z4 (by omega) hb, range_below z5 (by omega) hb⟩
  have HZ5 : Hid (A + 2 ≤ x5.heap.size) := Nat.le_trans HZ4.out hb.size
  clear hl hb hp
  refine ⟨_, rfl, ?_⟩
  refine hK.out _ _ ?_ (fun hHeld => ?_)
  · exact HS5.out
  clear hK K
  try simp only [Act.put, List.getElem_toArray, List.getElem_cons_zero, List.getElem_cons_succ, List.setIfInBounds_toArray, List.set_cons_zero, List.set_cons_succ]
  refine wpAnyH_take (i := 15) rfl (by kernel_rfl) (by kernel_rfl) (by kernel_rfl) (fun _ _ _ h => h) (yieldsIf_build (by rfl) 56 _ rfl (Ua ++ (Ub ++ (Uc ++ (Ud ++ Ue)))).toArray (by exact built_w HU0.out HU1.out HU2.out HU3.out HU4.out)) (by assumption) ?_
  try simp only [Act.put, List.getElem_toArray, List.getElem_cons_zero, List.getElem_cons_succ, List.setIfInBounds_toArray, List.set_cons_zero, List.set_cons_succ]
  refine wpAnyH_ready (rs := [16]) (by kernel_rfl) (by simp) ?_
  refine (AllReadyH.cons rfl (fun K hK => ?_) AllReadyH.nil)
  have HR1 : Hid (∀ u ∈ Ua ++ (Ub ++ (Uc ++ (Ud ++ Ue))), u.oneCell' = true) := fun u hu => by
    simp only [List.mem_append] at hu
    rcases hu with z | z | z | z | z
    · exact HT0.out.one u z
    · exact HT1.out.one u z
    · exact HT2.out.one u z
    · exact HT3.out.one u z
    · exact HT4.out.one u z
  have HS6 : Hid ((x5.setCells (A + 1) 0 (Ua ++ (Ub ++ (Uc ++ (Ud ++ Ue))))).rangeAt A 0 Va ∧ (x5.setCells (A + 1) 0 (Ua ++ (Ub ++ (Uc ++ (Ud ++ Ue))))).rangeAt A 326 Vb ∧ (x5.setCells (A + 1) 0 (Ua ++ (Ub ++ (Uc ++ (Ud ++ Ue))))).rangeAt A 652 Vc ∧ (x5.setCells (A + 1) 0 (Ua ++ (Ub ++ (Uc ++ (Ud ++ Ue))))).rangeAt A 657 Vd ∧ (x5.setCells (A + 1) 0 (Ua ++ (Ub ++ (Uc ++ (Ud ++ Ue))))).rangeAt A 662 Ve) := by
    obtain ⟨z1, z2, z3, z4, z5⟩ := HS5.out
    have z0 := HZ5.out
    have ex : Ex (fun j => j = A + 1) x5 (x5.setCells (A + 1) 0 (Ua ++ (Ub ++ (Uc ++ (Ud ++ Ue))))) := Ex.sets (S := fun j => j = A + 1) rfl _ _ _ (Ex.refl _ _)
    exact ⟨range_ex z1 (by omega) ex (by omega), range_ex z2 (by omega) ex (by omega), range_ex z3 (by omega) ex (by omega), range_ex z4 (by omega) ex (by omega), range_ex z5 (by omega) ex (by omega)⟩
  have HTH : Hid (x5.there (A + 1) 0 667) := by
    have y0 := HZ0.out
    have y1 := HZ1.out
    have y2 := HZ2.out
    have y3 := HZ3.out
    have y4 := HZ4.out
    exact there_below (there_below (there_below (there_below (there_below (show w1.drew.there (A + 1) 0 667 from HTT.out) (by omega) HW0.out) (by omega) HW1.out) (by omega) HW2.out) (by omega) HW3.out) (by omega) HW4.out
  have HRl : Hid ((Ua ++ (Ub ++ (Uc ++ (Ud ++ Ue)))).length = 667) := by simp only [Hid, List.length_append, HU0.out, HU1.out, HU2.out, HU3.out, HU4.out]
  refine step_storeM rfl 56 (.tmp 2) (.tmp 18) rfl (A + 1) 0 (Ua ++ (Ub ++ (Uc ++ (Ud ++ Ue)))) rfl rfl (by rw [HRl.out]; exact HTH.out) (by rw [HRl.out]; exact Try.sz56) HR1.out ?_
  refine hK.out _ _ ?_ (fun hHeld => ?_)
  · exact HS6.out
  clear hK K
  try simp only [Act.put, List.getElem_toArray, List.getElem_cons_zero, List.getElem_cons_succ, List.setIfInBounds_toArray, List.set_cons_zero, List.set_cons_succ]
  refine wpAnyH_done (by kernel_rfl) ?_ _
  have HRZ := hide (World.rangeAt_setCells_same x5 (A + 1) 0 (Ua ++ (Ub ++ (Uc ++ (Ud ++ Ue)))) (by rw [HRl.out]; exact HTH.out))
  have HEX : Hid (Ex (fun j => j = A + 1) x5 (x5.setCells (A + 1) 0 (Ua ++ (Ub ++ (Uc ++ (Ud ++ Ue)))))) := Ex.sets (S := fun j => j = A + 1) rfl _ _ _ (Ex.refl _ _)
  have HBZ : Hid (Below w.heap.size w (x5.setCells (A + 1) 0 (Ua ++ (Ub ++ (Uc ++ (Ud ++ Ue)))))) := HX5.out.trans (HEX.out.below HX5.out.size (fun j hj e => by have := HA.out; omega))
  have HWZ := hide (wv_of HH0.out (HX0.out.size) HT0.out HT1.out HT2.out HT3.out HT4.out HW1.out HW2.out HW3.out HW4.out HEX.out (by have := HZ0.out; omega) HW0.out)
  generalize x5.setCells (A + 1) 0 (Ua ++ (Ub ++ (Uc ++ (Ud ++ Ue)))) = wz at *
  obtain ⟨R, hR⟩ : ∃ R, Ua ++ (Ub ++ (Uc ++ (Ud ++ Ue))) = R := ⟨_, rfl⟩
  have HPO : Hid (∃ Ua Ub Uc Ud Ue f', Ending.returned (.agg R.toArray) = .returned (.agg (Ua ++ (Ub ++ (Uc ++ (Ud ++ Ue)))).toArray) ∧ WV wz P Ua Ub Uc Ud Ue f' ∧ Below w.heap.size w wz ∧ ∀ i, i < 5 → ∀ k, k ∈ f' i → w.heap.size ≤ k) := by
    obtain ⟨f', h1, h2⟩ := HWZ.out
    exact ⟨Ua, Ub, Uc, Ud, Ue, f', by rw [hR], h1, HBZ.out, h2⟩
  simp only [hR] at HRZ HRl ⊢
  clear hR HWZ HT0 HT1 HT2 HT3 HT4 HF0 HF1 HF2 HF3 HF4
  go_wp2_with fail
  exact bodyPost_ret (v := .agg R.toArray) (res_cell Try.results49 rfl (run_loadVar_mid wz (A + 1) 0 56 R _ HRZ.out Try.underlying56 rfl (by rw [HRl.out]; exact Try.sz56))) rfl HPO.out
end Go.Proofs.Qxb6500784a
