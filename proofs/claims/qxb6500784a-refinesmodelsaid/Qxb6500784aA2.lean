import Derived.Test.Qxb6500784aAu
namespace Go.Proofs.Qxb6500784a
open Go.RowKit

attribute [-simp] Try.isAgg68 Try.sizeOf68 Try.typeInfo68 Try.isAgg92 Try.sizeOf92 Try.typeInfo92 Try.isAgg89 Try.sizeOf89 Try.typeInfo89
set_option linter.unusedSimpArgs false in
set_option maxRecDepth 100000 in
set_option maxHeartbeats 8000000 in
theorem apply_2 (w : World) (b o : Nat) (l : Led0) (sv : List Led0) (B : List Nat) (t : List Int) (h : LA w b o l sv B) (ht : TxOk t) (hl : l.mks.length ≤ 1000000000000) (hc : refP l t = 0) (hk : fld t 0 = 2) :
    Calls Try.prog 60 #[.pointer (some ⟨b, o, none⟩), .agg (kvs txk t).toArray] w (LStep w b o B (.agg (Rcp.vals { rcp0 with gas := gasP t, fee := fld t 4, hs := true, sent := burnM l t }).toArray) (addB (feeL l t) (fld t 2 * 4 + fld t 7).toNat (- fld t 8)) sv) := by
  have HC := hide hc
  have HKD := hide hk
  clear hc hk
  obtain ⟨R, hR⟩ : ∃ R, LStep w b o B (.agg (Rcp.vals { rcp0 with gas := gasP t, fee := fld t 4, hs := true, sent := burnM l t }).toArray) (addB (feeL l t) (fld t 2 * 4 + fld t 7).toNat (- fld t 8)) sv = R := ⟨_, rfl⟩
  rw [hR]
  have HR := hide hR
  clear hR
  have HT := hide ht
  have HL := hide hl
  have HOK := hide h.ok
  have HBL := hide h.bl
  have HLA := hide h
  clear h ht hl
  obtain ⟨V, hV⟩ : ∃ V, kvs txk t = V := ⟨_, rfl⟩
  have HVl : Hid (V.length = 83) := by rw [← hV, kvs_len]; exact HT.out.l
  have HTV := hide hV
  rw [hV]
  obtain ⟨x0, hx0⟩ : ∃ x, fld t 0 = x := ⟨_, rfl⟩
  have HX0 := hide hx0
  have hv0 : Hid (V[0]? = some (.int .u8 x0)) := by rw [← HTV.out, ← hx0]; exact fld_at HT.out (by omega)
  have hr0 : Hid (0 ≤ x0 ∧ x0 < 256) := by rw [← hx0]; exact fld_r HT.out (j := 0) (by omega)
  clear hx0
  obtain ⟨x1, hx1⟩ : ∃ x, fld t 1 = x := ⟨_, rfl⟩
  have HX1 := hide hx1
  have hv1 : Hid (V[1]? = some (.int .u8 x1)) := by rw [← HTV.out, ← hx1]; exact fld_at HT.out (by omega)
  have hr1 : Hid (0 ≤ x1 ∧ x1 < 256) := by rw [← hx1]; exact fld_r HT.out (j := 1) (by omega)
  clear hx1
  obtain ⟨x2, hx2⟩ : ∃ x, fld t 2 = x := ⟨_, rfl⟩
  have HX2 := hide hx2
  have hv2 : Hid (V[2]? = some (.int .u8 x2)) := by rw [← HTV.out, ← hx2]; exact fld_at HT.out (by omega)
  have hr2 : Hid (0 ≤ x2 ∧ x2 < 256) := by rw [← hx2]; exact fld_r HT.out (j := 2) (by omega)
  clear hx2
  obtain ⟨x3, hx3⟩ : ∃ x, fld t 3 = x := ⟨_, rfl⟩
  have HX3 := hide hx3
  have hv3 : Hid (V[3]? = some (.int .u64 x3)) := by rw [← HTV.out, ← hx3]; exact fld_at HT.out (by omega)
  have hr3 : Hid (0 ≤ x3 ∧ x3 < 18446744073709551616) := by rw [← hx3]; exact fld_r HT.out (j := 3) (by omega)
  clear hx3
  obtain ⟨x4, hx4⟩ : ∃ x, fld t 4 = x := ⟨_, rfl⟩
  have HX4 := hide hx4
  have hv4 : Hid (V[4]? = some (.int .u64 x4)) := by rw [← HTV.out, ← hx4]; exact fld_at HT.out (by omega)
  have hr4 : Hid (0 ≤ x4 ∧ x4 < 18446744073709551616) := by rw [← hx4]; exact fld_r HT.out (j := 4) (by omega)
  clear hx4
  obtain ⟨x5, hx5⟩ : ∃ x, fld t 5 = x := ⟨_, rfl⟩
  have HX5 := hide hx5
  have hv5 : Hid (V[5]? = some (.int .u8 x5)) := by rw [← HTV.out, ← hx5]; exact fld_at HT.out (by omega)
  have hr5 : Hid (0 ≤ x5 ∧ x5 < 256) := by rw [← hx5]; exact fld_r HT.out (j := 5) (by omega)
  clear hx5
  obtain ⟨x6, hx6⟩ : ∃ x, fld t 6 = x := ⟨_, rfl⟩
  have HX6 := hide hx6
  have hv6 : Hid (V[6]? = some (.int .u8 x6)) := by rw [← HTV.out, ← hx6]; exact fld_at HT.out (by omega)
  have hr6 : Hid (0 ≤ x6 ∧ x6 < 256) := by rw [← hx6]; exact fld_r HT.out (j := 6) (by omega)
  clear hx6
  obtain ⟨x7, hx7⟩ : ∃ x, fld t 7 = x := ⟨_, rfl⟩
  have HX7 := hide hx7
  have hv7 : Hid (V[7]? = some (.int .u8 x7)) := by rw [← HTV.out, ← hx7]; exact fld_at HT.out (by omega)
  have hr7 : Hid (0 ≤ x7 ∧ x7 < 256) := by rw [← hx7]; exact fld_r HT.out (j := 7) (by omega)
  clear hx7
  obtain ⟨x8, hx8⟩ : ∃ x, fld t 8 = x := ⟨_, rfl⟩
  have HX8 := hide hx8
  have hv8 : Hid (V[8]? = some (.int .u64 x8)) := by rw [← HTV.out, ← hx8]; exact fld_at HT.out (by omega)
  have hr8 : Hid (0 ≤ x8 ∧ x8 < 18446744073709551616) := by rw [← hx8]; exact fld_r HT.out (j := 8) (by omega)
  clear hx8
  obtain ⟨x9, hx9⟩ : ∃ x, fld t 9 = x := ⟨_, rfl⟩
  have HX9 := hide hx9
  have hv9 : Hid (V[9]? = some (.int .u8 x9)) := by rw [← HTV.out, ← hx9]; exact fld_at HT.out (by omega)
  have hr9 : Hid (0 ≤ x9 ∧ x9 < 256) := by rw [← hx9]; exact fld_r HT.out (j := 9) (by omega)
  clear hx9
  obtain ⟨gp, hgp⟩ : ∃ c, gasP t = c := ⟨_, rfl⟩
  have HGP := hide hgp
  obtain ⟨gu, hgu⟩ : ∃ c, l.gu = c := ⟨_, rfl⟩
  have HGU := hide hgu
  obtain ⟨gt, hgt⟩ : ∃ c, (gu + gp) % 18446744073709551616 = c := ⟨_, rfl⟩
  have HGT : Hid (gt = (gu + gp) % 18446744073709551616) := hgt.symm
  clear hgp hgu hgt
  go_enter Try.func60, Try.ntmps60
  go_upto_region 2 with fail
  obtain ⟨A, hA⟩ : ∃ A, w.heap.size = A := ⟨_, rfl⟩
  have HA := hide hA
  have HAS : Hid (AS w (((w.alloc (.cells V.toArray 92)).alloc (.cells Try.zeroCells89 89)).alloc (.cells Try.zeroCells89 89)) A V rcp0 b o l sv B B) := by
    have b1 := be1 w (.cells V.toArray 92)
    have b2 := be1 (w.alloc (.cells V.toArray 92)) (.cells Try.zeroCells89 89)
    have b3 := be1 ((w.alloc (.cells V.toArray 92)).alloc (.cells Try.zeroCells89 89)) (.cells Try.zeroCells89 89)
    have e1 : (w.alloc (.cells V.toArray 92)).heap.size = A + 1 := by simp [hA]
    have e2 : ((w.alloc (.cells V.toArray 92)).alloc (.cells Try.zeroCells89 89)).heap.size = A + 2 := by simp [hA]
    have r1 := newR w V 92
    have t2 := newTz (w.alloc (.cells V.toArray 92)) Try.zeroCells89 89
    have r3 := newR ((w.alloc (.cells V.toArray 92)).alloc (.cells Try.zeroCells89 89)) rcp0.vals 89
    have t3 := newTz ((w.alloc (.cells V.toArray 92)).alloc (.cells Try.zeroCells89 89)) Try.zeroCells89 89
    rw [← zc89] at r3
    rw [show Try.zeroCells89.size = 87 by kernel_rfl] at t2 t3
    rw [e1] at t2
    rw [e2] at r3 t3
    rw [hA] at r1
    have hb := HBL.out
    refine ⟨Cg.below (lec (lec b1 b2) b3) hb.1, World.rangeAt_alloc (World.rangeAt_alloc r1 _) _, World.there_alloc t2 _, r3, t3, HLA.out.below (lec (lec b1 b2) b3), fun j hj => .inl ⟨by have := HLA.out.lt hj; omega, hj⟩, by simp [hA], by have := hb.1; omega, hA.symm⟩
  rw [hA, show A + 1 + 1 = A + 2 from rfl]
  generalize ((w.alloc (.cells V.toArray 92)).alloc (.cells Try.zeroCells89 89)).alloc (.cells Try.zeroCells89 89) = w1 at *
  clear hA hV
  go_wp2_with fail
  simp only [Try.isAgg92, Try.sizeOf92, Result.andThen, ↓reduceIte, ldC w1 A 0 V 83 HVl.out HAS.out.tx]
  rw [Oper.upon_value]
  go_wp2_with fail
  have hrf := refusal_any w1 b o l sv B t HAS.out.la HT.out HL.out
  rw [HTV.out] at hrf
  refine hrf.mono ?_
  clear hrf
  rintro e w2 ⟨rfl, b2⟩
  have HAS2 := hide (HAS.out.below b2)
  clear HAS b2
  rw [HC.out]
  have HAS := HAS2
  clear HAS2
  have z0 : w2.cell? ⟨A + 2, 0, none⟩ = some (.int .i64 0) := by have := HAS.out.rr 0 (.int .i64 0) rfl; simpa using this
  have f0 : w2.frozen? ⟨A + 2, 0, none⟩ = false := by have := (HAS.out.tr 0 (by omega)).2; simpa using this
  go_upto_region 3 with fail
  replace HAS := hide (HAS.out.setR (.int .i64 0) rcp0 (Rcp.set0 rcp0 0))
  generalize w2.setCell ⟨A + 2, 0, none⟩ (.int .i64 0) = w3 at *
  clear z0 f0
  have z0 : w3.cell? ⟨A + 2, 0, none⟩ = some (.int .i64 0) := by have := HAS.out.rr 0 (.int .i64 0) rfl; simpa using this
  go_upto_region 5 with fail
  clear z0
  go_wp2_with fail
  simp only [Try.isAgg92, Try.sizeOf92, Result.andThen, ↓reduceIte, ldC w3 A 0 V 83 HVl.out HAS.out.tx]
  rw [Oper.upon_value]
  go_wp2_with fail
  have hgs := gas_any w3 t HT.out
  rw [HTV.out, HGP.out] at hgs
  refine hgs.mono ?_
  clear hgs
  rintro e w4 ⟨rfl, b4⟩
  replace HAS := hide (HAS.out.below b4)
  clear b4
  have z1 : w4.cell? ⟨A + 2, 1, none⟩ = some (.int .u64 0) := by have := HAS.out.rr 1 (.int .u64 0) rfl; simpa using this
  have f1 : w4.frozen? ⟨A + 2, 1, none⟩ = false := by have := (HAS.out.tr 1 (by omega)).2; simpa using this
  go_upto_region 6 with fail
  replace HAS := hide (HAS.out.setR (.int .u64 gp) { rcp0 with gas := gp } (Rcp.set1 rcp0 gp))
  generalize w4.setCell ⟨A + 2, 1, none⟩ (.int .u64 gp) = w5 at *
  clear z1 f1
  have z1 : w5.cell? ⟨A + 2, 2, none⟩ = some (.int .u64 0) := by have := HAS.out.rr 2 (.int .u64 0) rfl; simpa using this
  have f1 : w5.frozen? ⟨A + 2, 2, none⟩ = false := by have := (HAS.out.tr 2 (by omega)).2; simpa using this
  have cx4 : w5.cell? ⟨A, 4, none⟩ = some (.int .u64 x4) := by have := HAS.out.tx 4 _ hv4.out; simpa using this
  go_upto_region 7 with fail
  replace HAS := hide (HAS.out.setR (.int .u64 x4) { rcp0 with gas := gp, fee := x4 } (Rcp.set2 { rcp0 with gas := gp } x4))
  generalize w5.setCell ⟨A + 2, 2, none⟩ (.int .u64 x4) = w6 at *
  clear z1 f1 cx4
  have z1 : w6.cell? ⟨A + 2, 1, none⟩ = some (.int .u64 gp) := by have := HAS.out.rr 1 (.int .u64 gp) rfl; simpa using this
  have cg : w6.cell? ⟨b, o + 324, none⟩ = some (.int .u64 gu) := by rw [← HGU.out]; exact HAS.out.la.cell (fun m s => Led0.at324 HAS.out.la.ok m s)
  have fg : w6.frozen? ⟨b, o + 324, none⟩ = false := HAS.out.la.fz (by omega)
  have hwg : IntKind.u64.wrap (gu + gp) = gt := by rw [IntKind.wrap_u64, HGT.out]
  go_region
  replace HAS := hide ((HAS.out.setL (j := 324) (by omega) (.int .u64 gt) (gasL l t) (fun m s => by rw [Led0.set324 HOK.out]; simp only [gasL, w64, HGU.out, HGP.out, HGT.out]) rfl (gasL_ok HOK.out t)).below ((Below.refl (w6.setCell ⟨b, o + 324, none⟩ (.int .u64 gt)).heap.size (w6.setCell ⟨b, o + 324, none⟩ (.int .u64 gt))).drew))
  generalize (w6.setCell ⟨b, o + 324, none⟩ (.int .u64 gt)).drew = w7 at *
  go_upto_region 8 with fail
  clear z1 cg fg hwg
  obtain ⟨nn, hnn⟩ : ∃ c, fld l.non x2.toNat = c := ⟨_, rfl⟩
  have HNN := hide hnn
  obtain ⟨nn1, hn1⟩ : ∃ c, w64 (nn + 1) = c := ⟨_, rfl⟩
  have HN1 := hide hn1
  have hwn : IntKind.u64.wrap (nn + 1) = nn1 := by rw [IntKind.wrap_u64]; exact hn1
  have hx20 : 0 ≤ x2 := hr2.out.1
  have hx21 : x2 < 64 := by rw [← HX2.out]; exact (refA0 (ref0 HC.out).1).2.2.1
  clear hnn hn1
  have cx2 : w7.cell? ⟨A, 2, none⟩ = some (.int .u8 x2) := by have := HAS.out.tx 2 _ hv2.out; simpa using this
  have cn : w7.cell? ⟨b, o + 257 + x2.toNat, none⟩ = some (.int .u64 nn) := by
    rw [show o + 257 + x2.toNat = o + (257 + x2.toNat) by omega]
    exact HAS.out.la.cell (fun m s => by rw [Led0.atN HAS.out.la.ok m s (non_at HAS.out.la.ok (j := x2.toNat) (by omega)), ← HNN.out]; rfl)
  have fn : w7.frozen? ⟨b, o + 257 + x2.toNat, none⟩ = false := by
    rw [show o + 257 + x2.toNat = o + (257 + x2.toNat) by omega]
    exact HAS.out.la.fz (by omega)
  go_region
  replace HAS := hide ((HAS.out.setL (j := 257 + x2.toNat) (by omega) (.int .u64 nn1) (nonL (gasL l t) t) (fun m s => by rw [Led0.setN HAS.out.la.ok m s (by omega)]; simp only [nonL, HX2.out, ← HN1.out, ← HNN.out]; rfl) rfl (nonL_ok HAS.out.la.ok t)).below ((Below.refl (w7.setCell ⟨b, o + (257 + x2.toNat), none⟩ (.int .u64 nn1)).heap.size (w7.setCell ⟨b, o + (257 + x2.toNat), none⟩ (.int .u64 nn1))).drew))
  rw [show o + 257 + x2.toNat = o + (257 + x2.toNat) by omega]
  generalize (w7.setCell ⟨b, o + (257 + x2.toNat), none⟩ (.int .u64 nn1)).drew = w8 at *
  clear cx2 cn fn hwn
  go_upto_region 9 with fail
  obtain ⟨l2, hl2⟩ : ∃ c, nonL (gasL l t) t = c := ⟨_, rfl⟩
  rw [hl2] at HAS
  have HL2 := hide hl2
  clear hl2
  have hAb : A ≠ b := by have := HAS.out.bA; omega
  obtain ⟨bv0, hbv0⟩ : ∃ c, fld l2.bal (x2 * 4).toNat = c := ⟨_, rfl⟩
  have HBbv0 := hide hbv0
  obtain ⟨bw0, hbw0⟩ : ∃ c, w64 (bv0 + - x4) = c := ⟨_, rfl⟩
  have HBbw0 := hide hbw0
  have hwbv0 : IntKind.u64.wrap (bv0 - x4) = bw0 := by rw [IntKind.wrap_u64, ← hbw0, w64] <;> congr 1
  clear hbv0 hbw0
  have cx2 : w8.cell? ⟨A, 2, none⟩ = some (.int .u8 x2) := by have := HAS.out.tx 2 _ hv2.out; simpa using this
  have cx4 : w8.cell? ⟨A, 4, none⟩ = some (.int .u64 x4) := by have := HAS.out.tx 4 _ hv4.out; simpa using this
  have hi0 : 0 ≤ x2 * 4 := by omega
  have hi1 : x2 * 4 < 256 := by omega
  have cb : w8.cell? ⟨b, o + 1 + (x2 * 4).toNat, none⟩ = some (.int .u64 bv0) := by
    rw [show o + 1 + (x2 * 4).toNat = o + (1 + (x2 * 4).toNat) by omega]
    exact HAS.out.la.cell (fun m s => by rw [Led0.atB m s (bal_at HAS.out.la.ok (j := (x2 * 4).toNat) (by omega)), HBbv0.out])
  have fb : w8.frozen? ⟨b, o + 1 + (x2 * 4).toNat, none⟩ = false := by
    rw [show o + 1 + (x2 * 4).toNat = o + (1 + (x2 * 4).toNat) by omega]
    exact HAS.out.la.fz (by omega)
  refine wp_region_held_drew (S := fun w' => w'.cell? ⟨A, 2, none⟩ = some (.int .u8 x2) ∧ w'.cell? ⟨A, 4, none⟩ = some (.int .u64 x4)) (by kernel_rfl) ⟨cx2, cx4⟩ (fun hHeld => ?_)
  refine wpAnyH_take (i := 0) (v := ?_) rfl (by kernel_rfl) (by kernel_rfl) (by kernel_rfl) (fun _ _ _ h => h) (Or.inl ⟨by rfl, ?_⟩) (by assumption) ?_
  rotate_left
  · (intro w hSw; (try dsimp only at hSw); go_simp; try (with_reducible rfl))
  try simp only [Act.put, List.getElem_toArray, List.getElem_cons_zero, List.getElem_cons_succ, List.setIfInBounds_toArray, List.set_cons_zero, List.set_cons_succ]
  refine wpAnyH_take (i := 1) (v := ?_) rfl (by kernel_rfl) (by kernel_rfl) (by kernel_rfl) (fun _ _ _ h => h) (Or.inl ⟨by rfl, ?_⟩) (by assumption) ?_
  rotate_left
  · (intro w hSw; (try dsimp only at hSw); go_simp; try (with_reducible rfl))
  try simp only [Act.put, List.getElem_toArray, List.getElem_cons_zero, List.getElem_cons_succ, List.setIfInBounds_toArray, List.set_cons_zero, List.set_cons_succ]
  refine wpAnyH_take (i := 2) (v := ?_) rfl (by kernel_rfl) (by kernel_rfl) (by kernel_rfl) (fun _ _ _ h => h) (Or.inl ⟨by rfl, ?_⟩) (by assumption) ?_
  rotate_left
  · (intro w hSw; (try dsimp only at hSw); go_simp; try (with_reducible rfl))
  try simp only [Act.put, List.getElem_toArray, List.getElem_cons_zero, List.getElem_cons_succ, List.setIfInBounds_toArray, List.set_cons_zero, List.set_cons_succ]
  refine wpAnyH_take (i := 4) (v := ?_) rfl (by kernel_rfl) (by kernel_rfl) (by kernel_rfl) (fun _ _ _ h => h) (Or.inl ⟨by rfl, ?_⟩) (by assumption) ?_
  rotate_left
  · (intro w hSw; (try dsimp only at hSw); go_simp; try (with_reducible rfl))
  try simp only [Act.put, List.getElem_toArray, List.getElem_cons_zero, List.getElem_cons_succ, List.setIfInBounds_toArray, List.set_cons_zero, List.set_cons_succ]
  refine wpAnyH_take (i := 5) (v := ?_) rfl (by kernel_rfl) (by kernel_rfl) (by kernel_rfl) (fun _ _ _ h => h) (Or.inl ⟨by rfl, ?_⟩) (by assumption) ?_
  rotate_left
  · (intro w hSw; (try dsimp only at hSw); go_simp; try (with_reducible rfl))
  try simp only [Act.put, List.getElem_toArray, List.getElem_cons_zero, List.getElem_cons_succ, List.setIfInBounds_toArray, List.set_cons_zero, List.set_cons_succ]
  refine wpAnyH_take (i := 8) (v := ?_) rfl (by kernel_rfl) (by kernel_rfl) (by kernel_rfl) (fun _ _ _ h => h) (Or.inl ⟨by rfl, ?_⟩) (by assumption) ?_
  rotate_left
  · (intro w hSw; (try dsimp only at hSw); go_simp; try (with_reducible rfl))
  try simp only [Act.put, List.getElem_toArray, List.getElem_cons_zero, List.getElem_cons_succ, List.setIfInBounds_toArray, List.set_cons_zero, List.set_cons_succ]
  refine wpAnyH_take (i := 9) (v := ?_) rfl (by kernel_rfl) (by kernel_rfl) (by kernel_rfl) (fun _ _ _ h => h) (Or.inl ⟨by rfl, ?_⟩) (by assumption) ?_
  rotate_left
  · (intro w hSw; (try dsimp only at hSw); go_simp; try (with_reducible rfl))
  try simp only [Act.put, List.getElem_toArray, List.getElem_cons_zero, List.getElem_cons_succ, List.setIfInBounds_toArray, List.set_cons_zero, List.set_cons_succ]
  refine wpAnyH_take (i := 11) (v := ?_) rfl (by kernel_rfl) (by kernel_rfl) (by kernel_rfl) (fun _ _ _ h => h) (Or.inl ⟨by rfl, ?_⟩) (by assumption) ?_
  rotate_left
  · (intro w hSw; (try dsimp only at hSw); go_simp; try (with_reducible rfl))
  try simp only [Act.put, List.getElem_toArray, List.getElem_cons_zero, List.getElem_cons_succ, List.setIfInBounds_toArray, List.set_cons_zero, List.set_cons_succ]
  refine wpAnyH_take (i := 12) (v := ?_) rfl (by kernel_rfl) (by kernel_rfl) (by kernel_rfl) (fun _ _ _ h => h) (Or.inl ⟨by rfl, ?_⟩) (by assumption) ?_
  rotate_left
  · (intro w hSw; (try dsimp only at hSw); go_simp; try (with_reducible rfl))
  try simp only [Act.put, List.getElem_toArray, List.getElem_cons_zero, List.getElem_cons_succ, List.setIfInBounds_toArray, List.set_cons_zero, List.set_cons_succ]
  refine wpAnyH_ready (rs := [3]) (by kernel_rfl) (by simp) ?_
  refine (AllReadyH.cons rfl (fun K hK => ?_) AllReadyH.nil)
  refine step_call rfl 70 #[.int .u8 x2, .int .u8 0] (by simp [go_sem]) (at_any _ x2 0 (by omega) (by omega) (by omega) (by omega)) ?_
  rintro e wq ⟨rfl, rfl⟩
  refine ⟨_, rfl, ?_⟩
  refine hK.out _ _ ?_ (fun hHeld => ?_)
  · exact hHeld
  clear hK K
  try simp only [Act.put, List.getElem_toArray, List.getElem_cons_zero, List.getElem_cons_succ, List.setIfInBounds_toArray, List.set_cons_zero, List.set_cons_succ]
  refine wpAnyH_take (i := 6) (v := ?_) rfl (by kernel_rfl) (by kernel_rfl) (by kernel_rfl) (fun _ _ _ h => h) (Or.inl ⟨by rfl, ?_⟩) (by assumption) ?_
  rotate_left
  · (intro w hSw; (try dsimp only at hSw); go_simp; try (with_reducible rfl))
  try simp only [Act.put, List.getElem_toArray, List.getElem_cons_zero, List.getElem_cons_succ, List.setIfInBounds_toArray, List.set_cons_zero, List.set_cons_succ]
  refine wpAnyH_ready (rs := [7]) (by kernel_rfl) (by simp) ?_
  refine (AllReadyH.cons rfl (fun K hK => ?_) AllReadyH.nil)
  go_simp
  refine hK.out _ _ ?_ (fun hHeld => ?_)
  · exact hHeld
  clear hK K
  try simp only [Act.put, List.getElem_toArray, List.getElem_cons_zero, List.getElem_cons_succ, List.setIfInBounds_toArray, List.set_cons_zero, List.set_cons_succ]
  refine wpAnyH_take (i := 10) (v := ?_) rfl (by kernel_rfl) (by kernel_rfl) (by kernel_rfl) (fun _ _ _ h => h) (Or.inl ⟨by rfl, ?_⟩) (by assumption) ?_
  rotate_left
  · (intro w hSw; (try dsimp only at hSw); go_simp; try (with_reducible rfl))
  try simp only [Act.put, List.getElem_toArray, List.getElem_cons_zero, List.getElem_cons_succ, List.setIfInBounds_toArray, List.set_cons_zero, List.set_cons_succ]
  refine wpAnyH_take (i := 13) (v := ?_) rfl (by kernel_rfl) (by kernel_rfl) (by kernel_rfl) (fun _ _ _ h => h) (Or.inl ⟨by rfl, ?_⟩) (by assumption) ?_
  rotate_left
  · (intro w hSw; (try dsimp only at hSw); go_simp; try (with_reducible rfl))
  try simp only [Act.put, List.getElem_toArray, List.getElem_cons_zero, List.getElem_cons_succ, List.setIfInBounds_toArray, List.set_cons_zero, List.set_cons_succ]
  refine wpAnyH_ready (rs := [14]) (by kernel_rfl) (by simp) ?_
  refine (AllReadyH.cons rfl (fun K hK => ?_) AllReadyH.nil)
  go_simp
  refine hK.out _ _ ?_ (fun hHeld => ?_)
  · exact ⟨(set_cell_ne _ _ _ _ _ _ hAb).trans cx2, (set_cell_ne _ _ _ _ _ _ hAb).trans cx4⟩
  clear hK K
  try simp only [Act.put, List.getElem_toArray, List.getElem_cons_zero, List.getElem_cons_succ, List.setIfInBounds_toArray, List.set_cons_zero, List.set_cons_succ]
  refine wpAnyH_done (by kernel_rfl) ?_ _
  replace HAS := hide ((HAS.out.setL (j := 1 + (x2 * 4).toNat) (by omega) (.int .u64 bw0) (addB l2 (x2 * 4).toNat (- x4)) (fun m s => by rw [Led0.setB HAS.out.la.ok m s (by omega)]; simp only [addB, HBbv0.out, HBbw0.out]) rfl (addB_ok HAS.out.la.ok _ _)).below ((Below.refl (w8.setCell ⟨b, o + (1 + (x2 * 4).toNat), none⟩ (.int .u64 bw0)).heap.size (w8.setCell ⟨b, o + (1 + (x2 * 4).toNat), none⟩ (.int .u64 bw0))).drew))
  rw [show o + 1 + (x2 * 4).toNat = o + (1 + (x2 * 4).toNat) by omega]
  generalize (w8.setCell ⟨b, o + (1 + (x2 * 4).toNat), none⟩ (.int .u64 bw0)).drew = w9 at *
  clear cx2 cx4 cb fb hwbv0 hi0 hi1 hHeld
  obtain ⟨l3, hl3⟩ : ∃ c, addB l2 (x2 * 4).toNat (- x4) = c := ⟨_, rfl⟩
  rw [hl3] at HAS
  have HDl3 := hide hl3
  clear hl3
  go_upto_region 10 with fail
  obtain ⟨bv1, hbv1⟩ : ∃ c, fld l3.bal 0 = c := ⟨_, rfl⟩
  have HBbv1 := hide hbv1
  obtain ⟨bw1, hbw1⟩ : ∃ c, w64 (bv1 + x4) = c := ⟨_, rfl⟩
  have HBbw1 := hide hbw1
  have hwbv1 : IntKind.u64.wrap (bv1 + x4) = bw1 := by rw [IntKind.wrap_u64]; exact hbw1
  clear hbv1 hbw1
  have cx4 : w9.cell? ⟨A, 4, none⟩ = some (.int .u64 x4) := by have := HAS.out.tx 4 _ hv4.out; simpa using this
  have cb : w9.cell? ⟨b, o + 1, none⟩ = some (.int .u64 bv1) := HAS.out.la.cell (fun m s => by rw [show (1 : Nat) = 1 + 0 from rfl, Led0.atB m s (bal_at HAS.out.la.ok (j := 0) (by omega)), HBbv1.out])
  have fb : w9.frozen? ⟨b, o + 1, none⟩ = false := HAS.out.la.fz (by omega)
  refine wp_region_held_drew (S := fun w' => w'.cell? ⟨A, 4, none⟩ = some (.int .u64 x4)) (by kernel_rfl) cx4 (fun hHeld => ?_)
  refine wpAnyH_take (i := 0) (v := ?_) rfl (by kernel_rfl) (by kernel_rfl) (by kernel_rfl) (fun _ _ _ h => h) (Or.inl ⟨by rfl, ?_⟩) (by assumption) ?_
  rotate_left
  · (intro w hSw; (try dsimp only at hSw); go_simp; try (with_reducible rfl))
  try simp only [Act.put, List.getElem_toArray, List.getElem_cons_zero, List.getElem_cons_succ, List.setIfInBounds_toArray, List.set_cons_zero, List.set_cons_succ]
  refine wpAnyH_take (i := 2) (v := ?_) rfl (by kernel_rfl) (by kernel_rfl) (by kernel_rfl) (fun _ _ _ h => h) (Or.inl ⟨by rfl, ?_⟩) (by assumption) ?_
  rotate_left
  · (intro w hSw; (try dsimp only at hSw); go_simp; try (with_reducible rfl))
  try simp only [Act.put, List.getElem_toArray, List.getElem_cons_zero, List.getElem_cons_succ, List.setIfInBounds_toArray, List.set_cons_zero, List.set_cons_succ]
  refine wpAnyH_take (i := 3) (v := ?_) rfl (by kernel_rfl) (by kernel_rfl) (by kernel_rfl) (fun _ _ _ h => h) (Or.inl ⟨by rfl, ?_⟩) (by assumption) ?_
  rotate_left
  · (intro w hSw; (try dsimp only at hSw); go_simp; try (with_reducible rfl))
  try simp only [Act.put, List.getElem_toArray, List.getElem_cons_zero, List.getElem_cons_succ, List.setIfInBounds_toArray, List.set_cons_zero, List.set_cons_succ]
  refine wpAnyH_take (i := 6) (v := ?_) rfl (by kernel_rfl) (by kernel_rfl) (by kernel_rfl) (fun _ _ _ h => h) (Or.inl ⟨by rfl, ?_⟩) (by assumption) ?_
  rotate_left
  · (intro w hSw; (try dsimp only at hSw); go_simp; try (with_reducible rfl))
  try simp only [Act.put, List.getElem_toArray, List.getElem_cons_zero, List.getElem_cons_succ, List.setIfInBounds_toArray, List.set_cons_zero, List.set_cons_succ]
  refine wpAnyH_take (i := 7) (v := ?_) rfl (by kernel_rfl) (by kernel_rfl) (by kernel_rfl) (fun _ _ _ h => h) (Or.inl ⟨by rfl, ?_⟩) (by assumption) ?_
  rotate_left
  · (intro w hSw; (try dsimp only at hSw); go_simp; try (with_reducible rfl))
  try simp only [Act.put, List.getElem_toArray, List.getElem_cons_zero, List.getElem_cons_succ, List.setIfInBounds_toArray, List.set_cons_zero, List.set_cons_succ]
  refine wpAnyH_take (i := 9) (v := ?_) rfl (by kernel_rfl) (by kernel_rfl) (by kernel_rfl) (fun _ _ _ h => h) (Or.inl ⟨by rfl, ?_⟩) (by assumption) ?_
  rotate_left
  · (intro w hSw; (try dsimp only at hSw); go_simp; try (with_reducible rfl))
  try simp only [Act.put, List.getElem_toArray, List.getElem_cons_zero, List.getElem_cons_succ, List.setIfInBounds_toArray, List.set_cons_zero, List.set_cons_succ]
  refine wpAnyH_take (i := 10) (v := ?_) rfl (by kernel_rfl) (by kernel_rfl) (by kernel_rfl) (fun _ _ _ h => h) (Or.inl ⟨by rfl, ?_⟩) (by assumption) ?_
  rotate_left
  · (intro w hSw; (try dsimp only at hSw); go_simp; try (with_reducible rfl))
  try simp only [Act.put, List.getElem_toArray, List.getElem_cons_zero, List.getElem_cons_succ, List.setIfInBounds_toArray, List.set_cons_zero, List.set_cons_succ]
  refine wpAnyH_ready (rs := [1]) (by kernel_rfl) (by simp) ?_
  refine (AllReadyH.cons rfl (fun K hK => ?_) AllReadyH.nil)
  refine step_call rfl 70 #[.int .u8 0, .int .u8 0] (by simp [go_sem]) (at_any _ 0 0 (by omega) (by omega) (by omega) (by omega)) ?_
  rintro e wq ⟨rfl, rfl⟩
  refine ⟨_, rfl, ?_⟩
  refine hK.out _ _ ?_ (fun hHeld => ?_)
  · exact hHeld
  clear hK K
  try simp only [Act.put, List.getElem_toArray, List.getElem_cons_zero, List.getElem_cons_succ, List.setIfInBounds_toArray, List.set_cons_zero, List.set_cons_succ]
  refine wpAnyH_take (i := 4) (v := ?_) rfl (by kernel_rfl) (by kernel_rfl) (by kernel_rfl) (fun _ _ _ h => h) (Or.inl ⟨by rfl, ?_⟩) (by assumption) ?_
  rotate_left
  · (intro w hSw; (try dsimp only at hSw); go_simp; try (with_reducible rfl))
  try simp only [Act.put, List.getElem_toArray, List.getElem_cons_zero, List.getElem_cons_succ, List.setIfInBounds_toArray, List.set_cons_zero, List.set_cons_succ]
  refine wpAnyH_ready (rs := [5]) (by kernel_rfl) (by simp) ?_
  refine (AllReadyH.cons rfl (fun K hK => ?_) AllReadyH.nil)
  go_simp
  refine hK.out _ _ ?_ (fun hHeld => ?_)
  · exact hHeld
  clear hK K
  try simp only [Act.put, List.getElem_toArray, List.getElem_cons_zero, List.getElem_cons_succ, List.setIfInBounds_toArray, List.set_cons_zero, List.set_cons_succ]
  refine wpAnyH_take (i := 8) (v := ?_) rfl (by kernel_rfl) (by kernel_rfl) (by kernel_rfl) (fun _ _ _ h => h) (Or.inl ⟨by rfl, ?_⟩) (by assumption) ?_
  rotate_left
  · (intro w hSw; (try dsimp only at hSw); go_simp; try (with_reducible rfl))
  try simp only [Act.put, List.getElem_toArray, List.getElem_cons_zero, List.getElem_cons_succ, List.setIfInBounds_toArray, List.set_cons_zero, List.set_cons_succ]
  refine wpAnyH_take (i := 11) (v := ?_) rfl (by kernel_rfl) (by kernel_rfl) (by kernel_rfl) (fun _ _ _ h => h) (Or.inl ⟨by rfl, ?_⟩) (by assumption) ?_
  rotate_left
  · (intro w hSw; (try dsimp only at hSw); go_simp; try (with_reducible rfl))
  try simp only [Act.put, List.getElem_toArray, List.getElem_cons_zero, List.getElem_cons_succ, List.setIfInBounds_toArray, List.set_cons_zero, List.set_cons_succ]
  refine wpAnyH_ready (rs := [12]) (by kernel_rfl) (by simp) ?_
  refine (AllReadyH.cons rfl (fun K hK => ?_) AllReadyH.nil)
  go_simp
  refine hK.out _ _ ?_ (fun hHeld => ?_)
  · exact (set_cell_ne _ _ _ _ _ _ hAb).trans cx4
  clear hK K
  try simp only [Act.put, List.getElem_toArray, List.getElem_cons_zero, List.getElem_cons_succ, List.setIfInBounds_toArray, List.set_cons_zero, List.set_cons_succ]
  refine wpAnyH_done (by kernel_rfl) ?_ _
  replace HAS := hide ((HAS.out.setL (j := 1) (by omega) (.int .u64 bw1) (addB l3 0 x4) (fun m s => by rw [show (1 : Nat) = 1 + 0 from rfl, Led0.setB HAS.out.la.ok m s (by omega)]; simp only [addB, HBbv1.out, HBbw1.out]) rfl (addB_ok HAS.out.la.ok _ _)).below ((Below.refl (w9.setCell ⟨b, o + 1, none⟩ (.int .u64 bw1)).heap.size (w9.setCell ⟨b, o + 1, none⟩ (.int .u64 bw1))).drew))
  generalize (w9.setCell ⟨b, o + 1, none⟩ (.int .u64 bw1)).drew = w10 at *
  clear cx4 cb fb hwbv1 hHeld
  obtain ⟨l4, hl4⟩ : ∃ c, addB l3 0 x4 = c := ⟨_, rfl⟩
  rw [hl4] at HAS
  have HDl4 : Hid (feeL l t = l4) := by show feeL l t = l4; rw [feeL, HL2.out, HX2.out, HX4.out, HDl3.out, hl4]
  clear hl4
  go_upto_region 11 with fail
  have hz68 := Try.sizeOf68
  have cx0 : w10.cell? ⟨A, 0, none⟩ = some (.int .u8 2) := by have := HAS.out.tx 0 _ hv0.out; rw [← HX0.out, HKD.out] at this; simpa using this
  go_upto_region 16 with fail
  clear cx0
  have HB12 : Hid (x5 < 64 ∧ x7 < 4) := by have := refB_12 (.inr HKD.out) (ref0 HC.out).2.1; rw [HX5.out, HX7.out] at this; exact ⟨this.1, this.2.1⟩
  have h50 := hr5.out.1
  have h70 := hr7.out.1
  have h51 := HB12.out.1
  have h71 := HB12.out.2
  obtain ⟨bv2, hbv2⟩ : ∃ c, fld l4.bal (x2 * 4 + x7).toNat = c := ⟨_, rfl⟩
  have HBbv2 := hide hbv2
  obtain ⟨bw2, hbw2⟩ : ∃ c, w64 (bv2 + - x8) = c := ⟨_, rfl⟩
  have HBbw2 := hide hbw2
  have hwbv2 : IntKind.u64.wrap (bv2 - x8) = bw2 := by rw [IntKind.wrap_u64, ← hbw2, w64] <;> congr 1
  clear hbv2 hbw2
  have cx2 : w10.cell? ⟨A, 2, none⟩ = some (.int .u8 x2) := by have := HAS.out.tx 2 _ hv2.out; simpa using this
  have cx7 : w10.cell? ⟨A, 7, none⟩ = some (.int .u8 x7) := by have := HAS.out.tx 7 _ hv7.out; simpa using this
  have cx8 : w10.cell? ⟨A, 8, none⟩ = some (.int .u64 x8) := by have := HAS.out.tx 8 _ hv8.out; simpa using this
  have hi0 : 0 ≤ x2 * 4 + x7 := by omega
  have hi1 : x2 * 4 + x7 < 256 := by omega
  have cb : w10.cell? ⟨b, o + 1 + (x2 * 4 + x7).toNat, none⟩ = some (.int .u64 bv2) := by
    rw [show o + 1 + (x2 * 4 + x7).toNat = o + (1 + (x2 * 4 + x7).toNat) by omega]
    exact HAS.out.la.cell (fun m s => by rw [Led0.atB m s (bal_at HAS.out.la.ok (j := (x2 * 4 + x7).toNat) (by omega)), HBbv2.out])
  have fb : w10.frozen? ⟨b, o + 1 + (x2 * 4 + x7).toNat, none⟩ = false := by
    rw [show o + 1 + (x2 * 4 + x7).toNat = o + (1 + (x2 * 4 + x7).toNat) by omega]
    exact HAS.out.la.fz (by omega)
  refine wp_region_held_drew (S := fun w' => w'.cell? ⟨A, 2, none⟩ = some (.int .u8 x2) ∧ w'.cell? ⟨A, 7, none⟩ = some (.int .u8 x7) ∧ w'.cell? ⟨A, 8, none⟩ = some (.int .u64 x8)) (by kernel_rfl) ⟨cx2, cx7, cx8⟩ (fun hHeld => ?_)
  refine wpAnyH_take (i := 0) (v := ?_) rfl (by kernel_rfl) (by kernel_rfl) (by kernel_rfl) (fun _ _ _ h => h) (Or.inl ⟨by rfl, ?_⟩) (by assumption) ?_
  rotate_left
  · (intro w hSw; (try dsimp only at hSw); go_simp; try (with_reducible rfl))
  try simp only [Act.put, List.getElem_toArray, List.getElem_cons_zero, List.getElem_cons_succ, List.setIfInBounds_toArray, List.set_cons_zero, List.set_cons_succ]
  refine wpAnyH_take (i := 1) (v := ?_) rfl (by kernel_rfl) (by kernel_rfl) (by kernel_rfl) (fun _ _ _ h => h) (Or.inl ⟨by rfl, ?_⟩) (by assumption) ?_
  rotate_left
  · (intro w hSw; (try dsimp only at hSw); go_simp; try (with_reducible rfl))
  try simp only [Act.put, List.getElem_toArray, List.getElem_cons_zero, List.getElem_cons_succ, List.setIfInBounds_toArray, List.set_cons_zero, List.set_cons_succ]
  refine wpAnyH_take (i := 2) (v := ?_) rfl (by kernel_rfl) (by kernel_rfl) (by kernel_rfl) (fun _ _ _ h => h) (Or.inl ⟨by rfl, ?_⟩) (by assumption) ?_
  rotate_left
  · (intro w hSw; (try dsimp only at hSw); go_simp; try (with_reducible rfl))
  try simp only [Act.put, List.getElem_toArray, List.getElem_cons_zero, List.getElem_cons_succ, List.setIfInBounds_toArray, List.set_cons_zero, List.set_cons_succ]
  refine wpAnyH_take (i := 3) (v := ?_) rfl (by kernel_rfl) (by kernel_rfl) (by kernel_rfl) (fun _ _ _ h => h) (Or.inl ⟨by rfl, ?_⟩) (by assumption) ?_
  rotate_left
  · (intro w hSw; (try dsimp only at hSw); go_simp; try (with_reducible rfl))
  try simp only [Act.put, List.getElem_toArray, List.getElem_cons_zero, List.getElem_cons_succ, List.setIfInBounds_toArray, List.set_cons_zero, List.set_cons_succ]
  refine wpAnyH_take (i := 4) (v := ?_) rfl (by kernel_rfl) (by kernel_rfl) (by kernel_rfl) (fun _ _ _ h => h) (Or.inl ⟨by rfl, ?_⟩) (by assumption) ?_
  rotate_left
  · (intro w hSw; (try dsimp only at hSw); go_simp; try (with_reducible rfl))
  try simp only [Act.put, List.getElem_toArray, List.getElem_cons_zero, List.getElem_cons_succ, List.setIfInBounds_toArray, List.set_cons_zero, List.set_cons_succ]
  refine wpAnyH_take (i := 6) (v := ?_) rfl (by kernel_rfl) (by kernel_rfl) (by kernel_rfl) (fun _ _ _ h => h) (Or.inl ⟨by rfl, ?_⟩) (by assumption) ?_
  rotate_left
  · (intro w hSw; (try dsimp only at hSw); go_simp; try (with_reducible rfl))
  try simp only [Act.put, List.getElem_toArray, List.getElem_cons_zero, List.getElem_cons_succ, List.setIfInBounds_toArray, List.set_cons_zero, List.set_cons_succ]
  refine wpAnyH_take (i := 7) (v := ?_) rfl (by kernel_rfl) (by kernel_rfl) (by kernel_rfl) (fun _ _ _ h => h) (Or.inl ⟨by rfl, ?_⟩) (by assumption) ?_
  rotate_left
  · (intro w hSw; (try dsimp only at hSw); go_simp; try (with_reducible rfl))
  try simp only [Act.put, List.getElem_toArray, List.getElem_cons_zero, List.getElem_cons_succ, List.setIfInBounds_toArray, List.set_cons_zero, List.set_cons_succ]
  refine wpAnyH_take (i := 10) (v := ?_) rfl (by kernel_rfl) (by kernel_rfl) (by kernel_rfl) (fun _ _ _ h => h) (Or.inl ⟨by rfl, ?_⟩) (by assumption) ?_
  rotate_left
  · (intro w hSw; (try dsimp only at hSw); go_simp; try (with_reducible rfl))
  try simp only [Act.put, List.getElem_toArray, List.getElem_cons_zero, List.getElem_cons_succ, List.setIfInBounds_toArray, List.set_cons_zero, List.set_cons_succ]
  refine wpAnyH_take (i := 11) (v := ?_) rfl (by kernel_rfl) (by kernel_rfl) (by kernel_rfl) (fun _ _ _ h => h) (Or.inl ⟨by rfl, ?_⟩) (by assumption) ?_
  rotate_left
  · (intro w hSw; (try dsimp only at hSw); go_simp; try (with_reducible rfl))
  try simp only [Act.put, List.getElem_toArray, List.getElem_cons_zero, List.getElem_cons_succ, List.setIfInBounds_toArray, List.set_cons_zero, List.set_cons_succ]
  refine wpAnyH_take (i := 13) (v := ?_) rfl (by kernel_rfl) (by kernel_rfl) (by kernel_rfl) (fun _ _ _ h => h) (Or.inl ⟨by rfl, ?_⟩) (by assumption) ?_
  rotate_left
  · (intro w hSw; (try dsimp only at hSw); go_simp; try (with_reducible rfl))
  try simp only [Act.put, List.getElem_toArray, List.getElem_cons_zero, List.getElem_cons_succ, List.setIfInBounds_toArray, List.set_cons_zero, List.set_cons_succ]
  refine wpAnyH_take (i := 14) (v := ?_) rfl (by kernel_rfl) (by kernel_rfl) (by kernel_rfl) (fun _ _ _ h => h) (Or.inl ⟨by rfl, ?_⟩) (by assumption) ?_
  rotate_left
  · (intro w hSw; (try dsimp only at hSw); go_simp; try (with_reducible rfl))
  try simp only [Act.put, List.getElem_toArray, List.getElem_cons_zero, List.getElem_cons_succ, List.setIfInBounds_toArray, List.set_cons_zero, List.set_cons_succ]
  refine wpAnyH_ready (rs := [5]) (by kernel_rfl) (by simp) ?_
  refine (AllReadyH.cons rfl (fun K hK => ?_) AllReadyH.nil)
  refine step_call rfl 70 #[.int .u8 x2, .int .u8 x7] (by simp [go_sem]) (at_any _ x2 x7 (by omega) (by omega) (by omega) (by omega)) ?_
  rintro e wq ⟨rfl, rfl⟩
  refine ⟨_, rfl, ?_⟩
  refine hK.out _ _ ?_ (fun hHeld => ?_)
  · exact hHeld
  clear hK K
  try simp only [Act.put, List.getElem_toArray, List.getElem_cons_zero, List.getElem_cons_succ, List.setIfInBounds_toArray, List.set_cons_zero, List.set_cons_succ]
  refine wpAnyH_take (i := 8) (v := ?_) rfl (by kernel_rfl) (by kernel_rfl) (by kernel_rfl) (fun _ _ _ h => h) (Or.inl ⟨by rfl, ?_⟩) (by assumption) ?_
  rotate_left
  · (intro w hSw; (try dsimp only at hSw); go_simp; try (with_reducible rfl))
  try simp only [Act.put, List.getElem_toArray, List.getElem_cons_zero, List.getElem_cons_succ, List.setIfInBounds_toArray, List.set_cons_zero, List.set_cons_succ]
  refine wpAnyH_ready (rs := [9]) (by kernel_rfl) (by simp) ?_
  refine (AllReadyH.cons rfl (fun K hK => ?_) AllReadyH.nil)
  go_simp
  refine hK.out _ _ ?_ (fun hHeld => ?_)
  · exact hHeld
  clear hK K
  try simp only [Act.put, List.getElem_toArray, List.getElem_cons_zero, List.getElem_cons_succ, List.setIfInBounds_toArray, List.set_cons_zero, List.set_cons_succ]
  refine wpAnyH_take (i := 12) (v := ?_) rfl (by kernel_rfl) (by kernel_rfl) (by kernel_rfl) (fun _ _ _ h => h) (Or.inl ⟨by rfl, ?_⟩) (by assumption) ?_
  rotate_left
  · (intro w hSw; (try dsimp only at hSw); go_simp; try (with_reducible rfl))
  try simp only [Act.put, List.getElem_toArray, List.getElem_cons_zero, List.getElem_cons_succ, List.setIfInBounds_toArray, List.set_cons_zero, List.set_cons_succ]
  refine wpAnyH_take (i := 15) (v := ?_) rfl (by kernel_rfl) (by kernel_rfl) (by kernel_rfl) (fun _ _ _ h => h) (Or.inl ⟨by rfl, ?_⟩) (by assumption) ?_
  rotate_left
  · (intro w hSw; (try dsimp only at hSw); go_simp; try (with_reducible rfl))
  try simp only [Act.put, List.getElem_toArray, List.getElem_cons_zero, List.getElem_cons_succ, List.setIfInBounds_toArray, List.set_cons_zero, List.set_cons_succ]
  refine wpAnyH_ready (rs := [16]) (by kernel_rfl) (by simp) ?_
  refine (AllReadyH.cons rfl (fun K hK => ?_) AllReadyH.nil)
  go_simp
  refine hK.out _ _ ?_ (fun hHeld => ?_)
  · exact ⟨(set_cell_ne _ _ _ _ _ _ hAb).trans cx2, (set_cell_ne _ _ _ _ _ _ hAb).trans cx7, (set_cell_ne _ _ _ _ _ _ hAb).trans cx8⟩
  clear hK K
  try simp only [Act.put, List.getElem_toArray, List.getElem_cons_zero, List.getElem_cons_succ, List.setIfInBounds_toArray, List.set_cons_zero, List.set_cons_succ]
  refine wpAnyH_done (by kernel_rfl) ?_ _
  replace HAS := hide ((HAS.out.setL (j := 1 + (x2 * 4 + x7).toNat) (by omega) (.int .u64 bw2) (addB l4 (x2 * 4 + x7).toNat (- x8)) (fun m s => by rw [Led0.setB HAS.out.la.ok m s (by omega)]; simp only [addB, HBbv2.out, HBbw2.out]) rfl (addB_ok HAS.out.la.ok _ _)).below ((Below.refl (w10.setCell ⟨b, o + (1 + (x2 * 4 + x7).toNat), none⟩ (.int .u64 bw2)).heap.size (w10.setCell ⟨b, o + (1 + (x2 * 4 + x7).toNat), none⟩ (.int .u64 bw2))).drew))
  rw [show o + 1 + (x2 * 4 + x7).toNat = o + (1 + (x2 * 4 + x7).toNat) by omega]
  generalize (w10.setCell ⟨b, o + (1 + (x2 * 4 + x7).toNat), none⟩ (.int .u64 bw2)).drew = w11 at *
  clear cx2 cx7 cx8 cb fb hwbv2 hi0 hi1 hHeld
  obtain ⟨l5, hl5⟩ : ∃ c, addB l4 (x2 * 4 + x7).toNat (- x8) = c := ⟨_, rfl⟩
  rw [hl5] at HAS
  have HDl5 := hide hl5
  clear hl5
  have z3 : w11.cell? ⟨A + 2, 3, none⟩ = some (.bool false) := by have := HAS.out.rr 3 (.bool false) rfl; simpa using this
  have f3 : w11.frozen? ⟨A + 2, 3, none⟩ = false := by have := (HAS.out.tr 3 (by omega)).2; simpa using this
  go_upto_region 18 with fail
  replace HAS := hide (HAS.out.setR (.bool true) { rcp0 with gas := gp, fee := x4, hs := true } (Rcp.set3 { rcp0 with gas := gp, fee := x4 } true))
  generalize w11.setCell ⟨A + 2, 3, none⟩ (.bool true) = w12 at *
  clear z3 f3
  have hbA := HAS.out.bA
  obtain ⟨ch, hch⟩ : ∃ c, l.ch = c := ⟨_, rfl⟩
  have HCH := hide hch
  have cch : w12.cell? ⟨b, o, none⟩ = some (.int .u8 ch) := by
    have := HAS.out.la.cell (j := 0) (fun m s => Led0.at0 l5 m s)
    rw [show l5.ch = ch by rw [← hch, ← HDl5.out, ← HDl4.out]; rfl] at this
    simpa using this
  clear hch
  have cx6 : w12.cell? ⟨A, 6, none⟩ = some (.int .u8 x6) := by have := HAS.out.tx 6 _ hv6.out; simpa using this
  have cx2 : w12.cell? ⟨A, 2, none⟩ = some (.int .u8 x2) := by have := HAS.out.tx 2 _ hv2.out; simpa using this
  have cx5 : w12.cell? ⟨A, 5, none⟩ = some (.int .u8 x5) := by have := HAS.out.tx 5 _ hv5.out; simpa using this
  have cx7 : w12.cell? ⟨A, 7, none⟩ = some (.int .u8 x7) := by have := HAS.out.tx 7 _ hv7.out; simpa using this
  have cx8 : w12.cell? ⟨A, 8, none⟩ = some (.int .u64 x8) := by have := HAS.out.tx 8 _ hv8.out; simpa using this
  obtain ⟨U, hU⟩ : ∃ U, msv ([2, ch, x6, x2, x5, 0, x7, x8] ++ List.replicate 33 0) = U := ⟨_, rfl⟩
  have HUM : Hid (msv (burnM l t) = U) := by show _ = _; rw [← hU, burnM, HCH.out]; simp only [HX6.out, HX2.out, HX5.out, HX7.out, HX8.out]
  have HMO : Hid (MsgOk (burnM l t)) := burnM_ok HOK.out HT.out
  have HUl : Hid (U.length = 41) := by rw [← HUM.out]; exact msv_len HMO.out
  have HU1 : Hid (∀ u ∈ U, u.oneCell' = true) := by rw [← HUM.out]; exact kvs_one _ _
  have HBT : Hid (Try.prog.built 68 [(0, .int .u8 2), (1, .int .u8 ch), (2, .int .u8 x6), (3, .int .u8 x2), (4, .int .u8 x5), (6, .int .u8 x7), (7, .int .u64 x8)] = some U.toArray) := by show _ = _; rw [← hU]; exact built_burn ch x6 x2 x5 x7 x8
  clear hU
  refine wp_region_held_drew (S := fun w' => w'.cell? ⟨A, 6, none⟩ = some (.int .u8 x6) ∧ w'.cell? ⟨A, 2, none⟩ = some (.int .u8 x2) ∧ w'.cell? ⟨A, 5, none⟩ = some (.int .u8 x5) ∧ w'.cell? ⟨A, 7, none⟩ = some (.int .u8 x7) ∧ w'.cell? ⟨A, 8, none⟩ = some (.int .u64 x8) ∧ w'.cell? ⟨b, o, none⟩ = some (.int .u8 ch)) (by kernel_rfl) ⟨cx6, cx2, cx5, cx7, cx8, cch⟩ (fun hHeld => ?_)
  refine wpAnyH_take (i := 0) (v := ?_) rfl (by kernel_rfl) (by kernel_rfl) (by kernel_rfl) (fun _ _ _ h => h) (Or.inl ⟨by rfl, ?_⟩) (by assumption) ?_
  rotate_left
  · (intro w hSw; (try dsimp only at hSw); go_simp; try (with_reducible rfl))
  try simp only [Act.put, List.getElem_toArray, List.getElem_cons_zero, List.getElem_cons_succ, List.setIfInBounds_toArray, List.set_cons_zero, List.set_cons_succ]
  refine wpAnyH_take (i := 1) (v := ?_) rfl (by kernel_rfl) (by kernel_rfl) (by kernel_rfl) (fun _ _ _ h => h) (Or.inl ⟨by rfl, ?_⟩) (by assumption) ?_
  rotate_left
  · (intro w hSw; (try dsimp only at hSw); go_simp; try (with_reducible rfl))
  try simp only [Act.put, List.getElem_toArray, List.getElem_cons_zero, List.getElem_cons_succ, List.setIfInBounds_toArray, List.set_cons_zero, List.set_cons_succ]
  refine wpAnyH_take (i := 2) (v := ?_) rfl (by kernel_rfl) (by kernel_rfl) (by kernel_rfl) (fun _ _ _ h => h) (Or.inl ⟨by rfl, ?_⟩) (by assumption) ?_
  rotate_left
  · (intro w hSw; (try dsimp only at hSw); go_simp; try (with_reducible rfl))
  try simp only [Act.put, List.getElem_toArray, List.getElem_cons_zero, List.getElem_cons_succ, List.setIfInBounds_toArray, List.set_cons_zero, List.set_cons_succ]
  refine wpAnyH_take (i := 3) (v := ?_) rfl (by kernel_rfl) (by kernel_rfl) (by kernel_rfl) (fun _ _ _ h => h) (Or.inl ⟨by rfl, ?_⟩) (by assumption) ?_
  rotate_left
  · (intro w hSw; (try dsimp only at hSw); go_simp; try (with_reducible rfl))
  try simp only [Act.put, List.getElem_toArray, List.getElem_cons_zero, List.getElem_cons_succ, List.setIfInBounds_toArray, List.set_cons_zero, List.set_cons_succ]
  refine wpAnyH_take (i := 4) (v := ?_) rfl (by kernel_rfl) (by kernel_rfl) (by kernel_rfl) (fun _ _ _ h => h) (Or.inl ⟨by rfl, ?_⟩) (by assumption) ?_
  rotate_left
  · (intro w hSw; (try dsimp only at hSw); go_simp; try (with_reducible rfl))
  try simp only [Act.put, List.getElem_toArray, List.getElem_cons_zero, List.getElem_cons_succ, List.setIfInBounds_toArray, List.set_cons_zero, List.set_cons_succ]
  refine wpAnyH_take (i := 5) (v := ?_) rfl (by kernel_rfl) (by kernel_rfl) (by kernel_rfl) (fun _ _ _ h => h) (Or.inl ⟨by rfl, ?_⟩) (by assumption) ?_
  rotate_left
  · (intro w hSw; (try dsimp only at hSw); go_simp; try (with_reducible rfl))
  try simp only [Act.put, List.getElem_toArray, List.getElem_cons_zero, List.getElem_cons_succ, List.setIfInBounds_toArray, List.set_cons_zero, List.set_cons_succ]
  refine wpAnyH_take (i := 6) (v := ?_) rfl (by kernel_rfl) (by kernel_rfl) (by kernel_rfl) (fun _ _ _ h => h) (Or.inl ⟨by rfl, ?_⟩) (by assumption) ?_
  rotate_left
  · (intro w hSw; (try dsimp only at hSw); go_simp; try (with_reducible rfl))
  try simp only [Act.put, List.getElem_toArray, List.getElem_cons_zero, List.getElem_cons_succ, List.setIfInBounds_toArray, List.set_cons_zero, List.set_cons_succ]
  refine wpAnyH_take (i := 7) (v := ?_) rfl (by kernel_rfl) (by kernel_rfl) (by kernel_rfl) (fun _ _ _ h => h) (Or.inl ⟨by rfl, ?_⟩) (by assumption) ?_
  rotate_left
  · (intro w hSw; (try dsimp only at hSw); go_simp; try (with_reducible rfl))
  try simp only [Act.put, List.getElem_toArray, List.getElem_cons_zero, List.getElem_cons_succ, List.setIfInBounds_toArray, List.set_cons_zero, List.set_cons_succ]
  refine wpAnyH_take (i := 8) (v := ?_) rfl (by kernel_rfl) (by kernel_rfl) (by kernel_rfl) (fun _ _ _ h => h) (Or.inl ⟨by rfl, ?_⟩) (by assumption) ?_
  rotate_left
  · (intro w hSw; (try dsimp only at hSw); go_simp; try (with_reducible rfl))
  try simp only [Act.put, List.getElem_toArray, List.getElem_cons_zero, List.getElem_cons_succ, List.setIfInBounds_toArray, List.set_cons_zero, List.set_cons_succ]
  refine wpAnyH_take (i := 9) (v := ?_) rfl (by kernel_rfl) (by kernel_rfl) (by kernel_rfl) (fun _ _ _ h => h) (Or.inl ⟨by rfl, ?_⟩) (by assumption) ?_
  rotate_left
  · (intro w hSw; (try dsimp only at hSw); go_simp; try (with_reducible rfl))
  try simp only [Act.put, List.getElem_toArray, List.getElem_cons_zero, List.getElem_cons_succ, List.setIfInBounds_toArray, List.set_cons_zero, List.set_cons_succ]
  refine wpAnyH_take (i := 10) (v := ?_) rfl (by kernel_rfl) (by kernel_rfl) (by kernel_rfl) (fun _ _ _ h => h) (Or.inl ⟨by rfl, ?_⟩) (by assumption) ?_
  rotate_left
  · (intro w hSw; (try dsimp only at hSw); go_simp; try (with_reducible rfl))
  try simp only [Act.put, List.getElem_toArray, List.getElem_cons_zero, List.getElem_cons_succ, List.setIfInBounds_toArray, List.set_cons_zero, List.set_cons_succ]
  refine wpAnyH_take (i := 11) (v := ?_) rfl (by kernel_rfl) (by kernel_rfl) (by kernel_rfl) (fun _ _ _ h => h) (Or.inl ⟨by rfl, ?_⟩) (by assumption) ?_
  rotate_left
  · (intro w hSw; (try dsimp only at hSw); go_simp; try (with_reducible rfl))
  try simp only [Act.put, List.getElem_toArray, List.getElem_cons_zero, List.getElem_cons_succ, List.setIfInBounds_toArray, List.set_cons_zero, List.set_cons_succ]
  refine wpAnyH_take (i := 12) (v := ?_) rfl (by kernel_rfl) (by kernel_rfl) (by kernel_rfl) (fun _ _ _ h => h) (Or.inl ⟨by rfl, ?_⟩) (by assumption) ?_
  rotate_left
  · (intro w hSw; (try dsimp only at hSw); go_simp; try (with_reducible rfl))
  try simp only [Act.put, List.getElem_toArray, List.getElem_cons_zero, List.getElem_cons_succ, List.setIfInBounds_toArray, List.set_cons_zero, List.set_cons_succ]
  refine wpAnyH_take (i := 13) (v := ?_) rfl (by kernel_rfl) (by kernel_rfl) (by kernel_rfl) (fun _ _ _ h => h) (Or.inl ⟨by rfl, ?_⟩) (by assumption) ?_
  rotate_left
  · (intro w hSw; (try dsimp only at hSw); go_simp; try (with_reducible rfl))
  try simp only [Act.put, List.getElem_toArray, List.getElem_cons_zero, List.getElem_cons_succ, List.setIfInBounds_toArray, List.set_cons_zero, List.set_cons_succ]
  refine wpAnyH_take (i := 14) rfl (by kernel_rfl) (by kernel_rfl) (by kernel_rfl) (fun _ _ _ h => h) (yieldsIf_build (by rfl) 68 _ rfl U.toArray (by exact HBT.out)) (by assumption) ?_
  try simp only [Act.put, List.getElem_toArray, List.getElem_cons_zero, List.getElem_cons_succ, List.setIfInBounds_toArray, List.set_cons_zero, List.set_cons_succ]
  refine wpAnyH_take (i := 15) (v := ?_) rfl (by kernel_rfl) (by kernel_rfl) (by kernel_rfl) (fun _ _ _ h => h) (Or.inl ⟨by rfl, ?_⟩) (by assumption) ?_
  rotate_left
  · (intro w hSw; (try dsimp only at hSw); go_simp; try (with_reducible rfl))
  try simp only [Act.put, List.getElem_toArray, List.getElem_cons_zero, List.getElem_cons_succ, List.setIfInBounds_toArray, List.set_cons_zero, List.set_cons_succ]
  refine wpAnyH_ready (rs := [16]) (by kernel_rfl) (by simp) ?_
  refine (AllReadyH.cons rfl (fun K hK => ?_) AllReadyH.nil)
  refine step_storeM rfl 68 (.tmp 140) (.tmp 139) rfl (A + 2) 4 U rfl rfl (by rw [HUl.out]; have := there_sub (k := 4) (m := 41) HAS.out.tr (by omega); rwa [Nat.zero_add] at this) (by rw [HUl.out]; exact Try.sz68) HU1.out ?_
  refine hK.out _ _ ?_ (fun hHeld => ?_)
  · exact ⟨(sets_cell_ne _ _ _ _ _ _ (by omega)).trans cx6, (sets_cell_ne _ _ _ _ _ _ (by omega)).trans cx2, (sets_cell_ne _ _ _ _ _ _ (by omega)).trans cx5, (sets_cell_ne _ _ _ _ _ _ (by omega)).trans cx7, (sets_cell_ne _ _ _ _ _ _ (by omega)).trans cx8, (sets_cell_ne _ _ _ _ _ _ (by omega)).trans cch⟩
  clear hK K
  try simp only [Act.put, List.getElem_toArray, List.getElem_cons_zero, List.getElem_cons_succ, List.setIfInBounds_toArray, List.set_cons_zero, List.set_cons_succ]
  refine wpAnyH_done (by kernel_rfl) ?_ _
  have HRO0 : Hid (Rcp.Ok { rcp0 with gas := gp, fee := x4, hs := true }) := ⟨zOk, zOk⟩
  replace HAS := hide ((HAS.out.below ((Below.refl w12.heap.size w12).drew)).setS HRO0.out (burnM l t) HMO.out)
  rw [HUM.out] at HAS
  generalize w12.drew.setCells (A + 2) 4 U = w13 at *
  clear cx6 cx2 cx5 cx7 cx8 cch hHeld
  have cx0 : w13.cell? ⟨A, 0, none⟩ = some (.int .u8 2) := by have := HAS.out.tx 0 _ hv0.out; rw [← HX0.out, HKD.out] at this; simpa using this
  go_upto_region 28 with fail
  clear cx0
  have HRO : Hid (Rcp.Ok { rcp0 with gas := gp, fee := x4, hs := true, sent := burnM l t }) := ⟨HMO.out, zOk⟩
  obtain ⟨F, hF⟩ : ∃ F, Rcp.vals { rcp0 with gas := gp, fee := x4, hs := true, sent := burnM l t } = F := ⟨_, rfl⟩
  have HFl : Hid (F.length = 87) := by rw [← hF]; exact Rcp.len HRO.out
  have HF1 : Hid (∀ u ∈ F, u.oneCell' = true) := by rw [← hF]; exact Rcp.one _
  have HFr : Hid (w13.rangeAt (A + 2) 0 F) := by rw [← hF]; exact HAS.out.rr
  go_wp2_with fail
  simp only [Try.isAgg89, Try.sizeOf89, Result.andThen, ↓reduceIte, ldC w13 (A + 2) 0 F 87 HFl.out HFr.out]
  rw [Oper.upon_value]
  go_wp2_with fail
  simp only [Try.sizeOf89, Result.andThen, HFl.out, ↓reduceIte, stC w13 (A + 1) 0 F (by rw [HFl.out]; exact HAS.out.rt) HF1.out]
  rw [Oper.upon_skip]
  have HRZ := hide (World.rangeAt_setCells_same w13 (A + 1) 0 F (by rw [HFl.out]; exact HAS.out.rt))
  have HRR : Hid (R (.returned (.agg F.toArray)) (w13.setCells (A + 1) 0 F)) := by
    rw [← HR.out, HGP.out, HX4.out, HX2.out, HX7.out, HX8.out, HDl4.out, HDl5.out, hF]
    exact HAS.out.fin F _
  clear hF
  generalize w13.setCells (A + 1) 0 F = wz at *
  go_wp2_with fail
  exact bodyPost_ret (v := .agg F.toArray) (res_cell Try.results60 rfl (run_loadVar_mid wz (A + 1) 0 89 F _ HRZ.out Try.underlying89 rfl (by rw [HFl.out]; exact Try.sz89))) rfl HRR.out
end Go.Proofs.Qxb6500784a
