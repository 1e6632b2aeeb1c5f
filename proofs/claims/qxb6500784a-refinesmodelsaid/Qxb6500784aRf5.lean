import Derived.Test.Qxb6500784aRf
namespace Go.Proofs.Qxb6500784a
open Go.RowKit

attribute [-simp] Try.isAgg68 Try.sizeOf68 Try.typeInfo68 Try.isAgg92 Try.sizeOf92 Try.typeInfo92
set_option linter.unusedSimpArgs false in
set_option maxRecDepth 100000 in
set_option maxHeartbeats 8000000 in
theorem ref_5 (w : World) (b o : Nat) (l : Led0) (sv : List Led0) (B : List Nat) (t : List Int) (h : LA w b o l sv B) (ht : TxOk t) (hl : l.mks.length ≤ 1000000000000) (hk : fld t 0 = 5) (hA : refA l t = 0) :
    Calls Try.prog 83 #[.pointer (some ⟨b, o, none⟩), .agg (kvs txk t).toArray] w fun e w' => e = .returned (.int .i64 (refP l t)) ∧ Below w.heap.size w w' := by
  have HA' := hide (refA_ok hk (by omega) hA)
  have HPB : Hid (refP l t = if refB l t ≠ 0 then refB l t else if refC l t ≠ 0 then refC l t else refD l t) := by show _ = _; unfold refP; rw [if_neg (by simp [hA])]
  have HT := hide ht
  have HLA := hide h
  have HL := hide hl
  clear h hA ht hl
  obtain ⟨V, hV⟩ : ∃ V, kvs txk t = V := ⟨_, rfl⟩
  obtain ⟨M, hM⟩ : ∃ M, msv (txMsg t) = M := ⟨_, rfl⟩
  have HVl : Hid (V.length = 83) := by rw [← hV, kvs_len]; exact HT.out.l
  have HMl : Hid (M.length = 41) := by rw [← hM]; exact msv_len (txMsg_ok HT.out)
  have HM1 : Hid (∀ z ∈ M, z.oneCell' = true) := by rw [← hM]; exact kvs_one _ _
  have HVM : Hid (V.drop 42 = M) := by rw [← hV, ← hM, txv_split HT.out.l, List.drop_append_of_le_length (by simp [kvs_len, HT.out.l]), List.drop_of_length_le (by simp [kvs_len, HT.out.l]), List.nil_append]; rfl
  obtain ⟨x0, hx0⟩ : ∃ x, fld t 0 = x := ⟨_, rfl⟩
  have HX0 := hide hx0
  have hv0 : Hid (V[0]? = some (.int .u8 x0)) := by rw [← hV, ← hx0]; exact fld_at HT.out (by omega)
  have hr0 : Hid (0 ≤ x0 ∧ x0 < 256) := by rw [← hx0]; exact fld_r HT.out (j := 0) (by omega)
  clear hx0
  obtain ⟨x1, hx1⟩ : ∃ x, fld t 1 = x := ⟨_, rfl⟩
  have HX1 := hide hx1
  have hv1 : Hid (V[1]? = some (.int .u8 x1)) := by rw [← hV, ← hx1]; exact fld_at HT.out (by omega)
  have hr1 : Hid (0 ≤ x1 ∧ x1 < 256) := by rw [← hx1]; exact fld_r HT.out (j := 1) (by omega)
  clear hx1
  obtain ⟨x2, hx2⟩ : ∃ x, fld t 2 = x := ⟨_, rfl⟩
  have HX2 := hide hx2
  have hv2 : Hid (V[2]? = some (.int .u8 x2)) := by rw [← hV, ← hx2]; exact fld_at HT.out (by omega)
  have hr2 : Hid (0 ≤ x2 ∧ x2 < 256) := by rw [← hx2]; exact fld_r HT.out (j := 2) (by omega)
  clear hx2
  obtain ⟨x3, hx3⟩ : ∃ x, fld t 3 = x := ⟨_, rfl⟩
  have HX3 := hide hx3
  have hv3 : Hid (V[3]? = some (.int .u64 x3)) := by rw [← hV, ← hx3]; exact fld_at HT.out (by omega)
  have hr3 : Hid (0 ≤ x3 ∧ x3 < 18446744073709551616) := by rw [← hx3]; exact fld_r HT.out (j := 3) (by omega)
  clear hx3
  obtain ⟨x4, hx4⟩ : ∃ x, fld t 4 = x := ⟨_, rfl⟩
  have HX4 := hide hx4
  have hv4 : Hid (V[4]? = some (.int .u64 x4)) := by rw [← hV, ← hx4]; exact fld_at HT.out (by omega)
  have hr4 : Hid (0 ≤ x4 ∧ x4 < 18446744073709551616) := by rw [← hx4]; exact fld_r HT.out (j := 4) (by omega)
  clear hx4
  obtain ⟨x5, hx5⟩ : ∃ x, fld t 5 = x := ⟨_, rfl⟩
  have HX5 := hide hx5
  have hv5 : Hid (V[5]? = some (.int .u8 x5)) := by rw [← hV, ← hx5]; exact fld_at HT.out (by omega)
  have hr5 : Hid (0 ≤ x5 ∧ x5 < 256) := by rw [← hx5]; exact fld_r HT.out (j := 5) (by omega)
  clear hx5
  obtain ⟨x6, hx6⟩ : ∃ x, fld t 6 = x := ⟨_, rfl⟩
  have HX6 := hide hx6
  have hv6 : Hid (V[6]? = some (.int .u8 x6)) := by rw [← hV, ← hx6]; exact fld_at HT.out (by omega)
  have hr6 : Hid (0 ≤ x6 ∧ x6 < 256) := by rw [← hx6]; exact fld_r HT.out (j := 6) (by omega)
  clear hx6
  obtain ⟨x7, hx7⟩ : ∃ x, fld t 7 = x := ⟨_, rfl⟩
  have HX7 := hide hx7
  have hv7 : Hid (V[7]? = some (.int .u8 x7)) := by rw [← hV, ← hx7]; exact fld_at HT.out (by omega)
  have hr7 : Hid (0 ≤ x7 ∧ x7 < 256) := by rw [← hx7]; exact fld_r HT.out (j := 7) (by omega)
  clear hx7
  obtain ⟨x8, hx8⟩ : ∃ x, fld t 8 = x := ⟨_, rfl⟩
  have HX8 := hide hx8
  have hv8 : Hid (V[8]? = some (.int .u64 x8)) := by rw [← hV, ← hx8]; exact fld_at HT.out (by omega)
  have hr8 : Hid (0 ≤ x8 ∧ x8 < 18446744073709551616) := by rw [← hx8]; exact fld_r HT.out (j := 8) (by omega)
  clear hx8
  obtain ⟨x9, hx9⟩ : ∃ x, fld t 9 = x := ⟨_, rfl⟩
  have HX9 := hide hx9
  have hv9 : Hid (V[9]? = some (.int .u8 x9)) := by rw [← hV, ← hx9]; exact fld_at HT.out (by omega)
  have hr9 : Hid (0 ≤ x9 ∧ x9 < 256) := by rw [← hx9]; exact fld_r HT.out (j := 9) (by omega)
  clear hx9
  obtain ⟨m0, hx0⟩ : ∃ x, fld t 42 = x := ⟨_, rfl⟩
  have HM0x := hide hx0
  have hm0 : Hid (M[0]? = some (.int .u8 m0)) := by rw [← hM, ← hx0, show fld t 42 = fld (txMsg t) 0 from (fld_msg t 0).symm]; exact fld_at (txMsg_ok HT.out) (by omega)
  have hrm0 : Hid (0 ≤ m0 ∧ m0 < 256) := by rw [← hx0]; exact fld_r HT.out (j := 42) (by omega)
  clear hx0
  obtain ⟨m1, hx1⟩ : ∃ x, fld t 43 = x := ⟨_, rfl⟩
  have HM1x := hide hx1
  have hm1 : Hid (M[1]? = some (.int .u8 m1)) := by rw [← hM, ← hx1, show fld t 43 = fld (txMsg t) 1 from (fld_msg t 1).symm]; exact fld_at (txMsg_ok HT.out) (by omega)
  have hrm1 : Hid (0 ≤ m1 ∧ m1 < 256) := by rw [← hx1]; exact fld_r HT.out (j := 43) (by omega)
  clear hx1
  obtain ⟨m2, hx2⟩ : ∃ x, fld t 44 = x := ⟨_, rfl⟩
  have HM2x := hide hx2
  have hm2 : Hid (M[2]? = some (.int .u8 m2)) := by rw [← hM, ← hx2, show fld t 44 = fld (txMsg t) 2 from (fld_msg t 2).symm]; exact fld_at (txMsg_ok HT.out) (by omega)
  have hrm2 : Hid (0 ≤ m2 ∧ m2 < 256) := by rw [← hx2]; exact fld_r HT.out (j := 44) (by omega)
  clear hx2
  obtain ⟨m3, hx3⟩ : ∃ x, fld t 45 = x := ⟨_, rfl⟩
  have HM3x := hide hx3
  have hm3 : Hid (M[3]? = some (.int .u8 m3)) := by rw [← hM, ← hx3, show fld t 45 = fld (txMsg t) 3 from (fld_msg t 3).symm]; exact fld_at (txMsg_ok HT.out) (by omega)
  have hrm3 : Hid (0 ≤ m3 ∧ m3 < 256) := by rw [← hx3]; exact fld_r HT.out (j := 45) (by omega)
  clear hx3
  obtain ⟨m4, hx4⟩ : ∃ x, fld t 46 = x := ⟨_, rfl⟩
  have HM4x := hide hx4
  have hm4 : Hid (M[4]? = some (.int .u8 m4)) := by rw [← hM, ← hx4, show fld t 46 = fld (txMsg t) 4 from (fld_msg t 4).symm]; exact fld_at (txMsg_ok HT.out) (by omega)
  have hrm4 : Hid (0 ≤ m4 ∧ m4 < 256) := by rw [← hx4]; exact fld_r HT.out (j := 46) (by omega)
  clear hx4
  obtain ⟨m5, hx5⟩ : ∃ x, fld t 47 = x := ⟨_, rfl⟩
  have HM5x := hide hx5
  have hm5 : Hid (M[5]? = some (.int .u64 m5)) := by rw [← hM, ← hx5, show fld t 47 = fld (txMsg t) 5 from (fld_msg t 5).symm]; exact fld_at (txMsg_ok HT.out) (by omega)
  have hrm5 : Hid (0 ≤ m5 ∧ m5 < 18446744073709551616) := by rw [← hx5]; exact fld_r HT.out (j := 47) (by omega)
  clear hx5
  obtain ⟨m6, hx6⟩ : ∃ x, fld t 48 = x := ⟨_, rfl⟩
  have HM6x := hide hx6
  have hm6 : Hid (M[6]? = some (.int .u8 m6)) := by rw [← hM, ← hx6, show fld t 48 = fld (txMsg t) 6 from (fld_msg t 6).symm]; exact fld_at (txMsg_ok HT.out) (by omega)
  have hrm6 : Hid (0 ≤ m6 ∧ m6 < 256) := by rw [← hx6]; exact fld_r HT.out (j := 48) (by omega)
  clear hx6
  obtain ⟨m7, hx7⟩ : ∃ x, fld t 49 = x := ⟨_, rfl⟩
  have HM7x := hide hx7
  have hm7 : Hid (M[7]? = some (.int .u64 m7)) := by rw [← hM, ← hx7, show fld t 49 = fld (txMsg t) 7 from (fld_msg t 7).symm]; exact fld_at (txMsg_ok HT.out) (by omega)
  have hrm7 : Hid (0 ≤ m7 ∧ m7 < 18446744073709551616) := by rw [← hx7]; exact fld_r HT.out (j := 49) (by omega)
  clear hx7
  rw [HX0.out] at hk
  obtain ⟨ch, hch⟩ : ∃ c, l.ch = c := ⟨_, rfl⟩
  have HCH := hide hch
  obtain ⟨opn, hop⟩ : ∃ c, l.opn = c := ⟨_, rfl⟩
  have HOP := hide hop
  obtain ⟨gl, hgl⟩ : ∃ c, l.gl = c := ⟨_, rfl⟩
  have HGL := hide hgl
  obtain ⟨gu, hgu⟩ : ∃ c, l.gu = c := ⟨_, rfl⟩
  have HGU := hide hgu
  have HA0 : Hid (x1 = ch ∧ 0 ≤ x2 ∧ x2 < 64 ∧ x4 ≤ 9223372036854775807) := by rw [← HX1.out, ← HX2.out, ← HX4.out, ← hch]; exact ⟨HA'.out.1, by rw [HX2.out]; exact hr2.out.1, HA'.out.2⟩
  clear hch hop hgl hgu HA'
  obtain ⟨nn, hnn⟩ : ∃ c, nonP l t = c := ⟨_, rfl⟩
  have HNP := hide hnn
  have HNN : Hid (nn = fld l.non x2.toNat) := by rw [← hnn, nonP, HX2.out]; rfl
  obtain ⟨bf, hbf⟩ : ∃ c, balP l x2 0 = c := ⟨_, rfl⟩
  have HBP := hide hbf
  have HBF : Hid (bf = fld l.bal (x2 * 4).toNat) := by rw [← hbf, balP, Int.add_zero]; rfl
  obtain ⟨bt, hbt⟩ : ∃ c, balP l x2 x7 = c := ⟨_, rfl⟩
  have HBQ := hide hbt
  have HBT : Hid (bt = fld l.bal (x2 * 4 + x7).toNat) := by rw [← hbt, balP]; rfl
  clear hnn hbf hbt
  obtain ⟨mp, hmp⟩ : ∃ c, minP t = c := ⟨_, rfl⟩
  have HMP := hide hmp
  obtain ⟨gp, hgp⟩ : ∃ c, gasP t = c := ⟨_, rfl⟩
  have HGP := hide hgp
  obtain ⟨gt, hgt⟩ : ∃ c, (gu + gp) % 18446744073709551616 = c := ⟨_, rfl⟩
  have HGT : Hid (gt = (gu + gp) % 18446744073709551616) := hgt.symm
  clear hmp hgp hgt
  have HTV := hide hV
  rw [hV]
  subst hk
  obtain ⟨G, hG⟩ : ∃ G, refP l t = G := ⟨_, rfl⟩
  rw [hG] at HPB ⊢
  clear hV hM hG
  go_enter Try.func83, Try.ntmps83
  go_upto_region 1 with fail
  obtain ⟨A, hA⟩ : ∃ A, w.heap.size = A := ⟨_, rfl⟩
  have HA := hide hA
  have R0 := hide (newR w V 92)
  have B0 := hide (be1 w (.cells V.toArray 92))
  have E0 : Hid ((w.alloc (.cells V.toArray 92)).heap.size = A + 1) := by simp [Hid, hA]
  rw [hA] at R0 ⊢
  generalize w.alloc (.cells V.toArray 92) = w0 at *
  clear hA
  have RM : Hid (w0.rangeAt A 42 M) := by
    rw [← HVM.out]
    intro j v hj
    rw [List.getElem?_drop] at hj
    have := R0.out (42 + j) v hj
    rwa [Nat.zero_add] at this
  go_wp2_with fail
  simp only [Try.sizeOf68, Result.andThen, show ((41 : Nat) = 0) = False from by simp, if_false]
  rw [Oper.upon_value]
  go_wp2_with fail
  simp only [Try.isAgg68, Try.sizeOf68, Result.andThen, ↓reduceIte, ldC w0 A 42 M 41 HMl.out RM.out]
  rw [Oper.upon_value]
  go_wp2_with fail
  simp only [Try.sizeOf68, Result.andThen, HMl.out, ↓reduceIte, stNew w0 68 #[.int .u8 0, .int .u8 0, .int .u8 0, .int .u8 0, .int .u8 0, .int .u64 0, .int .u8 0, .int .u64 0, .int .u8 0, .int .u8 0, .int .u8 0, .int .u8 0, .int .u8 0, .int .u8 0, .int .u8 0, .int .u8 0, .int .u8 0, .int .u8 0, .int .u8 0, .int .u8 0, .int .u8 0, .int .u8 0, .int .u8 0, .int .u8 0, .int .u8 0, .int .u8 0, .int .u8 0, .int .u8 0, .int .u8 0, .int .u8 0, .int .u8 0, .int .u8 0, .int .u8 0, .int .u8 0, .int .u8 0, .int .u8 0, .int .u8 0, .int .u8 0, .int .u8 0, .int .u8 0, .int .u8 0] M 41 Try.sz68 rfl HMl.out HM1.out]
  rw [Oper.upon_skip]
  have HRS : Hid (RS w (w0.alloc (.cells M.toArray 68)) A V M b o l sv B) := by
    have h1 := newR w0 M 68
    rw [E0.out] at h1
    exact ⟨lec B0.out (be1 w0 _), World.rangeAt_alloc R0.out _, h1, HLA.out.below (lec B0.out (be1 w0 _)), by simp [E0.out]⟩
  rw [E0.out]
  generalize w0.alloc (.cells M.toArray 68) = w1 at *
  clear R0 B0 E0 RM w0
  have cx0 : w1.cell? ⟨A, 0, none⟩ = some (.int .u8 5) := by have := HRS.out.tx 0 _ hv0.out; simpa using this
  go_upto_region 4 with fail
  have ea : (x1 != ch) = false := by simpa using HA0.out.1
  have d1 : decide (64 ≤ x2) = false := decide_eq_false (by have := HA0.out; omega)
  have d2 : decide (9223372036854775807 < x4) = false := decide_eq_false (by have := HA0.out; omega)
  have cx1 : w1.cell? ⟨A, 1, none⟩ = some (.int .u8 x1) := by have := HRS.out.tx 1 _ hv1.out; simpa using this
  have clch : w1.cell? ⟨b, o, none⟩ = some (.int .u8 ch) := by rw [← HCH.out]; exact HRS.out.la.cell (j := 0) (fun m s => Led0.at0 _ m s)
  go_region
  have HRS2 := hide (HRS.out.below ((Below.refl w1.heap.size w1).drew))
  generalize w1.drew = w2 at *
  clear HRS cx1 clch
  have HRS := HRS2
  clear HRS2
  have cx0 : w2.cell? ⟨A, 0, none⟩ = some (.int .u8 5) := by have := HRS.out.tx 0 _ hv0.out; simpa using this
  have cx2 : w2.cell? ⟨A, 2, none⟩ = some (.int .u8 x2) := by have := HRS.out.tx 2 _ hv2.out; simpa using this
  have cx4 : w2.cell? ⟨A, 4, none⟩ = some (.int .u64 x4) := by have := HRS.out.tx 4 _ hv4.out; simpa using this
  have cm0 : w2.cell? ⟨A + 1, 0, none⟩ = some (.int .u8 m0) := by have := HRS.out.ms 0 _ hm0.out; simpa using this
  go_upto_region 36 with fail
  clear cx2 cx4 ea d1 d2
  by_cases hc1 : ¬ m0 = 1
  · have HF1 := hide hc1
    have dq : (m0 != 1) = true := by simpa using HF1.out
    clear hc1
    go_wp2
    go_ret
    exact ⟨ret_int (by rw [HPB.out]; exact exB (by simp [refB, HX0.out, HX2.out, HX3.out, HX4.out, HX5.out, HX6.out, HX7.out, HX8.out, HX9.out, HM0x.out, HM1x.out, HM2x.out, HM3x.out, HM4x.out, HM5x.out, HM6x.out, HM7x.out, HCH.out, HOP.out, HGL.out, HGU.out, HNP.out, HBP.out, HBQ.out, HMP.out, HGP.out, HF1.out] <;> (have hq0 := HF1.out; (repeat' split) <;> first | rfl | omega)) (by decide)), HRS.out.bl⟩
  have HN1 := hide hc1
  have dq1 : (m0 != 1) = false := by simpa using HN1.out
  clear hc1
  go_upto_region 38 with fail
  clear dq1 cx0 cm0
  have cm2 : w2.cell? ⟨A + 1, 2, none⟩ = some (.int .u8 m2) := by have := HRS.out.ms 2 _ hm2.out; simpa using this
  have clch : w2.cell? ⟨b, o, none⟩ = some (.int .u8 ch) := by rw [← HCH.out]; exact HRS.out.la.cell (j := 0) (fun m s => Led0.at0 _ m s)
  go_region
  have HRS2 := hide (HRS.out.below ((Below.refl w2.heap.size w2).drew))
  generalize w2.drew = w3 at *
  clear HRS cm2 clch
  have HRS := HRS2
  clear HRS2
  by_cases hc2 : ¬ m2 = ch
  · have HF2 := hide hc2
    have dq : (m2 != ch) = true := by simpa using HF2.out
    clear hc2
    rw [dq]
    go_wp2
    go_ret
    exact ⟨ret_int (by rw [HPB.out]; exact exB (by simp [refB, HX0.out, HX2.out, HX3.out, HX4.out, HX5.out, HX6.out, HX7.out, HX8.out, HX9.out, HM0x.out, HM1x.out, HM2x.out, HM3x.out, HM4x.out, HM5x.out, HM6x.out, HM7x.out, HCH.out, HOP.out, HGL.out, HGU.out, HNP.out, HBP.out, HBQ.out, HMP.out, HGP.out, HN1.out, HF2.out] <;> (have hq0 := HN1.out; have hq1 := HF2.out; (repeat' split) <;> first | rfl | omega)) (by decide)), HRS.out.bl⟩
  have HN2 := hide hc2
  have dq2 : (m2 != ch) = false := by simpa using HN2.out
  clear hc2
  rw [dq2]
  go_upto_region 40 with fail
  clear dq2
  obtain ⟨fb, hfb⟩ : ∃ c, forP m1 ch = c := ⟨_, rfl⟩
  have HFB := hide hfb
  clear hfb
  have cm1 : w3.cell? ⟨A + 1, 1, none⟩ = some (.int .u8 m1) := by have := HRS.out.ms 1 _ hm1.out; simpa using this
  have clch : w3.cell? ⟨b, o, none⟩ = some (.int .u8 ch) := by rw [← HCH.out]; exact HRS.out.la.cell (j := 0) (fun m s => Led0.at0 _ m s)
  refine wp_region_held_drew (S := fun w' => w'.cell? ⟨A + 1, 1, none⟩ = some (.int .u8 m1) ∧ w'.cell? ⟨b, o, none⟩ = some (.int .u8 ch)) (by kernel_rfl) ⟨cm1, clch⟩ (fun hHeld => ?_)
  refine wpAnyH_take (i := 0) (v := ?_) rfl (by kernel_rfl) (by kernel_rfl) (by kernel_rfl) (fun _ _ _ h => h) (Or.inl ⟨by rfl, ?_⟩) (by assumption) ?_
  rotate_left
  · (intro w hSw; (try dsimp only at hSw); go_simp; try (with_reducible rfl))
  try simp only [Act.put, List.getElem_toArray, List.getElem_cons_zero, List.getElem_cons_succ, List.setIfInBounds_toArray, List.set_cons_zero, List.set_cons_succ]
  refine wpAnyH_take (i := 1) (v := ?_) rfl (by kernel_rfl) (by kernel_rfl) (by kernel_rfl) (fun _ _ _ h => h) (Or.inl ⟨by rfl, ?_⟩) (by assumption) ?_
  rotate_left
  · (intro w hSw; (try dsimp only at hSw); go_simp; try (with_reducible rfl))
  try simp only [Act.put, List.getElem_toArray, List.getElem_cons_zero, List.getElem_cons_succ, List.setIfInBounds_toArray, List.set_cons_zero, List.set_cons_succ]
  refine wpAnyH_take (i := 2) (v := ?_) rfl (by kernel_rfl) (by kernel_rfl) (by kernel_rfl) (fun _ _ _ h => h) (Or.inl ⟨by rfl, ?_⟩) (by assumption) ?_
  rotate_left
  · (intro w hSw; (try dsimp only at hSw); go_simp; try (with_reducible rfl))
  try simp only [Act.put, List.getElem_toArray, List.getElem_cons_zero, List.getElem_cons_succ, List.setIfInBounds_toArray, List.set_cons_zero, List.set_cons_succ]
  refine wpAnyH_take (i := 3) (v := ?_) rfl (by kernel_rfl) (by kernel_rfl) (by kernel_rfl) (fun _ _ _ h => h) (Or.inl ⟨by rfl, ?_⟩) (by assumption) ?_
  rotate_left
  · (intro w hSw; (try dsimp only at hSw); go_simp; try (with_reducible rfl))
  try simp only [Act.put, List.getElem_toArray, List.getElem_cons_zero, List.getElem_cons_succ, List.setIfInBounds_toArray, List.set_cons_zero, List.set_cons_succ]
  refine wpAnyH_take (i := 4) (v := ?_) rfl (by kernel_rfl) (by kernel_rfl) (by kernel_rfl) (fun _ _ _ h => h) (Or.inl ⟨by rfl, ?_⟩) (by assumption) ?_
  rotate_left
  · (intro w hSw; (try dsimp only at hSw); go_simp; try (with_reducible rfl))
  try simp only [Act.put, List.getElem_toArray, List.getElem_cons_zero, List.getElem_cons_succ, List.setIfInBounds_toArray, List.set_cons_zero, List.set_cons_succ]
  refine wpAnyH_take (i := 5) (v := ?_) rfl (by kernel_rfl) (by kernel_rfl) (by kernel_rfl) (fun _ _ _ h => h) (Or.inl ⟨by rfl, ?_⟩) (by assumption) ?_
  rotate_left
  · (intro w hSw; (try dsimp only at hSw); go_simp; try (with_reducible rfl))
  try simp only [Act.put, List.getElem_toArray, List.getElem_cons_zero, List.getElem_cons_succ, List.setIfInBounds_toArray, List.set_cons_zero, List.set_cons_succ]
  refine wpAnyH_ready (rs := [6]) (by kernel_rfl) (by simp) ?_
  refine (AllReadyH.cons rfl (fun K hK => ?_) AllReadyH.nil)
  refine step_call rfl 89 #[.int .u8 m1, .int .u8 ch] (by simp [go_sem]) (by have := foreign_any w3.drew m1 ch; rw [HFB.out] at this; exact this) ?_
  rintro e w8 ⟨rfl, rfl⟩
  refine ⟨_, rfl, ?_⟩
  refine hK.out _ _ ?_ (fun hHeld => ?_)
  · exact hHeld
  clear hK K
  try simp only [Act.put, List.getElem_toArray, List.getElem_cons_zero, List.getElem_cons_succ, List.setIfInBounds_toArray, List.set_cons_zero, List.set_cons_succ]
  refine wpAnyH_take (i := 7) (v := ?_) rfl (by kernel_rfl) (by kernel_rfl) (by kernel_rfl) (fun _ _ _ h => h) (Or.inl ⟨by rfl, ?_⟩) (by assumption) ?_
  rotate_left
  · (intro w hSw; (try dsimp only at hSw); go_simp; try (with_reducible rfl))
  try simp only [Act.put, List.getElem_toArray, List.getElem_cons_zero, List.getElem_cons_succ, List.setIfInBounds_toArray, List.set_cons_zero, List.set_cons_succ]
  refine wpAnyH_take (i := 8) (v := ?_) rfl (by kernel_rfl) (by kernel_rfl) (by kernel_rfl) (fun _ _ _ h => h) (Or.inl ⟨by rfl, ?_⟩) (by assumption) ?_
  rotate_left
  · (intro w hSw; (try dsimp only at hSw); go_simp; try (with_reducible rfl))
  try simp only [Act.put, List.getElem_toArray, List.getElem_cons_zero, List.getElem_cons_succ, List.setIfInBounds_toArray, List.set_cons_zero, List.set_cons_succ]
  refine wpAnyH_done (by kernel_rfl) ?_ _
  have HRS2 := hide (HRS.out.below ((Below.refl w3.heap.size w3).drew))
  generalize w3.drew = w4 at *
  clear HRS hHeld cm1 clch
  have HRS := HRS2
  clear HRS2
  cases fb
  · have HF3 : Hid (forP m1 ch = false) := HFB.out
    go_wp2
    go_ret
    exact ⟨ret_int (by rw [HPB.out]; exact exB (by simp [refB, HX0.out, HX2.out, HX3.out, HX4.out, HX5.out, HX6.out, HX7.out, HX8.out, HX9.out, HM0x.out, HM1x.out, HM2x.out, HM3x.out, HM4x.out, HM5x.out, HM6x.out, HM7x.out, HCH.out, HOP.out, HGL.out, HGU.out, HNP.out, HBP.out, HBQ.out, HMP.out, HGP.out, HN1.out, HN2.out, HF3.out] <;> (have hq0 := HN1.out; have hq1 := HN2.out; have hq2 := HF3.out; (repeat' split) <;> first | rfl | omega)) (by decide)), HRS.out.bl⟩
  have HN3 : Hid (forP m1 ch = true) := HFB.out
  go_upto_region 42 with fail
  have cm3 : w4.cell? ⟨A + 1, 3, none⟩ = some (.int .u8 m3) := by have := HRS.out.ms 3 _ hm3.out; simpa using this
  have cm4 : w4.cell? ⟨A + 1, 4, none⟩ = some (.int .u8 m4) := by have := HRS.out.ms 4 _ hm4.out; simpa using this
  by_cases hc4 : 64 ≤ m3
  · have HF4 := hide hc4
    have dq : decide (64 ≤ m3) = true := decide_eq_true HF4.out
    clear hc4
    go_wp2
    go_ret
    exact ⟨ret_int (by rw [HPB.out]; exact exB (by simp [refB, HX0.out, HX2.out, HX3.out, HX4.out, HX5.out, HX6.out, HX7.out, HX8.out, HX9.out, HM0x.out, HM1x.out, HM2x.out, HM3x.out, HM4x.out, HM5x.out, HM6x.out, HM7x.out, HCH.out, HOP.out, HGL.out, HGU.out, HNP.out, HBP.out, HBQ.out, HMP.out, HGP.out, HN1.out, HN2.out, HN3.out, HF4.out] <;> (have hq0 := HN1.out; have hq1 := HN2.out; have hq2 := HN3.out; have hq3 := HF4.out; (repeat' split) <;> first | rfl | omega)) (by decide)), HRS.out.bl⟩
  have HN4 := hide hc4
  have dq4 : decide (64 ≤ m3) = false := decide_eq_false HN4.out
  clear hc4
  by_cases hc5 : 64 ≤ m4
  · have HF5 := hide hc5
    have dq : decide (64 ≤ m4) = true := decide_eq_true HF5.out
    clear hc5
    go_wp2
    go_ret
    exact ⟨ret_int (by rw [HPB.out]; exact exB (by simp [refB, HX0.out, HX2.out, HX3.out, HX4.out, HX5.out, HX6.out, HX7.out, HX8.out, HX9.out, HM0x.out, HM1x.out, HM2x.out, HM3x.out, HM4x.out, HM5x.out, HM6x.out, HM7x.out, HCH.out, HOP.out, HGL.out, HGU.out, HNP.out, HBP.out, HBQ.out, HMP.out, HGP.out, HN1.out, HN2.out, HN3.out, HN4.out, HF5.out] <;> (have hq0 := HN1.out; have hq1 := HN2.out; have hq2 := HN3.out; have hq3 := HN4.out; have hq4 := HF5.out; (repeat' split) <;> first | rfl | omega)) (by decide)), HRS.out.bl⟩
  have HN5 := hide hc5
  have dq5 : decide (64 ≤ m4) = false := decide_eq_false HN5.out
  clear hc5
  have cx0 : w4.cell? ⟨A, 0, none⟩ = some (.int .u8 5) := by have := HRS.out.tx 0 _ hv0.out; simpa using this
  go_upto_region 44 with fail
  clear dq5 dq4 cm3
  have cx2 : w4.cell? ⟨A, 2, none⟩ = some (.int .u8 x2) := by have := HRS.out.tx 2 _ hv2.out; simpa using this
  go_upto_region 50 with fail
  by_cases hc6 : ¬ m4 = x2
  · have HF6 := hide hc6
    have dq : (m4 != x2) = true := by simpa using HF6.out
    clear hc6
    go_wp2
    go_ret
    exact ⟨ret_int (by rw [HPB.out]; exact exB (by simp [refB, HX0.out, HX2.out, HX3.out, HX4.out, HX5.out, HX6.out, HX7.out, HX8.out, HX9.out, HM0x.out, HM1x.out, HM2x.out, HM3x.out, HM4x.out, HM5x.out, HM6x.out, HM7x.out, HCH.out, HOP.out, HGL.out, HGU.out, HNP.out, HBP.out, HBQ.out, HMP.out, HGP.out, HN1.out, HN2.out, HN3.out, HN4.out, HN5.out, HF6.out] <;> (have hq0 := HN1.out; have hq1 := HN2.out; have hq2 := HN3.out; have hq3 := HN4.out; have hq4 := HN5.out; have hq5 := HF6.out; (repeat' split) <;> first | rfl | omega)) (by decide)), HRS.out.bl⟩
  have HN6 := hide hc6
  have dq6 : (m4 != x2) = false := by simpa using HN6.out
  clear hc6
  go_upto_region 52 with fail
  clear cm4 cx2 cx0 dq6
  have HB0 : Hid (refB l t = 0) := by show _ = _; exact (by simp [refB, HX0.out, HX2.out, HX3.out, HX4.out, HX5.out, HX6.out, HX7.out, HX8.out, HX9.out, HM0x.out, HM1x.out, HM2x.out, HM3x.out, HM4x.out, HM5x.out, HM6x.out, HM7x.out, HCH.out, HOP.out, HGL.out, HGU.out, HNP.out, HBP.out, HBQ.out, HMP.out, HGP.out, HN1.out, HN2.out, HN3.out, HN4.out, HN5.out, HN6.out] <;> (have hq0 := HN1.out; have hq1 := HN2.out; have hq2 := HN3.out; have hq3 := HN4.out; have hq4 := HN5.out; have hq5 := HN6.out; (repeat' split) <;> first | rfl | omega))
  have cx4 : w4.cell? ⟨A, 4, none⟩ = some (.int .u64 x4) := by have := HRS.out.tx 4 _ hv4.out; simpa using this
  refine wp_region_held_drew (S := fun w' => w'.rangeAt A 0 V ∧ w'.cell? ⟨A, 4, none⟩ = some (.int .u64 x4)) (by kernel_rfl) ⟨HRS.out.tx, cx4⟩ (fun hHeld => ?_)
  refine wpAnyH_take (i := 0) (v := ?_) rfl (by kernel_rfl) (by kernel_rfl) (by kernel_rfl) (fun _ _ _ h => h) (Or.inl ⟨by rfl, ?_⟩) (by assumption) ?_
  rotate_left
  · (intro w hSw; (try dsimp only at hSw); go_simp; try (with_reducible rfl))
  try simp only [Act.put, List.getElem_toArray, List.getElem_cons_zero, List.getElem_cons_succ, List.setIfInBounds_toArray, List.set_cons_zero, List.set_cons_succ]
  refine wpAnyH_take (i := 1) (v := ?_) rfl (by kernel_rfl) (by kernel_rfl) (by kernel_rfl) (fun _ _ _ h => h) (Or.inl ⟨by rfl, ?_⟩) (by assumption) ?_
  rotate_left
  · (intro w hSw; (try dsimp only at hSw); go_simp; try (with_reducible rfl))
  try simp only [Act.put, List.getElem_toArray, List.getElem_cons_zero, List.getElem_cons_succ, List.setIfInBounds_toArray, List.set_cons_zero, List.set_cons_succ]
  refine wpAnyH_take (i := 2) rfl (by kernel_rfl) (by kernel_rfl) (by kernel_rfl) (fun _ _ _ h => h) (yieldsIf_load_mid (by rfl) 92 (.tmp 3) rfl A 0 rfl V _ (fun w hSw => hSw.1) Try.underlying92 rfl (by rw [HVl.out]; exact Try.sz92)) (by assumption) ?_
  try simp only [Act.put, List.getElem_toArray, List.getElem_cons_zero, List.getElem_cons_succ, List.setIfInBounds_toArray, List.set_cons_zero, List.set_cons_succ]
  refine wpAnyH_ready (rs := [3]) (by kernel_rfl) (by simp) ?_
  refine (AllReadyH.cons rfl (fun K hK => ?_) AllReadyH.nil)
  refine step_call rfl 90 #[.agg V.toArray] (by simp [go_sem]) (by have := minfee_any w4.drew t HT.out; rw [HTV.out] at this; exact this) ?_
  rintro e w5 ⟨rfl, b8⟩
  have HB8 := hide (of_drw b8)
  have HRS2 := hide (HRS.out.below HB8.out)
  rw [HMP.out]
  clear b8
  refine ⟨_, rfl, ?_⟩
  refine hK.out _ _ ?_ (fun hHeld => ?_)
  · exact ⟨HRS2.out.tx, cellKeep HB8.out cx4⟩
  clear hK K
  try simp only [Act.put, List.getElem_toArray, List.getElem_cons_zero, List.getElem_cons_succ, List.setIfInBounds_toArray, List.set_cons_zero, List.set_cons_succ]
  refine wpAnyH_take (i := 4) (v := ?_) rfl (by kernel_rfl) (by kernel_rfl) (by kernel_rfl) (fun _ _ _ h => h) (Or.inl ⟨by rfl, ?_⟩) (by assumption) ?_
  rotate_left
  · (intro w hSw; (try dsimp only at hSw); go_simp; try (with_reducible rfl))
  try simp only [Act.put, List.getElem_toArray, List.getElem_cons_zero, List.getElem_cons_succ, List.setIfInBounds_toArray, List.set_cons_zero, List.set_cons_succ]
  refine wpAnyH_take (i := 5) (v := ?_) rfl (by kernel_rfl) (by kernel_rfl) (by kernel_rfl) (fun _ _ _ h => h) (Or.inl ⟨by rfl, ?_⟩) (by assumption) ?_
  rotate_left
  · (intro w hSw; (try dsimp only at hSw); go_simp; try (with_reducible rfl))
  try simp only [Act.put, List.getElem_toArray, List.getElem_cons_zero, List.getElem_cons_succ, List.setIfInBounds_toArray, List.set_cons_zero, List.set_cons_succ]
  refine wpAnyH_done (by kernel_rfl) ?_ _
  clear HB8
  clear HRS hHeld cx4
  have HRS := HRS2
  clear HRS2
  by_cases hc7 : x4 < mp
  · have HF7 := hide hc7
    have dq : decide (x4 < mp) = true := decide_eq_true HF7.out
    clear hc7
    rw [dq]
    go_wp2
    go_ret
    exact ⟨ret_int (by rw [HPB.out]; exact exC HB0.out (by simp [refC, HX0.out, HX2.out, HX3.out, HX4.out, HX5.out, HX6.out, HX7.out, HX8.out, HX9.out, HM0x.out, HM1x.out, HM2x.out, HM3x.out, HM4x.out, HM5x.out, HM6x.out, HM7x.out, HCH.out, HOP.out, HGL.out, HGU.out, HNP.out, HBP.out, HBQ.out, HMP.out, HGP.out, HN1.out, HN2.out, HN3.out, HN4.out, HN5.out, HN6.out, HF7.out, ← HGT.out] <;> (have hq0 := HN1.out; have hq1 := HN2.out; have hq2 := HN3.out; have hq3 := HN4.out; have hq4 := HN5.out; have hq5 := HN6.out; have hq6 := HF7.out; (repeat' split) <;> first | rfl | omega)) (by decide)), HRS.out.bl⟩
  have HN7 := hide hc7
  have dq7 : decide (x4 < mp) = false := decide_eq_false HN7.out
  clear hc7
  rw [dq7]
  go_upto_region 54 with fail
  have clop : w5.cell? ⟨b, o + 322, none⟩ = some (.bool opn) := by rw [← HOP.out]; exact HRS.out.la.cell (fun m s => Led0.at322 HRS.out.la.ok m s)
  clear dq7
  cases opn
  · have HF8 : Hid (l.opn = false) := HOP.out
    go_wp2
    go_ret
    exact ⟨ret_int (by rw [HPB.out]; exact exC HB0.out (by simp [refC, HX0.out, HX2.out, HX3.out, HX4.out, HX5.out, HX6.out, HX7.out, HX8.out, HX9.out, HM0x.out, HM1x.out, HM2x.out, HM3x.out, HM4x.out, HM5x.out, HM6x.out, HM7x.out, HCH.out, HOP.out, HGL.out, HGU.out, HNP.out, HBP.out, HBQ.out, HMP.out, HGP.out, HN1.out, HN2.out, HN3.out, HN4.out, HN5.out, HN6.out, HN7.out, HF8.out, ← HGT.out] <;> (have hq0 := HN1.out; have hq1 := HN2.out; have hq2 := HN3.out; have hq3 := HN4.out; have hq4 := HN5.out; have hq5 := HN6.out; have hq6 := HN7.out; have hq7 := HF8.out; (repeat' split) <;> first | rfl | omega)) (by decide)), HRS.out.bl⟩
  have HN8 : Hid (l.opn = true) := HOP.out
  go_upto_region 56 with fail
  clear clop
  have hwg : IntKind.u64.wrap (gu + gp) = gt := by rw [IntKind.wrap_u64, HGT.out]
  have clgu : w5.cell? ⟨b, o + 324, none⟩ = some (.int .u64 gu) := by rw [← HGU.out]; exact HRS.out.la.cell (fun m s => Led0.at324 HRS.out.la.ok m s)
  have clgl : w5.cell? ⟨b, o + 323, none⟩ = some (.int .u64 gl) := by rw [← HGL.out]; exact HRS.out.la.cell (fun m s => Led0.at323 HRS.out.la.ok m s)
  refine wp_region_held_drew (S := fun w' => w'.rangeAt A 0 V ∧ w'.cell? ⟨b, o + 324, none⟩ = some (.int .u64 gu) ∧ w'.cell? ⟨b, o + 323, none⟩ = some (.int .u64 gl)) (by kernel_rfl) ⟨HRS.out.tx, clgu, clgl⟩ (fun hHeld => ?_)
  refine wpAnyH_take (i := 0) (v := ?_) rfl (by kernel_rfl) (by kernel_rfl) (by kernel_rfl) (fun _ _ _ h => h) (Or.inl ⟨by rfl, ?_⟩) (by assumption) ?_
  rotate_left
  · (intro w hSw; (try dsimp only at hSw); go_simp; try (with_reducible rfl))
  try simp only [Act.put, List.getElem_toArray, List.getElem_cons_zero, List.getElem_cons_succ, List.setIfInBounds_toArray, List.set_cons_zero, List.set_cons_succ]
  refine wpAnyH_take (i := 1) (v := ?_) rfl (by kernel_rfl) (by kernel_rfl) (by kernel_rfl) (fun _ _ _ h => h) (Or.inl ⟨by rfl, ?_⟩) (by assumption) ?_
  rotate_left
  · (intro w hSw; (try dsimp only at hSw); go_simp; try (with_reducible rfl))
  try simp only [Act.put, List.getElem_toArray, List.getElem_cons_zero, List.getElem_cons_succ, List.setIfInBounds_toArray, List.set_cons_zero, List.set_cons_succ]
  refine wpAnyH_take (i := 2) (v := ?_) rfl (by kernel_rfl) (by kernel_rfl) (by kernel_rfl) (fun _ _ _ h => h) (Or.inl ⟨by rfl, ?_⟩) (by assumption) ?_
  rotate_left
  · (intro w hSw; (try dsimp only at hSw); go_simp; try (with_reducible rfl))
  try simp only [Act.put, List.getElem_toArray, List.getElem_cons_zero, List.getElem_cons_succ, List.setIfInBounds_toArray, List.set_cons_zero, List.set_cons_succ]
  refine wpAnyH_take (i := 3) (v := ?_) rfl (by kernel_rfl) (by kernel_rfl) (by kernel_rfl) (fun _ _ _ h => h) (Or.inl ⟨by rfl, ?_⟩) (by assumption) ?_
  rotate_left
  · (intro w hSw; (try dsimp only at hSw); go_simp; try (with_reducible rfl))
  try simp only [Act.put, List.getElem_toArray, List.getElem_cons_zero, List.getElem_cons_succ, List.setIfInBounds_toArray, List.set_cons_zero, List.set_cons_succ]
  refine wpAnyH_take (i := 4) rfl (by kernel_rfl) (by kernel_rfl) (by kernel_rfl) (fun _ _ _ h => h) (yieldsIf_load_mid (by rfl) 92 (.tmp 3) rfl A 0 rfl V _ (fun w hSw => hSw.1) Try.underlying92 rfl (by rw [HVl.out]; exact Try.sz92)) (by assumption) ?_
  try simp only [Act.put, List.getElem_toArray, List.getElem_cons_zero, List.getElem_cons_succ, List.setIfInBounds_toArray, List.set_cons_zero, List.set_cons_succ]
  refine wpAnyH_take (i := 7) (v := ?_) rfl (by kernel_rfl) (by kernel_rfl) (by kernel_rfl) (fun _ _ _ h => h) (Or.inl ⟨by rfl, ?_⟩) (by assumption) ?_
  rotate_left
  · (intro w hSw; (try dsimp only at hSw); go_simp; try (with_reducible rfl))
  try simp only [Act.put, List.getElem_toArray, List.getElem_cons_zero, List.getElem_cons_succ, List.setIfInBounds_toArray, List.set_cons_zero, List.set_cons_succ]
  refine wpAnyH_take (i := 8) (v := ?_) rfl (by kernel_rfl) (by kernel_rfl) (by kernel_rfl) (fun _ _ _ h => h) (Or.inl ⟨by rfl, ?_⟩) (by assumption) ?_
  rotate_left
  · (intro w hSw; (try dsimp only at hSw); go_simp; try (with_reducible rfl))
  try simp only [Act.put, List.getElem_toArray, List.getElem_cons_zero, List.getElem_cons_succ, List.setIfInBounds_toArray, List.set_cons_zero, List.set_cons_succ]
  refine wpAnyH_take (i := 9) (v := ?_) rfl (by kernel_rfl) (by kernel_rfl) (by kernel_rfl) (fun _ _ _ h => h) (Or.inl ⟨by rfl, ?_⟩) (by assumption) ?_
  rotate_left
  · (intro w hSw; (try dsimp only at hSw); go_simp; try (with_reducible rfl))
  try simp only [Act.put, List.getElem_toArray, List.getElem_cons_zero, List.getElem_cons_succ, List.setIfInBounds_toArray, List.set_cons_zero, List.set_cons_succ]
  refine wpAnyH_take (i := 10) (v := ?_) rfl (by kernel_rfl) (by kernel_rfl) (by kernel_rfl) (fun _ _ _ h => h) (Or.inl ⟨by rfl, ?_⟩) (by assumption) ?_
  rotate_left
  · (intro w hSw; (try dsimp only at hSw); go_simp; try (with_reducible rfl))
  try simp only [Act.put, List.getElem_toArray, List.getElem_cons_zero, List.getElem_cons_succ, List.setIfInBounds_toArray, List.set_cons_zero, List.set_cons_succ]
  refine wpAnyH_ready (rs := [5]) (by kernel_rfl) (by simp) ?_
  refine (AllReadyH.cons rfl (fun K hK => ?_) AllReadyH.nil)
  refine step_call rfl 71 #[.agg V.toArray] (by simp [go_sem]) (by have := gas_any w5.drew t HT.out; rw [HTV.out] at this; exact this) ?_
  rintro e w6 ⟨rfl, b8⟩
  have HB8 := hide (of_drw b8)
  have HRS2 := hide (HRS.out.below HB8.out)
  rw [HGP.out]
  clear b8
  refine ⟨_, rfl, ?_⟩
  refine hK.out _ _ ?_ (fun hHeld => ?_)
  · exact ⟨HRS2.out.tx, cellKeep HB8.out clgu, cellKeep HB8.out clgl⟩
  clear hK K
  try simp only [Act.put, List.getElem_toArray, List.getElem_cons_zero, List.getElem_cons_succ, List.setIfInBounds_toArray, List.set_cons_zero, List.set_cons_succ]
  refine wpAnyH_take (i := 6) (v := ?_) rfl (by kernel_rfl) (by kernel_rfl) (by kernel_rfl) (fun _ _ _ h => h) (Or.inl ⟨by rfl, ?_⟩) (by assumption) ?_
  rotate_left
  · (intro w hSw; (try dsimp only at hSw); go_simp; try (with_reducible rfl))
  try simp only [Act.put, List.getElem_toArray, List.getElem_cons_zero, List.getElem_cons_succ, List.setIfInBounds_toArray, List.set_cons_zero, List.set_cons_succ]
  refine wpAnyH_take (i := 11) (v := ?_) rfl (by kernel_rfl) (by kernel_rfl) (by kernel_rfl) (fun _ _ _ h => h) (Or.inl ⟨by rfl, ?_⟩) (by assumption) ?_
  rotate_left
  · (intro w hSw; (try dsimp only at hSw); go_simp; try (with_reducible rfl))
  try simp only [Act.put, List.getElem_toArray, List.getElem_cons_zero, List.getElem_cons_succ, List.setIfInBounds_toArray, List.set_cons_zero, List.set_cons_succ]
  refine wpAnyH_take (i := 12) (v := ?_) rfl (by kernel_rfl) (by kernel_rfl) (by kernel_rfl) (fun _ _ _ h => h) (Or.inl ⟨by rfl, ?_⟩) (by assumption) ?_
  rotate_left
  · (intro w hSw; (try dsimp only at hSw); go_simp; try (with_reducible rfl))
  try simp only [Act.put, List.getElem_toArray, List.getElem_cons_zero, List.getElem_cons_succ, List.setIfInBounds_toArray, List.set_cons_zero, List.set_cons_succ]
  refine wpAnyH_done (by kernel_rfl) ?_ _
  clear HB8
  clear HRS hHeld clgu clgl
  have HRS := HRS2
  clear HRS2
  by_cases hc9 : gl < gt
  · have HF9 := hide hc9
    have dq : decide (gl < gt) = true := decide_eq_true HF9.out
    clear hc9
    rw [dq]
    go_wp2
    go_ret
    exact ⟨ret_int (by rw [HPB.out]; exact exC HB0.out (by simp [refC, HX0.out, HX2.out, HX3.out, HX4.out, HX5.out, HX6.out, HX7.out, HX8.out, HX9.out, HM0x.out, HM1x.out, HM2x.out, HM3x.out, HM4x.out, HM5x.out, HM6x.out, HM7x.out, HCH.out, HOP.out, HGL.out, HGU.out, HNP.out, HBP.out, HBQ.out, HMP.out, HGP.out, HN1.out, HN2.out, HN3.out, HN4.out, HN5.out, HN6.out, HN7.out, HN8.out, HF9.out, ← HGT.out] <;> (have hq0 := HN1.out; have hq1 := HN2.out; have hq2 := HN3.out; have hq3 := HN4.out; have hq4 := HN5.out; have hq5 := HN6.out; have hq6 := HN7.out; have hq7 := HN8.out; have hq8 := HF9.out; (repeat' split) <;> first | rfl | omega)) (by decide)), HRS.out.bl⟩
  have HN9 := hide hc9
  have dq9 : decide (gl < gt) = false := decide_eq_false HN9.out
  clear hc9
  rw [dq9]
  go_upto_region 58 with fail
  clear hwg dq9
  have hx20 : 0 ≤ x2 := HA0.out.2.1
  have hx21 : x2 < 64 := HA0.out.2.2.1
  have cx3 : w6.cell? ⟨A, 3, none⟩ = some (.int .u64 x3) := by have := HRS.out.tx 3 _ hv3.out; simpa using this
  have cx2 : w6.cell? ⟨A, 2, none⟩ = some (.int .u8 x2) := by have := HRS.out.tx 2 _ hv2.out; simpa using this
  have cnon : w6.cell? ⟨b, o + 257 + x2.toNat, none⟩ = some (.int .u64 nn) := by rw [show o + 257 + x2.toNat = o + (257 + x2.toNat) by omega]; exact HRS.out.la.cell (fun m s => by rw [Led0.atN HRS.out.la.ok m s (non_at HRS.out.la.ok (j := x2.toNat) (by have := HA0.out; omega)), ← HNN.out])
  go_region
  have HRS2 := hide (HRS.out.below ((Below.refl w6.heap.size w6).drew))
  generalize w6.drew = w7 at *
  clear HRS cx3 cx2 cnon
  have HRS := HRS2
  clear HRS2
  by_cases hc10 : x3 < nn
  · have HF10 := hide hc10
    have dq : decide (x3 < nn) = true := decide_eq_true HF10.out
    clear hc10
    rw [dq]
    go_wp2
    go_ret
    exact ⟨ret_int (by rw [HPB.out]; exact exC HB0.out (by simp [refC, HX0.out, HX2.out, HX3.out, HX4.out, HX5.out, HX6.out, HX7.out, HX8.out, HX9.out, HM0x.out, HM1x.out, HM2x.out, HM3x.out, HM4x.out, HM5x.out, HM6x.out, HM7x.out, HCH.out, HOP.out, HGL.out, HGU.out, HNP.out, HBP.out, HBQ.out, HMP.out, HGP.out, HN1.out, HN2.out, HN3.out, HN4.out, HN5.out, HN6.out, HN7.out, HN8.out, HN9.out, HF10.out, ← HGT.out] <;> (have hq0 := HN1.out; have hq1 := HN2.out; have hq2 := HN3.out; have hq3 := HN4.out; have hq4 := HN5.out; have hq5 := HN6.out; have hq6 := HN7.out; have hq7 := HN8.out; have hq8 := HN9.out; have hq9 := HF10.out; (repeat' split) <;> first | rfl | omega)) (by decide)), HRS.out.bl⟩
  have HN10 := hide hc10
  have dq10 : decide (x3 < nn) = false := decide_eq_false HN10.out
  clear hc10
  rw [dq10]
  go_upto_region 60 with fail
  clear dq10
  have cx3 : w7.cell? ⟨A, 3, none⟩ = some (.int .u64 x3) := by have := HRS.out.tx 3 _ hv3.out; simpa using this
  have cx2 : w7.cell? ⟨A, 2, none⟩ = some (.int .u8 x2) := by have := HRS.out.tx 2 _ hv2.out; simpa using this
  have cnon : w7.cell? ⟨b, o + 257 + x2.toNat, none⟩ = some (.int .u64 nn) := by rw [show o + 257 + x2.toNat = o + (257 + x2.toNat) by omega]; exact HRS.out.la.cell (fun m s => by rw [Led0.atN HRS.out.la.ok m s (non_at HRS.out.la.ok (j := x2.toNat) (by have := HA0.out; omega)), ← HNN.out])
  go_region
  have HRS2 := hide (HRS.out.below ((Below.refl w7.heap.size w7).drew))
  generalize w7.drew = w8 at *
  clear HRS cx3 cx2 cnon
  have HRS := HRS2
  clear HRS2
  by_cases hc11 : nn < x3
  · have HF11 := hide hc11
    have dq : decide (nn < x3) = true := decide_eq_true HF11.out
    clear hc11
    rw [dq]
    go_wp2
    go_ret
    exact ⟨ret_int (by rw [HPB.out]; exact exC HB0.out (by simp [refC, HX0.out, HX2.out, HX3.out, HX4.out, HX5.out, HX6.out, HX7.out, HX8.out, HX9.out, HM0x.out, HM1x.out, HM2x.out, HM3x.out, HM4x.out, HM5x.out, HM6x.out, HM7x.out, HCH.out, HOP.out, HGL.out, HGU.out, HNP.out, HBP.out, HBQ.out, HMP.out, HGP.out, HN1.out, HN2.out, HN3.out, HN4.out, HN5.out, HN6.out, HN7.out, HN8.out, HN9.out, HN10.out, HF11.out, ← HGT.out] <;> (have hq0 := HN1.out; have hq1 := HN2.out; have hq2 := HN3.out; have hq3 := HN4.out; have hq4 := HN5.out; have hq5 := HN6.out; have hq6 := HN7.out; have hq7 := HN8.out; have hq8 := HN9.out; have hq9 := HN10.out; have hq10 := HF11.out; (repeat' split) <;> first | rfl | omega)) (by decide)), HRS.out.bl⟩
  have HN11 := hide hc11
  have dq11 : decide (nn < x3) = false := decide_eq_false HN11.out
  clear hc11
  rw [dq11]
  go_upto_region 62 with fail
  clear dq11
  have hat0 : 0 ≤ x2 := HA0.out.2.1
  have hat1 : x2 < 256 := by omega
  have hat2 : (0 : Int) ≤ 0 := by omega
  have hat3 : (0 : Int) < 256 := by omega
  have hib0 : 0 ≤ x2 * 4 := by omega
  have hib1 : x2 * 4 < 256 := by omega
  have cx2 : w8.cell? ⟨A, 2, none⟩ = some (.int .u8 x2) := by have := HRS.out.tx 2 _ hv2.out; simpa using this
  have cbal0 : w8.cell? ⟨b, o + 1 + (x2 * 4).toNat, none⟩ = some (.int .u64 bf) := by rw [show o + 1 + (x2 * 4).toNat = o + (1 + (x2 * 4).toNat) by omega]; exact HRS.out.la.cell (fun m s => by rw [Led0.atB m s (bal_at HRS.out.la.ok (j := (x2 * 4).toNat) (by have := HA0.out; omega)), ← HBF.out])
  have cx4 : w8.cell? ⟨A, 4, none⟩ = some (.int .u64 x4) := by have := HRS.out.tx 4 _ hv4.out; simpa using this
  refine wp_region_held_drew (S := fun w' => w'.cell? ⟨A, 2, none⟩ = some (.int .u8 x2) ∧ w'.cell? ⟨b, o + 1 + (x2 * 4).toNat, none⟩ = some (.int .u64 bf) ∧ w'.cell? ⟨A, 4, none⟩ = some (.int .u64 x4)) (by kernel_rfl) ⟨cx2, cbal0, cx4⟩ (fun hHeld => ?_)
  refine wpAnyH_take (i := 0) (v := ?_) rfl (by kernel_rfl) (by kernel_rfl) (by kernel_rfl) (fun _ _ _ h => h) (Or.inl ⟨by rfl, ?_⟩) (by assumption) ?_
  rotate_left
  · (intro w hSw; (try dsimp only at hSw); go_simp; try (with_reducible rfl))
  try simp only [Act.put, List.getElem_toArray, List.getElem_cons_zero, List.getElem_cons_succ, List.setIfInBounds_toArray, List.set_cons_zero, List.set_cons_succ]
  refine wpAnyH_take (i := 1) (v := ?_) rfl (by kernel_rfl) (by kernel_rfl) (by kernel_rfl) (fun _ _ _ h => h) (Or.inl ⟨by rfl, ?_⟩) (by assumption) ?_
  rotate_left
  · (intro w hSw; (try dsimp only at hSw); go_simp; try (with_reducible rfl))
  try simp only [Act.put, List.getElem_toArray, List.getElem_cons_zero, List.getElem_cons_succ, List.setIfInBounds_toArray, List.set_cons_zero, List.set_cons_succ]
  refine wpAnyH_take (i := 2) (v := ?_) rfl (by kernel_rfl) (by kernel_rfl) (by kernel_rfl) (fun _ _ _ h => h) (Or.inl ⟨by rfl, ?_⟩) (by assumption) ?_
  rotate_left
  · (intro w hSw; (try dsimp only at hSw); go_simp; try (with_reducible rfl))
  try simp only [Act.put, List.getElem_toArray, List.getElem_cons_zero, List.getElem_cons_succ, List.setIfInBounds_toArray, List.set_cons_zero, List.set_cons_succ]
  refine wpAnyH_take (i := 4) (v := ?_) rfl (by kernel_rfl) (by kernel_rfl) (by kernel_rfl) (fun _ _ _ h => h) (Or.inl ⟨by rfl, ?_⟩) (by assumption) ?_
  rotate_left
  · (intro w hSw; (try dsimp only at hSw); go_simp; try (with_reducible rfl))
  try simp only [Act.put, List.getElem_toArray, List.getElem_cons_zero, List.getElem_cons_succ, List.setIfInBounds_toArray, List.set_cons_zero, List.set_cons_succ]
  refine wpAnyH_take (i := 5) (v := ?_) rfl (by kernel_rfl) (by kernel_rfl) (by kernel_rfl) (fun _ _ _ h => h) (Or.inl ⟨by rfl, ?_⟩) (by assumption) ?_
  rotate_left
  · (intro w hSw; (try dsimp only at hSw); go_simp; try (with_reducible rfl))
  try simp only [Act.put, List.getElem_toArray, List.getElem_cons_zero, List.getElem_cons_succ, List.setIfInBounds_toArray, List.set_cons_zero, List.set_cons_succ]
  refine wpAnyH_take (i := 8) (v := ?_) rfl (by kernel_rfl) (by kernel_rfl) (by kernel_rfl) (fun _ _ _ h => h) (Or.inl ⟨by rfl, ?_⟩) (by assumption) ?_
  rotate_left
  · (intro w hSw; (try dsimp only at hSw); go_simp; try (with_reducible rfl))
  try simp only [Act.put, List.getElem_toArray, List.getElem_cons_zero, List.getElem_cons_succ, List.setIfInBounds_toArray, List.set_cons_zero, List.set_cons_succ]
  refine wpAnyH_take (i := 9) (v := ?_) rfl (by kernel_rfl) (by kernel_rfl) (by kernel_rfl) (fun _ _ _ h => h) (Or.inl ⟨by rfl, ?_⟩) (by assumption) ?_
  rotate_left
  · (intro w hSw; (try dsimp only at hSw); go_simp; try (with_reducible rfl))
  try simp only [Act.put, List.getElem_toArray, List.getElem_cons_zero, List.getElem_cons_succ, List.setIfInBounds_toArray, List.set_cons_zero, List.set_cons_succ]
  refine wpAnyH_ready (rs := [3]) (by kernel_rfl) (by simp) ?_
  refine (AllReadyH.cons rfl (fun K hK => ?_) AllReadyH.nil)
  refine step_call rfl 70 #[.int .u8 x2, .int .u8 0] (by simp [go_sem]) (at_any _ x2 0 hat0 hat1 hat2 hat3) ?_
  rintro e w8 ⟨rfl, rfl⟩
  refine ⟨_, rfl, ?_⟩
  refine hK.out _ _ ?_ (fun hHeld => ?_)
  · exact hHeld
  clear hK K
  try simp only [Act.put, List.getElem_toArray, List.getElem_cons_zero, List.getElem_cons_succ, List.setIfInBounds_toArray, List.set_cons_zero, List.set_cons_succ]
  refine wpAnyH_take (i := 6) (v := ?_) rfl (by kernel_rfl) (by kernel_rfl) (by kernel_rfl) (fun _ _ _ h => h) (Or.inl ⟨by rfl, ?_⟩) (by assumption) ?_
  rotate_left
  · (intro w hSw; (try dsimp only at hSw); go_simp; try (with_reducible rfl))
  try simp only [Act.put, List.getElem_toArray, List.getElem_cons_zero, List.getElem_cons_succ, List.setIfInBounds_toArray, List.set_cons_zero, List.set_cons_succ]
  refine wpAnyH_take (i := 7) (v := ?_) rfl (by kernel_rfl) (by kernel_rfl) (by kernel_rfl) (fun _ _ _ h => h) (Or.inl ⟨by rfl, ?_⟩) (by assumption) ?_
  rotate_left
  · (intro w hSw; (try dsimp only at hSw); go_simp; try (with_reducible rfl))
  try simp only [Act.put, List.getElem_toArray, List.getElem_cons_zero, List.getElem_cons_succ, List.setIfInBounds_toArray, List.set_cons_zero, List.set_cons_succ]
  refine wpAnyH_take (i := 10) (v := ?_) rfl (by kernel_rfl) (by kernel_rfl) (by kernel_rfl) (fun _ _ _ h => h) (Or.inl ⟨by rfl, ?_⟩) (by assumption) ?_
  rotate_left
  · (intro w hSw; (try dsimp only at hSw); go_simp; try (with_reducible rfl))
  try simp only [Act.put, List.getElem_toArray, List.getElem_cons_zero, List.getElem_cons_succ, List.setIfInBounds_toArray, List.set_cons_zero, List.set_cons_succ]
  refine wpAnyH_take (i := 11) (v := ?_) rfl (by kernel_rfl) (by kernel_rfl) (by kernel_rfl) (fun _ _ _ h => h) (Or.inl ⟨by rfl, ?_⟩) (by assumption) ?_
  rotate_left
  · (intro w hSw; (try dsimp only at hSw); go_simp; try (with_reducible rfl))
  try simp only [Act.put, List.getElem_toArray, List.getElem_cons_zero, List.getElem_cons_succ, List.setIfInBounds_toArray, List.set_cons_zero, List.set_cons_succ]
  refine wpAnyH_done (by kernel_rfl) ?_ _
  have HRS2 := hide (HRS.out.below ((Below.refl w8.heap.size w8).drew))
  generalize w8.drew = w9 at *
  clear HRS hHeld cx2 cbal0 cx4
  have HRS := HRS2
  clear HRS2
  by_cases hc12 : bf < x4
  · have HF12 := hide hc12
    have dq : decide (bf < x4) = true := decide_eq_true HF12.out
    clear hc12
    rw [dq]
    go_wp2
    go_ret
    exact ⟨ret_int (by rw [HPB.out]; exact exC HB0.out (by simp [refC, HX0.out, HX2.out, HX3.out, HX4.out, HX5.out, HX6.out, HX7.out, HX8.out, HX9.out, HM0x.out, HM1x.out, HM2x.out, HM3x.out, HM4x.out, HM5x.out, HM6x.out, HM7x.out, HCH.out, HOP.out, HGL.out, HGU.out, HNP.out, HBP.out, HBQ.out, HMP.out, HGP.out, HN1.out, HN2.out, HN3.out, HN4.out, HN5.out, HN6.out, HN7.out, HN8.out, HN9.out, HN10.out, HN11.out, HF12.out, ← HGT.out] <;> (have hq0 := HN1.out; have hq1 := HN2.out; have hq2 := HN3.out; have hq3 := HN4.out; have hq4 := HN5.out; have hq5 := HN6.out; have hq6 := HN7.out; have hq7 := HN8.out; have hq8 := HN9.out; have hq9 := HN10.out; have hq10 := HN11.out; have hq11 := HF12.out; (repeat' split) <;> first | rfl | omega)) (by decide)), HRS.out.bl⟩
  have HN12 := hide hc12
  have dq12 : decide (bf < x4) = false := decide_eq_false HN12.out
  clear hc12
  rw [dq12]
  clear hat0 hat1 hat2 hat3 hib0 hib1
  have HC0 : Hid (refC l t = 0) := by show _ = _; exact (by simp [refC, HX0.out, HX2.out, HX3.out, HX4.out, HX5.out, HX6.out, HX7.out, HX8.out, HX9.out, HM0x.out, HM1x.out, HM2x.out, HM3x.out, HM4x.out, HM5x.out, HM6x.out, HM7x.out, HCH.out, HOP.out, HGL.out, HGU.out, HNP.out, HBP.out, HBQ.out, HMP.out, HGP.out, HN1.out, HN2.out, HN3.out, HN4.out, HN5.out, HN6.out, HN7.out, HN8.out, HN9.out, HN10.out, HN11.out, HN12.out, ← HGT.out] <;> (have hq0 := HN1.out; have hq1 := HN2.out; have hq2 := HN3.out; have hq3 := HN4.out; have hq4 := HN5.out; have hq5 := HN6.out; have hq6 := HN7.out; have hq7 := HN8.out; have hq8 := HN9.out; have hq9 := HN10.out; have hq10 := HN11.out; have hq11 := HN12.out; (repeat' split) <;> first | rfl | omega))
  have cx0 : w9.cell? ⟨A, 0, none⟩ = some (.int .u8 5) := by have := HRS.out.tx 0 _ hv0.out; simpa using this
  go_upto_region 74 with fail
  clear cx0 dq12
  have cm1 : w9.cell? ⟨A + 1, 1, none⟩ = some (.int .u8 m1) := by have := HRS.out.ms 1 _ hm1.out; simpa using this
  have cm5 : w9.cell? ⟨A + 1, 5, none⟩ = some (.int .u64 m5) := by have := HRS.out.ms 5 _ hm5.out; simpa using this
  obtain ⟨tb, htb⟩ : ∃ c, takenP l m1 m5 = c := ⟨_, rfl⟩
  have HTB := hide htb
  clear htb
  go_wp2_with fail
  refine (consumed_any w9 b o l sv B m1 m5 HRS.out.la HL.out).mono ?_
  rintro e w10 ⟨rfl, b8⟩
  rw [HTB.out]
  have HRS2 := hide (HRS.out.below b8)
  clear HRS b8 cm1 cm5
  have HRS := HRS2
  clear HRS2
  cases tb
  rotate_left
  · have HF13 : Hid (takenP l m1 m5 = true) := HTB.out
    go_wp2
    go_ret
    exact ⟨ret_int (by rw [HPB.out]; exact exD HB0.out HC0.out (by simp [refD, needP, HX0.out, HX2.out, HX3.out, HX4.out, HX5.out, HX6.out, HX7.out, HX8.out, HX9.out, HM0x.out, HM1x.out, HM2x.out, HM3x.out, HM4x.out, HM5x.out, HM6x.out, HM7x.out, HCH.out, HOP.out, HGL.out, HGU.out, HNP.out, HBP.out, HBQ.out, HMP.out, HGP.out, HN1.out, HN2.out, HN3.out, HN4.out, HN5.out, HN6.out, HN7.out, HN8.out, HN9.out, HN10.out, HN11.out, HN12.out, HF13.out] <;> (have hq0 := HN1.out; have hq1 := HN2.out; have hq2 := HN3.out; have hq3 := HN4.out; have hq4 := HN5.out; have hq5 := HN6.out; have hq6 := HN7.out; have hq7 := HN8.out; have hq8 := HN9.out; have hq9 := HN10.out; have hq10 := HN11.out; have hq11 := HN12.out; have hq12 := HF13.out; (repeat' split) <;> first | rfl | omega))), HRS.out.bl⟩
  have HN13 : Hid (takenP l m1 m5 = false) := HTB.out
  go_upto_region 76 with fail
  have cx0 : w10.cell? ⟨A, 0, none⟩ = some (.int .u8 5) := by have := HRS.out.tx 0 _ hv0.out; simpa using this
  refine wp_region_held_drew (S := fun w' => w'.cell? ⟨A, 0, none⟩ = some (.int .u8 5)) (by kernel_rfl) cx0 (fun hHeld => ?_)
  refine wpAnyH_take (i := 0) (v := ?_) rfl (by kernel_rfl) (by kernel_rfl) (by kernel_rfl) (fun _ _ _ h => h) (Or.inl ⟨by rfl, ?_⟩) (by assumption) ?_
  rotate_left
  · (intro w hSw; (try dsimp only at hSw); go_simp; try (with_reducible rfl))
  try simp only [Act.put, List.getElem_toArray, List.getElem_cons_zero, List.getElem_cons_succ, List.setIfInBounds_toArray, List.set_cons_zero, List.set_cons_succ]
  refine wpAnyH_take (i := 1) (v := ?_) rfl (by kernel_rfl) (by kernel_rfl) (by kernel_rfl) (fun _ _ _ h => h) (Or.inl ⟨by rfl, ?_⟩) (by assumption) ?_
  rotate_left
  · (intro w hSw; (try dsimp only at hSw); go_simp; try (with_reducible rfl))
  try simp only [Act.put, List.getElem_toArray, List.getElem_cons_zero, List.getElem_cons_succ, List.setIfInBounds_toArray, List.set_cons_zero, List.set_cons_succ]
  refine wpAnyH_take (i := 2) (v := ?_) rfl (by kernel_rfl) (by kernel_rfl) (by kernel_rfl) (fun _ _ _ h => h) (Or.inl ⟨by rfl, ?_⟩) (by assumption) ?_
  rotate_left
  · (intro w hSw; (try dsimp only at hSw); go_simp; try (with_reducible rfl))
  try simp only [Act.put, List.getElem_toArray, List.getElem_cons_zero, List.getElem_cons_succ, List.setIfInBounds_toArray, List.set_cons_zero, List.set_cons_succ]
  refine wpAnyH_take (i := 3) (v := ?_) rfl (by kernel_rfl) (by kernel_rfl) (by kernel_rfl) (fun _ _ _ h => h) (Or.inl ⟨by rfl, ?_⟩) (by assumption) ?_
  rotate_left
  · (intro w hSw; (try dsimp only at hSw); go_simp; try (with_reducible rfl))
  try simp only [Act.put, List.getElem_toArray, List.getElem_cons_zero, List.getElem_cons_succ, List.setIfInBounds_toArray, List.set_cons_zero, List.set_cons_succ]
  refine wpAnyH_take (i := 4) (v := undef) rfl (by kernel_rfl) (by kernel_rfl) (by kernel_rfl) (fun _ _ _ h => h) (Or.inr ⟨by rfl, rfl⟩) (by assumption) ?_
  try simp only [Act.put, List.getElem_toArray, List.getElem_cons_zero, List.getElem_cons_succ, List.setIfInBounds_toArray, List.set_cons_zero, List.set_cons_succ]
  refine wpAnyH_take (i := 5) (v := undef) rfl (by kernel_rfl) (by kernel_rfl) (by kernel_rfl) (fun _ _ _ h => h) (Or.inr ⟨by rfl, rfl⟩) (by assumption) ?_
  try simp only [Act.put, List.getElem_toArray, List.getElem_cons_zero, List.getElem_cons_succ, List.setIfInBounds_toArray, List.set_cons_zero, List.set_cons_succ]
  refine wpAnyH_take (i := 6) (v := undef) rfl (by kernel_rfl) (by kernel_rfl) (by kernel_rfl) (fun _ _ _ h => h) (Or.inr ⟨by rfl, rfl⟩) (by assumption) ?_
  try simp only [Act.put, List.getElem_toArray, List.getElem_cons_zero, List.getElem_cons_succ, List.setIfInBounds_toArray, List.set_cons_zero, List.set_cons_succ]
  refine wpAnyH_take (i := 7) (v := undef) rfl (by kernel_rfl) (by kernel_rfl) (by kernel_rfl) (fun _ _ _ h => h) (Or.inr ⟨by rfl, rfl⟩) (by assumption) ?_
  try simp only [Act.put, List.getElem_toArray, List.getElem_cons_zero, List.getElem_cons_succ, List.setIfInBounds_toArray, List.set_cons_zero, List.set_cons_succ]
  refine wpAnyH_take (i := 8) (v := undef) rfl (by kernel_rfl) (by kernel_rfl) (by kernel_rfl) (fun _ _ _ h => h) (Or.inr ⟨by rfl, rfl⟩) (by assumption) ?_
  try simp only [Act.put, List.getElem_toArray, List.getElem_cons_zero, List.getElem_cons_succ, List.setIfInBounds_toArray, List.set_cons_zero, List.set_cons_succ]
  refine wpAnyH_take (i := 9) (v := undef) rfl (by kernel_rfl) (by kernel_rfl) (by kernel_rfl) (fun _ _ _ h => h) (Or.inr ⟨by rfl, rfl⟩) (by assumption) ?_
  try simp only [Act.put, List.getElem_toArray, List.getElem_cons_zero, List.getElem_cons_succ, List.setIfInBounds_toArray, List.set_cons_zero, List.set_cons_succ]
  refine wpAnyH_take (i := 10) (v := undef) rfl (by kernel_rfl) (by kernel_rfl) (by kernel_rfl) (fun _ _ _ h => h) (Or.inr ⟨by rfl, rfl⟩) (by assumption) ?_
  try simp only [Act.put, List.getElem_toArray, List.getElem_cons_zero, List.getElem_cons_succ, List.setIfInBounds_toArray, List.set_cons_zero, List.set_cons_succ]
  refine wpAnyH_take (i := 11) (v := undef) rfl (by kernel_rfl) (by kernel_rfl) (by kernel_rfl) (fun _ _ _ h => h) (Or.inr ⟨by rfl, rfl⟩) (by assumption) ?_
  try simp only [Act.put, List.getElem_toArray, List.getElem_cons_zero, List.getElem_cons_succ, List.setIfInBounds_toArray, List.set_cons_zero, List.set_cons_succ]
  refine wpAnyH_take (i := 12) (v := ?_) rfl (by kernel_rfl) (by kernel_rfl) (by kernel_rfl) (fun _ _ _ h => h) (Or.inl ⟨by rfl, ?_⟩) (by assumption) ?_
  rotate_left
  · (intro w hSw; (try dsimp only at hSw); go_simp; try (with_reducible rfl))
  try simp only [Act.put, List.getElem_toArray, List.getElem_cons_zero, List.getElem_cons_succ, List.setIfInBounds_toArray, List.set_cons_zero, List.set_cons_succ]
  refine wpAnyH_done (by kernel_rfl) ?_ _
  have HRS2 := hide (HRS.out.below ((Below.refl w10.heap.size w10).drew))
  generalize w10.drew = w11 at *
  clear HRS hHeld cx0
  have HRS := HRS2
  clear HRS2
  go_wp2
  go_ret
  exact ⟨ret_int (by rw [HPB.out]; exact exD HB0.out HC0.out (by simp [refD, needP, HX0.out, HX2.out, HX3.out, HX4.out, HX5.out, HX6.out, HX7.out, HX8.out, HX9.out, HM0x.out, HM1x.out, HM2x.out, HM3x.out, HM4x.out, HM5x.out, HM6x.out, HM7x.out, HCH.out, HOP.out, HGL.out, HGU.out, HNP.out, HBP.out, HBQ.out, HMP.out, HGP.out, HN1.out, HN2.out, HN3.out, HN4.out, HN5.out, HN6.out, HN7.out, HN8.out, HN9.out, HN10.out, HN11.out, HN12.out, HN13.out] <;> (have hq0 := HN1.out; have hq1 := HN2.out; have hq2 := HN3.out; have hq3 := HN4.out; have hq4 := HN5.out; have hq5 := HN6.out; have hq6 := HN7.out; have hq7 := HN8.out; have hq8 := HN9.out; have hq9 := HN10.out; have hq10 := HN11.out; have hq11 := HN12.out; have hq12 := HN13.out; (repeat' split) <;> first | rfl | omega))), HRS.out.bl⟩

end Go.Proofs.Qxb6500784a
