import Derived.Test.Qxb6500784aRf
namespace Go.Proofs.Qxb6500784a
open Go.RowKit

attribute [-simp] Try.isAgg68 Try.sizeOf68 Try.typeInfo68 Try.isAgg92 Try.sizeOf92 Try.typeInfo92
set_option linter.unusedSimpArgs false in
set_option maxRecDepth 100000 in
set_option maxHeartbeats 8000000 in
theorem ref_bad (w : World) (b o : Nat) (l : Led0) (sv : List Led0) (B : List Nat) (t : List Int) (h : LA w b o l sv B) (ht : TxOk t) (hl : l.mks.length ≤ 1000000000000) (hA : refA l t ≠ 0) :
    Calls Try.prog 83 #[.pointer (some ⟨b, o, none⟩), .agg (kvs txk t).toArray] w fun e w' => e = .returned (.int .i64 (refP l t)) ∧ Below w.heap.size w w' := by
  have HPB : Hid (refP l t = refA l t) := by show _ = _; unfold refP; rw [if_pos hA]
  have HAN := hide hA
  have HT := hide ht
  have HLA := hide h
  have HL := hide hl
  clear h hA ht hl
  obtain ⟨V, hV⟩ : ∃ V, kvs txk t = V := ⟨_, rfl⟩
  obtain ⟨M, hM⟩ : ∃ M, msv (txMsg t) = M := ⟨_, rfl⟩
  have HVl : Hid (V.length = 83) := by rw [← hV, kvs_len]; exact HT.out.l
  have HMl : Hid (M.length = 41) := by rw [← hM]; exact msv_len (txMsg_ok HT.out)
  have HM1 : Hid (∀ z ∈ M, z.oneCell' = true) := by rw [← hM]; exact kvs_one _ _
  have HVM : Hid (V.drop 42 = M) := by rw [← hV, ← hM, txv_split HT.out.l, List.drop_append_of_le_length (by simp [kvs_len, HT.out.l]), List.drop_of_length_le (by simp [kvs_len, HT.out.l]), List.nil_append]; rfl
  obtain ⟨x0, hx0⟩ : ∃ x, fld t 0 = x := ⟨_, rfl⟩
  have HX0 := hide hx0
  have hv0 : Hid (V[0]? = some (.int .u8 x0)) := by rw [← hV, ← hx0]; exact fld_at HT.out (by omega)
  have hr0 : Hid (0 ≤ x0 ∧ x0 < 256) := by rw [← hx0]; exact fld_r HT.out (j := 0) (by omega)
  clear hx0
  obtain ⟨x1, hx1⟩ : ∃ x, fld t 1 = x := ⟨_, rfl⟩
  have HX1 := hide hx1
  have hv1 : Hid (V[1]? = some (.int .u8 x1)) := by rw [← hV, ← hx1]; exact fld_at HT.out (by omega)
  have hr1 : Hid (0 ≤ x1 ∧ x1 < 256) := by rw [← hx1]; exact fld_r HT.out (j := 1) (by omega)
  clear hx1
  obtain ⟨x2, hx2⟩ : ∃ x, fld t 2 = x := ⟨_, rfl⟩
  have HX2 := hide hx2
  have hv2 : Hid (V[2]? = some (.int .u8 x2)) := by rw [← hV, ← hx2]; exact fld_at HT.out (by omega)
  have hr2 : Hid (0 ≤ x2 ∧ x2 < 256) := by rw [← hx2]; exact fld_r HT.out (j := 2) (by omega)
  clear hx2
  obtain ⟨x3, hx3⟩ : ∃ x, fld t 3 = x := ⟨_, rfl⟩
  have HX3 := hide hx3
  have hv3 : Hid (V[3]? = some (.int .u64 x3)) := by rw [← hV, ← hx3]; exact fld_at HT.out (by omega)
  have hr3 : Hid (0 ≤ x3 ∧ x3 < 18446744073709551616) := by rw [← hx3]; exact fld_r HT.out (j := 3) (by omega)
  clear hx3
  obtain ⟨x4, hx4⟩ : ∃ x, fld t 4 = x := ⟨_, rfl⟩
  have HX4 := hide hx4
  have hv4 : Hid (V[4]? = some (.int .u64 x4)) := by rw [← hV, ← hx4]; exact fld_at HT.out (by omega)
  have hr4 : Hid (0 ≤ x4 ∧ x4 < 18446744073709551616) := by rw [← hx4]; exact fld_r HT.out (j := 4) (by omega)
  clear hx4
  obtain ⟨x5, hx5⟩ : ∃ x, fld t 5 = x := ⟨_, rfl⟩
  have HX5 := hide hx5
  have hv5 : Hid (V[5]? = some (.int .u8 x5)) := by rw [← hV, ← hx5]; exact fld_at HT.out (by omega)
  have hr5 : Hid (0 ≤ x5 ∧ x5 < 256) := by rw [← hx5]; exact fld_r HT.out (j := 5) (by omega)
  clear hx5
  obtain ⟨x6, hx6⟩ : ∃ x, fld t 6 = x := ⟨_, rfl⟩
  have HX6 := hide hx6
  have hv6 : Hid (V[6]? = some (.int .u8 x6)) := by rw [← hV, ← hx6]; exact fld_at HT.out (by omega)
  have hr6 : Hid (0 ≤ x6 ∧ x6 < 256) := by rw [← hx6]; exact fld_r HT.out (j := 6) (by omega)
  clear hx6
  obtain ⟨x7, hx7⟩ : ∃ x, fld t 7 = x := ⟨_, rfl⟩
  have HX7 := hide hx7
  have hv7 : Hid (V[7]? = some (.int .u8 x7)) := by rw [← hV, ← hx7]; exact fld_at HT.out (by omega)
  have hr7 : Hid (0 ≤ x7 ∧ x7 < 256) := by rw [← hx7]; exact fld_r HT.out (j := 7) (by omega)
  clear hx7
  obtain ⟨x8, hx8⟩ : ∃ x, fld t 8 = x := ⟨_, rfl⟩
  have HX8 := hide hx8
  have hv8 : Hid (V[8]? = some (.int .u64 x8)) := by rw [← hV, ← hx8]; exact fld_at HT.out (by omega)
  have hr8 : Hid (0 ≤ x8 ∧ x8 < 18446744073709551616) := by rw [← hx8]; exact fld_r HT.out (j := 8) (by omega)
  clear hx8
  obtain ⟨x9, hx9⟩ : ∃ x, fld t 9 = x := ⟨_, rfl⟩
  have HX9 := hide hx9
  have hv9 : Hid (V[9]? = some (.int .u8 x9)) := by rw [← hV, ← hx9]; exact fld_at HT.out (by omega)
  have hr9 : Hid (0 ≤ x9 ∧ x9 < 256) := by rw [← hx9]; exact fld_r HT.out (j := 9) (by omega)
  clear hx9
  obtain ⟨m0, hx0⟩ : ∃ x, fld t 42 = x := ⟨_, rfl⟩
  have HM0x := hide hx0
  have hm0 : Hid (M[0]? = some (.int .u8 m0)) := by rw [← hM, ← hx0, show fld t 42 = fld (txMsg t) 0 from (fld_msg t 0).symm]; exact fld_at (txMsg_ok HT.out) (by omega)
  have hrm0 : Hid (0 ≤ m0 ∧ m0 < 256) := by rw [← hx0]; exact fld_r HT.out (j := 42) (by omega)
  clear hx0
  obtain ⟨m1, hx1⟩ : ∃ x, fld t 43 = x := ⟨_, rfl⟩
  have HM1x := hide hx1
  have hm1 : Hid (M[1]? = some (.int .u8 m1)) := by rw [← hM, ← hx1, show fld t 43 = fld (txMsg t) 1 from (fld_msg t 1).symm]; exact fld_at (txMsg_ok HT.out) (by omega)
  have hrm1 : Hid (0 ≤ m1 ∧ m1 < 256) := by rw [← hx1]; exact fld_r HT.out (j := 43) (by omega)
  clear hx1
  obtain ⟨m2, hx2⟩ : ∃ x, fld t 44 = x := ⟨_, rfl⟩
  have HM2x := hide hx2
  have hm2 : Hid (M[2]? = some (.int .u8 m2)) := by rw [← hM, ← hx2, show fld t 44 = fld (txMsg t) 2 from (fld_msg t 2).symm]; exact fld_at (txMsg_ok HT.out) (by omega)
  have hrm2 : Hid (0 ≤ m2 ∧ m2 < 256) := by rw [← hx2]; exact fld_r HT.out (j := 44) (by omega)
  clear hx2
  obtain ⟨m3, hx3⟩ : ∃ x, fld t 45 = x := ⟨_, rfl⟩
  have HM3x := hide hx3
  have hm3 : Hid (M[3]? = some (.int .u8 m3)) := by rw [← hM, ← hx3, show fld t 45 = fld (txMsg t) 3 from (fld_msg t 3).symm]; exact fld_at (txMsg_ok HT.out) (by omega)
  have hrm3 : Hid (0 ≤ m3 ∧ m3 < 256) := by rw [← hx3]; exact fld_r HT.out (j := 45) (by omega)
  clear hx3
  obtain ⟨m4, hx4⟩ : ∃ x, fld t 46 = x := ⟨_, rfl⟩
  have HM4x := hide hx4
  have hm4 : Hid (M[4]? = some (.int .u8 m4)) := by rw [← hM, ← hx4, show fld t 46 = fld (txMsg t) 4 from (fld_msg t 4).symm]; exact fld_at (txMsg_ok HT.out) (by omega)
  have hrm4 : Hid (0 ≤ m4 ∧ m4 < 256) := by rw [← hx4]; exact fld_r HT.out (j := 46) (by omega)
  clear hx4
  obtain ⟨m5, hx5⟩ : ∃ x, fld t 47 = x := ⟨_, rfl⟩
  have HM5x := hide hx5
  have hm5 : Hid (M[5]? = some (.int .u64 m5)) := by rw [← hM, ← hx5, show fld t 47 = fld (txMsg t) 5 from (fld_msg t 5).symm]; exact fld_at (txMsg_ok HT.out) (by omega)
  have hrm5 : Hid (0 ≤ m5 ∧ m5 < 18446744073709551616) := by rw [← hx5]; exact fld_r HT.out (j := 47) (by omega)
  clear hx5
  obtain ⟨m6, hx6⟩ : ∃ x, fld t 48 = x := ⟨_, rfl⟩
  have HM6x := hide hx6
  have hm6 : Hid (M[6]? = some (.int .u8 m6)) := by rw [← hM, ← hx6, show fld t 48 = fld (txMsg t) 6 from (fld_msg t 6).symm]; exact fld_at (txMsg_ok HT.out) (by omega)
  have hrm6 : Hid (0 ≤ m6 ∧ m6 < 256) := by rw [← hx6]; exact fld_r HT.out (j := 48) (by omega)
  clear hx6
  obtain ⟨m7, hx7⟩ : ∃ x, fld t 49 = x := ⟨_, rfl⟩
  have HM7x := hide hx7
  have hm7 : Hid (M[7]? = some (.int .u64 m7)) := by rw [← hM, ← hx7, show fld t 49 = fld (txMsg t) 7 from (fld_msg t 7).symm]; exact fld_at (txMsg_ok HT.out) (by omega)
  have hrm7 : Hid (0 ≤ m7 ∧ m7 < 18446744073709551616) := by rw [← hx7]; exact fld_r HT.out (j := 49) (by omega)
  clear hx7
  obtain ⟨ch, hch⟩ : ∃ c, l.ch = c := ⟨_, rfl⟩
  have HCH := hide hch
  obtain ⟨opn, hop⟩ : ∃ c, l.opn = c := ⟨_, rfl⟩
  have HOP := hide hop
  obtain ⟨gl, hgl⟩ : ∃ c, l.gl = c := ⟨_, rfl⟩
  have HGL := hide hgl
  obtain ⟨gu, hgu⟩ : ∃ c, l.gu = c := ⟨_, rfl⟩
  have HGU := hide hgu
  clear hch hop hgl hgu
  obtain ⟨nn, hnn⟩ : ∃ c, nonP l t = c := ⟨_, rfl⟩
  have HNP := hide hnn
  have HNN : Hid (nn = fld l.non x2.toNat) := by rw [← hnn, nonP, HX2.out]; rfl
  obtain ⟨bf, hbf⟩ : ∃ c, balP l x2 0 = c := ⟨_, rfl⟩
  have HBP := hide hbf
  have HBF : Hid (bf = fld l.bal (x2 * 4).toNat) := by rw [← hbf, balP, Int.add_zero]; rfl
  obtain ⟨bt, hbt⟩ : ∃ c, balP l x2 x7 = c := ⟨_, rfl⟩
  have HBQ := hide hbt
  have HBT : Hid (bt = fld l.bal (x2 * 4 + x7).toNat) := by rw [← hbt, balP]; rfl
  clear hnn hbf hbt
  obtain ⟨mp, hmp⟩ : ∃ c, minP t = c := ⟨_, rfl⟩
  have HMP := hide hmp
  obtain ⟨gp, hgp⟩ : ∃ c, gasP t = c := ⟨_, rfl⟩
  have HGP := hide hgp
  obtain ⟨gt, hgt⟩ : ∃ c, (gu + gp) % 18446744073709551616 = c := ⟨_, rfl⟩
  have HGT : Hid (gt = (gu + gp) % 18446744073709551616) := hgt.symm
  clear hmp hgp hgt
  have HTV := hide hV
  rw [hV]
  obtain ⟨G, hG⟩ : ∃ G, refP l t = G := ⟨_, rfl⟩
  rw [hG] at HPB ⊢
  clear hV hM hG
  go_enter Try.func83, Try.ntmps83
  go_upto_region 1 with fail
  obtain ⟨A, hA⟩ : ∃ A, w.heap.size = A := ⟨_, rfl⟩
  have HA := hide hA
  have R0 := hide (newR w V 92)
  have B0 := hide (be1 w (.cells V.toArray 92))
  have E0 : Hid ((w.alloc (.cells V.toArray 92)).heap.size = A + 1) := by simp [Hid, hA]
  rw [hA] at R0 ⊢
  generalize w.alloc (.cells V.toArray 92) = w0 at *
  clear hA
  have RM : Hid (w0.rangeAt A 42 M) := by
    rw [← HVM.out]
    intro j v hj
    rw [List.getElem?_drop] at hj
    have := R0.out (42 + j) v hj
    rwa [Nat.zero_add] at this
  go_wp2_with fail
  simp only [Try.sizeOf68, Result.andThen, show ((41 : Nat) = 0) = False from by simp, if_false]
  rw [Oper.upon_value]
  go_wp2_with fail
  simp only [Try.isAgg68, Try.sizeOf68, Result.andThen, ↓reduceIte, ldC w0 A 42 M 41 HMl.out RM.out]
  rw [Oper.upon_value]
  go_wp2_with fail
  simp only [Try.sizeOf68, Result.andThen, HMl.out, ↓reduceIte, stNew w0 68 #[.int .u8 0, .int .u8 0, .int .u8 0, .int .u8 0, .int .u8 0, .int .u64 0, .int .u8 0, .int .u64 0, .int .u8 0, .int .u8 0, .int .u8 0, .int .u8 0, .int .u8 0, .int .u8 0, .int .u8 0, .int .u8 0, .int .u8 0, .int .u8 0, .int .u8 0, .int .u8 0, .int .u8 0, .int .u8 0, .int .u8 0, .int .u8 0, .int .u8 0, .int .u8 0, .int .u8 0, .int .u8 0, .int .u8 0, .int .u8 0, .int .u8 0, .int .u8 0, .int .u8 0, .int .u8 0, .int .u8 0, .int .u8 0, .int .u8 0, .int .u8 0, .int .u8 0, .int .u8 0, .int .u8 0] M 41 Try.sz68 rfl HMl.out HM1.out]
  rw [Oper.upon_skip]
  have HRS : Hid (RS w (w0.alloc (.cells M.toArray 68)) A V M b o l sv B) := by
    have h1 := newR w0 M 68
    rw [E0.out] at h1
    exact ⟨lec B0.out (be1 w0 _), World.rangeAt_alloc R0.out _, h1, HLA.out.below (lec B0.out (be1 w0 _)), by simp [E0.out]⟩
  rw [E0.out]
  generalize w0.alloc (.cells M.toArray 68) = w1 at *
  clear R0 B0 E0 RM w0
  have cx0 : w1.cell? ⟨A, 0, none⟩ = some (.int .u8 x0) := by have := HRS.out.tx 0 _ hv0.out; simpa using this
  go_upto_region 2 with fail
  by_cases hc1 : x0 < 1
  · have HF1 := hide hc1
    have dq : decide (x0 < 1) = true := decide_eq_true HF1.out
    clear hc1
    go_wp2
    go_ret
    exact ⟨ret_int (by rw [HPB.out]; exact Eq.symm (by simp [refA, HX0.out, HX2.out, HX3.out, HX4.out, HX5.out, HX6.out, HX7.out, HX8.out, HX9.out, HM0x.out, HM1x.out, HM2x.out, HM3x.out, HM4x.out, HM5x.out, HM6x.out, HM7x.out, HCH.out, HOP.out, HGL.out, HGU.out, HNP.out, HBP.out, HBQ.out, HMP.out, HGP.out, HF1.out, HX1.out] <;> (have hq0 := HF1.out; (repeat' split) <;> first | rfl | omega))), HRS.out.bl⟩
  have HN1 := hide hc1
  have dq1 : decide (x0 < 1) = false := decide_eq_false HN1.out
  clear hc1
  by_cases hc2 : 5 < x0
  · have HF2 := hide hc2
    have dq : decide (5 < x0) = true := decide_eq_true HF2.out
    clear hc2
    go_wp2
    go_ret
    exact ⟨ret_int (by rw [HPB.out]; exact Eq.symm (by simp [refA, HX0.out, HX2.out, HX3.out, HX4.out, HX5.out, HX6.out, HX7.out, HX8.out, HX9.out, HM0x.out, HM1x.out, HM2x.out, HM3x.out, HM4x.out, HM5x.out, HM6x.out, HM7x.out, HCH.out, HOP.out, HGL.out, HGU.out, HNP.out, HBP.out, HBQ.out, HMP.out, HGP.out, HN1.out, HF2.out, HX1.out] <;> (have hq0 := HN1.out; have hq1 := HF2.out; (repeat' split) <;> first | rfl | omega))), HRS.out.bl⟩
  have HN2 := hide hc2
  have dq2 : decide (5 < x0) = false := decide_eq_false HN2.out
  clear hc2
  go_upto_region 4 with fail
  clear cx0 dq1 dq2
  have cx1 : w1.cell? ⟨A, 1, none⟩ = some (.int .u8 x1) := by have := HRS.out.tx 1 _ hv1.out; simpa using this
  have clch : w1.cell? ⟨b, o, none⟩ = some (.int .u8 ch) := by rw [← HCH.out]; exact HRS.out.la.cell (j := 0) (fun m s => Led0.at0 _ m s)
  go_region
  have HRS2 := hide (HRS.out.below ((Below.refl w1.heap.size w1).drew))
  generalize w1.drew = w2 at *
  clear HRS cx1 clch
  have HRS := HRS2
  clear HRS2
  by_cases hc3 : ¬ x1 = ch
  · have HF3 := hide hc3
    have dq : (x1 != ch) = true := by simpa using HF3.out
    clear hc3
    rw [dq]
    go_wp2
    go_ret
    exact ⟨ret_int (by rw [HPB.out]; exact Eq.symm (by simp [refA, HX0.out, HX2.out, HX3.out, HX4.out, HX5.out, HX6.out, HX7.out, HX8.out, HX9.out, HM0x.out, HM1x.out, HM2x.out, HM3x.out, HM4x.out, HM5x.out, HM6x.out, HM7x.out, HCH.out, HOP.out, HGL.out, HGU.out, HNP.out, HBP.out, HBQ.out, HMP.out, HGP.out, HN1.out, HN2.out, HF3.out, HX1.out] <;> (have hq0 := HN1.out; have hq1 := HN2.out; have hq2 := HF3.out; (repeat' split) <;> first | rfl | omega))), HRS.out.bl⟩
  have HN3 := hide hc3
  have dq3 : (x1 != ch) = false := by simpa using HN3.out
  clear hc3
  rw [dq3]
  go_upto_region 6 with fail
  have cx2 : w2.cell? ⟨A, 2, none⟩ = some (.int .u8 x2) := by have := HRS.out.tx 2 _ hv2.out; simpa using this
  clear dq3
  by_cases hc4 : 64 ≤ x2
  · have HF4 := hide hc4
    have dq : decide (64 ≤ x2) = true := decide_eq_true HF4.out
    clear hc4
    go_wp2
    go_ret
    exact ⟨ret_int (by rw [HPB.out]; exact Eq.symm (by simp [refA, HX0.out, HX2.out, HX3.out, HX4.out, HX5.out, HX6.out, HX7.out, HX8.out, HX9.out, HM0x.out, HM1x.out, HM2x.out, HM3x.out, HM4x.out, HM5x.out, HM6x.out, HM7x.out, HCH.out, HOP.out, HGL.out, HGU.out, HNP.out, HBP.out, HBQ.out, HMP.out, HGP.out, HN1.out, HN2.out, HN3.out, HF4.out, HX1.out] <;> (have hq0 := HN1.out; have hq1 := HN2.out; have hq2 := HN3.out; have hq3 := HF4.out; (repeat' split) <;> first | rfl | omega))), HRS.out.bl⟩
  have HN4 := hide hc4
  have dq4 : decide (64 ≤ x2) = false := decide_eq_false HN4.out
  clear hc4
  go_upto_region 8 with fail
  have cx4 : w2.cell? ⟨A, 4, none⟩ = some (.int .u64 x4) := by have := HRS.out.tx 4 _ hv4.out; simpa using this
  clear cx2 dq4
  by_cases hc5 : 9223372036854775807 < x4
  · have HF5 := hide hc5
    have dq : decide (9223372036854775807 < x4) = true := decide_eq_true HF5.out
    clear hc5
    go_wp2
    go_ret
    exact ⟨ret_int (by rw [HPB.out]; exact Eq.symm (by simp [refA, HX0.out, HX2.out, HX3.out, HX4.out, HX5.out, HX6.out, HX7.out, HX8.out, HX9.out, HM0x.out, HM1x.out, HM2x.out, HM3x.out, HM4x.out, HM5x.out, HM6x.out, HM7x.out, HCH.out, HOP.out, HGL.out, HGU.out, HNP.out, HBP.out, HBQ.out, HMP.out, HGP.out, HN1.out, HN2.out, HN3.out, HN4.out, HF5.out, HX1.out] <;> (have hq0 := HN1.out; have hq1 := HN2.out; have hq2 := HN3.out; have hq3 := HN4.out; have hq4 := HF5.out; (repeat' split) <;> first | rfl | omega))), HRS.out.bl⟩
  have HN5 := hide hc5
  have dq5 : decide (9223372036854775807 < x4) = false := decide_eq_false HN5.out
  clear hc5
  exact absurd (by simp [refA, HX0.out, HX2.out, HX3.out, HX4.out, HX5.out, HX6.out, HX7.out, HX8.out, HX9.out, HM0x.out, HM1x.out, HM2x.out, HM3x.out, HM4x.out, HM5x.out, HM6x.out, HM7x.out, HCH.out, HOP.out, HGL.out, HGU.out, HNP.out, HBP.out, HBQ.out, HMP.out, HGP.out, HN1.out, HN2.out, HN3.out, HN4.out, HN5.out, HX1.out] <;> (have hq0 := HN1.out; have hq1 := HN2.out; have hq2 := HN3.out; have hq3 := HN4.out; have hq4 := HN5.out; (repeat' split) <;> first | rfl | omega)) HAN.out

end Go.Proofs.Qxb6500784a
