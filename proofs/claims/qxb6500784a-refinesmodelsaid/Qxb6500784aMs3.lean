import Derived.Test.Qxb6500784aMs0
namespace Go.Proofs.Qxb6500784a
open Go.RowKit

attribute [-simp] Try.isAgg70 Try.sizeOf70 Try.typeInfo70 Try.isAgg56 Try.sizeOf56 Try.typeInfo56
attribute [local irreducible] rootP shaP
set_option linter.unusedSimpArgs false in
set_option maxRecDepth 100000 in
set_option maxHeartbeats 16000000 in
theorem m_na (w : World) (b : Nat) (P : Pr) (S : List Nat) (h : PP w b P S) (a : Option Addr) (n cap : Nat) (ch pt gs ac tk am : Int) (hc : gs = 0) :
    Calls Try.prog 31 #[.pointer (some ⟨b, 0, none⟩), .agg (opV 5 a n cap ch pt gs ac tk am).toArray] w (StPost w b S P ⟨32, refR 0 (-1), msg0⟩) := by
  have d1 : (gs == 0) = true := by simp [hc]
  clear hc
  have HP := hide h
  unfold opV
  have HS0 : Hid (S0 w (((w.alloc (.cells #[.int .i64 5, .slice a n cap, .int .u8 ch, .int .i64 pt, .int .u64 gs, .int .u8 ac, .int .u8 tk, .int .u64 am] 33)).alloc (.cells Try.zeroCells70 70)).alloc (.cells (Try.zeroCells70.setIfInBounds 2 (.int .i64 (-1))) 70)) w.heap.size [.int .i64 5, .slice a n cap, .int .u8 ch, .int .i64 pt, .int .u64 gs, .int .u8 ac, .int .u8 tk, .int .u64 am]) := s0_start w [.int .i64 5, .slice a n cap, .int .u8 ch, .int .i64 pt, .int .u64 gs, .int .u8 ac, .int .u8 tk, .int .u64 am]
  clear h
  go_enter Try.func31, Try.ntmps31
  go_upto_region 3 with fail
  obtain ⟨D, hD⟩ : ∃ D, w.heap.size = D := ⟨_, rfl⟩
  have hD1 : w.heap.size + 1 = D + 1 := by rw [hD]
  simp only [hD] at HS0 ⊢
  simp only [show D + 1 + 1 = D + 2 from rfl] at HS0 ⊢
  have HD := hide hD
  clear hD hD1
  generalize ((w.alloc (.cells #[.int .i64 5, .slice a n cap, .int .u8 ch, .int .i64 pt, .int .u64 gs, .int .u8 ac, .int .u8 tk, .int .u64 am] 33)).alloc (.cells Try.zeroCells70 70)).alloc (.cells (Try.zeroCells70.setIfInBounds 2 (.int .i64 (-1))) 70) = w3 at *
  have cl0 := HS0.out.cell (j := 0) rfl
  have cl1 := HS0.out.cell (j := 1) rfl
  have cl2 := HS0.out.cell (j := 2) rfl
  have cl3 := HS0.out.cell (j := 3) rfl
  have cl4 := HS0.out.cell (j := 4) rfl
  have cl5 := HS0.out.cell (j := 5) rfl
  have cl6 := HS0.out.cell (j := 6) rfl
  have cl7 := HS0.out.cell (j := 7) rfl
  have HS1 := hide (s1_of HS0.out HP.out)
  obtain ⟨c0, f0, -, -, -⟩ := HS1.out.c0
  have c0' : w3.cell? ⟨D + 2, 0, none⟩ = some (.int .i64 0) := c0
  clear c0
  go_upto_region 53 with fail
  have HS2 := hide (HS1.out.code 32)
  generalize w3.setCell ⟨D + 2, 0, none⟩ (.int .i64 32) = x at *
  clear cl0 cl1 cl2 cl3 cl4 cl5 cl6 cl7 c0' f0 HS1 HS0
  obtain ⟨F, hF⟩ : ∃ F, (⟨32, refR 0 (-1), msg0⟩ : An).vals nilS nilS nilS = F := ⟨_, rfl⟩
  have HFl : Hid (F.length = 112) := by rw [← hF]; exact An.len HS2.out.ok HS2.out.mo _ _ _
  have HF1 : Hid (∀ u ∈ F, u.oneCell' = true) := by rw [← hF]; exact HS2.out.one
  have HRG : Hid (x.rangeAt (D + 2) 0 F) := by rw [← hF]; exact HS2.out.r2
  have HT6 := hide HS2.out.t1
  have HFN : Hid (∀ y, Ex (fun j => j = D + 1) x y → StPost _ _ _ _ _ (.returned (.agg F.toArray)) y) := fun y ex => by rw [← hF]; exact HS2.out.fin ex
  clear hF
  go_upto_region 53 with fail
  go_wp2_with fail
  simp only [Try.isAgg70, Try.sizeOf70, Result.andThen, ↓reduceIte, ldC x (D + 2) 0 F 112 HFl.out HRG.out]
  rw [Oper.upon_value]
  go_wp2_with fail
  simp only [Try.sizeOf70, Result.andThen, HFl.out, ↓reduceIte, stC x (D + 1) 0 F (by rw [HFl.out]; exact HT6.out) HF1.out]
  rw [Oper.upon_skip]
  have HRZ := hide (World.rangeAt_setCells_same x (D + 1) 0 F (by rw [HFl.out]; exact HT6.out))
  have HPO := hide (HFN.out _ (Ex.sets (S := fun j => j = D + 1) rfl F 0 x (Ex.refl _ _)))
  generalize x.setCells (D + 1) 0 F = wz at *
  clear HFN HRG HT6
  go_wp2_with fail
  exact bodyPost_ret (v := .agg F.toArray) (res_cell Try.results31 rfl (run_loadVar_mid wz (D + 1) 0 70 F _ HRZ.out Try.underlying70 rfl (by rw [HFl.out]; exact Try.sz70))) rfl HPO.out
set_option linter.unusedSimpArgs false in
set_option maxRecDepth 100000 in
set_option maxHeartbeats 16000000 in
theorem m_nb (w : World) (b : Nat) (P : Pr) (S : List Nat) (h : PP w b P S) (a : Option Addr) (n cap : Nat) (ch pt gs ac tk am : Int) (h0 : gs ≠ 0) (hc : 10000 < gs) :
    Calls Try.prog 31 #[.pointer (some ⟨b, 0, none⟩), .agg (opV 5 a n cap ch pt gs ac tk am).toArray] w (StPost w b S P ⟨32, refR 0 (-1), msg0⟩) := by
  have d1 : (gs == 0) = false := by simp [h0]
  have d2 : decide ((10000 : Int) < gs) = true := by simp; omega
  clear hc h0
  have HP := hide h
  unfold opV
  have HS0 : Hid (S0 w (((w.alloc (.cells #[.int .i64 5, .slice a n cap, .int .u8 ch, .int .i64 pt, .int .u64 gs, .int .u8 ac, .int .u8 tk, .int .u64 am] 33)).alloc (.cells Try.zeroCells70 70)).alloc (.cells (Try.zeroCells70.setIfInBounds 2 (.int .i64 (-1))) 70)) w.heap.size [.int .i64 5, .slice a n cap, .int .u8 ch, .int .i64 pt, .int .u64 gs, .int .u8 ac, .int .u8 tk, .int .u64 am]) := s0_start w [.int .i64 5, .slice a n cap, .int .u8 ch, .int .i64 pt, .int .u64 gs, .int .u8 ac, .int .u8 tk, .int .u64 am]
  clear h
  go_enter Try.func31, Try.ntmps31
  go_upto_region 3 with fail
  obtain ⟨D, hD⟩ : ∃ D, w.heap.size = D := ⟨_, rfl⟩
  have hD1 : w.heap.size + 1 = D + 1 := by rw [hD]
  simp only [hD] at HS0 ⊢
  simp only [show D + 1 + 1 = D + 2 from rfl] at HS0 ⊢
  have HD := hide hD
  clear hD hD1
  generalize ((w.alloc (.cells #[.int .i64 5, .slice a n cap, .int .u8 ch, .int .i64 pt, .int .u64 gs, .int .u8 ac, .int .u8 tk, .int .u64 am] 33)).alloc (.cells Try.zeroCells70 70)).alloc (.cells (Try.zeroCells70.setIfInBounds 2 (.int .i64 (-1))) 70) = w3 at *
  have cl0 := HS0.out.cell (j := 0) rfl
  have cl1 := HS0.out.cell (j := 1) rfl
  have cl2 := HS0.out.cell (j := 2) rfl
  have cl3 := HS0.out.cell (j := 3) rfl
  have cl4 := HS0.out.cell (j := 4) rfl
  have cl5 := HS0.out.cell (j := 5) rfl
  have cl6 := HS0.out.cell (j := 6) rfl
  have cl7 := HS0.out.cell (j := 7) rfl
  have HS1 := hide (s1_of HS0.out HP.out)
  obtain ⟨c0, f0, -, -, -⟩ := HS1.out.c0
  have c0' : w3.cell? ⟨D + 2, 0, none⟩ = some (.int .i64 0) := c0
  clear c0
  go_upto_region 53 with fail
  have HS2 := hide (HS1.out.code 32)
  generalize w3.setCell ⟨D + 2, 0, none⟩ (.int .i64 32) = x at *
  clear cl0 cl1 cl2 cl3 cl4 cl5 cl6 cl7 c0' f0 HS1 HS0
  obtain ⟨F, hF⟩ : ∃ F, (⟨32, refR 0 (-1), msg0⟩ : An).vals nilS nilS nilS = F := ⟨_, rfl⟩
  have HFl : Hid (F.length = 112) := by rw [← hF]; exact An.len HS2.out.ok HS2.out.mo _ _ _
  have HF1 : Hid (∀ u ∈ F, u.oneCell' = true) := by rw [← hF]; exact HS2.out.one
  have HRG : Hid (x.rangeAt (D + 2) 0 F) := by rw [← hF]; exact HS2.out.r2
  have HT6 := hide HS2.out.t1
  have HFN : Hid (∀ y, Ex (fun j => j = D + 1) x y → StPost _ _ _ _ _ (.returned (.agg F.toArray)) y) := fun y ex => by rw [← hF]; exact HS2.out.fin ex
  clear hF
  go_upto_region 53 with fail
  go_wp2_with fail
  simp only [Try.isAgg70, Try.sizeOf70, Result.andThen, ↓reduceIte, ldC x (D + 2) 0 F 112 HFl.out HRG.out]
  rw [Oper.upon_value]
  go_wp2_with fail
  simp only [Try.sizeOf70, Result.andThen, HFl.out, ↓reduceIte, stC x (D + 1) 0 F (by rw [HFl.out]; exact HT6.out) HF1.out]
  rw [Oper.upon_skip]
  have HRZ := hide (World.rangeAt_setCells_same x (D + 1) 0 F (by rw [HFl.out]; exact HT6.out))
  have HPO := hide (HFN.out _ (Ex.sets (S := fun j => j = D + 1) rfl F 0 x (Ex.refl _ _)))
  generalize x.setCells (D + 1) 0 F = wz at *
  clear HFN HRG HT6
  go_wp2_with fail
  exact bodyPost_ret (v := .agg F.toArray) (res_cell Try.results31 rfl (run_loadVar_mid wz (D + 1) 0 70 F _ HRZ.out Try.underlying70 rfl (by rw [HFl.out]; exact Try.sz70))) rfl HPO.out
set_option linter.unusedSimpArgs false in
set_option maxRecDepth 100000 in
set_option maxHeartbeats 16000000 in
theorem m_nc (w : World) (b : Nat) (P : Pr) (S : List Nat) (h : PP w b P S) (hsm : PSm P) (a : Option Addr) (n cap : Nat) (ch pt gs ac tk am : Int) (h0 : 0 < gs) (h9 : gs ≤ 10000) (hf : ¬ flat P) :
    Calls Try.prog 31 #[.pointer (some ⟨b, 0, none⟩), .agg (opV 5 a n cap ch pt gs ac tk am).toArray] w (StPost w b S P ⟨33, refR 0 (-1), msg0⟩) := by
  have d1 : (gs == 0) = false := by simp; omega
  have d2 : decide ((10000 : Int) < gs) = false := by simp; omega
  have HSM := hide hsm
  have HFL := hide hf
  have HG := hide (And.intro h0 h9)
  clear h0 h9 hf hsm
  have HP := hide h
  unfold opV
  have HS0 : Hid (S0 w (((w.alloc (.cells #[.int .i64 5, .slice a n cap, .int .u8 ch, .int .i64 pt, .int .u64 gs, .int .u8 ac, .int .u8 tk, .int .u64 am] 33)).alloc (.cells Try.zeroCells70 70)).alloc (.cells (Try.zeroCells70.setIfInBounds 2 (.int .i64 (-1))) 70)) w.heap.size [.int .i64 5, .slice a n cap, .int .u8 ch, .int .i64 pt, .int .u64 gs, .int .u8 ac, .int .u8 tk, .int .u64 am]) := s0_start w [.int .i64 5, .slice a n cap, .int .u8 ch, .int .i64 pt, .int .u64 gs, .int .u8 ac, .int .u8 tk, .int .u64 am]
  clear h
  go_enter Try.func31, Try.ntmps31
  go_upto_region 3 with fail
  obtain ⟨D, hD⟩ : ∃ D, w.heap.size = D := ⟨_, rfl⟩
  have hD1 : w.heap.size + 1 = D + 1 := by rw [hD]
  simp only [hD] at HS0 ⊢
  simp only [show D + 1 + 1 = D + 2 from rfl] at HS0 ⊢
  have HD := hide hD
  clear hD hD1
  generalize ((w.alloc (.cells #[.int .i64 5, .slice a n cap, .int .u8 ch, .int .i64 pt, .int .u64 gs, .int .u8 ac, .int .u8 tk, .int .u64 am] 33)).alloc (.cells Try.zeroCells70 70)).alloc (.cells (Try.zeroCells70.setIfInBounds 2 (.int .i64 (-1))) 70) = w3 at *
  have cl0 := HS0.out.cell (j := 0) rfl
  have cl1 := HS0.out.cell (j := 1) rfl
  have cl2 := HS0.out.cell (j := 2) rfl
  have cl3 := HS0.out.cell (j := 3) rfl
  have cl4 := HS0.out.cell (j := 4) rfl
  have cl5 := HS0.out.cell (j := 5) rfl
  have cl6 := HS0.out.cell (j := 6) rfl
  have cl7 := HS0.out.cell (j := 7) rfl
  have HS1 := hide (s1_of HS0.out HP.out)
  obtain ⟨FA, hFA⟩ : ∃ FA : Nat → Int, (fun o => if o = 0 then (P.sa.length : Int) else P.sb.length) = FA := ⟨_, rfl⟩
  obtain ⟨FB, hFB⟩ : ∃ FB : Nat → Int, (fun o => if o = 652 then (P.ta.length : Int) else P.tb.length) = FB := ⟨_, rfl⟩
  have HDL : ∀ m o, (o = 0 ∨ o = 326) → Calls Try.prog 50 #[.pointer (some ⟨b, o, none⟩)] (w3.drewN m) fun e w' => e = .returned (.int .i64 (FA o)) ∧ w' = w3.drewN m := fun m o ho => by
    have hp := HS1.out.pp.below (below_drewN w3 m w3.heap.size)
    rcases ho with rfl | rfl
    · obtain ⟨B, hB, -⟩ := hp.onA
      exact (depthL_any _ b 0 _ _ _ hB).mono fun e w' he => ⟨by rw [← hFA, he.1]; rfl, he.2⟩
    · obtain ⟨B, hB, -⟩ := hp.onB
      exact (depthL_any _ b 326 _ _ _ hB).mono fun e w' he => ⟨by rw [← hFA, he.1]; rfl, he.2⟩
  have HDB : ∀ m o, (o = 652 ∨ o = 657) → Calls Try.prog 51 #[.pointer (some ⟨b, o, none⟩)] (w3.drewN m) fun e w' => e = .returned (.int .i64 (FB o)) ∧ w' = w3.drewN m := fun m o ho => by
    have hp := HS1.out.pp.below (below_drewN w3 m w3.heap.size)
    rcases ho with rfl | rfl
    · obtain ⟨B, hB, -⟩ := hp.onC
      exact (depthB_any _ b 652 _ _ _ hB).mono fun e w' he => ⟨by rw [← hFB, he.1]; rfl, he.2⟩
    · obtain ⟨B, hB, -⟩ := hp.onD
      exact (depthB_any _ b 657 _ _ _ hB).mono fun e w' he => ⟨by rw [← hFB, he.1]; rfl, he.2⟩
  have hbd : (0 ≤ FA 0 ∧ FA 0 ≤ 1000) ∧ (0 ≤ FA 326 ∧ FA 326 ≤ 1000) ∧ (0 ≤ FB 652 ∧ FB 652 ≤ 1000) ∧ (0 ≤ FB 657 ∧ FB 657 ≤ 1000) ∧ 0 < FA 0 + FA 326 + FB 652 + FB 657 := by
    rw [← hFA, ← hFB]
    show (0 ≤ (P.sa.length : Int) ∧ (P.sa.length : Int) ≤ 1000) ∧ (0 ≤ (P.sb.length : Int) ∧ (P.sb.length : Int) ≤ 1000) ∧ (0 ≤ (P.ta.length : Int) ∧ (P.ta.length : Int) ≤ 1000) ∧ (0 ≤ (P.tb.length : Int) ∧ (P.tb.length : Int) ≤ 1000) ∧ 0 < (P.sa.length : Int) + P.sb.length + P.ta.length + P.tb.length
    have q1 := HSM.out.1.2.2
    have q2 := HSM.out.2.1.2.2
    have q3 := HSM.out.2.2.1.2.2
    have q4 := HSM.out.2.2.2.1.2.2
    have q5 := HFL.out
    rw [flatP_len] at q5
    omega
  clear hFA hFB
  obtain ⟨f1, hf1⟩ : ∃ f, FA 0 = f := ⟨_, rfl⟩
  obtain ⟨f2, hf2⟩ : ∃ f, FA 326 = f := ⟨_, rfl⟩
  obtain ⟨f3, hf3⟩ : ∃ f, FB 652 = f := ⟨_, rfl⟩
  obtain ⟨f4, hf4⟩ : ∃ f, FB 657 = f := ⟨_, rfl⟩
  rw [hf1, hf2, hf3, hf4] at hbd
  have hw1 : IntKind.i64.wrap (f1 + f2) = f1 + f2 := by rw [IntKind.wrap_i64]; omega
  have hw2 : IntKind.i64.wrap (f1 + f2 + f3) = f1 + f2 + f3 := by rw [IntKind.wrap_i64]; omega
  have hw3 : IntKind.i64.wrap (f1 + f2 + f3 + f4) = f1 + f2 + f3 + f4 := by rw [IntKind.wrap_i64]; omega
  have dS : decide (0 < f1 + f2 + f3 + f4) = true := by simp; omega
  have HDL2 : ∀ m o v, (o = 0 ∧ v = f1 ∨ o = 326 ∧ v = f2) → Calls Try.prog 50 #[.pointer (some ⟨b, o, none⟩)] (w3.drewN m) fun e w' => e = .returned (.int .i64 v) ∧ w' = w3.drewN m := fun m o v ho => by
    rcases ho with ⟨rfl, rfl⟩ | ⟨rfl, rfl⟩
    · rw [← hf1]; exact HDL m 0 (by simp)
    · rw [← hf2]; exact HDL m 326 (by simp)
  have HDB2 : ∀ m o v, (o = 652 ∧ v = f3 ∨ o = 657 ∧ v = f4) → Calls Try.prog 51 #[.pointer (some ⟨b, o, none⟩)] (w3.drewN m) fun e w' => e = .returned (.int .i64 v) ∧ w' = w3.drewN m := fun m o v ho => by
    rcases ho with ⟨rfl, rfl⟩ | ⟨rfl, rfl⟩
    · rw [← hf3]; exact HDB m 652 (by simp)
    · rw [← hf4]; exact HDB m 657 (by simp)
  clear HDL HDB hbd hf1 hf2 hf3 hf4
  go_upto_region 40 with fail
  go_quiet (first | (go_at_call 50; refine Calls.quiet_of_same (HDL2 _ 0 f1 (by simp))) | (go_at_call 50; refine Calls.quiet_of_same (HDL2 _ 326 f2 (by simp))) | (go_at_call 51; refine Calls.quiet_of_same (HDB2 _ 652 f3 (by simp))) | (go_at_call 51; refine Calls.quiet_of_same (HDB2 _ 657 f4 (by simp))))
  have HD40 : Hid ((w3.drewN nq).cell? ⟨D, 4, none⟩ = some (.int .u64 gs)) := cellKeep (below_drewN w3 nq w3.heap.size) cl4
  replace HS1 := hide (HS1.out.below (below_drewN w3 nq w3.heap.size))
  generalize w3.drewN nq = w4 at *
  clear HDL2 HDB2
  obtain ⟨c0, f0, -, -, -⟩ := HS1.out.c0
  have c0' : w4.cell? ⟨D + 2, 0, none⟩ = some (.int .i64 0) := c0
  clear c0
  go_upto_region 53 with fail
  have HS2 := hide (HS1.out.code 33)
  generalize w4.setCell ⟨D + 2, 0, none⟩ (.int .i64 33) = x at *
  clear cl0 cl1 cl2 cl3 cl4 cl5 cl6 cl7 c0' f0 HS1 HS0 hw1 hw2 hw3 dS
  obtain ⟨F, hF⟩ : ∃ F, (⟨33, refR 0 (-1), msg0⟩ : An).vals nilS nilS nilS = F := ⟨_, rfl⟩
  have HFl : Hid (F.length = 112) := by rw [← hF]; exact An.len HS2.out.ok HS2.out.mo _ _ _
  have HF1 : Hid (∀ u ∈ F, u.oneCell' = true) := by rw [← hF]; exact HS2.out.one
  have HRG : Hid (x.rangeAt (D + 2) 0 F) := by rw [← hF]; exact HS2.out.r2
  have HT6 := hide HS2.out.t1
  have HFN : Hid (∀ y, Ex (fun j => j = D + 1) x y → StPost _ _ _ _ _ (.returned (.agg F.toArray)) y) := fun y ex => by rw [← hF]; exact HS2.out.fin ex
  clear hF
  go_upto_region 53 with fail
  go_wp2_with fail
  simp only [Try.isAgg70, Try.sizeOf70, Result.andThen, ↓reduceIte, ldC x (D + 2) 0 F 112 HFl.out HRG.out]
  rw [Oper.upon_value]
  go_wp2_with fail
  simp only [Try.sizeOf70, Result.andThen, HFl.out, ↓reduceIte, stC x (D + 1) 0 F (by rw [HFl.out]; exact HT6.out) HF1.out]
  rw [Oper.upon_skip]
  have HRZ := hide (World.rangeAt_setCells_same x (D + 1) 0 F (by rw [HFl.out]; exact HT6.out))
  have HPO := hide (HFN.out _ (Ex.sets (S := fun j => j = D + 1) rfl F 0 x (Ex.refl _ _)))
  generalize x.setCells (D + 1) 0 F = wz at *
  clear HFN HRG HT6
  go_wp2_with fail
  exact bodyPost_ret (v := .agg F.toArray) (res_cell Try.results31 rfl (run_loadVar_mid wz (D + 1) 0 70 F _ HRZ.out Try.underlying70 rfl (by rw [HFl.out]; exact Try.sz70))) rfl HPO.out
set_option linter.unusedSimpArgs false in
set_option maxRecDepth 100000 in
set_option maxHeartbeats 16000000 in
theorem m_nd (w : World) (b : Nat) (P : Pr) (S : List Nat) (h : PP w b P S) (hsm : PSm P) (hoa : P.la.opn = true) (hob : P.lb.opn = true) (a : Option Addr) (n cap : Nat) (ch pt gs ac tk am : Int) (h0 : 0 < gs) (h9 : gs ≤ 10000) (hf : flat P) :
    Calls Try.prog 31 #[.pointer (some ⟨b, 0, none⟩), .agg (opV 5 a n cap ch pt gs ac tk am).toArray] w (StPost w b S (nbS P gs) ⟨0, refR 0 (-1), msg0⟩) := by
  have HNB := hide (nb_eq (g := gs) hoa hob)
  clear hoa hob
  have d1 : (gs == 0) = false := by simp; omega
  have d2 : decide ((10000 : Int) < gs) = false := by simp; omega
  have HSM := hide hsm
  have HFL := hide hf
  have HG := hide (And.intro h0 h9)
  clear h0 h9 hf hsm
  have HP := hide h
  unfold opV
  have HS0 : Hid (S0 w (((w.alloc (.cells #[.int .i64 5, .slice a n cap, .int .u8 ch, .int .i64 pt, .int .u64 gs, .int .u8 ac, .int .u8 tk, .int .u64 am] 33)).alloc (.cells Try.zeroCells70 70)).alloc (.cells (Try.zeroCells70.setIfInBounds 2 (.int .i64 (-1))) 70)) w.heap.size [.int .i64 5, .slice a n cap, .int .u8 ch, .int .i64 pt, .int .u64 gs, .int .u8 ac, .int .u8 tk, .int .u64 am]) := s0_start w [.int .i64 5, .slice a n cap, .int .u8 ch, .int .i64 pt, .int .u64 gs, .int .u8 ac, .int .u8 tk, .int .u64 am]
  clear h
  go_enter Try.func31, Try.ntmps31
  go_upto_region 3 with fail
  obtain ⟨D, hD⟩ : ∃ D, w.heap.size = D := ⟨_, rfl⟩
  have hD1 : w.heap.size + 1 = D + 1 := by rw [hD]
  simp only [hD] at HS0 ⊢
  simp only [show D + 1 + 1 = D + 2 from rfl] at HS0 ⊢
  have HD := hide hD
  clear hD hD1
  generalize ((w.alloc (.cells #[.int .i64 5, .slice a n cap, .int .u8 ch, .int .i64 pt, .int .u64 gs, .int .u8 ac, .int .u8 tk, .int .u64 am] 33)).alloc (.cells Try.zeroCells70 70)).alloc (.cells (Try.zeroCells70.setIfInBounds 2 (.int .i64 (-1))) 70) = w3 at *
  have cl0 := HS0.out.cell (j := 0) rfl
  have cl1 := HS0.out.cell (j := 1) rfl
  have cl2 := HS0.out.cell (j := 2) rfl
  have cl3 := HS0.out.cell (j := 3) rfl
  have cl4 := HS0.out.cell (j := 4) rfl
  have cl5 := HS0.out.cell (j := 5) rfl
  have cl6 := HS0.out.cell (j := 6) rfl
  have cl7 := HS0.out.cell (j := 7) rfl
  have HS1 := hide (s1_of HS0.out HP.out)
  obtain ⟨FA, hFA⟩ : ∃ FA : Nat → Int, (fun o => if o = 0 then (P.sa.length : Int) else P.sb.length) = FA := ⟨_, rfl⟩
  obtain ⟨FB, hFB⟩ : ∃ FB : Nat → Int, (fun o => if o = 652 then (P.ta.length : Int) else P.tb.length) = FB := ⟨_, rfl⟩
  have HDL : ∀ m o, (o = 0 ∨ o = 326) → Calls Try.prog 50 #[.pointer (some ⟨b, o, none⟩)] (w3.drewN m) fun e w' => e = .returned (.int .i64 (FA o)) ∧ w' = w3.drewN m := fun m o ho => by
    have hp := HS1.out.pp.below (below_drewN w3 m w3.heap.size)
    rcases ho with rfl | rfl
    · obtain ⟨B, hB, -⟩ := hp.onA
      exact (depthL_any _ b 0 _ _ _ hB).mono fun e w' he => ⟨by rw [← hFA, he.1]; rfl, he.2⟩
    · obtain ⟨B, hB, -⟩ := hp.onB
      exact (depthL_any _ b 326 _ _ _ hB).mono fun e w' he => ⟨by rw [← hFA, he.1]; rfl, he.2⟩
  have HDB : ∀ m o, (o = 652 ∨ o = 657) → Calls Try.prog 51 #[.pointer (some ⟨b, o, none⟩)] (w3.drewN m) fun e w' => e = .returned (.int .i64 (FB o)) ∧ w' = w3.drewN m := fun m o ho => by
    have hp := HS1.out.pp.below (below_drewN w3 m w3.heap.size)
    rcases ho with rfl | rfl
    · obtain ⟨B, hB, -⟩ := hp.onC
      exact (depthB_any _ b 652 _ _ _ hB).mono fun e w' he => ⟨by rw [← hFB, he.1]; rfl, he.2⟩
    · obtain ⟨B, hB, -⟩ := hp.onD
      exact (depthB_any _ b 657 _ _ _ hB).mono fun e w' he => ⟨by rw [← hFB, he.1]; rfl, he.2⟩
  have hbd : (0 ≤ FA 0 ∧ FA 0 ≤ 1000) ∧ (0 ≤ FA 326 ∧ FA 326 ≤ 1000) ∧ (0 ≤ FB 652 ∧ FB 652 ≤ 1000) ∧ (0 ≤ FB 657 ∧ FB 657 ≤ 1000) ∧ ¬ (0 < FA 0 + FA 326 + FB 652 + FB 657) := by
    rw [← hFA, ← hFB]
    show (0 ≤ (P.sa.length : Int) ∧ (P.sa.length : Int) ≤ 1000) ∧ (0 ≤ (P.sb.length : Int) ∧ (P.sb.length : Int) ≤ 1000) ∧ (0 ≤ (P.ta.length : Int) ∧ (P.ta.length : Int) ≤ 1000) ∧ (0 ≤ (P.tb.length : Int) ∧ (P.tb.length : Int) ≤ 1000) ∧ ¬ (0 < (P.sa.length : Int) + P.sb.length + P.ta.length + P.tb.length)
    have q1 := HSM.out.1.2.2
    have q2 := HSM.out.2.1.2.2
    have q3 := HSM.out.2.2.1.2.2
    have q4 := HSM.out.2.2.2.1.2.2
    have q5 := HFL.out
    rw [flatP_len] at q5
    omega
  clear hFA hFB
  obtain ⟨f1, hf1⟩ : ∃ f, FA 0 = f := ⟨_, rfl⟩
  obtain ⟨f2, hf2⟩ : ∃ f, FA 326 = f := ⟨_, rfl⟩
  obtain ⟨f3, hf3⟩ : ∃ f, FB 652 = f := ⟨_, rfl⟩
  obtain ⟨f4, hf4⟩ : ∃ f, FB 657 = f := ⟨_, rfl⟩
  rw [hf1, hf2, hf3, hf4] at hbd
  have hw1 : IntKind.i64.wrap (f1 + f2) = f1 + f2 := by rw [IntKind.wrap_i64]; omega
  have hw2 : IntKind.i64.wrap (f1 + f2 + f3) = f1 + f2 + f3 := by rw [IntKind.wrap_i64]; omega
  have hw3 : IntKind.i64.wrap (f1 + f2 + f3 + f4) = f1 + f2 + f3 + f4 := by rw [IntKind.wrap_i64]; omega
  have dS : decide (0 < f1 + f2 + f3 + f4) = false := by simp; omega
  have HDL2 : ∀ m o v, (o = 0 ∧ v = f1 ∨ o = 326 ∧ v = f2) → Calls Try.prog 50 #[.pointer (some ⟨b, o, none⟩)] (w3.drewN m) fun e w' => e = .returned (.int .i64 v) ∧ w' = w3.drewN m := fun m o v ho => by
    rcases ho with ⟨rfl, rfl⟩ | ⟨rfl, rfl⟩
    · rw [← hf1]; exact HDL m 0 (by simp)
    · rw [← hf2]; exact HDL m 326 (by simp)
  have HDB2 : ∀ m o v, (o = 652 ∧ v = f3 ∨ o = 657 ∧ v = f4) → Calls Try.prog 51 #[.pointer (some ⟨b, o, none⟩)] (w3.drewN m) fun e w' => e = .returned (.int .i64 v) ∧ w' = w3.drewN m := fun m o v ho => by
    rcases ho with ⟨rfl, rfl⟩ | ⟨rfl, rfl⟩
    · rw [← hf3]; exact HDB m 652 (by simp)
    · rw [← hf4]; exact HDB m 657 (by simp)
  clear HDL HDB hbd hf1 hf2 hf3 hf4
  go_upto_region 40 with fail
  go_quiet (first | (go_at_call 50; refine Calls.quiet_of_same (HDL2 _ 0 f1 (by simp))) | (go_at_call 50; refine Calls.quiet_of_same (HDL2 _ 326 f2 (by simp))) | (go_at_call 51; refine Calls.quiet_of_same (HDB2 _ 652 f3 (by simp))) | (go_at_call 51; refine Calls.quiet_of_same (HDB2 _ 657 f4 (by simp))))
  have HD40 : Hid ((w3.drewN nq).cell? ⟨D, 4, none⟩ = some (.int .u64 gs)) := cellKeep (below_drewN w3 nq w3.heap.size) cl4
  replace HS1 := hide (HS1.out.below (below_drewN w3 nq w3.heap.size))
  generalize w3.drewN nq = w4 at *
  clear HDL2 HDB2
  have HDb : Hid (¬ (D = b)) := by have := HS0.out.eD; have := HP.out.bl; show ¬ _; omega
  go_upto_region 31 with fail
  clear dS hw1 hw2 hw3
  have HD4 : Hid (w4.cell? ⟨D, 4, none⟩ = some (.int .u64 gs)) := HD40.out
  obtain ⟨x0, cx0⟩ := HS1.out.pp.nbc.1
  have fx0 := HS1.out.pp.fz (j := 323) (by omega)
  have g0 : w4.cell? ⟨D, 4, none⟩ = some (.int .u64 gs) := HD4.out
  go_upto_region 32 with fail
  have HPs0 := hide (HS1.out.pp.glA (g := gs) ⟨by have := HG.out; omega, by have := HG.out; omega⟩)
  replace HD4 : Hid ((w4.setCell ⟨b, 323, none⟩ (.int .u64 gs)).cell? ⟨D, 4, none⟩ = some (.int .u64 gs)) := ((Ex.refl (fun j => j = b) w4).set (j := 323) rfl (.int .u64 gs)).cell HDb.out HD4.out
  obtain ⟨Sx0, hs0⟩ := HS1.out.step HPs0.out
  have HT0 := hide hs0
  generalize w4.setCell ⟨b, 323, none⟩ (.int .u64 gs) = z0 at *
  clear hs0 HPs0 cx0 fx0 HS1 g0
  obtain ⟨x1, cx1⟩ := HT0.out.pp.nbc.2.1
  have fx1 := HT0.out.pp.fz (j := 324) (by omega)
  go_upto_region 33 with fail
  have HPs1 := hide (HT0.out.pp.guA)
  replace HD4 : Hid ((z0.setCell ⟨b, 324, none⟩ (.int .u64 0)).cell? ⟨D, 4, none⟩ = some (.int .u64 gs)) := ((Ex.refl (fun j => j = b) z0).set (j := 324) rfl (.int .u64 0)).cell HDb.out HD4.out
  obtain ⟨Sx1, hs1⟩ := HT0.out.step HPs1.out
  have HT1 := hide hs1
  generalize z0.setCell ⟨b, 324, none⟩ (.int .u64 0) = z1 at *
  clear hs1 HPs1 cx1 fx1 HT0
  obtain ⟨x2, cx2⟩ := HT1.out.pp.nbc.2.2.1
  have fx2 := HT1.out.pp.fz (j := 649) (by omega)
  have g2 : z1.cell? ⟨D, 4, none⟩ = some (.int .u64 gs) := HD4.out
  go_upto_region 34 with fail
  have HPs2 := hide (HT1.out.pp.glB (g := gs) ⟨by have := HG.out; omega, by have := HG.out; omega⟩)
  replace HD4 : Hid ((z1.setCell ⟨b, 649, none⟩ (.int .u64 gs)).cell? ⟨D, 4, none⟩ = some (.int .u64 gs)) := ((Ex.refl (fun j => j = b) z1).set (j := 649) rfl (.int .u64 gs)).cell HDb.out HD4.out
  obtain ⟨Sx2, hs2⟩ := HT1.out.step HPs2.out
  have HT2 := hide hs2
  generalize z1.setCell ⟨b, 649, none⟩ (.int .u64 gs) = z2 at *
  clear hs2 HPs2 cx2 fx2 HT1 g2
  obtain ⟨x3, cx3⟩ := HT2.out.pp.nbc.2.2.2.1
  have fx3 := HT2.out.pp.fz (j := 650) (by omega)
  go_upto_region 35 with fail
  have HPs3 := hide (HT2.out.pp.guB)
  replace HD4 : Hid ((z2.setCell ⟨b, 650, none⟩ (.int .u64 0)).cell? ⟨D, 4, none⟩ = some (.int .u64 gs)) := ((Ex.refl (fun j => j = b) z2).set (j := 650) rfl (.int .u64 0)).cell HDb.out HD4.out
  obtain ⟨Sx3, hs3⟩ := HT2.out.step HPs3.out
  have HT3 := hide hs3
  generalize z2.setCell ⟨b, 650, none⟩ (.int .u64 0) = z3 at *
  clear hs3 HPs3 cx3 fx3 HT2
  obtain ⟨x4, cx4⟩ := HT3.out.pp.nbc.2.2.2.2.1
  have fx4 := HT3.out.pp.fz (j := 655) (by omega)
  go_upto_region 36 with fail
  have HPs4 := hide (HT3.out.pp.snC)
  replace HD4 : Hid ((z3.setCell ⟨b, 655, none⟩ (.int .i64 0)).cell? ⟨D, 4, none⟩ = some (.int .u64 gs)) := ((Ex.refl (fun j => j = b) z3).set (j := 655) rfl (.int .i64 0)).cell HDb.out HD4.out
  obtain ⟨Sx4, hs4⟩ := HT3.out.step HPs4.out
  have HT4 := hide hs4
  generalize z3.setCell ⟨b, 655, none⟩ (.int .i64 0) = z4 at *
  clear hs4 HPs4 cx4 fx4 HT3
  obtain ⟨x5, cx5⟩ := HT4.out.pp.nbc.2.2.2.2.2.1
  have fx5 := HT4.out.pp.fz (j := 660) (by omega)
  go_upto_region 37 with fail
  have HPs5 := hide (HT4.out.pp.snD)
  replace HD4 : Hid ((z4.setCell ⟨b, 660, none⟩ (.int .i64 0)).cell? ⟨D, 4, none⟩ = some (.int .u64 gs)) := ((Ex.refl (fun j => j = b) z4).set (j := 660) rfl (.int .i64 0)).cell HDb.out HD4.out
  obtain ⟨Sx5, hs5⟩ := HT4.out.step HPs5.out
  have HT5 := hide hs5
  generalize z4.setCell ⟨b, 660, none⟩ (.int .i64 0) = z5 at *
  clear hs5 HPs5 cx5 fx5 HT4
  obtain ⟨x6, cx6⟩ := HT5.out.pp.nbc.2.2.2.2.2.2
  have fx6 := HT5.out.pp.fz (j := 665) (by omega)
  go_upto_region 53 with fail
  have HPs6 := hide (HT5.out.pp.snE)
  replace HD4 : Hid ((z5.setCell ⟨b, 665, none⟩ (.int .i64 0)).cell? ⟨D, 4, none⟩ = some (.int .u64 gs)) := ((Ex.refl (fun j => j = b) z5).set (j := 665) rfl (.int .i64 0)).cell HDb.out HD4.out
  obtain ⟨Sx6, hs6⟩ := HT5.out.step HPs6.out
  have HT6 := hide hs6
  generalize z5.setCell ⟨b, 665, none⟩ (.int .i64 0) = z6 at *
  clear hs6 HPs6 cx6 fx6 HT5
  have HS2 : Hid (S1 w b S D z6 (nbS P gs) Sx6 an0 nilS nilS nilS []) := by rw [← HNB.out]; exact HT6.out
  clear HT6 HS0
  obtain ⟨F, hF⟩ : ∃ F, (⟨0, refR 0 (-1), msg0⟩ : An).vals nilS nilS nilS = F := ⟨_, rfl⟩
  have HFl : Hid (F.length = 112) := by rw [← hF]; exact An.len HS2.out.ok HS2.out.mo _ _ _
  have HF1 : Hid (∀ u ∈ F, u.oneCell' = true) := by rw [← hF]; exact HS2.out.one
  have HRG : Hid (z6.rangeAt (D + 2) 0 F) := by rw [← hF]; exact HS2.out.r2
  have HT6 := hide HS2.out.t1
  have HFN : Hid (∀ y, Ex (fun j => j = D + 1) z6 y → StPost _ _ _ _ _ (.returned (.agg F.toArray)) y) := fun y ex => by rw [← hF]; exact HS2.out.fin ex
  clear hF
  go_upto_region 53 with fail
  go_wp2_with fail
  simp only [Try.isAgg70, Try.sizeOf70, Result.andThen, ↓reduceIte, ldC z6 (D + 2) 0 F 112 HFl.out HRG.out]
  rw [Oper.upon_value]
  go_wp2_with fail
  simp only [Try.sizeOf70, Result.andThen, HFl.out, ↓reduceIte, stC z6 (D + 1) 0 F (by rw [HFl.out]; exact HT6.out) HF1.out]
  rw [Oper.upon_skip]
  have HRZ := hide (World.rangeAt_setCells_same z6 (D + 1) 0 F (by rw [HFl.out]; exact HT6.out))
  have HPO := hide (HFN.out _ (Ex.sets (S := fun j => j = D + 1) rfl F 0 z6 (Ex.refl _ _)))
  generalize z6.setCells (D + 1) 0 F = wz at *
  clear HFN HRG HT6
  go_wp2_with fail
  exact bodyPost_ret (v := .agg F.toArray) (res_cell Try.results31 rfl (run_loadVar_mid wz (D + 1) 0 70 F _ HRZ.out Try.underlying70 rfl (by rw [HFl.out]; exact Try.sz70))) rfl HPO.out
theorem m_n (w : World) (b : Nat) (P : Pr) (S : List Nat) (h : PP w b P S) (hsm : PSm P) (hoa : P.la.opn = true) (hob : P.lb.opn = true) (a : Option Addr) (n cap : Nat) (ch pt gs ac tk am : Int) (hg : 0 ≤ gs) :
    Calls Try.prog 31 #[.pointer (some ⟨b, 0, none⟩), .agg (opV 5 a n cap ch pt gs ac tk am).toArray] w (StPost w b S (nextS P gs) ⟨nextC P gs, refR 0 (-1), msg0⟩) := by
  by_cases c : gs = 0 ∨ 10000 < gs
  · have e : nextC P gs = 32 := by unfold nextC; rw [if_pos c]
    unfold nextS
    rw [e, if_neg (by decide)]
    by_cases h0 : gs = 0
    · exact m_na w b P S h a n cap ch pt gs ac tk am h0
    · exact m_nb w b P S h a n cap ch pt gs ac tk am h0 (by omega)
  · by_cases f : flat P
    · have e : nextC P gs = 0 := by unfold nextC; rw [if_neg c, if_pos f]
      unfold nextS
      rw [e, if_pos rfl]
      exact m_nd w b P S h hsm hoa hob a n cap ch pt gs ac tk am (by omega) (by omega) f
    · have e : nextC P gs = 33 := by unfold nextC; rw [if_neg c, if_neg f]
      unfold nextS
      rw [e, if_neg (by decide)]
      exact m_nc w b P S h hsm a n cap ch pt gs ac tk am (by omega) (by omega) f
set_option linter.unusedSimpArgs false in
set_option maxRecDepth 100000 in
set_option maxHeartbeats 16000000 in
theorem m_d6x (w : World) (b : Nat) (P : Pr) (S : List Nat) (h : PP w b P S) (a : Option Addr) (n cap : Nat) (ch pt gs ac tk am : Int) (hc : ¬ (ch = 1 ∨ ch = 2)) :
    Calls Try.prog 31 #[.pointer (some ⟨b, 0, none⟩), .agg (opV 6 a n cap ch pt gs ac tk am).toArray] w (StPost w b S P ⟨39, refR 0 (-1), msg0⟩) := by
  have d1 : (ch != 1) = true := by simp; exact fun e => hc (.inl e)
  have d2 : (ch != 2) = true := by simp; exact fun e => hc (.inr e)
  clear hc
  have HP := hide h
  unfold opV
  have HS0 : Hid (S0 w (((w.alloc (.cells #[.int .i64 6, .slice a n cap, .int .u8 ch, .int .i64 pt, .int .u64 gs, .int .u8 ac, .int .u8 tk, .int .u64 am] 33)).alloc (.cells Try.zeroCells70 70)).alloc (.cells (Try.zeroCells70.setIfInBounds 2 (.int .i64 (-1))) 70)) w.heap.size [.int .i64 6, .slice a n cap, .int .u8 ch, .int .i64 pt, .int .u64 gs, .int .u8 ac, .int .u8 tk, .int .u64 am]) := s0_start w [.int .i64 6, .slice a n cap, .int .u8 ch, .int .i64 pt, .int .u64 gs, .int .u8 ac, .int .u8 tk, .int .u64 am]
  clear h
  go_enter Try.func31, Try.ntmps31
  go_upto_region 3 with fail
  obtain ⟨D, hD⟩ : ∃ D, w.heap.size = D := ⟨_, rfl⟩
  have hD1 : w.heap.size + 1 = D + 1 := by rw [hD]
  simp only [hD] at HS0 ⊢
  simp only [show D + 1 + 1 = D + 2 from rfl] at HS0 ⊢
  have HD := hide hD
  clear hD hD1
  generalize ((w.alloc (.cells #[.int .i64 6, .slice a n cap, .int .u8 ch, .int .i64 pt, .int .u64 gs, .int .u8 ac, .int .u8 tk, .int .u64 am] 33)).alloc (.cells Try.zeroCells70 70)).alloc (.cells (Try.zeroCells70.setIfInBounds 2 (.int .i64 (-1))) 70) = w3 at *
  have cl0 := HS0.out.cell (j := 0) rfl
  have cl1 := HS0.out.cell (j := 1) rfl
  have cl2 := HS0.out.cell (j := 2) rfl
  have cl3 := HS0.out.cell (j := 3) rfl
  have cl4 := HS0.out.cell (j := 4) rfl
  have cl5 := HS0.out.cell (j := 5) rfl
  have cl6 := HS0.out.cell (j := 6) rfl
  have cl7 := HS0.out.cell (j := 7) rfl
  have HS1 := hide (s1_of HS0.out HP.out)
  obtain ⟨c0, f0, -, -, -⟩ := HS1.out.c0
  have c0' : w3.cell? ⟨D + 2, 0, none⟩ = some (.int .i64 0) := c0
  clear c0
  go_upto_region 53 with fail
  have HS2 := hide (HS1.out.code 39)
  generalize w3.setCell ⟨D + 2, 0, none⟩ (.int .i64 39) = x at *
  clear cl0 cl1 cl2 cl3 cl4 cl5 cl6 cl7 c0' f0 HS1 HS0
  obtain ⟨F, hF⟩ : ∃ F, (⟨39, refR 0 (-1), msg0⟩ : An).vals nilS nilS nilS = F := ⟨_, rfl⟩
  have HFl : Hid (F.length = 112) := by rw [← hF]; exact An.len HS2.out.ok HS2.out.mo _ _ _
  have HF1 : Hid (∀ u ∈ F, u.oneCell' = true) := by rw [← hF]; exact HS2.out.one
  have HRG : Hid (x.rangeAt (D + 2) 0 F) := by rw [← hF]; exact HS2.out.r2
  have HT6 := hide HS2.out.t1
  have HFN : Hid (∀ y, Ex (fun j => j = D + 1) x y → StPost _ _ _ _ _ (.returned (.agg F.toArray)) y) := fun y ex => by rw [← hF]; exact HS2.out.fin ex
  clear hF
  go_upto_region 53 with fail
  go_wp2_with fail
  simp only [Try.isAgg70, Try.sizeOf70, Result.andThen, ↓reduceIte, ldC x (D + 2) 0 F 112 HFl.out HRG.out]
  rw [Oper.upon_value]
  go_wp2_with fail
  simp only [Try.sizeOf70, Result.andThen, HFl.out, ↓reduceIte, stC x (D + 1) 0 F (by rw [HFl.out]; exact HT6.out) HF1.out]
  rw [Oper.upon_skip]
  have HRZ := hide (World.rangeAt_setCells_same x (D + 1) 0 F (by rw [HFl.out]; exact HT6.out))
  have HPO := hide (HFN.out _ (Ex.sets (S := fun j => j = D + 1) rfl F 0 x (Ex.refl _ _)))
  generalize x.setCells (D + 1) 0 F = wz at *
  clear HFN HRG HT6
  go_wp2_with fail
  exact bodyPost_ret (v := .agg F.toArray) (res_cell Try.results31 rfl (run_loadVar_mid wz (D + 1) 0 70 F _ HRZ.out Try.underlying70 rfl (by rw [HFl.out]; exact Try.sz70))) rfl HPO.out
set_option linter.unusedSimpArgs false in
set_option maxRecDepth 100000 in
set_option maxHeartbeats 16000000 in
theorem m_d6l1 (w : World) (b : Nat) (P : Pr) (S : List Nat) (h : PP w b P S) (hsm : PSm P) (a : Option Addr) (n cap : Nat) (pt gs ac tk am : Int) (hp : pt = 0) :
    Calls Try.prog 31 #[.pointer (some ⟨b, 0, none⟩), .agg (opV 6 a n cap 1 pt gs ac tk am).toArray] w (StPost w b S (P.setL 1 (P.led 1) (if 8 ≤ (P.sled 1).length then P.sled 1 else P.sled 1 ++ [P.led 1])) ⟨(if 8 ≤ (P.sled 1).length then 34 else 0), refR 0 (-1), msg0⟩) := by
  have d1 : (pt == 0) = true := by simp [hp]
  have HSM := hide hsm
  obtain ⟨cd, hcd⟩ : ∃ cd : Int, (if 8 ≤ (P.sled 1).length then 34 else 0) = cd := ⟨_, rfl⟩
  obtain ⟨PQ, hPQ⟩ : ∃ PQ : Pr, P.setL 1 (P.led 1) (if 8 ≤ (P.sled 1).length then P.sled 1 else P.sled 1 ++ [P.led 1]) = PQ := ⟨_, rfl⟩
  rw [hcd, hPQ]
  have HCL : Hid (∀ w3, PP w3 b P S → Calls Try.prog 65 #[.pointer (some ⟨b, ledO 1, none⟩)] w3 fun e w' => e = .returned (.int .i64 cd) ∧ PStep w3 b S PQ w') := fun w3 hp3 => by
    obtain ⟨B, hB, up⟩ := hp3.onL 1
    refine (checkL_all w3 b (ledO 1) (P.led 1) (P.sled 1) B hB HSM.out.1).mono ?_
    intro e w' hbs
    rw [hcd] at hbs
    obtain ⟨he, hps⟩ := up _ _ _ _ _ hbs
    rw [hPQ] at hps
    exact ⟨he, hps⟩
  clear hp hsm hcd hPQ
  have HP := hide h
  unfold opV
  have HS0 : Hid (S0 w (((w.alloc (.cells #[.int .i64 6, .slice a n cap, .int .u8 1, .int .i64 pt, .int .u64 gs, .int .u8 ac, .int .u8 tk, .int .u64 am] 33)).alloc (.cells Try.zeroCells70 70)).alloc (.cells (Try.zeroCells70.setIfInBounds 2 (.int .i64 (-1))) 70)) w.heap.size [.int .i64 6, .slice a n cap, .int .u8 1, .int .i64 pt, .int .u64 gs, .int .u8 ac, .int .u8 tk, .int .u64 am]) := s0_start w [.int .i64 6, .slice a n cap, .int .u8 1, .int .i64 pt, .int .u64 gs, .int .u8 ac, .int .u8 tk, .int .u64 am]
  clear h
  go_enter Try.func31, Try.ntmps31
  go_upto_region 3 with fail
  obtain ⟨D, hD⟩ : ∃ D, w.heap.size = D := ⟨_, rfl⟩
  have hD1 : w.heap.size + 1 = D + 1 := by rw [hD]
  simp only [hD] at HS0 ⊢
  simp only [show D + 1 + 1 = D + 2 from rfl] at HS0 ⊢
  have HD := hide hD
  clear hD hD1
  generalize ((w.alloc (.cells #[.int .i64 6, .slice a n cap, .int .u8 1, .int .i64 pt, .int .u64 gs, .int .u8 ac, .int .u8 tk, .int .u64 am] 33)).alloc (.cells Try.zeroCells70 70)).alloc (.cells (Try.zeroCells70.setIfInBounds 2 (.int .i64 (-1))) 70) = w3 at *
  have cl0 := HS0.out.cell (j := 0) rfl
  have cl1 := HS0.out.cell (j := 1) rfl
  have cl2 := HS0.out.cell (j := 2) rfl
  have cl3 := HS0.out.cell (j := 3) rfl
  have cl4 := HS0.out.cell (j := 4) rfl
  have cl5 := HS0.out.cell (j := 5) rfl
  have cl6 := HS0.out.cell (j := 6) rfl
  have cl7 := HS0.out.cell (j := 7) rfl
  have HS1 := hide (s1_of HS0.out HP.out)
  go_upto_region 48 with fail
  go_upto_region 53 with (first | (go_at_call 59; refine (wledger_any _ b 1).mono ?_; rintro e wq ⟨rfl, rfl⟩; simp only []) | (go_at_call 65; refine (HCL.out _ HS1.out.pp).mono ?_; rintro e y ⟨rfl, hps⟩; obtain ⟨S', hs⟩ := HS1.out.step hps; have HYS := hide hs; have c0y : y.cell? ⟨D + 2, 0, none⟩ = some (.int .i64 0) := HYS.out.c0.1; have f0y := HYS.out.c0.2.1; clear hps hs; simp only []))
  have HS3 := hide (HYS.out.code cd)
  generalize y.setCell ⟨D + 2, 0, none⟩ (.int .i64 cd) = y3 at *
  clear cl0 cl1 cl2 cl3 cl4 cl5 cl6 cl7 c0y f0y HYS HS1 HS0 HCL
  obtain ⟨F, hF⟩ : ∃ F, (⟨cd, refR 0 (-1), msg0⟩ : An).vals nilS nilS nilS = F := ⟨_, rfl⟩
  have HFl : Hid (F.length = 112) := by rw [← hF]; exact An.len HS3.out.ok HS3.out.mo _ _ _
  have HF1 : Hid (∀ u ∈ F, u.oneCell' = true) := by rw [← hF]; exact HS3.out.one
  have HRG : Hid (y3.rangeAt (D + 2) 0 F) := by rw [← hF]; exact HS3.out.r2
  have HT6 := hide HS3.out.t1
  have HFN : Hid (∀ y, Ex (fun j => j = D + 1) y3 y → StPost _ _ _ _ _ (.returned (.agg F.toArray)) y) := fun y ex => by rw [← hF]; exact HS3.out.fin ex
  clear hF
  go_upto_region 53 with fail
  go_wp2_with fail
  simp only [Try.isAgg70, Try.sizeOf70, Result.andThen, ↓reduceIte, ldC y3 (D + 2) 0 F 112 HFl.out HRG.out]
  rw [Oper.upon_value]
  go_wp2_with fail
  simp only [Try.sizeOf70, Result.andThen, HFl.out, ↓reduceIte, stC y3 (D + 1) 0 F (by rw [HFl.out]; exact HT6.out) HF1.out]
  rw [Oper.upon_skip]
  have HRZ := hide (World.rangeAt_setCells_same y3 (D + 1) 0 F (by rw [HFl.out]; exact HT6.out))
  have HPO := hide (HFN.out _ (Ex.sets (S := fun j => j = D + 1) rfl F 0 y3 (Ex.refl _ _)))
  generalize y3.setCells (D + 1) 0 F = wz at *
  clear HFN HRG HT6
  go_wp2_with fail
  exact bodyPost_ret (v := .agg F.toArray) (res_cell Try.results31 rfl (run_loadVar_mid wz (D + 1) 0 70 F _ HRZ.out Try.underlying70 rfl (by rw [HFl.out]; exact Try.sz70))) rfl HPO.out
set_option linter.unusedSimpArgs false in
set_option maxRecDepth 100000 in
set_option maxHeartbeats 16000000 in
theorem m_d6b1 (w : World) (b : Nat) (P : Pr) (S : List Nat) (h : PP w b P S) (hsm : PSm P) (a : Option Addr) (n cap : Nat) (pt gs ac tk am : Int) (hp : pt ≠ 0) :
    Calls Try.prog 31 #[.pointer (some ⟨b, 0, none⟩), .agg (opV 6 a n cap 1 pt gs ac tk am).toArray] w (StPost w b S (P.setB 1 (P.box 1) (if 8 ≤ (P.sbox 1).length then P.sbox 1 else P.sbox 1 ++ [P.box 1])) ⟨(if 8 ≤ (P.sbox 1).length then 34 else 0), refR 0 (-1), msg0⟩) := by
  have d1 : (pt == 0) = false := by simp [hp]
  have HSM := hide hsm
  obtain ⟨cd, hcd⟩ : ∃ cd : Int, (if 8 ≤ (P.sbox 1).length then 34 else 0) = cd := ⟨_, rfl⟩
  obtain ⟨PQ, hPQ⟩ : ∃ PQ : Pr, P.setB 1 (P.box 1) (if 8 ≤ (P.sbox 1).length then P.sbox 1 else P.sbox 1 ++ [P.box 1]) = PQ := ⟨_, rfl⟩
  rw [hcd, hPQ]
  have HCL : Hid (∀ w3, PP w3 b P S → Calls Try.prog 66 #[.pointer (some ⟨b, boxO 1, none⟩)] w3 fun e w' => e = .returned (.int .i64 cd) ∧ PStep w3 b S PQ w') := fun w3 hp3 => by
    obtain ⟨B, hB, up⟩ := hp3.onX 1
    refine (checkB_all w3 b (boxO 1) (P.box 1) (P.sbox 1) B hB HSM.out.2.2.1).mono ?_
    intro e w' hbs
    rw [hcd] at hbs
    obtain ⟨he, hps⟩ := up _ _ _ _ _ hbs
    rw [hPQ] at hps
    exact ⟨he, hps⟩
  clear hp hsm hcd hPQ
  have HP := hide h
  unfold opV
  have HS0 : Hid (S0 w (((w.alloc (.cells #[.int .i64 6, .slice a n cap, .int .u8 1, .int .i64 pt, .int .u64 gs, .int .u8 ac, .int .u8 tk, .int .u64 am] 33)).alloc (.cells Try.zeroCells70 70)).alloc (.cells (Try.zeroCells70.setIfInBounds 2 (.int .i64 (-1))) 70)) w.heap.size [.int .i64 6, .slice a n cap, .int .u8 1, .int .i64 pt, .int .u64 gs, .int .u8 ac, .int .u8 tk, .int .u64 am]) := s0_start w [.int .i64 6, .slice a n cap, .int .u8 1, .int .i64 pt, .int .u64 gs, .int .u8 ac, .int .u8 tk, .int .u64 am]
  clear h
  go_enter Try.func31, Try.ntmps31
  go_upto_region 3 with fail
  obtain ⟨D, hD⟩ : ∃ D, w.heap.size = D := ⟨_, rfl⟩
  have hD1 : w.heap.size + 1 = D + 1 := by rw [hD]
  simp only [hD] at HS0 ⊢
  simp only [show D + 1 + 1 = D + 2 from rfl] at HS0 ⊢
  have HD := hide hD
  clear hD hD1
  generalize ((w.alloc (.cells #[.int .i64 6, .slice a n cap, .int .u8 1, .int .i64 pt, .int .u64 gs, .int .u8 ac, .int .u8 tk, .int .u64 am] 33)).alloc (.cells Try.zeroCells70 70)).alloc (.cells (Try.zeroCells70.setIfInBounds 2 (.int .i64 (-1))) 70) = w3 at *
  have cl0 := HS0.out.cell (j := 0) rfl
  have cl1 := HS0.out.cell (j := 1) rfl
  have cl2 := HS0.out.cell (j := 2) rfl
  have cl3 := HS0.out.cell (j := 3) rfl
  have cl4 := HS0.out.cell (j := 4) rfl
  have cl5 := HS0.out.cell (j := 5) rfl
  have cl6 := HS0.out.cell (j := 6) rfl
  have cl7 := HS0.out.cell (j := 7) rfl
  have HS1 := hide (s1_of HS0.out HP.out)
  go_upto_region 50 with fail
  go_upto_region 53 with (first | (go_at_call 36; refine (wbox_any _ b 1).mono ?_; rintro e wq ⟨rfl, rfl⟩; simp only []) | (go_at_call 66; refine (HCL.out _ HS1.out.pp).mono ?_; rintro e y ⟨rfl, hps⟩; obtain ⟨S', hs⟩ := HS1.out.step hps; have HYS := hide hs; have c0y : y.cell? ⟨D + 2, 0, none⟩ = some (.int .i64 0) := HYS.out.c0.1; have f0y := HYS.out.c0.2.1; clear hps hs; simp only []))
  have HS3 := hide (HYS.out.code cd)
  generalize y.setCell ⟨D + 2, 0, none⟩ (.int .i64 cd) = y3 at *
  clear cl0 cl1 cl2 cl3 cl4 cl5 cl6 cl7 c0y f0y HYS HS1 HS0 HCL
  obtain ⟨F, hF⟩ : ∃ F, (⟨cd, refR 0 (-1), msg0⟩ : An).vals nilS nilS nilS = F := ⟨_, rfl⟩
  have HFl : Hid (F.length = 112) := by rw [← hF]; exact An.len HS3.out.ok HS3.out.mo _ _ _
  have HF1 : Hid (∀ u ∈ F, u.oneCell' = true) := by rw [← hF]; exact HS3.out.one
  have HRG : Hid (y3.rangeAt (D + 2) 0 F) := by rw [← hF]; exact HS3.out.r2
  have HT6 := hide HS3.out.t1
  have HFN : Hid (∀ y, Ex (fun j => j = D + 1) y3 y → StPost _ _ _ _ _ (.returned (.agg F.toArray)) y) := fun y ex => by rw [← hF]; exact HS3.out.fin ex
  clear hF
  go_upto_region 53 with fail
  go_wp2_with fail
  simp only [Try.isAgg70, Try.sizeOf70, Result.andThen, ↓reduceIte, ldC y3 (D + 2) 0 F 112 HFl.out HRG.out]
  rw [Oper.upon_value]
  go_wp2_with fail
  simp only [Try.sizeOf70, Result.andThen, HFl.out, ↓reduceIte, stC y3 (D + 1) 0 F (by rw [HFl.out]; exact HT6.out) HF1.out]
  rw [Oper.upon_skip]
  have HRZ := hide (World.rangeAt_setCells_same y3 (D + 1) 0 F (by rw [HFl.out]; exact HT6.out))
  have HPO := hide (HFN.out _ (Ex.sets (S := fun j => j = D + 1) rfl F 0 y3 (Ex.refl _ _)))
  generalize y3.setCells (D + 1) 0 F = wz at *
  clear HFN HRG HT6
  go_wp2_with fail
  exact bodyPost_ret (v := .agg F.toArray) (res_cell Try.results31 rfl (run_loadVar_mid wz (D + 1) 0 70 F _ HRZ.out Try.underlying70 rfl (by rw [HFl.out]; exact Try.sz70))) rfl HPO.out
set_option linter.unusedSimpArgs false in
set_option maxRecDepth 100000 in
set_option maxHeartbeats 16000000 in
theorem m_d6l2 (w : World) (b : Nat) (P : Pr) (S : List Nat) (h : PP w b P S) (hsm : PSm P) (a : Option Addr) (n cap : Nat) (pt gs ac tk am : Int) (hp : pt = 0) :
    Calls Try.prog 31 #[.pointer (some ⟨b, 0, none⟩), .agg (opV 6 a n cap 2 pt gs ac tk am).toArray] w (StPost w b S (P.setL 2 (P.led 2) (if 8 ≤ (P.sled 2).length then P.sled 2 else P.sled 2 ++ [P.led 2])) ⟨(if 8 ≤ (P.sled 2).length then 34 else 0), refR 0 (-1), msg0⟩) := by
  have d1 : (pt == 0) = true := by simp [hp]
  have HSM := hide hsm
  obtain ⟨cd, hcd⟩ : ∃ cd : Int, (if 8 ≤ (P.sled 2).length then 34 else 0) = cd := ⟨_, rfl⟩
  obtain ⟨PQ, hPQ⟩ : ∃ PQ : Pr, P.setL 2 (P.led 2) (if 8 ≤ (P.sled 2).length then P.sled 2 else P.sled 2 ++ [P.led 2]) = PQ := ⟨_, rfl⟩
  rw [hcd, hPQ]
  have HCL : Hid (∀ w3, PP w3 b P S → Calls Try.prog 65 #[.pointer (some ⟨b, ledO 2, none⟩)] w3 fun e w' => e = .returned (.int .i64 cd) ∧ PStep w3 b S PQ w') := fun w3 hp3 => by
    obtain ⟨B, hB, up⟩ := hp3.onL 2
    refine (checkL_all w3 b (ledO 2) (P.led 2) (P.sled 2) B hB HSM.out.2.1).mono ?_
    intro e w' hbs
    rw [hcd] at hbs
    obtain ⟨he, hps⟩ := up _ _ _ _ _ hbs
    rw [hPQ] at hps
    exact ⟨he, hps⟩
  clear hp hsm hcd hPQ
  have HP := hide h
  unfold opV
  have HS0 : Hid (S0 w (((w.alloc (.cells #[.int .i64 6, .slice a n cap, .int .u8 2, .int .i64 pt, .int .u64 gs, .int .u8 ac, .int .u8 tk, .int .u64 am] 33)).alloc (.cells Try.zeroCells70 70)).alloc (.cells (Try.zeroCells70.setIfInBounds 2 (.int .i64 (-1))) 70)) w.heap.size [.int .i64 6, .slice a n cap, .int .u8 2, .int .i64 pt, .int .u64 gs, .int .u8 ac, .int .u8 tk, .int .u64 am]) := s0_start w [.int .i64 6, .slice a n cap, .int .u8 2, .int .i64 pt, .int .u64 gs, .int .u8 ac, .int .u8 tk, .int .u64 am]
  clear h
  go_enter Try.func31, Try.ntmps31
  go_upto_region 3 with fail
  obtain ⟨D, hD⟩ : ∃ D, w.heap.size = D := ⟨_, rfl⟩
  have hD1 : w.heap.size + 1 = D + 1 := by rw [hD]
  simp only [hD] at HS0 ⊢
  simp only [show D + 1 + 1 = D + 2 from rfl] at HS0 ⊢
  have HD := hide hD
  clear hD hD1
  generalize ((w.alloc (.cells #[.int .i64 6, .slice a n cap, .int .u8 2, .int .i64 pt, .int .u64 gs, .int .u8 ac, .int .u8 tk, .int .u64 am] 33)).alloc (.cells Try.zeroCells70 70)).alloc (.cells (Try.zeroCells70.setIfInBounds 2 (.int .i64 (-1))) 70) = w3 at *
  have cl0 := HS0.out.cell (j := 0) rfl
  have cl1 := HS0.out.cell (j := 1) rfl
  have cl2 := HS0.out.cell (j := 2) rfl
  have cl3 := HS0.out.cell (j := 3) rfl
  have cl4 := HS0.out.cell (j := 4) rfl
  have cl5 := HS0.out.cell (j := 5) rfl
  have cl6 := HS0.out.cell (j := 6) rfl
  have cl7 := HS0.out.cell (j := 7) rfl
  have HS1 := hide (s1_of HS0.out HP.out)
  go_upto_region 48 with fail
  go_upto_region 53 with (first | (go_at_call 59; refine (wledger_any _ b 2).mono ?_; rintro e wq ⟨rfl, rfl⟩; simp only []) | (go_at_call 65; refine (HCL.out _ HS1.out.pp).mono ?_; rintro e y ⟨rfl, hps⟩; obtain ⟨S', hs⟩ := HS1.out.step hps; have HYS := hide hs; have c0y : y.cell? ⟨D + 2, 0, none⟩ = some (.int .i64 0) := HYS.out.c0.1; have f0y := HYS.out.c0.2.1; clear hps hs; simp only []))
  have HS3 := hide (HYS.out.code cd)
  generalize y.setCell ⟨D + 2, 0, none⟩ (.int .i64 cd) = y3 at *
  clear cl0 cl1 cl2 cl3 cl4 cl5 cl6 cl7 c0y f0y HYS HS1 HS0 HCL
  obtain ⟨F, hF⟩ : ∃ F, (⟨cd, refR 0 (-1), msg0⟩ : An).vals nilS nilS nilS = F := ⟨_, rfl⟩
  have HFl : Hid (F.length = 112) := by rw [← hF]; exact An.len HS3.out.ok HS3.out.mo _ _ _
  have HF1 : Hid (∀ u ∈ F, u.oneCell' = true) := by rw [← hF]; exact HS3.out.one
  have HRG : Hid (y3.rangeAt (D + 2) 0 F) := by rw [← hF]; exact HS3.out.r2
  have HT6 := hide HS3.out.t1
  have HFN : Hid (∀ y, Ex (fun j => j = D + 1) y3 y → StPost _ _ _ _ _ (.returned (.agg F.toArray)) y) := fun y ex => by rw [← hF]; exact HS3.out.fin ex
  clear hF
  go_upto_region 53 with fail
  go_wp2_with fail
  simp only [Try.isAgg70, Try.sizeOf70, Result.andThen, ↓reduceIte, ldC y3 (D + 2) 0 F 112 HFl.out HRG.out]
  rw [Oper.upon_value]
  go_wp2_with fail
  simp only [Try.sizeOf70, Result.andThen, HFl.out, ↓reduceIte, stC y3 (D + 1) 0 F (by rw [HFl.out]; exact HT6.out) HF1.out]
  rw [Oper.upon_skip]
  have HRZ := hide (World.rangeAt_setCells_same y3 (D + 1) 0 F (by rw [HFl.out]; exact HT6.out))
  have HPO := hide (HFN.out _ (Ex.sets (S := fun j => j = D + 1) rfl F 0 y3 (Ex.refl _ _)))
  generalize y3.setCells (D + 1) 0 F = wz at *
  clear HFN HRG HT6
  go_wp2_with fail
  exact bodyPost_ret (v := .agg F.toArray) (res_cell Try.results31 rfl (run_loadVar_mid wz (D + 1) 0 70 F _ HRZ.out Try.underlying70 rfl (by rw [HFl.out]; exact Try.sz70))) rfl HPO.out
set_option linter.unusedSimpArgs false in
set_option maxRecDepth 100000 in
set_option maxHeartbeats 16000000 in
theorem m_d6b2 (w : World) (b : Nat) (P : Pr) (S : List Nat) (h : PP w b P S) (hsm : PSm P) (a : Option Addr) (n cap : Nat) (pt gs ac tk am : Int) (hp : pt ≠ 0) :
    Calls Try.prog 31 #[.pointer (some ⟨b, 0, none⟩), .agg (opV 6 a n cap 2 pt gs ac tk am).toArray] w (StPost w b S (P.setB 2 (P.box 2) (if 8 ≤ (P.sbox 2).length then P.sbox 2 else P.sbox 2 ++ [P.box 2])) ⟨(if 8 ≤ (P.sbox 2).length then 34 else 0), refR 0 (-1), msg0⟩) := by
  have d1 : (pt == 0) = false := by simp [hp]
  have HSM := hide hsm
  obtain ⟨cd, hcd⟩ : ∃ cd : Int, (if 8 ≤ (P.sbox 2).length then 34 else 0) = cd := ⟨_, rfl⟩
  obtain ⟨PQ, hPQ⟩ : ∃ PQ : Pr, P.setB 2 (P.box 2) (if 8 ≤ (P.sbox 2).length then P.sbox 2 else P.sbox 2 ++ [P.box 2]) = PQ := ⟨_, rfl⟩
  rw [hcd, hPQ]
  have HCL : Hid (∀ w3, PP w3 b P S → Calls Try.prog 66 #[.pointer (some ⟨b, boxO 2, none⟩)] w3 fun e w' => e = .returned (.int .i64 cd) ∧ PStep w3 b S PQ w') := fun w3 hp3 => by
    obtain ⟨B, hB, up⟩ := hp3.onX 2
    refine (checkB_all w3 b (boxO 2) (P.box 2) (P.sbox 2) B hB HSM.out.2.2.2.1).mono ?_
    intro e w' hbs
    rw [hcd] at hbs
    obtain ⟨he, hps⟩ := up _ _ _ _ _ hbs
    rw [hPQ] at hps
    exact ⟨he, hps⟩
  clear hp hsm hcd hPQ
  have HP := hide h
  unfold opV
  have HS0 : Hid (S0 w (((w.alloc (.cells #[.int .i64 6, .slice a n cap, .int .u8 2, .int .i64 pt, .int .u64 gs, .int .u8 ac, .int .u8 tk, .int .u64 am] 33)).alloc (.cells Try.zeroCells70 70)).alloc (.cells (Try.zeroCells70.setIfInBounds 2 (.int .i64 (-1))) 70)) w.heap.size [.int .i64 6, .slice a n cap, .int .u8 2, .int .i64 pt, .int .u64 gs, .int .u8 ac, .int .u8 tk, .int .u64 am]) := s0_start w [.int .i64 6, .slice a n cap, .int .u8 2, .int .i64 pt, .int .u64 gs, .int .u8 ac, .int .u8 tk, .int .u64 am]
  clear h
  go_enter Try.func31, Try.ntmps31
  go_upto_region 3 with fail
  obtain ⟨D, hD⟩ : ∃ D, w.heap.size = D := ⟨_, rfl⟩
  have hD1 : w.heap.size + 1 = D + 1 := by rw [hD]
  simp only [hD] at HS0 ⊢
  simp only [show D + 1 + 1 = D + 2 from rfl] at HS0 ⊢
  have HD := hide hD
  clear hD hD1
  generalize ((w.alloc (.cells #[.int .i64 6, .slice a n cap, .int .u8 2, .int .i64 pt, .int .u64 gs, .int .u8 ac, .int .u8 tk, .int .u64 am] 33)).alloc (.cells Try.zeroCells70 70)).alloc (.cells (Try.zeroCells70.setIfInBounds 2 (.int .i64 (-1))) 70) = w3 at *
  have cl0 := HS0.out.cell (j := 0) rfl
  have cl1 := HS0.out.cell (j := 1) rfl
  have cl2 := HS0.out.cell (j := 2) rfl
  have cl3 := HS0.out.cell (j := 3) rfl
  have cl4 := HS0.out.cell (j := 4) rfl
  have cl5 := HS0.out.cell (j := 5) rfl
  have cl6 := HS0.out.cell (j := 6) rfl
  have cl7 := HS0.out.cell (j := 7) rfl
  have HS1 := hide (s1_of HS0.out HP.out)
  go_upto_region 50 with fail
  go_upto_region 53 with (first | (go_at_call 36; refine (wbox_any _ b 2).mono ?_; rintro e wq ⟨rfl, rfl⟩; simp only []) | (go_at_call 66; refine (HCL.out _ HS1.out.pp).mono ?_; rintro e y ⟨rfl, hps⟩; obtain ⟨S', hs⟩ := HS1.out.step hps; have HYS := hide hs; have c0y : y.cell? ⟨D + 2, 0, none⟩ = some (.int .i64 0) := HYS.out.c0.1; have f0y := HYS.out.c0.2.1; clear hps hs; simp only []))
  have HS3 := hide (HYS.out.code cd)
  generalize y.setCell ⟨D + 2, 0, none⟩ (.int .i64 cd) = y3 at *
  clear cl0 cl1 cl2 cl3 cl4 cl5 cl6 cl7 c0y f0y HYS HS1 HS0 HCL
  obtain ⟨F, hF⟩ : ∃ F, (⟨cd, refR 0 (-1), msg0⟩ : An).vals nilS nilS nilS = F := ⟨_, rfl⟩
  have HFl : Hid (F.length = 112) := by rw [← hF]; exact An.len HS3.out.ok HS3.out.mo _ _ _
  have HF1 : Hid (∀ u ∈ F, u.oneCell' = true) := by rw [← hF]; exact HS3.out.one
  have HRG : Hid (y3.rangeAt (D + 2) 0 F) := by rw [← hF]; exact HS3.out.r2
  have HT6 := hide HS3.out.t1
  have HFN : Hid (∀ y, Ex (fun j => j = D + 1) y3 y → StPost _ _ _ _ _ (.returned (.agg F.toArray)) y) := fun y ex => by rw [← hF]; exact HS3.out.fin ex
  clear hF
  go_upto_region 53 with fail
  go_wp2_with fail
  simp only [Try.isAgg70, Try.sizeOf70, Result.andThen, ↓reduceIte, ldC y3 (D + 2) 0 F 112 HFl.out HRG.out]
  rw [Oper.upon_value]
  go_wp2_with fail
  simp only [Try.sizeOf70, Result.andThen, HFl.out, ↓reduceIte, stC y3 (D + 1) 0 F (by rw [HFl.out]; exact HT6.out) HF1.out]
  rw [Oper.upon_skip]
  have HRZ := hide (World.rangeAt_setCells_same y3 (D + 1) 0 F (by rw [HFl.out]; exact HT6.out))
  have HPO := hide (HFN.out _ (Ex.sets (S := fun j => j = D + 1) rfl F 0 y3 (Ex.refl _ _)))
  generalize y3.setCells (D + 1) 0 F = wz at *
  clear HFN HRG HT6
  go_wp2_with fail
  exact bodyPost_ret (v := .agg F.toArray) (res_cell Try.results31 rfl (run_loadVar_mid wz (D + 1) 0 70 F _ HRZ.out Try.underlying70 rfl (by rw [HFl.out]; exact Try.sz70))) rfl HPO.out
theorem m_d6 (w : World) (b : Nat) (P : Pr) (S : List Nat) (h : PP w b P S) (hsm : PSm P) (a : Option Addr) (n cap : Nat) (ch pt gs ac tk am : Int) :
    Calls Try.prog 31 #[.pointer (some ⟨b, 0, none⟩), .agg (opV 6 a n cap ch pt gs ac tk am).toArray] w (StPost w b S (dpS P 6 ch pt) ⟨dpC P 6 ch pt, refR 0 (-1), msg0⟩) := by
  by_cases hc : ch = 1 ∨ ch = 2
  · unfold dpC dpS
    have hcc : ¬ ¬ (ch = 1 ∨ ch = 2) := fun z => z hc
    rw [if_neg hcc, if_neg hcc, if_pos rfl, if_pos rfl]
    clear hcc
    by_cases hp : pt = 0
    · rw [if_pos hp, if_pos hp, ← setL_dp]
      rcases hc with rfl | rfl
      · exact m_d6l1 w b P S h hsm a n cap pt gs ac tk am hp
      · exact m_d6l2 w b P S h hsm a n cap pt gs ac tk am hp
    · rw [if_neg hp, if_neg hp, ← setB_dp P hc]
      rcases hc with rfl | rfl
      · exact m_d6b1 w b P S h hsm a n cap pt gs ac tk am hp
      · exact m_d6b2 w b P S h hsm a n cap pt gs ac tk am hp
  · unfold dpC dpS
    rw [if_pos hc, if_pos hc]
    exact m_d6x w b P S h a n cap ch pt gs ac tk am hc
set_option linter.unusedSimpArgs false in
set_option maxRecDepth 100000 in
set_option maxHeartbeats 16000000 in
theorem m_d7x (w : World) (b : Nat) (P : Pr) (S : List Nat) (h : PP w b P S) (a : Option Addr) (n cap : Nat) (ch pt gs ac tk am : Int) (hc : ¬ (ch = 1 ∨ ch = 2)) :
    Calls Try.prog 31 #[.pointer (some ⟨b, 0, none⟩), .agg (opV 7 a n cap ch pt gs ac tk am).toArray] w (StPost w b S P ⟨39, refR 0 (-1), msg0⟩) := by
  have d1 : (ch != 1) = true := by simp; exact fun e => hc (.inl e)
  have d2 : (ch != 2) = true := by simp; exact fun e => hc (.inr e)
  clear hc
  have HP := hide h
  unfold opV
  have HS0 : Hid (S0 w (((w.alloc (.cells #[.int .i64 7, .slice a n cap, .int .u8 ch, .int .i64 pt, .int .u64 gs, .int .u8 ac, .int .u8 tk, .int .u64 am] 33)).alloc (.cells Try.zeroCells70 70)).alloc (.cells (Try.zeroCells70.setIfInBounds 2 (.int .i64 (-1))) 70)) w.heap.size [.int .i64 7, .slice a n cap, .int .u8 ch, .int .i64 pt, .int .u64 gs, .int .u8 ac, .int .u8 tk, .int .u64 am]) := s0_start w [.int .i64 7, .slice a n cap, .int .u8 ch, .int .i64 pt, .int .u64 gs, .int .u8 ac, .int .u8 tk, .int .u64 am]
  clear h
  go_enter Try.func31, Try.ntmps31
  go_upto_region 3 with fail
  obtain ⟨D, hD⟩ : ∃ D, w.heap.size = D := ⟨_, rfl⟩
  have hD1 : w.heap.size + 1 = D + 1 := by rw [hD]
  simp only [hD] at HS0 ⊢
  simp only [show D + 1 + 1 = D + 2 from rfl] at HS0 ⊢
  have HD := hide hD
  clear hD hD1
  generalize ((w.alloc (.cells #[.int .i64 7, .slice a n cap, .int .u8 ch, .int .i64 pt, .int .u64 gs, .int .u8 ac, .int .u8 tk, .int .u64 am] 33)).alloc (.cells Try.zeroCells70 70)).alloc (.cells (Try.zeroCells70.setIfInBounds 2 (.int .i64 (-1))) 70) = w3 at *
  have cl0 := HS0.out.cell (j := 0) rfl
  have cl1 := HS0.out.cell (j := 1) rfl
  have cl2 := HS0.out.cell (j := 2) rfl
  have cl3 := HS0.out.cell (j := 3) rfl
  have cl4 := HS0.out.cell (j := 4) rfl
  have cl5 := HS0.out.cell (j := 5) rfl
  have cl6 := HS0.out.cell (j := 6) rfl
  have cl7 := HS0.out.cell (j := 7) rfl
  have HS1 := hide (s1_of HS0.out HP.out)
  obtain ⟨c0, f0, -, -, -⟩ := HS1.out.c0
  have c0' : w3.cell? ⟨D + 2, 0, none⟩ = some (.int .i64 0) := c0
  clear c0
  go_upto_region 53 with fail
  have HS2 := hide (HS1.out.code 39)
  generalize w3.setCell ⟨D + 2, 0, none⟩ (.int .i64 39) = x at *
  clear cl0 cl1 cl2 cl3 cl4 cl5 cl6 cl7 c0' f0 HS1 HS0
  obtain ⟨F, hF⟩ : ∃ F, (⟨39, refR 0 (-1), msg0⟩ : An).vals nilS nilS nilS = F := ⟨_, rfl⟩
  have HFl : Hid (F.length = 112) := by rw [← hF]; exact An.len HS2.out.ok HS2.out.mo _ _ _
  have HF1 : Hid (∀ u ∈ F, u.oneCell' = true) := by rw [← hF]; exact HS2.out.one
  have HRG : Hid (x.rangeAt (D + 2) 0 F) := by rw [← hF]; exact HS2.out.r2
  have HT6 := hide HS2.out.t1
  have HFN : Hid (∀ y, Ex (fun j => j = D + 1) x y → StPost _ _ _ _ _ (.returned (.agg F.toArray)) y) := fun y ex => by rw [← hF]; exact HS2.out.fin ex
  clear hF
  go_upto_region 53 with fail
  go_wp2_with fail
  simp only [Try.isAgg70, Try.sizeOf70, Result.andThen, ↓reduceIte, ldC x (D + 2) 0 F 112 HFl.out HRG.out]
  rw [Oper.upon_value]
  go_wp2_with fail
  simp only [Try.sizeOf70, Result.andThen, HFl.out, ↓reduceIte, stC x (D + 1) 0 F (by rw [HFl.out]; exact HT6.out) HF1.out]
  rw [Oper.upon_skip]
  have HRZ := hide (World.rangeAt_setCells_same x (D + 1) 0 F (by rw [HFl.out]; exact HT6.out))
  have HPO := hide (HFN.out _ (Ex.sets (S := fun j => j = D + 1) rfl F 0 x (Ex.refl _ _)))
  generalize x.setCells (D + 1) 0 F = wz at *
  clear HFN HRG HT6
  go_wp2_with fail
  exact bodyPost_ret (v := .agg F.toArray) (res_cell Try.results31 rfl (run_loadVar_mid wz (D + 1) 0 70 F _ HRZ.out Try.underlying70 rfl (by rw [HFl.out]; exact Try.sz70))) rfl HPO.out
set_option linter.unusedSimpArgs false in
set_option maxRecDepth 100000 in
set_option maxHeartbeats 16000000 in
theorem m_d7l1 (w : World) (b : Nat) (P : Pr) (S : List Nat) (h : PP w b P S) (hsm : PSm P) (a : Option Addr) (n cap : Nat) (pt gs ac tk am : Int) (hp : pt = 0) :
    Calls Try.prog 31 #[.pointer (some ⟨b, 0, none⟩), .agg (opV 7 a n cap 1 pt gs ac tk am).toArray] w (StPost w b S (P.setL 1 (P.led 1) (P.sled 1).dropLast) ⟨(if P.sled 1 = [] then 35 else 0), refR 0 (-1), msg0⟩) := by
  have d1 : (pt == 0) = true := by simp [hp]
  have HSM := hide hsm
  obtain ⟨cd, hcd⟩ : ∃ cd : Int, (if P.sled 1 = [] then 35 else 0) = cd := ⟨_, rfl⟩
  obtain ⟨PQ, hPQ⟩ : ∃ PQ : Pr, P.setL 1 (P.led 1) (P.sled 1).dropLast = PQ := ⟨_, rfl⟩
  rw [hcd, hPQ]
  have HCL : Hid (∀ w3, PP w3 b P S → Calls Try.prog 67 #[.pointer (some ⟨b, ledO 1, none⟩)] w3 fun e w' => e = .returned (.int .i64 cd) ∧ PStep w3 b S PQ w') := fun w3 hp3 => by
    obtain ⟨B, hB, up⟩ := hp3.onL 1
    refine (commitL_all w3 b (ledO 1) (P.led 1) (P.sled 1) B hB HSM.out.1.2.2).mono ?_
    intro e w' hbs
    rw [hcd] at hbs
    obtain ⟨he, hps⟩ := up _ _ _ _ _ hbs
    rw [hPQ] at hps
    exact ⟨he, hps⟩
  clear hp hsm hcd hPQ
  have HP := hide h
  unfold opV
  have HS0 : Hid (S0 w (((w.alloc (.cells #[.int .i64 7, .slice a n cap, .int .u8 1, .int .i64 pt, .int .u64 gs, .int .u8 ac, .int .u8 tk, .int .u64 am] 33)).alloc (.cells Try.zeroCells70 70)).alloc (.cells (Try.zeroCells70.setIfInBounds 2 (.int .i64 (-1))) 70)) w.heap.size [.int .i64 7, .slice a n cap, .int .u8 1, .int .i64 pt, .int .u64 gs, .int .u8 ac, .int .u8 tk, .int .u64 am]) := s0_start w [.int .i64 7, .slice a n cap, .int .u8 1, .int .i64 pt, .int .u64 gs, .int .u8 ac, .int .u8 tk, .int .u64 am]
  clear h
  go_enter Try.func31, Try.ntmps31
  go_upto_region 3 with fail
  obtain ⟨D, hD⟩ : ∃ D, w.heap.size = D := ⟨_, rfl⟩
  have hD1 : w.heap.size + 1 = D + 1 := by rw [hD]
  simp only [hD] at HS0 ⊢
  simp only [show D + 1 + 1 = D + 2 from rfl] at HS0 ⊢
  have HD := hide hD
  clear hD hD1
  generalize ((w.alloc (.cells #[.int .i64 7, .slice a n cap, .int .u8 1, .int .i64 pt, .int .u64 gs, .int .u8 ac, .int .u8 tk, .int .u64 am] 33)).alloc (.cells Try.zeroCells70 70)).alloc (.cells (Try.zeroCells70.setIfInBounds 2 (.int .i64 (-1))) 70) = w3 at *
  have cl0 := HS0.out.cell (j := 0) rfl
  have cl1 := HS0.out.cell (j := 1) rfl
  have cl2 := HS0.out.cell (j := 2) rfl
  have cl3 := HS0.out.cell (j := 3) rfl
  have cl4 := HS0.out.cell (j := 4) rfl
  have cl5 := HS0.out.cell (j := 5) rfl
  have cl6 := HS0.out.cell (j := 6) rfl
  have cl7 := HS0.out.cell (j := 7) rfl
  have HS1 := hide (s1_of HS0.out HP.out)
  go_upto_region 52 with fail
  go_upto_region 53 with (first | (go_at_call 59; refine (wledger_any _ b 1).mono ?_; rintro e wq ⟨rfl, rfl⟩; simp only []) | (go_at_call 67; refine (HCL.out _ HS1.out.pp).mono ?_; rintro e y ⟨rfl, hps⟩; obtain ⟨S', hs⟩ := HS1.out.step hps; have HYS := hide hs; have c0y : y.cell? ⟨D + 2, 0, none⟩ = some (.int .i64 0) := HYS.out.c0.1; have f0y := HYS.out.c0.2.1; clear hps hs; simp only []))
  have HS3 := hide (HYS.out.code cd)
  generalize y.setCell ⟨D + 2, 0, none⟩ (.int .i64 cd) = y3 at *
  clear cl0 cl1 cl2 cl3 cl4 cl5 cl6 cl7 c0y f0y HYS HS1 HS0 HCL
  obtain ⟨F, hF⟩ : ∃ F, (⟨cd, refR 0 (-1), msg0⟩ : An).vals nilS nilS nilS = F := ⟨_, rfl⟩
  have HFl : Hid (F.length = 112) := by rw [← hF]; exact An.len HS3.out.ok HS3.out.mo _ _ _
  have HF1 : Hid (∀ u ∈ F, u.oneCell' = true) := by rw [← hF]; exact HS3.out.one
  have HRG : Hid (y3.rangeAt (D + 2) 0 F) := by rw [← hF]; exact HS3.out.r2
  have HT6 := hide HS3.out.t1
  have HFN : Hid (∀ y, Ex (fun j => j = D + 1) y3 y → StPost _ _ _ _ _ (.returned (.agg F.toArray)) y) := fun y ex => by rw [← hF]; exact HS3.out.fin ex
  clear hF
  go_upto_region 53 with fail
  go_wp2_with fail
  simp only [Try.isAgg70, Try.sizeOf70, Result.andThen, ↓reduceIte, ldC y3 (D + 2) 0 F 112 HFl.out HRG.out]
  rw [Oper.upon_value]
  go_wp2_with fail
  simp only [Try.sizeOf70, Result.andThen, HFl.out, ↓reduceIte, stC y3 (D + 1) 0 F (by rw [HFl.out]; exact HT6.out) HF1.out]
  rw [Oper.upon_skip]
  have HRZ := hide (World.rangeAt_setCells_same y3 (D + 1) 0 F (by rw [HFl.out]; exact HT6.out))
  have HPO := hide (HFN.out _ (Ex.sets (S := fun j => j = D + 1) rfl F 0 y3 (Ex.refl _ _)))
  generalize y3.setCells (D + 1) 0 F = wz at *
  clear HFN HRG HT6
  go_wp2_with fail
  exact bodyPost_ret (v := .agg F.toArray) (res_cell Try.results31 rfl (run_loadVar_mid wz (D + 1) 0 70 F _ HRZ.out Try.underlying70 rfl (by rw [HFl.out]; exact Try.sz70))) rfl HPO.out
set_option linter.unusedSimpArgs false in
set_option maxRecDepth 100000 in
set_option maxHeartbeats 16000000 in
theorem m_d7b1 (w : World) (b : Nat) (P : Pr) (S : List Nat) (h : PP w b P S) (hsm : PSm P) (a : Option Addr) (n cap : Nat) (pt gs ac tk am : Int) (hp : pt ≠ 0) :
    Calls Try.prog 31 #[.pointer (some ⟨b, 0, none⟩), .agg (opV 7 a n cap 1 pt gs ac tk am).toArray] w (StPost w b S (P.setB 1 (P.box 1) (P.sbox 1).dropLast) ⟨(if P.sbox 1 = [] then 35 else 0), refR 0 (-1), msg0⟩) := by
  have d1 : (pt == 0) = false := by simp [hp]
  have HSM := hide hsm
  obtain ⟨cd, hcd⟩ : ∃ cd : Int, (if P.sbox 1 = [] then 35 else 0) = cd := ⟨_, rfl⟩
  obtain ⟨PQ, hPQ⟩ : ∃ PQ : Pr, P.setB 1 (P.box 1) (P.sbox 1).dropLast = PQ := ⟨_, rfl⟩
  rw [hcd, hPQ]
  have HCL : Hid (∀ w3, PP w3 b P S → Calls Try.prog 68 #[.pointer (some ⟨b, boxO 1, none⟩)] w3 fun e w' => e = .returned (.int .i64 cd) ∧ PStep w3 b S PQ w') := fun w3 hp3 => by
    obtain ⟨B, hB, up⟩ := hp3.onX 1
    refine (commitB_all w3 b (boxO 1) (P.box 1) (P.sbox 1) B hB HSM.out.2.2.1.2.2).mono ?_
    intro e w' hbs
    rw [hcd] at hbs
    obtain ⟨he, hps⟩ := up _ _ _ _ _ hbs
    rw [hPQ] at hps
    exact ⟨he, hps⟩
  clear hp hsm hcd hPQ
  have HP := hide h
  unfold opV
  have HS0 : Hid (S0 w (((w.alloc (.cells #[.int .i64 7, .slice a n cap, .int .u8 1, .int .i64 pt, .int .u64 gs, .int .u8 ac, .int .u8 tk, .int .u64 am] 33)).alloc (.cells Try.zeroCells70 70)).alloc (.cells (Try.zeroCells70.setIfInBounds 2 (.int .i64 (-1))) 70)) w.heap.size [.int .i64 7, .slice a n cap, .int .u8 1, .int .i64 pt, .int .u64 gs, .int .u8 ac, .int .u8 tk, .int .u64 am]) := s0_start w [.int .i64 7, .slice a n cap, .int .u8 1, .int .i64 pt, .int .u64 gs, .int .u8 ac, .int .u8 tk, .int .u64 am]
  clear h
  go_enter Try.func31, Try.ntmps31
  go_upto_region 3 with fail
  obtain ⟨D, hD⟩ : ∃ D, w.heap.size = D := ⟨_, rfl⟩
  have hD1 : w.heap.size + 1 = D + 1 := by rw [hD]
  simp only [hD] at HS0 ⊢
  simp only [show D + 1 + 1 = D + 2 from rfl] at HS0 ⊢
  have HD := hide hD
  clear hD hD1
  generalize ((w.alloc (.cells #[.int .i64 7, .slice a n cap, .int .u8 1, .int .i64 pt, .int .u64 gs, .int .u8 ac, .int .u8 tk, .int .u64 am] 33)).alloc (.cells Try.zeroCells70 70)).alloc (.cells (Try.zeroCells70.setIfInBounds 2 (.int .i64 (-1))) 70) = w3 at *
  have cl0 := HS0.out.cell (j := 0) rfl
  have cl1 := HS0.out.cell (j := 1) rfl
  have cl2 := HS0.out.cell (j := 2) rfl
  have cl3 := HS0.out.cell (j := 3) rfl
  have cl4 := HS0.out.cell (j := 4) rfl
  have cl5 := HS0.out.cell (j := 5) rfl
  have cl6 := HS0.out.cell (j := 6) rfl
  have cl7 := HS0.out.cell (j := 7) rfl
  have HS1 := hide (s1_of HS0.out HP.out)
  go_upto_region 44 with fail
  go_upto_region 53 with (first | (go_at_call 36; refine (wbox_any _ b 1).mono ?_; rintro e wq ⟨rfl, rfl⟩; simp only []) | (go_at_call 68; refine (HCL.out _ HS1.out.pp).mono ?_; rintro e y ⟨rfl, hps⟩; obtain ⟨S', hs⟩ := HS1.out.step hps; have HYS := hide hs; have c0y : y.cell? ⟨D + 2, 0, none⟩ = some (.int .i64 0) := HYS.out.c0.1; have f0y := HYS.out.c0.2.1; clear hps hs; simp only []))
  have HS3 := hide (HYS.out.code cd)
  generalize y.setCell ⟨D + 2, 0, none⟩ (.int .i64 cd) = y3 at *
  clear cl0 cl1 cl2 cl3 cl4 cl5 cl6 cl7 c0y f0y HYS HS1 HS0 HCL
  obtain ⟨F, hF⟩ : ∃ F, (⟨cd, refR 0 (-1), msg0⟩ : An).vals nilS nilS nilS = F := ⟨_, rfl⟩
  have HFl : Hid (F.length = 112) := by rw [← hF]; exact An.len HS3.out.ok HS3.out.mo _ _ _
  have HF1 : Hid (∀ u ∈ F, u.oneCell' = true) := by rw [← hF]; exact HS3.out.one
  have HRG : Hid (y3.rangeAt (D + 2) 0 F) := by rw [← hF]; exact HS3.out.r2
  have HT6 := hide HS3.out.t1
  have HFN : Hid (∀ y, Ex (fun j => j = D + 1) y3 y → StPost _ _ _ _ _ (.returned (.agg F.toArray)) y) := fun y ex => by rw [← hF]; exact HS3.out.fin ex
  clear hF
  go_upto_region 53 with fail
  go_wp2_with fail
  simp only [Try.isAgg70, Try.sizeOf70, Result.andThen, ↓reduceIte, ldC y3 (D + 2) 0 F 112 HFl.out HRG.out]
  rw [Oper.upon_value]
  go_wp2_with fail
  simp only [Try.sizeOf70, Result.andThen, HFl.out, ↓reduceIte, stC y3 (D + 1) 0 F (by rw [HFl.out]; exact HT6.out) HF1.out]
  rw [Oper.upon_skip]
  have HRZ := hide (World.rangeAt_setCells_same y3 (D + 1) 0 F (by rw [HFl.out]; exact HT6.out))
  have HPO := hide (HFN.out _ (Ex.sets (S := fun j => j = D + 1) rfl F 0 y3 (Ex.refl _ _)))
  generalize y3.setCells (D + 1) 0 F = wz at *
  clear HFN HRG HT6
  go_wp2_with fail
  exact bodyPost_ret (v := .agg F.toArray) (res_cell Try.results31 rfl (run_loadVar_mid wz (D + 1) 0 70 F _ HRZ.out Try.underlying70 rfl (by rw [HFl.out]; exact Try.sz70))) rfl HPO.out
set_option linter.unusedSimpArgs false in
set_option maxRecDepth 100000 in
set_option maxHeartbeats 16000000 in
theorem m_d7l2 (w : World) (b : Nat) (P : Pr) (S : List Nat) (h : PP w b P S) (hsm : PSm P) (a : Option Addr) (n cap : Nat) (pt gs ac tk am : Int) (hp : pt = 0) :
    Calls Try.prog 31 #[.pointer (some ⟨b, 0, none⟩), .agg (opV 7 a n cap 2 pt gs ac tk am).toArray] w (StPost w b S (P.setL 2 (P.led 2) (P.sled 2).dropLast) ⟨(if P.sled 2 = [] then 35 else 0), refR 0 (-1), msg0⟩) := by
  have d1 : (pt == 0) = true := by simp [hp]
  have HSM := hide hsm
  obtain ⟨cd, hcd⟩ : ∃ cd : Int, (if P.sled 2 = [] then 35 else 0) = cd := ⟨_, rfl⟩
  obtain ⟨PQ, hPQ⟩ : ∃ PQ : Pr, P.setL 2 (P.led 2) (P.sled 2).dropLast = PQ := ⟨_, rfl⟩
  rw [hcd, hPQ]
  have HCL : Hid (∀ w3, PP w3 b P S → Calls Try.prog 67 #[.pointer (some ⟨b, ledO 2, none⟩)] w3 fun e w' => e = .returned (.int .i64 cd) ∧ PStep w3 b S PQ w') := fun w3 hp3 => by
    obtain ⟨B, hB, up⟩ := hp3.onL 2
    refine (commitL_all w3 b (ledO 2) (P.led 2) (P.sled 2) B hB HSM.out.2.1.2.2).mono ?_
    intro e w' hbs
    rw [hcd] at hbs
    obtain ⟨he, hps⟩ := up _ _ _ _ _ hbs
    rw [hPQ] at hps
    exact ⟨he, hps⟩
  clear hp hsm hcd hPQ
  have HP := hide h
  unfold opV
  have HS0 : Hid (S0 w (((w.alloc (.cells #[.int .i64 7, .slice a n cap, .int .u8 2, .int .i64 pt, .int .u64 gs, .int .u8 ac, .int .u8 tk, .int .u64 am] 33)).alloc (.cells Try.zeroCells70 70)).alloc (.cells (Try.zeroCells70.setIfInBounds 2 (.int .i64 (-1))) 70)) w.heap.size [.int .i64 7, .slice a n cap, .int .u8 2, .int .i64 pt, .int .u64 gs, .int .u8 ac, .int .u8 tk, .int .u64 am]) := s0_start w [.int .i64 7, .slice a n cap, .int .u8 2, .int .i64 pt, .int .u64 gs, .int .u8 ac, .int .u8 tk, .int .u64 am]
  clear h
  go_enter Try.func31, Try.ntmps31
  go_upto_region 3 with fail
  obtain ⟨D, hD⟩ : ∃ D, w.heap.size = D := ⟨_, rfl⟩
  have hD1 : w.heap.size + 1 = D + 1 := by rw [hD]
  simp only [hD] at HS0 ⊢
  simp only [show D + 1 + 1 = D + 2 from rfl] at HS0 ⊢
  have HD := hide hD
  clear hD hD1
  generalize ((w.alloc (.cells #[.int .i64 7, .slice a n cap, .int .u8 2, .int .i64 pt, .int .u64 gs, .int .u8 ac, .int .u8 tk, .int .u64 am] 33)).alloc (.cells Try.zeroCells70 70)).alloc (.cells (Try.zeroCells70.setIfInBounds 2 (.int .i64 (-1))) 70) = w3 at *
  have cl0 := HS0.out.cell (j := 0) rfl
  have cl1 := HS0.out.cell (j := 1) rfl
  have cl2 := HS0.out.cell (j := 2) rfl
  have cl3 := HS0.out.cell (j := 3) rfl
  have cl4 := HS0.out.cell (j := 4) rfl
  have cl5 := HS0.out.cell (j := 5) rfl
  have cl6 := HS0.out.cell (j := 6) rfl
  have cl7 := HS0.out.cell (j := 7) rfl
  have HS1 := hide (s1_of HS0.out HP.out)
  go_upto_region 52 with fail
  go_upto_region 53 with (first | (go_at_call 59; refine (wledger_any _ b 2).mono ?_; rintro e wq ⟨rfl, rfl⟩; simp only []) | (go_at_call 67; refine (HCL.out _ HS1.out.pp).mono ?_; rintro e y ⟨rfl, hps⟩; obtain ⟨S', hs⟩ := HS1.out.step hps; have HYS := hide hs; have c0y : y.cell? ⟨D + 2, 0, none⟩ = some (.int .i64 0) := HYS.out.c0.1; have f0y := HYS.out.c0.2.1; clear hps hs; simp only []))
  have HS3 := hide (HYS.out.code cd)
  generalize y.setCell ⟨D + 2, 0, none⟩ (.int .i64 cd) = y3 at *
  clear cl0 cl1 cl2 cl3 cl4 cl5 cl6 cl7 c0y f0y HYS HS1 HS0 HCL
  obtain ⟨F, hF⟩ : ∃ F, (⟨cd, refR 0 (-1), msg0⟩ : An).vals nilS nilS nilS = F := ⟨_, rfl⟩
  have HFl : Hid (F.length = 112) := by rw [← hF]; exact An.len HS3.out.ok HS3.out.mo _ _ _
  have HF1 : Hid (∀ u ∈ F, u.oneCell' = true) := by rw [← hF]; exact HS3.out.one
  have HRG : Hid (y3.rangeAt (D + 2) 0 F) := by rw [← hF]; exact HS3.out.r2
  have HT6 := hide HS3.out.t1
  have HFN : Hid (∀ y, Ex (fun j => j = D + 1) y3 y → StPost _ _ _ _ _ (.returned (.agg F.toArray)) y) := fun y ex => by rw [← hF]; exact HS3.out.fin ex
  clear hF
  go_upto_region 53 with fail
  go_wp2_with fail
  simp only [Try.isAgg70, Try.sizeOf70, Result.andThen, ↓reduceIte, ldC y3 (D + 2) 0 F 112 HFl.out HRG.out]
  rw [Oper.upon_value]
  go_wp2_with fail
  simp only [Try.sizeOf70, Result.andThen, HFl.out, ↓reduceIte, stC y3 (D + 1) 0 F (by rw [HFl.out]; exact HT6.out) HF1.out]
  rw [Oper.upon_skip]
  have HRZ := hide (World.rangeAt_setCells_same y3 (D + 1) 0 F (by rw [HFl.out]; exact HT6.out))
  have HPO := hide (HFN.out _ (Ex.sets (S := fun j => j = D + 1) rfl F 0 y3 (Ex.refl _ _)))
  generalize y3.setCells (D + 1) 0 F = wz at *
  clear HFN HRG HT6
  go_wp2_with fail
  exact bodyPost_ret (v := .agg F.toArray) (res_cell Try.results31 rfl (run_loadVar_mid wz (D + 1) 0 70 F _ HRZ.out Try.underlying70 rfl (by rw [HFl.out]; exact Try.sz70))) rfl HPO.out
set_option linter.unusedSimpArgs false in
set_option maxRecDepth 100000 in
set_option maxHeartbeats 16000000 in
theorem m_d7b2 (w : World) (b : Nat) (P : Pr) (S : List Nat) (h : PP w b P S) (hsm : PSm P) (a : Option Addr) (n cap : Nat) (pt gs ac tk am : Int) (hp : pt ≠ 0) :
    Calls Try.prog 31 #[.pointer (some ⟨b, 0, none⟩), .agg (opV 7 a n cap 2 pt gs ac tk am).toArray] w (StPost w b S (P.setB 2 (P.box 2) (P.sbox 2).dropLast) ⟨(if P.sbox 2 = [] then 35 else 0), refR 0 (-1), msg0⟩) := by
  have d1 : (pt == 0) = false := by simp [hp]
  have HSM := hide hsm
  obtain ⟨cd, hcd⟩ : ∃ cd : Int, (if P.sbox 2 = [] then 35 else 0) = cd := ⟨_, rfl⟩
  obtain ⟨PQ, hPQ⟩ : ∃ PQ : Pr, P.setB 2 (P.box 2) (P.sbox 2).dropLast = PQ := ⟨_, rfl⟩
  rw [hcd, hPQ]
  have HCL : Hid (∀ w3, PP w3 b P S → Calls Try.prog 68 #[.pointer (some ⟨b, boxO 2, none⟩)] w3 fun e w' => e = .returned (.int .i64 cd) ∧ PStep w3 b S PQ w') := fun w3 hp3 => by
    obtain ⟨B, hB, up⟩ := hp3.onX 2
    refine (commitB_all w3 b (boxO 2) (P.box 2) (P.sbox 2) B hB HSM.out.2.2.2.1.2.2).mono ?_
    intro e w' hbs
    rw [hcd] at hbs
    obtain ⟨he, hps⟩ := up _ _ _ _ _ hbs
    rw [hPQ] at hps
    exact ⟨he, hps⟩
  clear hp hsm hcd hPQ
  have HP := hide h
  unfold opV
  have HS0 : Hid (S0 w (((w.alloc (.cells #[.int .i64 7, .slice a n cap, .int .u8 2, .int .i64 pt, .int .u64 gs, .int .u8 ac, .int .u8 tk, .int .u64 am] 33)).alloc (.cells Try.zeroCells70 70)).alloc (.cells (Try.zeroCells70.setIfInBounds 2 (.int .i64 (-1))) 70)) w.heap.size [.int .i64 7, .slice a n cap, .int .u8 2, .int .i64 pt, .int .u64 gs, .int .u8 ac, .int .u8 tk, .int .u64 am]) := s0_start w [.int .i64 7, .slice a n cap, .int .u8 2, .int .i64 pt, .int .u64 gs, .int .u8 ac, .int .u8 tk, .int .u64 am]
  clear h
  go_enter Try.func31, Try.ntmps31
  go_upto_region 3 with fail
  obtain ⟨D, hD⟩ : ∃ D, w.heap.size = D := ⟨_, rfl⟩
  have hD1 : w.heap.size + 1 = D + 1 := by rw [hD]
  simp only [hD] at HS0 ⊢
  simp only [show D + 1 + 1 = D + 2 from rfl] at HS0 ⊢
  have HD := hide hD
  clear hD hD1
  generalize ((w.alloc (.cells #[.int .i64 7, .slice a n cap, .int .u8 2, .int .i64 pt, .int .u64 gs, .int .u8 ac, .int .u8 tk, .int .u64 am] 33)).alloc (.cells Try.zeroCells70 70)).alloc (.cells (Try.zeroCells70.setIfInBounds 2 (.int .i64 (-1))) 70) = w3 at *
  have cl0 := HS0.out.cell (j := 0) rfl
  have cl1 := HS0.out.cell (j := 1) rfl
  have cl2 := HS0.out.cell (j := 2) rfl
  have cl3 := HS0.out.cell (j := 3) rfl
  have cl4 := HS0.out.cell (j := 4) rfl
  have cl5 := HS0.out.cell (j := 5) rfl
  have cl6 := HS0.out.cell (j := 6) rfl
  have cl7 := HS0.out.cell (j := 7) rfl
  have HS1 := hide (s1_of HS0.out HP.out)
  go_upto_region 44 with fail
  go_upto_region 53 with (first | (go_at_call 36; refine (wbox_any _ b 2).mono ?_; rintro e wq ⟨rfl, rfl⟩; simp only []) | (go_at_call 68; refine (HCL.out _ HS1.out.pp).mono ?_; rintro e y ⟨rfl, hps⟩; obtain ⟨S', hs⟩ := HS1.out.step hps; have HYS := hide hs; have c0y : y.cell? ⟨D + 2, 0, none⟩ = some (.int .i64 0) := HYS.out.c0.1; have f0y := HYS.out.c0.2.1; clear hps hs; simp only []))
  have HS3 := hide (HYS.out.code cd)
  generalize y.setCell ⟨D + 2, 0, none⟩ (.int .i64 cd) = y3 at *
  clear cl0 cl1 cl2 cl3 cl4 cl5 cl6 cl7 c0y f0y HYS HS1 HS0 HCL
  obtain ⟨F, hF⟩ : ∃ F, (⟨cd, refR 0 (-1), msg0⟩ : An).vals nilS nilS nilS = F := ⟨_, rfl⟩
  have HFl : Hid (F.length = 112) := by rw [← hF]; exact An.len HS3.out.ok HS3.out.mo _ _ _
  have HF1 : Hid (∀ u ∈ F, u.oneCell' = true) := by rw [← hF]; exact HS3.out.one
  have HRG : Hid (y3.rangeAt (D + 2) 0 F) := by rw [← hF]; exact HS3.out.r2
  have HT6 := hide HS3.out.t1
  have HFN : Hid (∀ y, Ex (fun j => j = D + 1) y3 y → StPost _ _ _ _ _ (.returned (.agg F.toArray)) y) := fun y ex => by rw [← hF]; exact HS3.out.fin ex
  clear hF
  go_upto_region 53 with fail
  go_wp2_with fail
  simp only [Try.isAgg70, Try.sizeOf70, Result.andThen, ↓reduceIte, ldC y3 (D + 2) 0 F 112 HFl.out HRG.out]
  rw [Oper.upon_value]
  go_wp2_with fail
  simp only [Try.sizeOf70, Result.andThen, HFl.out, ↓reduceIte, stC y3 (D + 1) 0 F (by rw [HFl.out]; exact HT6.out) HF1.out]
  rw [Oper.upon_skip]
  have HRZ := hide (World.rangeAt_setCells_same y3 (D + 1) 0 F (by rw [HFl.out]; exact HT6.out))
  have HPO := hide (HFN.out _ (Ex.sets (S := fun j => j = D + 1) rfl F 0 y3 (Ex.refl _ _)))
  generalize y3.setCells (D + 1) 0 F = wz at *
  clear HFN HRG HT6
  go_wp2_with fail
  exact bodyPost_ret (v := .agg F.toArray) (res_cell Try.results31 rfl (run_loadVar_mid wz (D + 1) 0 70 F _ HRZ.out Try.underlying70 rfl (by rw [HFl.out]; exact Try.sz70))) rfl HPO.out
theorem m_d7 (w : World) (b : Nat) (P : Pr) (S : List Nat) (h : PP w b P S) (hsm : PSm P) (a : Option Addr) (n cap : Nat) (ch pt gs ac tk am : Int) :
    Calls Try.prog 31 #[.pointer (some ⟨b, 0, none⟩), .agg (opV 7 a n cap ch pt gs ac tk am).toArray] w (StPost w b S (dpS P 7 ch pt) ⟨dpC P 7 ch pt, refR 0 (-1), msg0⟩) := by
  by_cases hc : ch = 1 ∨ ch = 2
  · unfold dpC dpS
    have hcc : ¬ ¬ (ch = 1 ∨ ch = 2) := fun z => z hc
    rw [if_neg hcc, if_neg hcc, if_neg (show ¬ ((7 : Int) = 6) by decide), if_neg (show ¬ ((7 : Int) = 6) by decide)]
    clear hcc
    by_cases hp : pt = 0
    · rw [if_pos hp, if_pos hp, ← setL_dp]
      rcases hc with rfl | rfl
      · exact m_d7l1 w b P S h hsm a n cap pt gs ac tk am hp
      · exact m_d7l2 w b P S h hsm a n cap pt gs ac tk am hp
    · rw [if_neg hp, if_neg hp, ← setB_dp P hc]
      rcases hc with rfl | rfl
      · exact m_d7b1 w b P S h hsm a n cap pt gs ac tk am hp
      · exact m_d7b2 w b P S h hsm a n cap pt gs ac tk am hp
  · unfold dpC dpS
    rw [if_pos hc, if_pos hc]
    exact m_d7x w b P S h a n cap ch pt gs ac tk am hc
end Go.Proofs.Qxb6500784a
