import Derived.Test.Qxb6500784aMs0
namespace Go.Proofs.Qxb6500784a
open Go.RowKit

attribute [-simp] Try.isAgg70 Try.sizeOf70 Try.typeInfo70 Try.isAgg56 Try.sizeOf56 Try.typeInfo56
attribute [local irreducible] rootP shaP
set_option linter.unusedSimpArgs false in
set_option maxRecDepth 100000 in
set_option maxHeartbeats 16000000 in
theorem m_t (w : World) (b : Nat) (P : Pr) (S : List Nat) (h : PP w b P S) (kd : Int) (a : Option Addr) (n cap : Nat) (ch pt gs ac tk am : Int) (hk : kd < 1 ∨ 7 < kd) :
    Calls Try.prog 31 #[.pointer (some ⟨b, 0, none⟩), .agg (opV kd a n cap ch pt gs ac tk am).toArray] w (StPost w b S P ⟨41, refR 0 (-1), msg0⟩) := by
  have HP := hide h
  unfold opV
  have d1 : (kd == 1) = false := by simp; omega
  have d2 : (kd == 2) = false := by simp; omega
  have d3 : (kd == 3) = false := by simp; omega
  have d4 : (kd == 4) = false := by simp; omega
  have d5 : (kd == 5) = false := by simp; omega
  have d6 : (kd == 6) = false := by simp; omega
  have d7 : (kd == 7) = false := by simp; omega
  clear hk
  have HS0 : Hid (S0 w (((w.alloc (.cells #[.int .i64 kd, .slice a n cap, .int .u8 ch, .int .i64 pt, .int .u64 gs, .int .u8 ac, .int .u8 tk, .int .u64 am] 33)).alloc (.cells Try.zeroCells70 70)).alloc (.cells (Try.zeroCells70.setIfInBounds 2 (.int .i64 (-1))) 70)) w.heap.size [.int .i64 kd, .slice a n cap, .int .u8 ch, .int .i64 pt, .int .u64 gs, .int .u8 ac, .int .u8 tk, .int .u64 am]) := s0_start w [.int .i64 kd, .slice a n cap, .int .u8 ch, .int .i64 pt, .int .u64 gs, .int .u8 ac, .int .u8 tk, .int .u64 am]
  clear h
  go_enter Try.func31, Try.ntmps31
  go_upto_region 3 with fail
  obtain ⟨D, hD⟩ : ∃ D, w.heap.size = D := ⟨_, rfl⟩
  have hD1 : w.heap.size + 1 = D + 1 := by rw [hD]
  simp only [hD] at HS0 ⊢
  simp only [show D + 1 + 1 = D + 2 from rfl] at HS0 ⊢
  have HD := hide hD
  clear hD hD1
  generalize ((w.alloc (.cells #[.int .i64 kd, .slice a n cap, .int .u8 ch, .int .i64 pt, .int .u64 gs, .int .u8 ac, .int .u8 tk, .int .u64 am] 33)).alloc (.cells Try.zeroCells70 70)).alloc (.cells (Try.zeroCells70.setIfInBounds 2 (.int .i64 (-1))) 70) = w3 at *
  have cl0 := HS0.out.cell (j := 0) rfl
  have cl1 := HS0.out.cell (j := 1) rfl
  have cl2 := HS0.out.cell (j := 2) rfl
  have cl3 := HS0.out.cell (j := 3) rfl
  have cl4 := HS0.out.cell (j := 4) rfl
  have cl5 := HS0.out.cell (j := 5) rfl
  have cl6 := HS0.out.cell (j := 6) rfl
  have cl7 := HS0.out.cell (j := 7) rfl
  have HS1 := hide (s1_of HS0.out HP.out)
  obtain ⟨c0, f0, -, -, -⟩ := HS1.out.c0
  go_upto_region 53 with fail
  have HS2 := hide (HS1.out.code 41)
  generalize w3.setCell ⟨D + 2, 0, none⟩ (.int .i64 41) = x at *
  clear cl0 cl1 cl2 cl3 cl4 cl5 cl6 cl7 c0 f0 HS1 HS0
  obtain ⟨F, hF⟩ : ∃ F, (⟨41, refR 0 (-1), msg0⟩ : An).vals nilS nilS nilS = F := ⟨_, rfl⟩
  have HFl : Hid (F.length = 112) := by rw [← hF]; exact An.len HS2.out.ok HS2.out.mo _ _ _
  have HF1 : Hid (∀ u ∈ F, u.oneCell' = true) := by rw [← hF]; exact HS2.out.one
  have HRG : Hid (x.rangeAt (D + 2) 0 F) := by rw [← hF]; exact HS2.out.r2
  have HT6 := hide HS2.out.t1
  have HFN : Hid (∀ y, Ex (fun j => j = D + 1) x y → StPost _ _ _ _ _ (.returned (.agg F.toArray)) y) := fun y ex => by rw [← hF]; exact HS2.out.fin ex
  clear hF
  go_upto_region 53 with fail
  go_wp2_with fail
  simp only [Try.isAgg70, Try.sizeOf70, Result.andThen, ↓reduceIte, ldC x (D + 2) 0 F 112 HFl.out HRG.out]
  rw [Oper.upon_value]
  go_wp2_with fail
  simp only [Try.sizeOf70, Result.andThen, HFl.out, ↓reduceIte, stC x (D + 1) 0 F (by rw [HFl.out]; exact HT6.out) HF1.out]
  rw [Oper.upon_skip]
  have HRZ := hide (World.rangeAt_setCells_same x (D + 1) 0 F (by rw [HFl.out]; exact HT6.out))
  have HPO := hide (HFN.out _ (Ex.sets (S := fun j => j = D + 1) rfl F 0 x (Ex.refl _ _)))
  generalize x.setCells (D + 1) 0 F = wz at *
  clear HFN HRG HT6
  go_wp2_with fail
  exact bodyPost_ret (v := .agg F.toArray) (res_cell Try.results31 rfl (run_loadVar_mid wz (D + 1) 0 70 F _ HRZ.out Try.underlying70 rfl (by rw [HFl.out]; exact Try.sz70))) rfl HPO.out
set_option linter.unusedSimpArgs false in
set_option maxRecDepth 100000 in
set_option maxHeartbeats 16000000 in
theorem m_i (w : World) (b : Nat) (P : Pr) (S : List Nat) (h : PP w b P S) (hsm : PSm P) (a : Option Addr) (n cap : Nat) (L : Nat → Leg) (T : Nat → List Int) (hn : n ≤ 9223372036854775807) (hL : LegsAt w a n L) (h1 : LegsOne n L) (hV : ordCode n L = 0 → ∀ i, i < n → LegV (legL (L i)) (L i).ch (T i)) (z : Nat) (hz : Bnd z P) (hzl : z ≤ 800000000000) (ch pt gs ac tk am : Int) :
    Calls Try.prog 31 #[.pointer (some ⟨b, 0, none⟩), .agg (opV 1 a n cap ch pt gs ac tk am).toArray] w fun e w' => ∃ v, StPost w b S (simS true P n L T) ⟨(simR P n L T v).code, simR P n L T v, msg0⟩ e w' := by
  have HIN : Hid (∀ (x : World) (G : List Value), Below w.heap.size w x → WF x P G S → Calls Try.prog 25 #[.agg G.toArray, .agg #[.slice a n cap]] x fun e y => ∃ v U S' vo vr vs C, e = .returned (.tuple #[.agg U.toArray, .agg ((simR P n L T v).vals vo vr vs).toArray]) ∧ WF y (simS true P n L T) U S' ∧ RL y (simR P n L T v) vo vr vs C ∧ (simR P n L T v).Ok ∧ Below x.heap.size x y ∧ (∀ k, k ∈ C → x.heap.size ≤ k ∧ k ∉ S') ∧ ((U = G ∧ S' = S) ∨ ∀ k, k ∈ S' → x.heap.size ≤ k)) := fun x G k hG => big_any x P G S hG hsm a n cap L T hn (hL.below k) h1 hV z hz hzl
  obtain ⟨PS, hPS⟩ : ∃ PS, simS true P n L T = PS := ⟨_, rfl⟩
  obtain ⟨RS, hRS⟩ : ∃ RS, simR P n L T = RS := ⟨_, rfl⟩
  simp only [hPS, hRS] at HIN ⊢
  clear hsm hn hL h1 hV hz hzl hPS hRS
  have HP := hide h
  unfold opV
  have HS0 : Hid (S0 w (((w.alloc (.cells #[.int .i64 1, .slice a n cap, .int .u8 ch, .int .i64 pt, .int .u64 gs, .int .u8 ac, .int .u8 tk, .int .u64 am] 33)).alloc (.cells Try.zeroCells70 70)).alloc (.cells (Try.zeroCells70.setIfInBounds 2 (.int .i64 (-1))) 70)) w.heap.size [.int .i64 1, .slice a n cap, .int .u8 ch, .int .i64 pt, .int .u64 gs, .int .u8 ac, .int .u8 tk, .int .u64 am]) := s0_start w [.int .i64 1, .slice a n cap, .int .u8 ch, .int .i64 pt, .int .u64 gs, .int .u8 ac, .int .u8 tk, .int .u64 am]
  clear h
  go_enter Try.func31, Try.ntmps31
  go_upto_region 3 with fail
  obtain ⟨D, hD⟩ : ∃ D, w.heap.size = D := ⟨_, rfl⟩
  have hD1 : w.heap.size + 1 = D + 1 := by rw [hD]
  simp only [hD] at HS0 ⊢
  simp only [show D + 1 + 1 = D + 2 from rfl] at HS0 ⊢
  have HD := hide hD
  clear hD hD1
  generalize ((w.alloc (.cells #[.int .i64 1, .slice a n cap, .int .u8 ch, .int .i64 pt, .int .u64 gs, .int .u8 ac, .int .u8 tk, .int .u64 am] 33)).alloc (.cells Try.zeroCells70 70)).alloc (.cells (Try.zeroCells70.setIfInBounds 2 (.int .i64 (-1))) 70) = w3 at *
  have cl0 := HS0.out.cell (j := 0) rfl
  have cl1 := HS0.out.cell (j := 1) rfl
  have cl2 := HS0.out.cell (j := 2) rfl
  have cl3 := HS0.out.cell (j := 3) rfl
  have cl4 := HS0.out.cell (j := 4) rfl
  have cl5 := HS0.out.cell (j := 5) rfl
  have cl6 := HS0.out.cell (j := 6) rfl
  have cl7 := HS0.out.cell (j := 7) rfl
  have HS1 := hide (s1_of HS0.out HP.out)
  obtain ⟨G, hG, hGr⟩ := HS1.out.pp.wf
  have HG := hide hG
  have HGr := hide hGr
  have HGl : Hid (G.length = 667) := hG.len
  clear hG hGr
  have HDb : Hid (¬ (D = b)) := by have := HS0.out.eD; have := HP.out.bl; show ¬ _; omega
  go_upto_region 6 with fail
  go_cut [15] (fun _ wx => ∃ v S' vo vr vs C, S1 w b S D wx PS S' { an0 with r := RS v } vo vr vs C)
  case first =>
    have hz65 := Try.sizeOf65
    refine wp_region_held_drew (S := fun w' => w'.cell? ⟨D, 1, none⟩ = some (.slice a n cap)) (by kernel_rfl) cl1 (fun hHeld => ?_)
    have HBw : Hid (Below w.heap.size w w3.drew) := lec HS0.out.be ((Below.refl w3.heap.size w3).drew)
    have HSz : Hid (D + 3 ≤ w3.drew.heap.size) := by have := HS0.out.sz; have := ((Below.refl w3.heap.size w3).drew).size; show _ ≤ _; omega
    replace HS1 := hide (HS1.out.below ((Below.refl w3.heap.size w3).drew))
    replace HG := hide (HG.out.below ((Below.refl w3.heap.size w3).drew))
    replace HGr := hide (range_below HGr.out (by have := HS0.out.eD; have := HS0.out.sz; have := HP.out.bl; omega) ((Below.refl w3.heap.size w3).drew))
    generalize w3.drew = w4 at *
    refine wpAnyH_take (i := 0) (v := ?_) rfl (by kernel_rfl) (by kernel_rfl) (by kernel_rfl) (fun _ _ _ h => h) (Or.inl ⟨by rfl, ?_⟩) (by assumption) ?_
    rotate_left
    · (intro w hSw; (try dsimp only at hSw); go_simp; try (with_reducible rfl))
    try simp only [Act.put, List.getElem_toArray, List.getElem_cons_zero, List.getElem_cons_succ, List.setIfInBounds_toArray, List.set_cons_zero, List.set_cons_succ]
    refine wpAnyH_take (i := 1) (v := ?_) rfl (by kernel_rfl) (by kernel_rfl) (by kernel_rfl) (fun _ _ _ h => h) (Or.inl ⟨by rfl, ?_⟩) (by assumption) ?_
    rotate_left
    · (intro w hSw; (try dsimp only at hSw); go_simp; try (with_reducible rfl))
    try simp only [Act.put, List.getElem_toArray, List.getElem_cons_zero, List.getElem_cons_succ, List.setIfInBounds_toArray, List.set_cons_zero, List.set_cons_succ]
    refine wpAnyH_take (i := 2) (v := ?_) rfl (by kernel_rfl) (by kernel_rfl) (by kernel_rfl) (fun _ _ _ h => h) (Or.inl ⟨by rfl, ?_⟩) (by assumption) ?_
    rotate_left
    · (intro w hSw; (try dsimp only at hSw); go_simp; try (with_reducible rfl))
    try simp only [Act.put, List.getElem_toArray, List.getElem_cons_zero, List.getElem_cons_succ, List.setIfInBounds_toArray, List.set_cons_zero, List.set_cons_succ]
    refine wpAnyH_take (i := 4) (v := ?_) rfl (by kernel_rfl) (by kernel_rfl) (by kernel_rfl) (fun _ _ _ h => h) (Or.inl ⟨by rfl, ?_⟩) (by assumption) ?_
    rotate_left
    · (intro w hSw; (try dsimp only at hSw); go_simp; try (with_reducible rfl))
    try simp only [Act.put, List.getElem_toArray, List.getElem_cons_zero, List.getElem_cons_succ, List.setIfInBounds_toArray, List.set_cons_zero, List.set_cons_succ]
    refine wpAnyH_take (i := 5) (v := ?_) rfl (by kernel_rfl) (by kernel_rfl) (by kernel_rfl) (fun _ _ _ h => h) (Or.inl ⟨by rfl, ?_⟩) (by assumption) ?_
    rotate_left
    · (intro w hSw; (try dsimp only at hSw); go_simp; try (with_reducible rfl))
    try simp only [Act.put, List.getElem_toArray, List.getElem_cons_zero, List.getElem_cons_succ, List.setIfInBounds_toArray, List.set_cons_zero, List.set_cons_succ]
    refine wpAnyH_ready (rs := [3]) (by kernel_rfl) (by simp) ?_
    refine (AllReadyH.cons rfl (fun K hK => ?_) AllReadyH.nil)
    refine step_loadW rfl 56 (.tmp 18) rfl b 0 rfl G _ HGr.out Try.underlying56 rfl (by rw [HGl.out]; exact Try.sz56) ?_
    refine hK.out _ _ ?_ (fun hHeld => ?_)
    · exact hHeld
    clear hK K
    try simp only [Act.put, List.getElem_toArray, List.getElem_cons_zero, List.getElem_cons_succ, List.setIfInBounds_toArray, List.set_cons_zero, List.set_cons_succ]
    refine wpAnyH_ready (rs := [6]) (by kernel_rfl) (by simp) ?_
    refine (AllReadyH.cons rfl (fun K hK => ?_) AllReadyH.nil)
    refine step_call rfl 25 #[.agg G.toArray, .agg #[.slice a n cap]] (by simp [go_sem]) (HIN.out _ G HBw.out HG.out) ?_
    rintro e y ⟨v, U, S', vo, vr, vs, C, rfl, hU, hR, hRo, hbe, hC, hor⟩
    obtain ⟨R, hRv⟩ : ∃ R, (RS v).vals vo vr vs = R := ⟨_, rfl⟩
    have HRv := hide hRv
    have HU := hide hU
    have HR := hide hR
    have HRo := hide hRo
    have HBy := hide hbe
    have HC : Hid (∀ k, k ∈ C → w.heap.size ≤ k ∧ k ∉ S' ∧ k ≠ D + 1 ∧ k ≠ D + 2 ∧ k ≠ b ∧ k ∉ S) := fun k hk => by
      have q1 := (hC k hk).1
      have q2 := HSz.out
      have q3 := HS0.out.eD
      have q4 := HP.out.bl
      exact ⟨by omega, (hC k hk).2, by omega, by omega, by omega, fun e => by have := HP.out.lt e; omega⟩
    have HN : Hid ((∀ k, k ∈ S' → k ∈ S ∨ w.heap.size ≤ k) ∧ D + 1 ∉ S' ∧ D + 2 ∉ S' ∧ b ∉ S') := by
      have q2 := HSz.out
      have q3 := HS0.out.eD
      have q4 := HP.out.bl
      rcases hor with ⟨_, e⟩ | e
      · rw [e]; exact ⟨fun k hk => .inl hk, HS1.out.n1.1, HS1.out.n2.1, HP.out.nb⟩
      · exact ⟨fun k hk => .inr (by have := e k hk; omega), fun z => by have := e _ z; omega, fun z => by have := e _ z; omega, fun z => by have := e _ z; omega⟩
    have HRl : Hid (R.length = 70) := by rw [← hRv]; exact Rs.len hRo _ _ _
    have HR1 : Hid (∀ u ∈ R, u.oneCell' = true) := by
      rw [← hRv]
      obtain ⟨_, _, e1⟩ := own_form hR.o
      obtain ⟨_, _, e2⟩ := own_form hR.q
      obtain ⟨_, _, e3⟩ := own_form hR.s
      exact Rs.one _ (by rw [e1]; rfl) (by rw [e2]; rfl) (by rw [e3]; rfl)
    have HUl : Hid (U.length = 667) := hU.len
    have HU1 : Hid (∀ u ∈ U, u.oneCell' = true) := hU.one
    have HSy := hide (HS1.out.below hbe)
    refine ⟨.tuple #[.agg U.toArray, .agg R.toArray], by rw [hRv], ?_⟩
    clear hU hR hRo hbe hC hor hRv
    refine hK.out _ _ ?_ (fun hHeld => ?_)
    · exact cellKeep HBy.out hHeld
    clear hK K
    try simp only [Act.put, List.getElem_toArray, List.getElem_cons_zero, List.getElem_cons_succ, List.setIfInBounds_toArray, List.set_cons_zero, List.set_cons_succ]
    refine wpAnyH_take (i := 7) (v := ?_) rfl (by kernel_rfl) (by kernel_rfl) (by kernel_rfl) (fun _ _ _ h => h) (Or.inl ⟨by rfl, ?_⟩) (by assumption) ?_
    rotate_left
    · (intro w hSw; (try dsimp only at hSw); go_simp; try (with_reducible rfl))
    try simp only [Act.put, List.getElem_toArray, List.getElem_cons_zero, List.getElem_cons_succ, List.setIfInBounds_toArray, List.set_cons_zero, List.set_cons_succ]
    refine wpAnyH_take (i := 8) (v := ?_) rfl (by kernel_rfl) (by kernel_rfl) (by kernel_rfl) (fun _ _ _ h => h) (Or.inl ⟨by rfl, ?_⟩) (by assumption) ?_
    rotate_left
    · (intro w hSw; (try dsimp only at hSw); go_simp; try (with_reducible rfl))
    try simp only [Act.put, List.getElem_toArray, List.getElem_cons_zero, List.getElem_cons_succ, List.setIfInBounds_toArray, List.set_cons_zero, List.set_cons_succ]
    refine wpAnyH_take (i := 9) (v := ?_) rfl (by kernel_rfl) (by kernel_rfl) (by kernel_rfl) (fun _ _ _ h => h) (Or.inl ⟨by rfl, ?_⟩) (by assumption) ?_
    rotate_left
    · (intro w hSw; (try dsimp only at hSw); go_simp; try (with_reducible rfl))
    try simp only [Act.put, List.getElem_toArray, List.getElem_cons_zero, List.getElem_cons_succ, List.setIfInBounds_toArray, List.set_cons_zero, List.set_cons_succ]
    refine wpAnyH_take (i := 10) (v := ?_) rfl (by kernel_rfl) (by kernel_rfl) (by kernel_rfl) (fun _ _ _ h => h) (Or.inl ⟨by rfl, ?_⟩) (by assumption) ?_
    rotate_left
    · (intro w hSw; (try dsimp only at hSw); go_simp; try (with_reducible rfl))
    try simp only [Act.put, List.getElem_toArray, List.getElem_cons_zero, List.getElem_cons_succ, List.setIfInBounds_toArray, List.set_cons_zero, List.set_cons_succ]
    refine wpAnyH_ready (rs := [11]) (by kernel_rfl) (by simp) ?_
    refine (AllReadyH.cons rfl (fun K hK => ?_) AllReadyH.nil)
    refine step_storeM rfl 56 (.tmp 25) (.tmp 23) rfl b 0 U rfl rfl (by rw [HUl.out]; exact HSy.out.pp.th) (by rw [HUl.out]; exact Try.sz56) HU1.out ?_
    have HEb : Hid (Ex (fun j => j = b) y (y.setCells b 0 U)) := Ex.sets (S := fun j => j = b) rfl U 0 _ (Ex.refl _ _)
    have HPb : Hid (PP (y.setCells b 0 U) b PS S') := (HU.out.ex HEb.out (fun j hj e => HN.out.2.2.2 (e ▸ hj))).pp (World.rangeAt_setCells_same _ b 0 U (by rw [HUl.out]; exact HSy.out.pp.th)) (World.there_setCells HSy.out.pp.th _ _ _) (Nat.lt_of_lt_of_le HSy.out.pp.bl HEb.out.size) HN.out.2.2.2
    replace HSy := hide (HSy.out.world HEb.out HPb.out HN.out.1 HN.out.2.1 HN.out.2.2.1 (fun k hk => absurd hk (by simp)))
    replace HR := hide (HR.out.keep HEb.out (fun j hj e => (HC.out j hj).2.2.2.2.1 e))
    refine hK.out _ _ ?_ (fun hHeld => ?_)
    · exact HEb.out.cell HDb.out hHeld
    clear hK K
    try simp only [Act.put, List.getElem_toArray, List.getElem_cons_zero, List.getElem_cons_succ, List.setIfInBounds_toArray, List.set_cons_zero, List.set_cons_succ]
    clear HEb HPb
    generalize y.setCells b 0 U = ya at *
    refine wpAnyH_take (i := 12) (v := ?_) rfl (by kernel_rfl) (by kernel_rfl) (by kernel_rfl) (fun _ _ _ h => h) (Or.inl ⟨by rfl, ?_⟩) (by assumption) ?_
    rotate_left
    · (intro w hSw; (try dsimp only at hSw); go_simp; try (with_reducible rfl))
    try simp only [Act.put, List.getElem_toArray, List.getElem_cons_zero, List.getElem_cons_succ, List.setIfInBounds_toArray, List.set_cons_zero, List.set_cons_succ]
    refine wpAnyH_ready (rs := [13]) (by kernel_rfl) (by simp) ?_
    refine (AllReadyH.cons rfl (fun K hK => ?_) AllReadyH.nil)
    have HTT := hide (there_part HSy.out.t2 (o := 1) (m := 70) (by omega))
    refine step_storeM rfl 65 (.tmp 26) (.tmp 24) rfl (D + 2) 1 R rfl rfl (by rw [HRl.out]; exact HTT.out) (by rw [HRl.out]; exact Try.sz65) HR1.out ?_
    have HEr : Hid (Ex (fun j => j = D + 2) ya (ya.setCells (D + 2) 1 R)) := Ex.sets (S := fun j => j = D + 2) rfl R 1 _ (Ex.refl _ _)
    replace HSy := hide (HSy.out.res HR.out HRo.out (fun k hk => ⟨(HC.out k hk).1, (HC.out k hk).2.1, (HC.out k hk).2.2.1, (HC.out k hk).2.2.2.1, (HC.out k hk).2.2.2.2.1⟩))
    rw [HRv.out] at HSy
    skip
    refine hK.out _ _ ?_ (fun hHeld => ?_)
    · exact HEr.out.cell (show ¬ (D = D + 2) by omega) hHeld
    clear hK K
    try simp only [Act.put, List.getElem_toArray, List.getElem_cons_zero, List.getElem_cons_succ, List.setIfInBounds_toArray, List.set_cons_zero, List.set_cons_succ]
    clear HEr HTT
    generalize ya.setCells (D + 2) 1 R = yb at *
    refine wpAnyH_done (by kernel_rfl) ?_ _
    go_wp2_with fail
    go_meet
    exact ⟨v, S', vo, vr, vs, C, HSy.out⟩
  obtain ⟨v, S', vo, vr, vs, C, hs⟩ := hcut
  have HS3 := hide hs
  clear hs
  obtain ⟨y2, hy2⟩ : ∃ W', W' = wc := ⟨_, rfl⟩
  subst hy2
  clear cl0 cl1 cl2 cl3 cl4 cl5 cl6 cl7
  obtain ⟨c0, f0, c1, -, -⟩ := HS3.out.c0
  have c0' : y2.cell? ⟨D + 2, 0, none⟩ = some (.int .i64 0) := c0
  have c1' : y2.cell? ⟨D + 2, 1, none⟩ = some (.int .i64 (RS v).code) := c1
  clear c0 c1
  have HS4 : Hid (S1 w b S D (y2.setCell ⟨D + 2, 0, none⟩ (.int .i64 (RS v).code)) PS S' ⟨(RS v).code, RS v, msg0⟩ vo vr vs C) := HS3.out.code (RS v).code
  have hz65 := Try.sizeOf65
  go_upto_region 53 with fail
  generalize y2.setCell ⟨D + 2, 0, none⟩ (.int .i64 (RS v).code) = y3 at *
  clear HS3 c0' c1' f0
  obtain ⟨F, hF⟩ : ∃ F, (⟨(RS v).code, RS v, msg0⟩ : An).vals vo vr vs = F := ⟨_, rfl⟩
  have HFl : Hid (F.length = 112) := by rw [← hF]; exact An.len HS4.out.ok HS4.out.mo _ _ _
  have HF1 : Hid (∀ u ∈ F, u.oneCell' = true) := by rw [← hF]; exact HS4.out.one
  have HRG : Hid (y3.rangeAt (D + 2) 0 F) := by rw [← hF]; exact HS4.out.r2
  have HT6 := hide HS4.out.t1
  have HFN : Hid (∀ y, Ex (fun j => j = D + 1) y3 y → StPost _ _ _ _ _ (.returned (.agg F.toArray)) y) := fun y ex => by rw [← hF]; exact HS4.out.fin ex
  clear hF
  go_upto_region 53 with fail
  go_wp2_with fail
  simp only [Try.isAgg70, Try.sizeOf70, Result.andThen, ↓reduceIte, ldC y3 (D + 2) 0 F 112 HFl.out HRG.out]
  rw [Oper.upon_value]
  go_wp2_with fail
  simp only [Try.sizeOf70, Result.andThen, HFl.out, ↓reduceIte, stC y3 (D + 1) 0 F (by rw [HFl.out]; exact HT6.out) HF1.out]
  rw [Oper.upon_skip]
  have HRZ := hide (World.rangeAt_setCells_same y3 (D + 1) 0 F (by rw [HFl.out]; exact HT6.out))
  have HPO := hide (HFN.out _ (Ex.sets (S := fun j => j = D + 1) rfl F 0 y3 (Ex.refl _ _)))
  generalize y3.setCells (D + 1) 0 F = wz at *
  clear HFN HRG HT6
  go_wp2_with fail
  exact bodyPost_ret (v := .agg F.toArray) (res_cell Try.results31 rfl (run_loadVar_mid wz (D + 1) 0 70 F _ HRZ.out Try.underlying70 rfl (by rw [HFl.out]; exact Try.sz70))) rfl ⟨v, HPO.out⟩
set_option linter.unusedSimpArgs false in
set_option maxRecDepth 100000 in
set_option maxHeartbeats 16000000 in
theorem m_y (w : World) (b : Nat) (P : Pr) (S : List Nat) (h : PP w b P S) (hsm : PSm P) (a : Option Addr) (n cap : Nat) (L : Nat → Leg) (T : Nat → List Int) (hn : n ≤ 9223372036854775807) (hL : LegsAt w a n L) (h1 : LegsOne n L) (hV : ordCode n L = 0 → ∀ i, i < n → LegV (legL (L i)) (L i).ch (T i)) (z : Nat) (hz : Bnd z P) (hzl : z ≤ 800000000000) (ch pt gs ac tk am : Int) :
    Calls Try.prog 31 #[.pointer (some ⟨b, 0, none⟩), .agg (opV 2 a n cap ch pt gs ac tk am).toArray] w fun e w' => ∃ v, StPost w b S P ⟨(simR P n L T v).code, simR P n L T v, msg0⟩ e w' := by
  have HIN : Hid (∀ (x : World) (G : List Value), Below w.heap.size w x → WF x P G S → Calls Try.prog 25 #[.agg G.toArray, .agg #[.slice a n cap]] x fun e y => ∃ v U S' vo vr vs C, e = .returned (.tuple #[.agg U.toArray, .agg ((simR P n L T v).vals vo vr vs).toArray]) ∧ WF y (simS true P n L T) U S' ∧ RL y (simR P n L T v) vo vr vs C ∧ (simR P n L T v).Ok ∧ Below x.heap.size x y ∧ (∀ k, k ∈ C → x.heap.size ≤ k ∧ k ∉ S') ∧ ((U = G ∧ S' = S) ∨ ∀ k, k ∈ S' → x.heap.size ≤ k)) := fun x G k hG => big_any x P G S hG hsm a n cap L T hn (hL.below k) h1 hV z hz hzl
  obtain ⟨PS, hPS⟩ : ∃ PS, simS true P n L T = PS := ⟨_, rfl⟩
  obtain ⟨RS, hRS⟩ : ∃ RS, simR P n L T = RS := ⟨_, rfl⟩
  simp only [hPS, hRS] at HIN ⊢
  clear hsm hn hL h1 hV hz hzl hPS hRS
  have HP := hide h
  unfold opV
  have HS0 : Hid (S0 w (((w.alloc (.cells #[.int .i64 2, .slice a n cap, .int .u8 ch, .int .i64 pt, .int .u64 gs, .int .u8 ac, .int .u8 tk, .int .u64 am] 33)).alloc (.cells Try.zeroCells70 70)).alloc (.cells (Try.zeroCells70.setIfInBounds 2 (.int .i64 (-1))) 70)) w.heap.size [.int .i64 2, .slice a n cap, .int .u8 ch, .int .i64 pt, .int .u64 gs, .int .u8 ac, .int .u8 tk, .int .u64 am]) := s0_start w [.int .i64 2, .slice a n cap, .int .u8 ch, .int .i64 pt, .int .u64 gs, .int .u8 ac, .int .u8 tk, .int .u64 am]
  clear h
  go_enter Try.func31, Try.ntmps31
  go_upto_region 3 with fail
  obtain ⟨D, hD⟩ : ∃ D, w.heap.size = D := ⟨_, rfl⟩
  have hD1 : w.heap.size + 1 = D + 1 := by rw [hD]
  simp only [hD] at HS0 ⊢
  simp only [show D + 1 + 1 = D + 2 from rfl] at HS0 ⊢
  have HD := hide hD
  clear hD hD1
  generalize ((w.alloc (.cells #[.int .i64 2, .slice a n cap, .int .u8 ch, .int .i64 pt, .int .u64 gs, .int .u8 ac, .int .u8 tk, .int .u64 am] 33)).alloc (.cells Try.zeroCells70 70)).alloc (.cells (Try.zeroCells70.setIfInBounds 2 (.int .i64 (-1))) 70) = w3 at *
  have cl0 := HS0.out.cell (j := 0) rfl
  have cl1 := HS0.out.cell (j := 1) rfl
  have cl2 := HS0.out.cell (j := 2) rfl
  have cl3 := HS0.out.cell (j := 3) rfl
  have cl4 := HS0.out.cell (j := 4) rfl
  have cl5 := HS0.out.cell (j := 5) rfl
  have cl6 := HS0.out.cell (j := 6) rfl
  have cl7 := HS0.out.cell (j := 7) rfl
  have HS1 := hide (s1_of HS0.out HP.out)
  obtain ⟨G, hG, hGr⟩ := HS1.out.pp.wf
  have HG := hide hG
  have HGr := hide hGr
  have HGl : Hid (G.length = 667) := hG.len
  clear hG hGr
  have HDb : Hid (¬ (D = b)) := by have := HS0.out.eD; have := HP.out.bl; show ¬ _; omega
  go_upto_region 9 with fail
  go_cut [33] (fun _ wx => ∃ v S' vo vr vs C, S1 w b S D wx P S' { an0 with r := RS v } vo vr vs C)
  case first =>
    have hz65 := Try.sizeOf65
    refine wp_region_held_drew (S := fun w' => w'.cell? ⟨D, 1, none⟩ = some (.slice a n cap)) (by kernel_rfl) cl1 (fun hHeld => ?_)
    have HBw : Hid (Below w.heap.size w w3.drew) := lec HS0.out.be ((Below.refl w3.heap.size w3).drew)
    have HSz : Hid (D + 3 ≤ w3.drew.heap.size) := by have := HS0.out.sz; have := ((Below.refl w3.heap.size w3).drew).size; show _ ≤ _; omega
    replace HS1 := hide (HS1.out.below ((Below.refl w3.heap.size w3).drew))
    replace HG := hide (HG.out.below ((Below.refl w3.heap.size w3).drew))
    replace HGr := hide (range_below HGr.out (by have := HS0.out.eD; have := HS0.out.sz; have := HP.out.bl; omega) ((Below.refl w3.heap.size w3).drew))
    generalize w3.drew = w4 at *
    refine wpAnyH_take (i := 0) (v := ?_) rfl (by kernel_rfl) (by kernel_rfl) (by kernel_rfl) (fun _ _ _ h => h) (Or.inl ⟨by rfl, ?_⟩) (by assumption) ?_
    rotate_left
    · (intro w hSw; (try dsimp only at hSw); go_simp; try (with_reducible rfl))
    try simp only [Act.put, List.getElem_toArray, List.getElem_cons_zero, List.getElem_cons_succ, List.setIfInBounds_toArray, List.set_cons_zero, List.set_cons_succ]
    refine wpAnyH_take (i := 1) (v := ?_) rfl (by kernel_rfl) (by kernel_rfl) (by kernel_rfl) (fun _ _ _ h => h) (Or.inl ⟨by rfl, ?_⟩) (by assumption) ?_
    rotate_left
    · (intro w hSw; (try dsimp only at hSw); go_simp; try (with_reducible rfl))
    try simp only [Act.put, List.getElem_toArray, List.getElem_cons_zero, List.getElem_cons_succ, List.setIfInBounds_toArray, List.set_cons_zero, List.set_cons_succ]
    refine wpAnyH_take (i := 3) (v := ?_) rfl (by kernel_rfl) (by kernel_rfl) (by kernel_rfl) (fun _ _ _ h => h) (Or.inl ⟨by rfl, ?_⟩) (by assumption) ?_
    rotate_left
    · (intro w hSw; (try dsimp only at hSw); go_simp; try (with_reducible rfl))
    try simp only [Act.put, List.getElem_toArray, List.getElem_cons_zero, List.getElem_cons_succ, List.setIfInBounds_toArray, List.set_cons_zero, List.set_cons_succ]
    refine wpAnyH_take (i := 4) (v := ?_) rfl (by kernel_rfl) (by kernel_rfl) (by kernel_rfl) (fun _ _ _ h => h) (Or.inl ⟨by rfl, ?_⟩) (by assumption) ?_
    rotate_left
    · (intro w hSw; (try dsimp only at hSw); go_simp; try (with_reducible rfl))
    try simp only [Act.put, List.getElem_toArray, List.getElem_cons_zero, List.getElem_cons_succ, List.setIfInBounds_toArray, List.set_cons_zero, List.set_cons_succ]
    refine wpAnyH_ready (rs := [2]) (by kernel_rfl) (by simp) ?_
    refine (AllReadyH.cons rfl (fun K hK => ?_) AllReadyH.nil)
    refine step_loadW rfl 56 (.tmp 35) rfl b 0 rfl G _ HGr.out Try.underlying56 rfl (by rw [HGl.out]; exact Try.sz56) ?_
    refine hK.out _ _ ?_ (fun hHeld => ?_)
    · exact hHeld
    clear hK K
    try simp only [Act.put, List.getElem_toArray, List.getElem_cons_zero, List.getElem_cons_succ, List.setIfInBounds_toArray, List.set_cons_zero, List.set_cons_succ]
    refine wpAnyH_ready (rs := [5]) (by kernel_rfl) (by simp) ?_
    refine (AllReadyH.cons rfl (fun K hK => ?_) AllReadyH.nil)
    refine step_call rfl 25 #[.agg G.toArray, .agg #[.slice a n cap]] (by simp [go_sem]) (HIN.out _ G HBw.out HG.out) ?_
    rintro e y ⟨v, U, S', vo, vr, vs, C, rfl, hU, hR, hRo, hbe, hC, hor⟩
    obtain ⟨R, hRv⟩ : ∃ R, (RS v).vals vo vr vs = R := ⟨_, rfl⟩
    have HRv := hide hRv
    have HU := hide hU
    have HR := hide hR
    have HRo := hide hRo
    have HBy := hide hbe
    have HC : Hid (∀ k, k ∈ C → w.heap.size ≤ k ∧ k ∉ S' ∧ k ≠ D + 1 ∧ k ≠ D + 2 ∧ k ≠ b ∧ k ∉ S) := fun k hk => by
      have q1 := (hC k hk).1
      have q2 := HSz.out
      have q3 := HS0.out.eD
      have q4 := HP.out.bl
      exact ⟨by omega, (hC k hk).2, by omega, by omega, by omega, fun e => by have := HP.out.lt e; omega⟩
    have HN : Hid ((∀ k, k ∈ S' → k ∈ S ∨ w.heap.size ≤ k) ∧ D + 1 ∉ S' ∧ D + 2 ∉ S' ∧ b ∉ S') := by
      have q2 := HSz.out
      have q3 := HS0.out.eD
      have q4 := HP.out.bl
      rcases hor with ⟨_, e⟩ | e
      · rw [e]; exact ⟨fun k hk => .inl hk, HS1.out.n1.1, HS1.out.n2.1, HP.out.nb⟩
      · exact ⟨fun k hk => .inr (by have := e k hk; omega), fun z => by have := e _ z; omega, fun z => by have := e _ z; omega, fun z => by have := e _ z; omega⟩
    have HRl : Hid (R.length = 70) := by rw [← hRv]; exact Rs.len hRo _ _ _
    have HR1 : Hid (∀ u ∈ R, u.oneCell' = true) := by
      rw [← hRv]
      obtain ⟨_, _, e1⟩ := own_form hR.o
      obtain ⟨_, _, e2⟩ := own_form hR.q
      obtain ⟨_, _, e3⟩ := own_form hR.s
      exact Rs.one _ (by rw [e1]; rfl) (by rw [e2]; rfl) (by rw [e3]; rfl)
    have HUl : Hid (U.length = 667) := hU.len
    have HU1 : Hid (∀ u ∈ U, u.oneCell' = true) := hU.one
    have HSy := hide (HS1.out.below hbe)
    refine ⟨.tuple #[.agg U.toArray, .agg R.toArray], by rw [hRv], ?_⟩
    clear hU hR hRo hbe hC hor hRv
    refine hK.out _ _ ?_ (fun hHeld => ?_)
    · exact cellKeep HBy.out hHeld
    clear hK K
    try simp only [Act.put, List.getElem_toArray, List.getElem_cons_zero, List.getElem_cons_succ, List.setIfInBounds_toArray, List.set_cons_zero, List.set_cons_succ]
    refine wpAnyH_take (i := 6) (v := ?_) rfl (by kernel_rfl) (by kernel_rfl) (by kernel_rfl) (fun _ _ _ h => h) (Or.inl ⟨by rfl, ?_⟩) (by assumption) ?_
    rotate_left
    · (intro w hSw; (try dsimp only at hSw); go_simp; try (with_reducible rfl))
    try simp only [Act.put, List.getElem_toArray, List.getElem_cons_zero, List.getElem_cons_succ, List.setIfInBounds_toArray, List.set_cons_zero, List.set_cons_succ]
    refine wpAnyH_take (i := 7) (v := ?_) rfl (by kernel_rfl) (by kernel_rfl) (by kernel_rfl) (fun _ _ _ h => h) (Or.inl ⟨by rfl, ?_⟩) (by assumption) ?_
    rotate_left
    · (intro w hSw; (try dsimp only at hSw); go_simp; try (with_reducible rfl))
    try simp only [Act.put, List.getElem_toArray, List.getElem_cons_zero, List.getElem_cons_succ, List.setIfInBounds_toArray, List.set_cons_zero, List.set_cons_succ]
    refine wpAnyH_take (i := 8) (v := ?_) rfl (by kernel_rfl) (by kernel_rfl) (by kernel_rfl) (fun _ _ _ h => h) (Or.inl ⟨by rfl, ?_⟩) (by assumption) ?_
    rotate_left
    · (intro w hSw; (try dsimp only at hSw); go_simp; try (with_reducible rfl))
    try simp only [Act.put, List.getElem_toArray, List.getElem_cons_zero, List.getElem_cons_succ, List.setIfInBounds_toArray, List.set_cons_zero, List.set_cons_succ]
    refine wpAnyH_take (i := 9) (v := ?_) rfl (by kernel_rfl) (by kernel_rfl) (by kernel_rfl) (fun _ _ _ h => h) (Or.inl ⟨by rfl, ?_⟩) (by assumption) ?_
    rotate_left
    · (intro w hSw; (try dsimp only at hSw); go_simp; try (with_reducible rfl))
    try simp only [Act.put, List.getElem_toArray, List.getElem_cons_zero, List.getElem_cons_succ, List.setIfInBounds_toArray, List.set_cons_zero, List.set_cons_succ]
    refine wpAnyH_ready (rs := [10]) (by kernel_rfl) (by simp) ?_
    refine (AllReadyH.cons rfl (fun K hK => ?_) AllReadyH.nil)
    have HTT := hide (there_part HSy.out.t2 (o := 1) (m := 70) (by omega))
    refine step_storeM rfl 65 (.tmp 42) (.tmp 41) rfl (D + 2) 1 R rfl rfl (by rw [HRl.out]; exact HTT.out) (by rw [HRl.out]; exact Try.sz65) HR1.out ?_
    have HEr : Hid (Ex (fun j => j = D + 2) y (y.setCells (D + 2) 1 R)) := Ex.sets (S := fun j => j = D + 2) rfl R 1 _ (Ex.refl _ _)
    replace HSy := hide (HSy.out.res HR.out HRo.out (fun k hk => ⟨(HC.out k hk).1, (HC.out k hk).2.2.2.2.2, (HC.out k hk).2.2.1, (HC.out k hk).2.2.2.1, (HC.out k hk).2.2.2.2.1⟩))
    rw [HRv.out] at HSy
    refine hK.out _ _ ?_ (fun hHeld => ?_)
    · exact HEr.out.cell (show ¬ (D = D + 2) by omega) hHeld
    clear hK K
    try simp only [Act.put, List.getElem_toArray, List.getElem_cons_zero, List.getElem_cons_succ, List.setIfInBounds_toArray, List.set_cons_zero, List.set_cons_succ]
    clear HEr HTT
    generalize y.setCells (D + 2) 1 R = yb at *
    refine wpAnyH_done (by kernel_rfl) ?_ _
    go_wp2_with fail
    go_meet
    exact ⟨v, S, vo, vr, vs, C, HSy.out⟩
  obtain ⟨v, S', vo, vr, vs, C, hs⟩ := hcut
  have HS3 := hide hs
  clear hs
  obtain ⟨y2, hy2⟩ : ∃ W', W' = wc := ⟨_, rfl⟩
  subst hy2
  clear cl0 cl1 cl2 cl3 cl4 cl5 cl6 cl7
  obtain ⟨c0, f0, c1, -, -⟩ := HS3.out.c0
  have c0' : y2.cell? ⟨D + 2, 0, none⟩ = some (.int .i64 0) := c0
  have c1' : y2.cell? ⟨D + 2, 1, none⟩ = some (.int .i64 (RS v).code) := c1
  clear c0 c1
  have HS4 : Hid (S1 w b S D (y2.setCell ⟨D + 2, 0, none⟩ (.int .i64 (RS v).code)) P S' ⟨(RS v).code, RS v, msg0⟩ vo vr vs C) := HS3.out.code (RS v).code
  have hz65 := Try.sizeOf65
  go_upto_region 53 with fail
  generalize y2.setCell ⟨D + 2, 0, none⟩ (.int .i64 (RS v).code) = y3 at *
  clear HS3 c0' c1' f0
  obtain ⟨F, hF⟩ : ∃ F, (⟨(RS v).code, RS v, msg0⟩ : An).vals vo vr vs = F := ⟨_, rfl⟩
  have HFl : Hid (F.length = 112) := by rw [← hF]; exact An.len HS4.out.ok HS4.out.mo _ _ _
  have HF1 : Hid (∀ u ∈ F, u.oneCell' = true) := by rw [← hF]; exact HS4.out.one
  have HRG : Hid (y3.rangeAt (D + 2) 0 F) := by rw [← hF]; exact HS4.out.r2
  have HT6 := hide HS4.out.t1
  have HFN : Hid (∀ y, Ex (fun j => j = D + 1) y3 y → StPost _ _ _ _ _ (.returned (.agg F.toArray)) y) := fun y ex => by rw [← hF]; exact HS4.out.fin ex
  clear hF
  go_upto_region 53 with fail
  go_wp2_with fail
  simp only [Try.isAgg70, Try.sizeOf70, Result.andThen, ↓reduceIte, ldC y3 (D + 2) 0 F 112 HFl.out HRG.out]
  rw [Oper.upon_value]
  go_wp2_with fail
  simp only [Try.sizeOf70, Result.andThen, HFl.out, ↓reduceIte, stC y3 (D + 1) 0 F (by rw [HFl.out]; exact HT6.out) HF1.out]
  rw [Oper.upon_skip]
  have HRZ := hide (World.rangeAt_setCells_same y3 (D + 1) 0 F (by rw [HFl.out]; exact HT6.out))
  have HPO := hide (HFN.out _ (Ex.sets (S := fun j => j = D + 1) rfl F 0 y3 (Ex.refl _ _)))
  generalize y3.setCells (D + 1) 0 F = wz at *
  clear HFN HRG HT6
  go_wp2_with fail
  exact bodyPost_ret (v := .agg F.toArray) (res_cell Try.results31 rfl (run_loadVar_mid wz (D + 1) 0 70 F _ HRZ.out Try.underlying70 rfl (by rw [HFl.out]; exact Try.sz70))) rfl ⟨v, HPO.out⟩
end Go.Proofs.Qxb6500784a
