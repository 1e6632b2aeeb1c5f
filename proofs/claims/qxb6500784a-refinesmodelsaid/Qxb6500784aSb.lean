import Derived.Test.Qxb6500784aSa
namespace Go.Proofs.Qxb6500784a
open Go.RowKit

open Classical in
noncomputable def ordR (n : Nat) (L : Nat → Leg) (v : Value) : Rs := { refR 0 (-1) with ord := if ordCode n L = 0 then ordI (ordP n L) else [], vo := v }
theorem ordR_ok (n : Nat) (L : Nat → Leg) (v : Value) : (ordR n L v).Ok := ⟨(refR_ok 0 (-1)).al, (refR_ok 0 (-1)).bl, (refR_ok 0 (-1)).rc, (refR_ok 0 (-1)).sm⟩
theorem ordR_rl {w w' : World} {n : Nat} {L : Nat → Leg} {v : Value} (h1 : ordCode n L ≠ 0 → v = .slice none 0 0) (h2 : ordCode n L = 0 → w'.ownsRow w.heap.size 3 1 v (ordP n L).length (vals (ordP n L))) : RL w' (ordR n L v) v nilS nilS (blks [v, nilS, nilS]) ∧ (∀ k, k ∈ blks [v, nilS, nilS] → w.heap.size ≤ k) ∧ ∃ va vn vc, v = .slice va vn vc := by
  have hC : ∀ k, k ∈ blks [v, nilS, nilS] → v.ownBlock = some k := fun k hk => by
    obtain ⟨u, hu, e⟩ := mem_blks.1 hk
    simp only [List.mem_cons, List.not_mem_nil, or_false] at hu
    rcases hu with rfl | rfl | rfl
    · exact e
    · cases e
    · cases e
  by_cases hc : ordCode n L = 0
  · have ho := h2 hc
    refine ⟨⟨?_, World.ownsRow_nil _ _ _ _, World.ownsRow_nil _ _ _ _, rfl, blk1 _, rfl⟩, fun k hk => (ho.lt k (hC k hk)).1, ?_⟩
    · show w'.ownsRow 0 3 1 v (ordR n L v).ord.length (i64s (ordR n L v).ord)
      rw [show (ordR n L v).ord = ordI (ordP n L) from if_pos hc, ordI_vals, show (ordI (ordP n L)).length = (ordP n L).length by simp [ordI]]
      exact ownsRow_base ho (Nat.zero_le _)
    · obtain ⟨_, _, e⟩ := own_form ho
      exact ⟨_, _, _, e⟩
  · have e := h1 hc
    subst e
    refine ⟨⟨?_, World.ownsRow_nil _ _ _ _, World.ownsRow_nil _ _ _ _, rfl, blk1 _, rfl⟩, fun k hk => (by cases hC k hk), _, _, _, rfl⟩
    show w'.ownsRow 0 3 1 _ (ordR n L _).ord.length (i64s (ordR n L _).ord)
    rw [show (ordR n L (.slice none 0 0)).ord = [] from if_neg hc]
    exact World.ownsRow_nil _ _ _ _
theorem S1.ord {w : World} {b : Nat} {S : List Nat} {D : Nat} {x : World} {P' : Pr} {S' : List Nat} (h : S1 w b S D x P' S' an0 nilS nilS nilS []) {n : Nat} {L : Nat → Leg} {v : Value} {C : List Nat} (rl : RL x (ordR n L v) v nilS nilS C) (hc : ∀ k, k ∈ C → w.heap.size ≤ k ∧ k ∉ S' ∧ k ≠ D + 1 ∧ k ≠ D + 2 ∧ k ≠ b) : S1 w b S D (x.setCell ⟨D + 2, 3, none⟩ v) P' S' ⟨0, ordR n L v, msg0⟩ v nilS nilS C := by
  refine h.wr ((Ex.refl (fun j => j = D + 2) x).set (j := 3) rfl _) ?_ (there_set h.t2 _ _) rl (ordR_ok _ _ _) msg0_ok hc
  have := range_set h.r2 3 v
  rw [Nat.zero_add] at this
  exact this
attribute [-simp] Try.isAgg70 Try.sizeOf70 Try.typeInfo70
attribute [local irreducible] rootP shaP
set_option linter.unusedSimpArgs false in
set_option maxRecDepth 100000 in
set_option maxHeartbeats 8000000 in
theorem step_o (w : World) (b : Nat) (P : Pr) (S : List Nat) (h : PP w b P S) (a : Option Addr) (n cap : Nat) (L : Nat → Leg) (hn : n ≤ 9223372036854775807) (hL : LegsAt w a n L) (ch pt gs ac tk am : Int) :
    Calls Try.prog 22 #[.pointer (some ⟨b, 0, none⟩), .agg (opV 3 a n cap ch pt gs ac tk am).toArray] w fun e w' => ∃ v, StPost w b S P ⟨ordCode n L, ordR n L v, msg0⟩ e w' := by
  have HIN := hide (fun (x : World) (k : Below w.heap.size w x) => order_any x a n cap L hn (hL.below k))
  have HOR : Hid (∀ (x y : World) (v : Value), (ordCode n L ≠ 0 → v = .slice none 0 0) → (ordCode n L = 0 → y.ownsRow x.heap.size 3 1 v (sortP n (needM n L)).1.length (vals (sortP n (needM n L)).1)) → RL y (ordR n L v) v nilS nilS (blks [v, nilS, nilS]) ∧ (∀ k, k ∈ blks [v, nilS, nilS] → x.heap.size ≤ k) ∧ ∃ va vn vc, v = .slice va vn vc) := fun x y v h1 h2 => ordR_rl h1 h2
  have HSO : Hid (∀ (x : World) (D : Nat) (S' : List Nat) (v : Value) (C : List Nat), S1 w b S D x P S' an0 nilS nilS nilS [] → RL x (ordR n L v) v nilS nilS C → (∀ k, k ∈ C → w.heap.size ≤ k ∧ k ∉ S' ∧ k ≠ D + 1 ∧ k ≠ D + 2 ∧ k ≠ b) → S1 w b S D (x.setCell ⟨D + 2, 3, none⟩ v) P S' ⟨0, ordR n L v, msg0⟩ v nilS nilS C) := fun x D S' v C h1 h2 h3 => h1.ord h2 h3
  obtain ⟨OR, hOR⟩ : ∃ OR, ordR n L = OR := ⟨_, rfl⟩
  obtain ⟨cd, hcd⟩ : ∃ cd, ordCode n L = cd := ⟨_, rfl⟩
  simp only [hOR, hcd] at HIN HOR HSO ⊢
  clear hn hL hOR hcd
  have HP := hide h
  unfold opV
  have HS0 : Hid (S0 w (((w.alloc (.cells #[.int .i64 3, .slice a n cap, .int .u8 ch, .int .i64 pt, .int .u64 gs, .int .u8 ac, .int .u8 tk, .int .u64 am] 33)).alloc (.cells Try.zeroCells70 70)).alloc (.cells (Try.zeroCells70.setIfInBounds 2 (.int .i64 (-1))) 70)) w.heap.size [.int .i64 3, .slice a n cap, .int .u8 ch, .int .i64 pt, .int .u64 gs, .int .u8 ac, .int .u8 tk, .int .u64 am]) := s0_start w [.int .i64 3, .slice a n cap, .int .u8 ch, .int .i64 pt, .int .u64 gs, .int .u8 ac, .int .u8 tk, .int .u64 am]
  clear h
  go_enter Try.func22, Try.ntmps22
  go_upto_region 3 with fail
  obtain ⟨D, hD⟩ : ∃ D, w.heap.size = D := ⟨_, rfl⟩
  have hD1 : w.heap.size + 1 = D + 1 := by rw [hD]
  simp only [hD] at HS0 ⊢
  simp only [show D + 1 + 1 = D + 2 from rfl] at HS0 ⊢
  have HD := hide hD
  clear hD hD1
  generalize ((w.alloc (.cells #[.int .i64 3, .slice a n cap, .int .u8 ch, .int .i64 pt, .int .u64 gs, .int .u8 ac, .int .u8 tk, .int .u64 am] 33)).alloc (.cells Try.zeroCells70 70)).alloc (.cells (Try.zeroCells70.setIfInBounds 2 (.int .i64 (-1))) 70) = w3 at *
  have cl0 := HS0.out.cell (j := 0) rfl
  have cl1 := HS0.out.cell (j := 1) rfl
  have cl2 := HS0.out.cell (j := 2) rfl
  have cl3 := HS0.out.cell (j := 3) rfl
  have cl4 := HS0.out.cell (j := 4) rfl
  have cl5 := HS0.out.cell (j := 5) rfl
  have cl6 := HS0.out.cell (j := 6) rfl
  have cl7 := HS0.out.cell (j := 7) rfl
  have HS1 := hide (s1_of HS0.out HP.out)
  obtain ⟨c0, f0, -, c3, f3⟩ := HS1.out.c0
  have c0' : w3.cell? ⟨D + 2, 0, none⟩ = some (.int .i64 0) := c0
  clear c0 c3
  go_upto_region 12 with fail
  go_upto_region 20 with (go_at_call 13; refine (HIN.out w3 HS0.out.be).mono ?_; rintro e y ⟨v, rfl, hbe, h1, h2⟩; have HOO := hide (HOR.out w3 y v h1 h2); obtain ⟨va, vn, vc, hv⟩ := HOO.out.2.2; subst hv; have HYS := hide (HS1.out.below hbe); have c0y : y.cell? ⟨D + 2, 0, none⟩ = some (.int .i64 0) := HYS.out.c0.1; have f0y := HYS.out.c0.2.1; have c3y := HYS.out.c0.2.2.2.1; have f3y := HYS.out.c0.2.2.2.2; clear h1 h2 hbe; simp only [])
  have HCC : Hid (∀ k, k ∈ blks [.slice va vn vc, nilS, nilS] → w.heap.size ≤ k ∧ k ∉ S ∧ k ≠ D + 1 ∧ k ≠ D + 2 ∧ k ≠ b) := fun k hk => by
    have h1 := HOO.out.2.1 k hk
    have h2 := HS0.out.sz
    have h3 := HS0.out.eD
    have h4 := HP.out.bl
    exact ⟨by omega, fun e => by have := HP.out.lt e; omega, by omega, by omega, by omega⟩
  have HS2 := hide (HSO.out y D S _ _ HYS.out HOO.out.1 HCC.out)
  have HS3 := hide (HS2.out.code cd)
  generalize (y.setCell ⟨D + 2, 3, none⟩ (.slice va vn vc)).setCell ⟨D + 2, 0, none⟩ (.int .i64 cd) = y3 at *
  clear cl0 cl1 cl2 cl3 cl4 cl5 cl6 cl7 c0' f0 f3 c0y f0y c3y f3y HS2 HYS HS1 HS0 HIN HOR HSO
  obtain ⟨F, hF⟩ : ∃ F, (⟨cd, OR (.slice va vn vc), msg0⟩ : An).vals (.slice va vn vc) nilS nilS = F := ⟨_, rfl⟩
  have HFl : Hid (F.length = 112) := by rw [← hF]; exact An.len HS3.out.ok HS3.out.mo _ _ _
  have HF1 : Hid (∀ u ∈ F, u.oneCell' = true) := by rw [← hF]; exact HS3.out.one
  have HRG : Hid (y3.rangeAt (D + 2) 0 F) := by rw [← hF]; exact HS3.out.r2
  have HT6 := hide HS3.out.t1
  have HFN : Hid (∀ y, Ex (fun j => j = D + 1) y3 y → StPost _ _ _ _ _ (.returned (.agg F.toArray)) y) := fun y ex => by rw [← hF]; exact HS3.out.fin ex
  clear hF
  go_upto_region 20 with fail
  go_wp2_with fail
  simp only [Try.isAgg70, Try.sizeOf70, Result.andThen, ↓reduceIte, ldC y3 (D + 2) 0 F 112 HFl.out HRG.out]
  rw [Oper.upon_value]
  go_wp2_with fail
  simp only [Try.sizeOf70, Result.andThen, HFl.out, ↓reduceIte, stC y3 (D + 1) 0 F (by rw [HFl.out]; exact HT6.out) HF1.out]
  rw [Oper.upon_skip]
  have HRZ := hide (World.rangeAt_setCells_same y3 (D + 1) 0 F (by rw [HFl.out]; exact HT6.out))
  have HPO := hide (HFN.out _ (Ex.sets (S := fun j => j = D + 1) rfl F 0 y3 (Ex.refl _ _)))
  generalize y3.setCells (D + 1) 0 F = wz at *
  clear HFN HRG HT6
  go_wp2_with fail
  exact bodyPost_ret (v := .agg F.toArray) (res_cell Try.results22 rfl (run_loadVar_mid wz (D + 1) 0 70 F _ HRZ.out Try.underlying70 rfl (by rw [HFl.out]; exact Try.sz70))) rfl ⟨.slice va vn vc, HPO.out⟩
set_option linter.unusedSimpArgs false in
set_option maxRecDepth 100000 in
set_option maxHeartbeats 8000000 in
theorem step_n (w : World) (b : Nat) (P : Pr) (S : List Nat) (h : PP w b P S) (hoa : P.la.opn = true) (hob : P.lb.opn = true) (a : Option Addr) (n cap : Nat) (ch pt gs ac tk am : Int) (hg : 0 ≤ gs) :
    Calls Try.prog 22 #[.pointer (some ⟨b, 0, none⟩), .agg (opV 5 a n cap ch pt gs ac tk am).toArray] w (StPost w b S (nextS P gs) ⟨nextC P gs, refR 0 (-1), msg0⟩) := by
  have HIN := hide (fun (x : World) (k : Below w.heap.size w x) => nextP_any x b P S (h.below k) gs hg hoa hob)
  obtain ⟨PS, hPS⟩ : ∃ PS, nextS P gs = PS := ⟨_, rfl⟩
  obtain ⟨cd, hcd⟩ : ∃ cd, nextC P gs = cd := ⟨_, rfl⟩
  rw [hPS, hcd] at HIN ⊢
  clear hoa hob hPS hcd hg
  have HP := hide h
  unfold opV
  have HS0 : Hid (S0 w (((w.alloc (.cells #[.int .i64 5, .slice a n cap, .int .u8 ch, .int .i64 pt, .int .u64 gs, .int .u8 ac, .int .u8 tk, .int .u64 am] 33)).alloc (.cells Try.zeroCells70 70)).alloc (.cells (Try.zeroCells70.setIfInBounds 2 (.int .i64 (-1))) 70)) w.heap.size [.int .i64 5, .slice a n cap, .int .u8 ch, .int .i64 pt, .int .u64 gs, .int .u8 ac, .int .u8 tk, .int .u64 am]) := s0_start w [.int .i64 5, .slice a n cap, .int .u8 ch, .int .i64 pt, .int .u64 gs, .int .u8 ac, .int .u8 tk, .int .u64 am]
  clear h
  go_enter Try.func22, Try.ntmps22
  go_upto_region 3 with fail
  obtain ⟨D, hD⟩ : ∃ D, w.heap.size = D := ⟨_, rfl⟩
  have hD1 : w.heap.size + 1 = D + 1 := by rw [hD]
  simp only [hD] at HS0 ⊢
  simp only [show D + 1 + 1 = D + 2 from rfl] at HS0 ⊢
  have HD := hide hD
  clear hD hD1
  generalize ((w.alloc (.cells #[.int .i64 5, .slice a n cap, .int .u8 ch, .int .i64 pt, .int .u64 gs, .int .u8 ac, .int .u8 tk, .int .u64 am] 33)).alloc (.cells Try.zeroCells70 70)).alloc (.cells (Try.zeroCells70.setIfInBounds 2 (.int .i64 (-1))) 70) = w3 at *
  have cl0 := HS0.out.cell (j := 0) rfl
  have cl1 := HS0.out.cell (j := 1) rfl
  have cl2 := HS0.out.cell (j := 2) rfl
  have cl3 := HS0.out.cell (j := 3) rfl
  have cl4 := HS0.out.cell (j := 4) rfl
  have cl5 := HS0.out.cell (j := 5) rfl
  have cl6 := HS0.out.cell (j := 6) rfl
  have cl7 := HS0.out.cell (j := 7) rfl
  have HS1 := hide (s1_of HS0.out HP.out)
  go_upto_region 16 with fail
  go_upto_region 20 with (go_at_call 53; refine (HIN.out w3 HS0.out.be).mono ?_; rintro e y ⟨rfl, hps⟩; obtain ⟨S', hs⟩ := HS1.out.step hps; have HYS := hide hs; have c0y : y.cell? ⟨D + 2, 0, none⟩ = some (.int .i64 0) := HYS.out.c0.1; have f0y := HYS.out.c0.2.1; clear hps hs; simp only [])
  have HS3 := hide (HYS.out.code cd)
  generalize y.setCell ⟨D + 2, 0, none⟩ (.int .i64 cd) = y3 at *
  clear cl0 cl1 cl2 cl3 cl4 cl5 cl6 cl7 c0y f0y HYS HS1 HS0 HIN
  obtain ⟨F, hF⟩ : ∃ F, (⟨cd, refR 0 (-1), msg0⟩ : An).vals nilS nilS nilS = F := ⟨_, rfl⟩
  have HFl : Hid (F.length = 112) := by rw [← hF]; exact An.len HS3.out.ok HS3.out.mo _ _ _
  have HF1 : Hid (∀ u ∈ F, u.oneCell' = true) := by rw [← hF]; exact HS3.out.one
  have HRG : Hid (y3.rangeAt (D + 2) 0 F) := by rw [← hF]; exact HS3.out.r2
  have HT6 := hide HS3.out.t1
  have HFN : Hid (∀ y, Ex (fun j => j = D + 1) y3 y → StPost _ _ _ _ _ (.returned (.agg F.toArray)) y) := fun y ex => by rw [← hF]; exact HS3.out.fin ex
  clear hF
  go_upto_region 20 with fail
  go_wp2_with fail
  simp only [Try.isAgg70, Try.sizeOf70, Result.andThen, ↓reduceIte, ldC y3 (D + 2) 0 F 112 HFl.out HRG.out]
  rw [Oper.upon_value]
  go_wp2_with fail
  simp only [Try.sizeOf70, Result.andThen, HFl.out, ↓reduceIte, stC y3 (D + 1) 0 F (by rw [HFl.out]; exact HT6.out) HF1.out]
  rw [Oper.upon_skip]
  have HRZ := hide (World.rangeAt_setCells_same y3 (D + 1) 0 F (by rw [HFl.out]; exact HT6.out))
  have HPO := hide (HFN.out _ (Ex.sets (S := fun j => j = D + 1) rfl F 0 y3 (Ex.refl _ _)))
  generalize y3.setCells (D + 1) 0 F = wz at *
  clear HFN HRG HT6
  go_wp2_with fail
  exact bodyPost_ret (v := .agg F.toArray) (res_cell Try.results22 rfl (run_loadVar_mid wz (D + 1) 0 70 F _ HRZ.out Try.underlying70 rfl (by rw [HFl.out]; exact Try.sz70))) rfl HPO.out
set_option linter.unusedSimpArgs false in
set_option maxRecDepth 100000 in
set_option maxHeartbeats 8000000 in
theorem step_d6 (w : World) (b : Nat) (P : Pr) (S : List Nat) (h : PP w b P S) (hsm : PSm P) (a : Option Addr) (n cap : Nat) (ch pt gs ac tk am : Int) :
    Calls Try.prog 22 #[.pointer (some ⟨b, 0, none⟩), .agg (opV 6 a n cap ch pt gs ac tk am).toArray] w (StPost w b S (dpS P 6 ch pt) ⟨dpC P 6 ch pt, refR 0 (-1), msg0⟩) := by
  have HIN := hide (fun (x : World) (k : Below w.heap.size w x) => deepen_any x b P S (h.below k) hsm 6 a n cap ch pt gs ac tk am)
  unfold opV at HIN
  obtain ⟨PS, hPS⟩ : ∃ PS, dpS P 6 ch pt = PS := ⟨_, rfl⟩
  obtain ⟨cd, hcd⟩ : ∃ cd, dpC P 6 ch pt = cd := ⟨_, rfl⟩
  rw [hPS, hcd] at HIN ⊢
  clear hsm hPS hcd
  have HP := hide h
  unfold opV
  have HS0 : Hid (S0 w (((w.alloc (.cells #[.int .i64 6, .slice a n cap, .int .u8 ch, .int .i64 pt, .int .u64 gs, .int .u8 ac, .int .u8 tk, .int .u64 am] 33)).alloc (.cells Try.zeroCells70 70)).alloc (.cells (Try.zeroCells70.setIfInBounds 2 (.int .i64 (-1))) 70)) w.heap.size [.int .i64 6, .slice a n cap, .int .u8 ch, .int .i64 pt, .int .u64 gs, .int .u8 ac, .int .u8 tk, .int .u64 am]) := s0_start w [.int .i64 6, .slice a n cap, .int .u8 ch, .int .i64 pt, .int .u64 gs, .int .u8 ac, .int .u8 tk, .int .u64 am]
  clear h
  go_enter Try.func22, Try.ntmps22
  go_upto_region 3 with fail
  obtain ⟨D, hD⟩ : ∃ D, w.heap.size = D := ⟨_, rfl⟩
  have hD1 : w.heap.size + 1 = D + 1 := by rw [hD]
  simp only [hD] at HS0 ⊢
  simp only [show D + 1 + 1 = D + 2 from rfl] at HS0 ⊢
  have HD := hide hD
  clear hD hD1
  generalize ((w.alloc (.cells #[.int .i64 6, .slice a n cap, .int .u8 ch, .int .i64 pt, .int .u64 gs, .int .u8 ac, .int .u8 tk, .int .u64 am] 33)).alloc (.cells Try.zeroCells70 70)).alloc (.cells (Try.zeroCells70.setIfInBounds 2 (.int .i64 (-1))) 70) = w3 at *
  have cl0 := HS0.out.cell (j := 0) rfl
  have cl1 := HS0.out.cell (j := 1) rfl
  have cl2 := HS0.out.cell (j := 2) rfl
  have cl3 := HS0.out.cell (j := 3) rfl
  have cl4 := HS0.out.cell (j := 4) rfl
  have cl5 := HS0.out.cell (j := 5) rfl
  have cl6 := HS0.out.cell (j := 6) rfl
  have cl7 := HS0.out.cell (j := 7) rfl
  have HS1 := hide (s1_of HS0.out HP.out)
  go_upto_region 19 with fail
  go_upto_region 20 with (go_at_call 54; refine (HIN.out w3 HS0.out.be).mono ?_; rintro e y ⟨rfl, hps⟩; obtain ⟨S', hs⟩ := HS1.out.step hps; have HYS := hide hs; have c0y : y.cell? ⟨D + 2, 0, none⟩ = some (.int .i64 0) := HYS.out.c0.1; have f0y := HYS.out.c0.2.1; clear hps hs; simp only [])
  have HS3 := hide (HYS.out.code cd)
  generalize y.setCell ⟨D + 2, 0, none⟩ (.int .i64 cd) = y3 at *
  clear cl0 cl1 cl2 cl3 cl4 cl5 cl6 cl7 c0y f0y HYS HS1 HS0 HIN
  obtain ⟨F, hF⟩ : ∃ F, (⟨cd, refR 0 (-1), msg0⟩ : An).vals nilS nilS nilS = F := ⟨_, rfl⟩
  have HFl : Hid (F.length = 112) := by rw [← hF]; exact An.len HS3.out.ok HS3.out.mo _ _ _
  have HF1 : Hid (∀ u ∈ F, u.oneCell' = true) := by rw [← hF]; exact HS3.out.one
  have HRG : Hid (y3.rangeAt (D + 2) 0 F) := by rw [← hF]; exact HS3.out.r2
  have HT6 := hide HS3.out.t1
  have HFN : Hid (∀ y, Ex (fun j => j = D + 1) y3 y → StPost _ _ _ _ _ (.returned (.agg F.toArray)) y) := fun y ex => by rw [← hF]; exact HS3.out.fin ex
  clear hF
  go_upto_region 20 with fail
  go_wp2_with fail
  simp only [Try.isAgg70, Try.sizeOf70, Result.andThen, ↓reduceIte, ldC y3 (D + 2) 0 F 112 HFl.out HRG.out]
  rw [Oper.upon_value]
  go_wp2_with fail
  simp only [Try.sizeOf70, Result.andThen, HFl.out, ↓reduceIte, stC y3 (D + 1) 0 F (by rw [HFl.out]; exact HT6.out) HF1.out]
  rw [Oper.upon_skip]
  have HRZ := hide (World.rangeAt_setCells_same y3 (D + 1) 0 F (by rw [HFl.out]; exact HT6.out))
  have HPO := hide (HFN.out _ (Ex.sets (S := fun j => j = D + 1) rfl F 0 y3 (Ex.refl _ _)))
  generalize y3.setCells (D + 1) 0 F = wz at *
  clear HFN HRG HT6
  go_wp2_with fail
  exact bodyPost_ret (v := .agg F.toArray) (res_cell Try.results22 rfl (run_loadVar_mid wz (D + 1) 0 70 F _ HRZ.out Try.underlying70 rfl (by rw [HFl.out]; exact Try.sz70))) rfl HPO.out
set_option linter.unusedSimpArgs false in
set_option maxRecDepth 100000 in
set_option maxHeartbeats 8000000 in
theorem step_d7 (w : World) (b : Nat) (P : Pr) (S : List Nat) (h : PP w b P S) (hsm : PSm P) (a : Option Addr) (n cap : Nat) (ch pt gs ac tk am : Int) :
    Calls Try.prog 22 #[.pointer (some ⟨b, 0, none⟩), .agg (opV 7 a n cap ch pt gs ac tk am).toArray] w (StPost w b S (dpS P 7 ch pt) ⟨dpC P 7 ch pt, refR 0 (-1), msg0⟩) := by
  have HIN := hide (fun (x : World) (k : Below w.heap.size w x) => deepen_any x b P S (h.below k) hsm 7 a n cap ch pt gs ac tk am)
  unfold opV at HIN
  obtain ⟨PS, hPS⟩ : ∃ PS, dpS P 7 ch pt = PS := ⟨_, rfl⟩
  obtain ⟨cd, hcd⟩ : ∃ cd, dpC P 7 ch pt = cd := ⟨_, rfl⟩
  rw [hPS, hcd] at HIN ⊢
  clear hsm hPS hcd
  have HP := hide h
  unfold opV
  have HS0 : Hid (S0 w (((w.alloc (.cells #[.int .i64 7, .slice a n cap, .int .u8 ch, .int .i64 pt, .int .u64 gs, .int .u8 ac, .int .u8 tk, .int .u64 am] 33)).alloc (.cells Try.zeroCells70 70)).alloc (.cells (Try.zeroCells70.setIfInBounds 2 (.int .i64 (-1))) 70)) w.heap.size [.int .i64 7, .slice a n cap, .int .u8 ch, .int .i64 pt, .int .u64 gs, .int .u8 ac, .int .u8 tk, .int .u64 am]) := s0_start w [.int .i64 7, .slice a n cap, .int .u8 ch, .int .i64 pt, .int .u64 gs, .int .u8 ac, .int .u8 tk, .int .u64 am]
  clear h
  go_enter Try.func22, Try.ntmps22
  go_upto_region 3 with fail
  obtain ⟨D, hD⟩ : ∃ D, w.heap.size = D := ⟨_, rfl⟩
  have hD1 : w.heap.size + 1 = D + 1 := by rw [hD]
  simp only [hD] at HS0 ⊢
  simp only [show D + 1 + 1 = D + 2 from rfl] at HS0 ⊢
  have HD := hide hD
  clear hD hD1
  generalize ((w.alloc (.cells #[.int .i64 7, .slice a n cap, .int .u8 ch, .int .i64 pt, .int .u64 gs, .int .u8 ac, .int .u8 tk, .int .u64 am] 33)).alloc (.cells Try.zeroCells70 70)).alloc (.cells (Try.zeroCells70.setIfInBounds 2 (.int .i64 (-1))) 70) = w3 at *
  have cl0 := HS0.out.cell (j := 0) rfl
  have cl1 := HS0.out.cell (j := 1) rfl
  have cl2 := HS0.out.cell (j := 2) rfl
  have cl3 := HS0.out.cell (j := 3) rfl
  have cl4 := HS0.out.cell (j := 4) rfl
  have cl5 := HS0.out.cell (j := 5) rfl
  have cl6 := HS0.out.cell (j := 6) rfl
  have cl7 := HS0.out.cell (j := 7) rfl
  have HS1 := hide (s1_of HS0.out HP.out)
  go_upto_region 19 with fail
  go_upto_region 20 with (go_at_call 54; refine (HIN.out w3 HS0.out.be).mono ?_; rintro e y ⟨rfl, hps⟩; obtain ⟨S', hs⟩ := HS1.out.step hps; have HYS := hide hs; have c0y : y.cell? ⟨D + 2, 0, none⟩ = some (.int .i64 0) := HYS.out.c0.1; have f0y := HYS.out.c0.2.1; clear hps hs; simp only [])
  have HS3 := hide (HYS.out.code cd)
  generalize y.setCell ⟨D + 2, 0, none⟩ (.int .i64 cd) = y3 at *
  clear cl0 cl1 cl2 cl3 cl4 cl5 cl6 cl7 c0y f0y HYS HS1 HS0 HIN
  obtain ⟨F, hF⟩ : ∃ F, (⟨cd, refR 0 (-1), msg0⟩ : An).vals nilS nilS nilS = F := ⟨_, rfl⟩
  have HFl : Hid (F.length = 112) := by rw [← hF]; exact An.len HS3.out.ok HS3.out.mo _ _ _
  have HF1 : Hid (∀ u ∈ F, u.oneCell' = true) := by rw [← hF]; exact HS3.out.one
  have HRG : Hid (y3.rangeAt (D + 2) 0 F) := by rw [← hF]; exact HS3.out.r2
  have HT6 := hide HS3.out.t1
  have HFN : Hid (∀ y, Ex (fun j => j = D + 1) y3 y → StPost _ _ _ _ _ (.returned (.agg F.toArray)) y) := fun y ex => by rw [← hF]; exact HS3.out.fin ex
  clear hF
  go_upto_region 20 with fail
  go_wp2_with fail
  simp only [Try.isAgg70, Try.sizeOf70, Result.andThen, ↓reduceIte, ldC y3 (D + 2) 0 F 112 HFl.out HRG.out]
  rw [Oper.upon_value]
  go_wp2_with fail
  simp only [Try.sizeOf70, Result.andThen, HFl.out, ↓reduceIte, stC y3 (D + 1) 0 F (by rw [HFl.out]; exact HT6.out) HF1.out]
  rw [Oper.upon_skip]
  have HRZ := hide (World.rangeAt_setCells_same y3 (D + 1) 0 F (by rw [HFl.out]; exact HT6.out))
  have HPO := hide (HFN.out _ (Ex.sets (S := fun j => j = D + 1) rfl F 0 y3 (Ex.refl _ _)))
  generalize y3.setCells (D + 1) 0 F = wz at *
  clear HFN HRG HT6
  go_wp2_with fail
  exact bodyPost_ret (v := .agg F.toArray) (res_cell Try.results22 rfl (run_loadVar_mid wz (D + 1) 0 70 F _ HRZ.out Try.underlying70 rfl (by rw [HFl.out]; exact Try.sz70))) rfl HPO.out
set_option linter.unusedSimpArgs false in
set_option maxRecDepth 100000 in
set_option maxHeartbeats 8000000 in
theorem step_p (w : World) (b : Nat) (P : Pr) (S : List Nat) (h : PP w b P S) (hl : P.b1.out.length ≤ 900000000000) (a : Option Addr) (n cap : Nat) (ch pt gs ac tk am : Int) (h1 : 0 ≤ ch ∧ ch < 256) (hb2 : 0 ≤ ac ∧ ac < 256) (hb3 : 0 ≤ tk ∧ tk < 256) (hb4 : 0 ≤ am ∧ am < m64) :
    Calls Try.prog 22 #[.pointer (some ⟨b, 0, none⟩), .agg (opV 4 a n cap ch pt gs ac tk am).toArray] w (StPost w b S (depS P ch ac tk am) ⟨depC P ch ac tk am, refR 0 (-1), depA P ch ac tk am⟩) := by
  have HIN := hide (fun (x : World) (k : Below w.heap.size w x) => deposit_any x b P S (h.below k) hl ch ac tk am h1 hb2 hb3 hb4)
  have HMO : Hid (MsgOk (depA P ch ac tk am)) := by
    unfold depA
    split
    · unfold sndM
      split
      · exact msg0_ok
      · exact stamp_ok (depM_ok h1 hb2 hb3 hb4) hl
    · exact msg0_ok
  obtain ⟨PS, hPS⟩ : ∃ PS, depS P ch ac tk am = PS := ⟨_, rfl⟩
  obtain ⟨cd, hcd⟩ : ∃ cd, depC P ch ac tk am = cd := ⟨_, rfl⟩
  obtain ⟨m, hm⟩ : ∃ m, depA P ch ac tk am = m := ⟨_, rfl⟩
  rw [hPS, hcd, hm] at HIN ⊢
  rw [hm] at HMO
  clear hPS hcd hm hl h1 hb2 hb3 hb4
  obtain ⟨M, hM⟩ : ∃ M, msv m = M := ⟨_, rfl⟩
  have hMl : M.length = 41 := by rw [← hM]; exact msv_len HMO.out
  have HM1 : Hid (∀ u ∈ M, u.oneCell' = true) := by rw [← hM]; exact kvs_one _ _
  have HM := hide hM
  rw [hM] at HIN
  clear hM
  have HP := hide h
  unfold opV
  have HS0 : Hid (S0 w (((w.alloc (.cells #[.int .i64 4, .slice a n cap, .int .u8 ch, .int .i64 pt, .int .u64 gs, .int .u8 ac, .int .u8 tk, .int .u64 am] 33)).alloc (.cells Try.zeroCells70 70)).alloc (.cells (Try.zeroCells70.setIfInBounds 2 (.int .i64 (-1))) 70)) w.heap.size [.int .i64 4, .slice a n cap, .int .u8 ch, .int .i64 pt, .int .u64 gs, .int .u8 ac, .int .u8 tk, .int .u64 am]) := s0_start w [.int .i64 4, .slice a n cap, .int .u8 ch, .int .i64 pt, .int .u64 gs, .int .u8 ac, .int .u8 tk, .int .u64 am]
  clear h
  go_enter Try.func22, Try.ntmps22
  go_upto_region 3 with fail
  obtain ⟨D, hD⟩ : ∃ D, w.heap.size = D := ⟨_, rfl⟩
  have hD1 : w.heap.size + 1 = D + 1 := by rw [hD]
  simp only [hD] at HS0 ⊢
  simp only [show D + 1 + 1 = D + 2 from rfl] at HS0 ⊢
  have HD := hide hD
  clear hD hD1
  generalize ((w.alloc (.cells #[.int .i64 4, .slice a n cap, .int .u8 ch, .int .i64 pt, .int .u64 gs, .int .u8 ac, .int .u8 tk, .int .u64 am] 33)).alloc (.cells Try.zeroCells70 70)).alloc (.cells (Try.zeroCells70.setIfInBounds 2 (.int .i64 (-1))) 70) = w3 at *
  have cl0 := HS0.out.cell (j := 0) rfl
  have cl1 := HS0.out.cell (j := 1) rfl
  have cl2 := HS0.out.cell (j := 2) rfl
  have cl3 := HS0.out.cell (j := 3) rfl
  have cl4 := HS0.out.cell (j := 4) rfl
  have cl5 := HS0.out.cell (j := 5) rfl
  have cl6 := HS0.out.cell (j := 6) rfl
  have cl7 := HS0.out.cell (j := 7) rfl
  have HS1 := hide (s1_of HS0.out HP.out)
  go_upto_region 14 with fail
  go_wp2_with (go_at_call 52; refine (HIN.out w3 HS0.out.be).mono ?_; rintro e y ⟨rfl, hps⟩; obtain ⟨S', hs⟩ := HS1.out.step hps; have HYS := hide hs; clear hps hs; simp only [])
  have HTT := hide (there_part HYS.out.t2 (o := 71) (m := 41) (by omega))
  have HS2 := hide (HYS.out.msg HMO.out)
  rw [HM.out] at HS2
  simp only [Result.andThen, stC y (D + 2) 71 M (by rw [hMl]; exact HTT.out) HM1.out]
  rw [Oper.upon_skip]
  generalize y.setCells (D + 2) 71 M = y2 at *
  have c0y : y2.cell? ⟨D + 2, 0, none⟩ = some (.int .i64 0) := HS2.out.c0.1
  have f0y := HS2.out.c0.2.1
  go_upto_region 20 with fail
  have HS3 := hide (HS2.out.code cd)
  generalize y2.setCell ⟨D + 2, 0, none⟩ (.int .i64 cd) = y3 at *
  clear cl0 cl1 cl2 cl3 cl4 cl5 cl6 cl7 c0y f0y HYS HS1 HS0 HIN HS2
  obtain ⟨F, hF⟩ : ∃ F, (⟨cd, refR 0 (-1), m⟩ : An).vals nilS nilS nilS = F := ⟨_, rfl⟩
  have HFl : Hid (F.length = 112) := by rw [← hF]; exact An.len HS3.out.ok HS3.out.mo _ _ _
  have HF1 : Hid (∀ u ∈ F, u.oneCell' = true) := by rw [← hF]; exact HS3.out.one
  have HRG : Hid (y3.rangeAt (D + 2) 0 F) := by rw [← hF]; exact HS3.out.r2
  have HT6 := hide HS3.out.t1
  have HFN : Hid (∀ y, Ex (fun j => j = D + 1) y3 y → StPost _ _ _ _ _ (.returned (.agg F.toArray)) y) := fun y ex => by rw [← hF]; exact HS3.out.fin ex
  clear hF
  go_upto_region 20 with fail
  go_wp2_with fail
  simp only [Try.isAgg70, Try.sizeOf70, Result.andThen, ↓reduceIte, ldC y3 (D + 2) 0 F 112 HFl.out HRG.out]
  rw [Oper.upon_value]
  go_wp2_with fail
  simp only [Try.sizeOf70, Result.andThen, HFl.out, ↓reduceIte, stC y3 (D + 1) 0 F (by rw [HFl.out]; exact HT6.out) HF1.out]
  rw [Oper.upon_skip]
  have HRZ := hide (World.rangeAt_setCells_same y3 (D + 1) 0 F (by rw [HFl.out]; exact HT6.out))
  have HPO := hide (HFN.out _ (Ex.sets (S := fun j => j = D + 1) rfl F 0 y3 (Ex.refl _ _)))
  generalize y3.setCells (D + 1) 0 F = wz at *
  clear HFN HRG HT6
  go_wp2_with fail
  exact bodyPost_ret (v := .agg F.toArray) (res_cell Try.results22 rfl (run_loadVar_mid wz (D + 1) 0 70 F _ HRZ.out Try.underlying70 rfl (by rw [HFl.out]; exact Try.sz70))) rfl HPO.out
open Classical in
noncomputable def stepS (P : Pr) (kd : Int) (n : Nat) (L : Nat → Leg) (T : Nat → List Int) (ch pt gs ac tk am : Int) : Pr :=
  if kd = 1 then simS true P n L T else if kd = 4 then depS P ch ac tk am else if kd = 5 then nextS P gs else if kd = 6 ∨ kd = 7 then dpS P kd ch pt else P
open Classical in
noncomputable def stepAn (P : Pr) (kd : Int) (n : Nat) (L : Nat → Leg) (T : Nat → List Int) (ch pt gs ac tk am : Int) (v : Value) : An :=
  if kd = 1 ∨ kd = 2 then ⟨(simR P n L T v).code, simR P n L T v, msg0⟩ else if kd = 3 then ⟨ordCode n L, ordR n L v, msg0⟩
  else if kd = 4 then ⟨depC P ch ac tk am, refR 0 (-1), depA P ch ac tk am⟩ else if kd = 5 then ⟨nextC P gs, refR 0 (-1), msg0⟩
  else if kd = 6 ∨ kd = 7 then ⟨dpC P kd ch pt, refR 0 (-1), msg0⟩ else ⟨41, refR 0 (-1), msg0⟩
theorem simS_false (P : Pr) (n : Nat) (L : Nat → Leg) (T : Nat → List Int) : simS false P n L T = P := by unfold simS; rw [if_neg (by simp)]
/-- bundlelaw.step -/
theorem step_any (w W : World) (b : Nat) (P : Pr) (S : List Nat) (h : PP w b P S) (hsm : PSm P) (hW : Below W.heap.size W w) (hWb : W.heap.size ≤ b) (hWS : ∀ k, k ∈ S → W.heap.size ≤ k) (hoa : P.la.opn = true) (hob : P.lb.opn = true) (kd : Int) (a : Option Addr) (n cap : Nat) (L : Nat → Leg) (T : Nat → List Int) (hn : n ≤ 9223372036854775807) (hL : LegsAt W a n L) (hV : ordCode n L = 0 → ∀ i, i < n → LegV (legL (L i)) (L i).ch (T i)) (z : Nat) (hz : Bnd z P) (hzl : z ≤ 800000000000) (ch pt gs ac tk am : Int) (h1 : 0 ≤ ch ∧ ch < 256) (hg : 0 ≤ gs) (hb2 : 0 ≤ ac ∧ ac < 256) (hb3 : 0 ≤ tk ∧ tk < 256) (hb4 : 0 ≤ am ∧ am < m64) :
    Calls Try.prog 22 #[.pointer (some ⟨b, 0, none⟩), .agg (opV kd a n cap ch pt gs ac tk am).toArray] w fun e w' => ∃ v, StPost w b S (stepS P kd n L T ch pt gs ac tk am) (stepAn P kd n L T ch pt gs ac tk am v) e w' := by
  have hl : P.b1.out.length ≤ 900000000000 := by have := hz.o 3; simp only [Pr.box, show ((3 : Int) = 1) = False by simp, show ((3 : Int) = 2) = False by simp, if_false] at this; omega
  by_cases k1 : kd = 1
  · subst k1
    have e1 : stepS P 1 n L T ch pt gs ac tk am = simS true P n L T := if_pos rfl
    have e2 : ∀ v, stepAn P 1 n L T ch pt gs ac tk am v = ⟨(simR P n L T v).code, simR P n L T v, msg0⟩ := fun v => if_pos (.inl rfl)
    rw [e1]
    simp only [e2]
    exact step_i w W b P S h hsm hW hWb hWS a n cap L T hn hL hV z hz hzl ch pt gs ac tk am
  by_cases k2 : kd = 2
  · subst k2
    have e1 : stepS P 2 n L T ch pt gs ac tk am = P := by unfold stepS; rw [if_neg (by decide), if_neg (by decide), if_neg (by decide), if_neg (by decide)]
    have e2 : ∀ v, stepAn P 2 n L T ch pt gs ac tk am v = ⟨(simR P n L T v).code, simR P n L T v, msg0⟩ := fun v => if_pos (.inr rfl)
    have := step_y w W b P S h hsm hW hWb hWS a n cap L T hn hL hV z hz hzl ch pt gs ac tk am
    rw [simS_false] at this
    rw [e1]
    simp only [e2]
    exact this
  by_cases k3 : kd = 3
  · subst k3
    have e1 : stepS P 3 n L T ch pt gs ac tk am = P := by unfold stepS; rw [if_neg (by decide), if_neg (by decide), if_neg (by decide), if_neg (by decide)]
    have e2 : ∀ v, stepAn P 3 n L T ch pt gs ac tk am v = ⟨ordCode n L, ordR n L v, msg0⟩ := fun v => by unfold stepAn; rw [if_neg (by decide), if_pos rfl]
    rw [e1]
    simp only [e2]
    exact step_o w b P S h a n cap L hn (hL.below hW) ch pt gs ac tk am
  by_cases k4 : kd = 4
  · subst k4
    have e1 : stepS P 4 n L T ch pt gs ac tk am = depS P ch ac tk am := by unfold stepS; rw [if_neg (by decide), if_pos rfl]
    have e2 : ∀ v, stepAn P 4 n L T ch pt gs ac tk am v = ⟨depC P ch ac tk am, refR 0 (-1), depA P ch ac tk am⟩ := fun v => by unfold stepAn; rw [if_neg (by decide), if_neg (by decide), if_pos rfl]
    rw [e1]
    simp only [e2]
    exact (step_p w b P S h hl a n cap ch pt gs ac tk am h1 hb2 hb3 hb4).mono fun e w' hh => ⟨nilS, hh⟩
  by_cases k5 : kd = 5
  · subst k5
    have e1 : stepS P 5 n L T ch pt gs ac tk am = nextS P gs := by unfold stepS; rw [if_neg (by decide), if_neg (by decide), if_pos rfl]
    have e2 : ∀ v, stepAn P 5 n L T ch pt gs ac tk am v = ⟨nextC P gs, refR 0 (-1), msg0⟩ := fun v => by unfold stepAn; rw [if_neg (by decide), if_neg (by decide), if_neg (by decide), if_pos rfl]
    rw [e1]
    simp only [e2]
    exact (step_n w b P S h hoa hob a n cap ch pt gs ac tk am hg).mono fun e w' hh => ⟨nilS, hh⟩
  by_cases k6 : kd = 6 ∨ kd = 7
  · have e1 : stepS P kd n L T ch pt gs ac tk am = dpS P kd ch pt := by unfold stepS; rw [if_neg k1, if_neg k4, if_neg k5, if_pos k6]
    have e2 : ∀ v, stepAn P kd n L T ch pt gs ac tk am v = ⟨dpC P kd ch pt, refR 0 (-1), msg0⟩ := fun v => by unfold stepAn; rw [if_neg (by omega), if_neg k3, if_neg k4, if_neg k5, if_pos k6]
    rw [e1]
    simp only [e2]
    rcases k6 with rfl | rfl
    · exact (step_d6 w b P S h hsm a n cap ch pt gs ac tk am).mono fun e w' hh => ⟨nilS, hh⟩
    · exact (step_d7 w b P S h hsm a n cap ch pt gs ac tk am).mono fun e w' hh => ⟨nilS, hh⟩
  · have e1 : stepS P kd n L T ch pt gs ac tk am = P := by unfold stepS; rw [if_neg k1, if_neg k4, if_neg k5, if_neg k6]
    have e2 : ∀ v, stepAn P kd n L T ch pt gs ac tk am v = ⟨41, refR 0 (-1), msg0⟩ := fun v => by unfold stepAn; rw [if_neg (by omega), if_neg k3, if_neg k4, if_neg k5, if_neg k6]
    rw [e1]
    simp only [e2]
    exact (step_t w b P S h kd a n cap ch pt gs ac tk am (by omega)).mono fun e w' hh => ⟨nilS, hh⟩
end Go.Proofs.Qxb6500784a
