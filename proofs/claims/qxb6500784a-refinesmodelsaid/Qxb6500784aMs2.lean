import Derived.Test.Qxb6500784aMs0
namespace Go.Proofs.Qxb6500784a
open Go.RowKit

attribute [-simp] Try.isAgg70 Try.sizeOf70 Try.typeInfo70 Try.isAgg56 Try.sizeOf56 Try.typeInfo56
attribute [local irreducible] rootP shaP
set_option linter.unusedSimpArgs false in
set_option maxRecDepth 100000 in
set_option maxHeartbeats 16000000 in
theorem m_o1 (w : World) (b : Nat) (P : Pr) (S : List Nat) (h : PP w b P S) (a : Option Addr) (n cap : Nat) (L : Nat → Leg) (hn : n ≤ 9223372036854775807) (hL : LegsAt w a n L) (h1 : LegsOne n L) (ch pt gs ac tk am : Int) (hc : bCode n L ≠ 0) :
    Calls Try.prog 31 #[.pointer (some ⟨b, 0, none⟩), .agg (opV 3 a n cap ch pt gs ac tk am).toArray] w (StPost w b S P ⟨bCode n L, refR 0 (-1), msg0⟩) := by
  have HL := hide hL
  have HL1 := hide h1
  obtain ⟨cd, hcd⟩ : ∃ c, bCode n L = c := ⟨_, rfl⟩
  rw [hcd] at hc ⊢
  have HB0 := hide hcd
  have dd : (cd == 0) = false := by simp [hc]
  clear hcd hc hL h1
  have HP := hide h
  unfold opV
  have HS0 : Hid (S0 w (((w.alloc (.cells #[.int .i64 3, .slice a n cap, .int .u8 ch, .int .i64 pt, .int .u64 gs, .int .u8 ac, .int .u8 tk, .int .u64 am] 33)).alloc (.cells Try.zeroCells70 70)).alloc (.cells (Try.zeroCells70.setIfInBounds 2 (.int .i64 (-1))) 70)) w.heap.size [.int .i64 3, .slice a n cap, .int .u8 ch, .int .i64 pt, .int .u64 gs, .int .u8 ac, .int .u8 tk, .int .u64 am]) := s0_start w [.int .i64 3, .slice a n cap, .int .u8 ch, .int .i64 pt, .int .u64 gs, .int .u8 ac, .int .u8 tk, .int .u64 am]
  clear h
  go_enter Try.func31, Try.ntmps31
  go_upto_region 3 with fail
  obtain ⟨D, hD⟩ : ∃ D, w.heap.size = D := ⟨_, rfl⟩
  have hD1 : w.heap.size + 1 = D + 1 := by rw [hD]
  simp only [hD] at HS0 ⊢
  simp only [show D + 1 + 1 = D + 2 from rfl] at HS0 ⊢
  have HD := hide hD
  clear hD hD1
  generalize ((w.alloc (.cells #[.int .i64 3, .slice a n cap, .int .u8 ch, .int .i64 pt, .int .u64 gs, .int .u8 ac, .int .u8 tk, .int .u64 am] 33)).alloc (.cells Try.zeroCells70 70)).alloc (.cells (Try.zeroCells70.setIfInBounds 2 (.int .i64 (-1))) 70) = w3 at *
  have cl0 := HS0.out.cell (j := 0) rfl
  have cl1 := HS0.out.cell (j := 1) rfl
  have cl2 := HS0.out.cell (j := 2) rfl
  have cl3 := HS0.out.cell (j := 3) rfl
  have cl4 := HS0.out.cell (j := 4) rfl
  have cl5 := HS0.out.cell (j := 5) rfl
  have cl6 := HS0.out.cell (j := 6) rfl
  have cl7 := HS0.out.cell (j := 7) rfl
  have HS1 := hide (s1_of HS0.out HP.out)
  go_upto_region 12 with fail
  go_upto_region 53 with (go_at_call 15; refine (malformed_any _ a n cap L hn (HL.out.below HS0.out.be) HL1.out).mono ?_; rintro e y ⟨rfl, hbe⟩; have HBy := hide hbe; have HSy := hide (HS1.out.below hbe); have c0y : y.cell? ⟨D + 2, 0, none⟩ = some (.int .i64 0) := HSy.out.c0.1; have f0y := HSy.out.c0.2.1; clear hbe; rw [HB0.out]; simp only [])
  have HS3 := hide (HSy.out.code cd)
  generalize y.setCell ⟨D + 2, 0, none⟩ (.int .i64 cd) = y3 at *
  clear c0y f0y HSy HS1 HS0
  clear cl0 cl1 cl2 cl3 cl4 cl5 cl6 cl7
  obtain ⟨F, hF⟩ : ∃ F, (⟨cd, refR 0 (-1), msg0⟩ : An).vals nilS nilS nilS = F := ⟨_, rfl⟩
  have HFl : Hid (F.length = 112) := by rw [← hF]; exact An.len HS3.out.ok HS3.out.mo _ _ _
  have HF1 : Hid (∀ u ∈ F, u.oneCell' = true) := by rw [← hF]; exact HS3.out.one
  have HRG : Hid (y3.rangeAt (D + 2) 0 F) := by rw [← hF]; exact HS3.out.r2
  have HT6 := hide HS3.out.t1
  have HFN : Hid (∀ y, Ex (fun j => j = D + 1) y3 y → StPost _ _ _ _ _ (.returned (.agg F.toArray)) y) := fun y ex => by rw [← hF]; exact HS3.out.fin ex
  clear hF
  go_upto_region 53 with fail
  go_wp2_with fail
  simp only [Try.isAgg70, Try.sizeOf70, Result.andThen, ↓reduceIte, ldC y3 (D + 2) 0 F 112 HFl.out HRG.out]
  rw [Oper.upon_value]
  go_wp2_with fail
  simp only [Try.sizeOf70, Result.andThen, HFl.out, ↓reduceIte, stC y3 (D + 1) 0 F (by rw [HFl.out]; exact HT6.out) HF1.out]
  rw [Oper.upon_skip]
  have HRZ := hide (World.rangeAt_setCells_same y3 (D + 1) 0 F (by rw [HFl.out]; exact HT6.out))
  have HPO := hide (HFN.out _ (Ex.sets (S := fun j => j = D + 1) rfl F 0 y3 (Ex.refl _ _)))
  generalize y3.setCells (D + 1) 0 F = wz at *
  clear HFN HRG HT6
  go_wp2_with fail
  exact bodyPost_ret (v := .agg F.toArray) (res_cell Try.results31 rfl (run_loadVar_mid wz (D + 1) 0 70 F _ HRZ.out Try.underlying70 rfl (by rw [HFl.out]; exact Try.sz70))) rfl HPO.out
set_option linter.unusedSimpArgs false in
set_option maxRecDepth 100000 in
set_option maxHeartbeats 16000000 in
theorem m_o2 (w : World) (b : Nat) (P : Pr) (S : List Nat) (h : PP w b P S) (a : Option Addr) (n cap : Nat) (L : Nat → Leg) (hn : n ≤ 9223372036854775807) (hL : LegsAt w a n L) (h1 : LegsOne n L) (ch pt gs ac tk am : Int) (hb0 : bCode n L = 0) (hc : ordCode n L ≠ 0) :
    Calls Try.prog 31 #[.pointer (some ⟨b, 0, none⟩), .agg (opV 3 a n cap ch pt gs ac tk am).toArray] w (StPost w b S P ⟨67, refR 0 (-1), msg0⟩) := by
  have HL := hide hL
  have HL1 := hide h1
  have hst : stuckP n (needM n L) ≠ 0 := fun e => hc (by unfold ordCode; rw [if_neg (by simp [hb0]), if_neg (by simp [e])])
  have HLE : Hid (∀ (W : World), LegsAt W a n L → Calls Try.prog 16 #[.agg #[.slice a n cap]] W fun e w' => (∃ v, e = .returned (.tuple #[v, .bool false])) ∧ Below W.heap.size W w') := fun W hW => by
    refine (least_any W a n cap L (bCode_zero hb0).2 hW).mono ?_
    rintro e y ⟨hb, ⟨r, ao, cp, hr, _⟩ | ⟨_, hv⟩⟩
    · rw [least_none hb0 hst] at hr; cases hr
    · exact ⟨hv, hb⟩
  have HB0 := hide hb0
  clear hb0 hc hL h1 hst
  have HP := hide h
  unfold opV
  have HS0 : Hid (S0 w (((w.alloc (.cells #[.int .i64 3, .slice a n cap, .int .u8 ch, .int .i64 pt, .int .u64 gs, .int .u8 ac, .int .u8 tk, .int .u64 am] 33)).alloc (.cells Try.zeroCells70 70)).alloc (.cells (Try.zeroCells70.setIfInBounds 2 (.int .i64 (-1))) 70)) w.heap.size [.int .i64 3, .slice a n cap, .int .u8 ch, .int .i64 pt, .int .u64 gs, .int .u8 ac, .int .u8 tk, .int .u64 am]) := s0_start w [.int .i64 3, .slice a n cap, .int .u8 ch, .int .i64 pt, .int .u64 gs, .int .u8 ac, .int .u8 tk, .int .u64 am]
  clear h
  go_enter Try.func31, Try.ntmps31
  go_upto_region 3 with fail
  obtain ⟨D, hD⟩ : ∃ D, w.heap.size = D := ⟨_, rfl⟩
  have hD1 : w.heap.size + 1 = D + 1 := by rw [hD]
  simp only [hD] at HS0 ⊢
  simp only [show D + 1 + 1 = D + 2 from rfl] at HS0 ⊢
  have HD := hide hD
  clear hD hD1
  generalize ((w.alloc (.cells #[.int .i64 3, .slice a n cap, .int .u8 ch, .int .i64 pt, .int .u64 gs, .int .u8 ac, .int .u8 tk, .int .u64 am] 33)).alloc (.cells Try.zeroCells70 70)).alloc (.cells (Try.zeroCells70.setIfInBounds 2 (.int .i64 (-1))) 70) = w3 at *
  have cl0 := HS0.out.cell (j := 0) rfl
  have cl1 := HS0.out.cell (j := 1) rfl
  have cl2 := HS0.out.cell (j := 2) rfl
  have cl3 := HS0.out.cell (j := 3) rfl
  have cl4 := HS0.out.cell (j := 4) rfl
  have cl5 := HS0.out.cell (j := 5) rfl
  have cl6 := HS0.out.cell (j := 6) rfl
  have cl7 := HS0.out.cell (j := 7) rfl
  have HS1 := hide (s1_of HS0.out HP.out)
  go_upto_region 12 with fail
  go_upto_region 13 with (go_at_call 15; refine (malformed_any _ a n cap L hn (HL.out.below HS0.out.be) HL1.out).mono ?_; rintro e y ⟨rfl, hbe⟩; have HBy := hide hbe; have HSy := hide (HS1.out.below hbe); have c0y : y.cell? ⟨D + 2, 0, none⟩ = some (.int .i64 0) := HSy.out.c0.1; have f0y := HSy.out.c0.2.1; clear hbe; rw [HB0.out]; simp only [])
  have HS2 : Hid (S1 w b S D (y.setCell ⟨D + 2, 0, none⟩ (.int .i64 0)) P S an0 nilS nilS nilS []) := HSy.out.code 0
  have k1 : (y.setCell ⟨D + 2, 0, none⟩ (.int .i64 0)).cell? ⟨D, 1, none⟩ = some (.slice a n cap) := ((Ex.refl (fun j => j = D + 2) y).set (j := 0) rfl (.int .i64 0)).cell (show ¬ (D = D + 2) by omega) (cellKeep HBy.out cl1)
  have HBz : Hid (Below w.heap.size w (y.setCell ⟨D + 2, 0, none⟩ (.int .i64 0))) := (lec HS0.out.be HBy.out).trans (((Ex.refl (fun j => j = D + 2) y).set (j := 0) rfl (.int .i64 0)).below (lec HS0.out.be HBy.out).size (fun j hj e => by have := HS0.out.eD; omega))
  have HSz : Hid (D + 3 ≤ (y.setCell ⟨D + 2, 0, none⟩ (.int .i64 0)).heap.size) := by have := HS0.out.sz; have := HBy.out.size; show D + 3 ≤ _; simp; omega
  generalize y.setCell ⟨D + 2, 0, none⟩ (.int .i64 0) = y1 at *
  clear c0y f0y HSy HS1 HBy
  clear cl0 cl1 cl2 cl3 cl4 cl5 cl6 cl7
  obtain ⟨c0, f0, -, c3, f3⟩ := HS2.out.c0
  have c0' : y1.cell? ⟨D + 2, 0, none⟩ = some (.int .i64 0) := c0
  clear c0
  go_upto_region 14 with fail
  go_upto_region 53 with (go_at_call 16; refine (HLE.out y1 (HL.out.below HBz.out)).mono ?_; rintro e y2 ⟨⟨v, rfl⟩, hbe⟩; have HSx := hide (HS2.out.below hbe); have c0x : y2.cell? ⟨D + 2, 0, none⟩ = some (.int .i64 0) := HSx.out.c0.1; have f0x := HSx.out.c0.2.1; clear hbe; simp only [])
  have HS3 := hide (HSx.out.code 67)
  generalize y2.setCell ⟨D + 2, 0, none⟩ (.int .i64 67) = y3 at *
  clear c0' f0 c3 f3 c0x f0x HSx HS2 HS0 k1
  obtain ⟨F, hF⟩ : ∃ F, (⟨67, refR 0 (-1), msg0⟩ : An).vals nilS nilS nilS = F := ⟨_, rfl⟩
  have HFl : Hid (F.length = 112) := by rw [← hF]; exact An.len HS3.out.ok HS3.out.mo _ _ _
  have HF1 : Hid (∀ u ∈ F, u.oneCell' = true) := by rw [← hF]; exact HS3.out.one
  have HRG : Hid (y3.rangeAt (D + 2) 0 F) := by rw [← hF]; exact HS3.out.r2
  have HT6 := hide HS3.out.t1
  have HFN : Hid (∀ y, Ex (fun j => j = D + 1) y3 y → StPost _ _ _ _ _ (.returned (.agg F.toArray)) y) := fun y ex => by rw [← hF]; exact HS3.out.fin ex
  clear hF
  go_upto_region 53 with fail
  go_wp2_with fail
  simp only [Try.isAgg70, Try.sizeOf70, Result.andThen, ↓reduceIte, ldC y3 (D + 2) 0 F 112 HFl.out HRG.out]
  rw [Oper.upon_value]
  go_wp2_with fail
  simp only [Try.sizeOf70, Result.andThen, HFl.out, ↓reduceIte, stC y3 (D + 1) 0 F (by rw [HFl.out]; exact HT6.out) HF1.out]
  rw [Oper.upon_skip]
  have HRZ := hide (World.rangeAt_setCells_same y3 (D + 1) 0 F (by rw [HFl.out]; exact HT6.out))
  have HPO := hide (HFN.out _ (Ex.sets (S := fun j => j = D + 1) rfl F 0 y3 (Ex.refl _ _)))
  generalize y3.setCells (D + 1) 0 F = wz at *
  clear HFN HRG HT6
  go_wp2_with fail
  exact bodyPost_ret (v := .agg F.toArray) (res_cell Try.results31 rfl (run_loadVar_mid wz (D + 1) 0 70 F _ HRZ.out Try.underlying70 rfl (by rw [HFl.out]; exact Try.sz70))) rfl HPO.out
set_option linter.unusedSimpArgs false in
set_option maxRecDepth 100000 in
set_option maxHeartbeats 16000000 in
theorem m_o3 (w : World) (b : Nat) (P : Pr) (S : List Nat) (h : PP w b P S) (a : Option Addr) (n cap : Nat) (L : Nat → Leg) (hn : n ≤ 9223372036854775807) (hL : LegsAt w a n L) (h1 : LegsOne n L) (ch pt gs ac tk am : Int) (hc : ordCode n L = 0) :
    Calls Try.prog 31 #[.pointer (some ⟨b, 0, none⟩), .agg (opV 3 a n cap ch pt gs ac tk am).toArray] w fun e w' => ∃ v, StPost w b S P ⟨0, ordR n L v, msg0⟩ e w' := by
  have HL := hide hL
  have HL1 := hide h1
  have HLE : Hid (∀ (W : World), LegsAt W a n L → Calls Try.prog 16 #[.agg #[.slice a n cap]] W fun e w' => ∃ g m vc, e = .returned (.tuple #[.slice (some ⟨g, 0, none⟩) m vc, .bool true]) ∧ Below W.heap.size W w' ∧ RL w' (ordR n L (.slice (some ⟨g, 0, none⟩) m vc)) (.slice (some ⟨g, 0, none⟩) m vc) nilS nilS (blks [.slice (some ⟨g, 0, none⟩) m vc, nilS, nilS]) ∧ ∀ k, k ∈ blks [.slice (some ⟨g, 0, none⟩) m vc, nilS, nilS] → W.heap.size ≤ k) := fun W hW => by
    refine (least_run W a n cap L hW hc).mono ?_
    rintro e y ⟨g, vc, rfl, hb, ho⟩
    obtain ⟨q1, q2, _⟩ := ordR_rl (w := W) (w' := y) (n := n) (L := L) (v := .slice (some ⟨g, 0, none⟩) (ordP n L).length vc) (fun z => absurd hc z) (fun _ => ho)
    exact ⟨g, _, vc, rfl, hb, q1, q2⟩
  have HSO : Hid (∀ (x : World) (D : Nat) (S' : List Nat) (v : Value) (C : List Nat), S1 w b S D x P S' an0 nilS nilS nilS [] → RL x (ordR n L v) v nilS nilS C → (∀ k, k ∈ C → w.heap.size ≤ k ∧ k ∉ S' ∧ k ≠ D + 1 ∧ k ≠ D + 2 ∧ k ≠ b) → S1 w b S D (x.setCell ⟨D + 2, 3, none⟩ v) P S' ⟨0, ordR n L v, msg0⟩ v nilS nilS C) := fun x D S' v C h1 h2 h3 => h1.ord h2 h3
  have HB0 := hide (ord_least hc).1
  obtain ⟨OR, hOR⟩ : ∃ OR, ordR n L = OR := ⟨_, rfl⟩
  simp only [hOR] at HLE HSO ⊢
  clear hc hL h1 hOR
  have HP := hide h
  unfold opV
  have HS0 : Hid (S0 w (((w.alloc (.cells #[.int .i64 3, .slice a n cap, .int .u8 ch, .int .i64 pt, .int .u64 gs, .int .u8 ac, .int .u8 tk, .int .u64 am] 33)).alloc (.cells Try.zeroCells70 70)).alloc (.cells (Try.zeroCells70.setIfInBounds 2 (.int .i64 (-1))) 70)) w.heap.size [.int .i64 3, .slice a n cap, .int .u8 ch, .int .i64 pt, .int .u64 gs, .int .u8 ac, .int .u8 tk, .int .u64 am]) := s0_start w [.int .i64 3, .slice a n cap, .int .u8 ch, .int .i64 pt, .int .u64 gs, .int .u8 ac, .int .u8 tk, .int .u64 am]
  clear h
  go_enter Try.func31, Try.ntmps31
  go_upto_region 3 with fail
  obtain ⟨D, hD⟩ : ∃ D, w.heap.size = D := ⟨_, rfl⟩
  have hD1 : w.heap.size + 1 = D + 1 := by rw [hD]
  simp only [hD] at HS0 ⊢
  simp only [show D + 1 + 1 = D + 2 from rfl] at HS0 ⊢
  have HD := hide hD
  clear hD hD1
  generalize ((w.alloc (.cells #[.int .i64 3, .slice a n cap, .int .u8 ch, .int .i64 pt, .int .u64 gs, .int .u8 ac, .int .u8 tk, .int .u64 am] 33)).alloc (.cells Try.zeroCells70 70)).alloc (.cells (Try.zeroCells70.setIfInBounds 2 (.int .i64 (-1))) 70) = w3 at *
  have cl0 := HS0.out.cell (j := 0) rfl
  have cl1 := HS0.out.cell (j := 1) rfl
  have cl2 := HS0.out.cell (j := 2) rfl
  have cl3 := HS0.out.cell (j := 3) rfl
  have cl4 := HS0.out.cell (j := 4) rfl
  have cl5 := HS0.out.cell (j := 5) rfl
  have cl6 := HS0.out.cell (j := 6) rfl
  have cl7 := HS0.out.cell (j := 7) rfl
  have HS1 := hide (s1_of HS0.out HP.out)
  go_upto_region 12 with fail
  go_upto_region 13 with (go_at_call 15; refine (malformed_any _ a n cap L hn (HL.out.below HS0.out.be) HL1.out).mono ?_; rintro e y ⟨rfl, hbe⟩; have HBy := hide hbe; have HSy := hide (HS1.out.below hbe); have c0y : y.cell? ⟨D + 2, 0, none⟩ = some (.int .i64 0) := HSy.out.c0.1; have f0y := HSy.out.c0.2.1; clear hbe; rw [HB0.out]; simp only [])
  have HS2 : Hid (S1 w b S D (y.setCell ⟨D + 2, 0, none⟩ (.int .i64 0)) P S an0 nilS nilS nilS []) := HSy.out.code 0
  have k1 : (y.setCell ⟨D + 2, 0, none⟩ (.int .i64 0)).cell? ⟨D, 1, none⟩ = some (.slice a n cap) := ((Ex.refl (fun j => j = D + 2) y).set (j := 0) rfl (.int .i64 0)).cell (show ¬ (D = D + 2) by omega) (cellKeep HBy.out cl1)
  have HBz : Hid (Below w.heap.size w (y.setCell ⟨D + 2, 0, none⟩ (.int .i64 0))) := (lec HS0.out.be HBy.out).trans (((Ex.refl (fun j => j = D + 2) y).set (j := 0) rfl (.int .i64 0)).below (lec HS0.out.be HBy.out).size (fun j hj e => by have := HS0.out.eD; omega))
  have HSz : Hid (D + 3 ≤ (y.setCell ⟨D + 2, 0, none⟩ (.int .i64 0)).heap.size) := by have := HS0.out.sz; have := HBy.out.size; show D + 3 ≤ _; simp; omega
  generalize y.setCell ⟨D + 2, 0, none⟩ (.int .i64 0) = y1 at *
  clear c0y f0y HSy HS1 HBy
  clear cl0 cl1 cl2 cl3 cl4 cl5 cl6 cl7
  obtain ⟨c0, f0, -, c3, f3⟩ := HS2.out.c0
  have c0' : y1.cell? ⟨D + 2, 0, none⟩ = some (.int .i64 0) := c0
  clear c0
  go_upto_region 14 with fail
  go_upto_region 53 with (go_at_call 16; refine (HLE.out y1 (HL.out.below HBz.out)).mono ?_; rintro e y2 ⟨g, m, vc, rfl, hbe, hrl, hge⟩; have HRL := hide hrl; have HGE := hide hge; have HSx := hide (HS2.out.below hbe); have c3x : y2.cell? ⟨D + 2, 3, none⟩ = some nilS := HSx.out.c0.2.2.2.1; have f3x := HSx.out.c0.2.2.2.2; clear hbe hrl hge; simp only [])
  have HCC : Hid (∀ k, k ∈ blks [.slice (some ⟨g, 0, none⟩) m vc, nilS, nilS] → w.heap.size ≤ k ∧ k ∉ S ∧ k ≠ D + 1 ∧ k ≠ D + 2 ∧ k ≠ b) := fun k hk => by
    have q1 := HGE.out k hk
    have q2 := HSz.out
    have q3 := HS0.out.eD
    have q4 := HP.out.bl
    exact ⟨by omega, fun e => by have := HP.out.lt e; omega, by omega, by omega, by omega⟩
  have HS3 := hide (HSO.out y2 D S _ _ HSx.out HRL.out HCC.out)
  generalize y2.setCell ⟨D + 2, 3, none⟩ (.slice (some ⟨g, 0, none⟩) m vc) = y3 at *
  clear c0' f0 c3 f3 c3x f3x HSx HS2 HS0 k1 HRL HGE HCC
  obtain ⟨F, hF⟩ : ∃ F, (⟨0, OR (.slice (some ⟨g, 0, none⟩) m vc), msg0⟩ : An).vals (.slice (some ⟨g, 0, none⟩) m vc) nilS nilS = F := ⟨_, rfl⟩
  have HFl : Hid (F.length = 112) := by rw [← hF]; exact An.len HS3.out.ok HS3.out.mo _ _ _
  have HF1 : Hid (∀ u ∈ F, u.oneCell' = true) := by rw [← hF]; exact HS3.out.one
  have HRG : Hid (y3.rangeAt (D + 2) 0 F) := by rw [← hF]; exact HS3.out.r2
  have HT6 := hide HS3.out.t1
  have HFN : Hid (∀ y, Ex (fun j => j = D + 1) y3 y → StPost _ _ _ _ _ (.returned (.agg F.toArray)) y) := fun y ex => by rw [← hF]; exact HS3.out.fin ex
  clear hF
  go_upto_region 53 with fail
  go_wp2_with fail
  simp only [Try.isAgg70, Try.sizeOf70, Result.andThen, ↓reduceIte, ldC y3 (D + 2) 0 F 112 HFl.out HRG.out]
  rw [Oper.upon_value]
  go_wp2_with fail
  simp only [Try.sizeOf70, Result.andThen, HFl.out, ↓reduceIte, stC y3 (D + 1) 0 F (by rw [HFl.out]; exact HT6.out) HF1.out]
  rw [Oper.upon_skip]
  have HRZ := hide (World.rangeAt_setCells_same y3 (D + 1) 0 F (by rw [HFl.out]; exact HT6.out))
  have HPO := hide (HFN.out _ (Ex.sets (S := fun j => j = D + 1) rfl F 0 y3 (Ex.refl _ _)))
  generalize y3.setCells (D + 1) 0 F = wz at *
  clear HFN HRG HT6
  go_wp2_with fail
  exact bodyPost_ret (v := .agg F.toArray) (res_cell Try.results31 rfl (run_loadVar_mid wz (D + 1) 0 70 F _ HRZ.out Try.underlying70 rfl (by rw [HFl.out]; exact Try.sz70))) rfl ⟨.slice (some ⟨g, 0, none⟩) m vc, HPO.out⟩
theorem m_o (w : World) (b : Nat) (P : Pr) (S : List Nat) (h : PP w b P S) (a : Option Addr) (n cap : Nat) (L : Nat → Leg) (hn : n ≤ 9223372036854775807) (hL : LegsAt w a n L) (h1 : LegsOne n L) (ch pt gs ac tk am : Int) :
    Calls Try.prog 31 #[.pointer (some ⟨b, 0, none⟩), .agg (opV 3 a n cap ch pt gs ac tk am).toArray] w fun e w' => ∃ v, StPost w b S P ⟨ordCode n L, ordR n L v, msg0⟩ e w' := by
  have hr : ordCode n L ≠ 0 → ordR n L nilS = refR 0 (-1) := fun hc => by
    unfold ordR
    rw [if_neg hc]
    rfl
  by_cases hb : bCode n L = 0
  · by_cases hc : ordCode n L = 0
    · rw [hc]
      exact m_o3 w b P S h a n cap L hn hL h1 ch pt gs ac tk am hc
    · have hst : stuckP n (needM n L) ≠ 0 := fun e => hc (by unfold ordCode; rw [if_neg (by simp [hb]), if_neg (by simp [e])])
      refine (m_o2 w b P S h a n cap L hn hL h1 ch pt gs ac tk am hb hc).mono fun e w' hh => ⟨nilS, ?_⟩
      rw [hr hc, ordCode_cyc hb hst]
      exact hh
  · have e := ordCode_bad hb
    refine (m_o1 w b P S h a n cap L hn hL h1 ch pt gs ac tk am hb).mono fun e' w' hh => ⟨nilS, ?_⟩
    rw [hr (by rw [e]; exact hb), e]
    exact hh
set_option linter.unusedSimpArgs false in
set_option maxRecDepth 100000 in
set_option maxHeartbeats 16000000 in
theorem m_pa (w : World) (b : Nat) (P : Pr) (S : List Nat) (h : PP w b P S) (a : Option Addr) (n cap : Nat) (ch pt gs ac tk am : Int) (hc : ¬ (ch = 1 ∨ ch = 2)) :
    Calls Try.prog 31 #[.pointer (some ⟨b, 0, none⟩), .agg (opV 4 a n cap ch pt gs ac tk am).toArray] w (StPost w b S P ⟨39, refR 0 (-1), msg0⟩) := by
  have d1 : (ch != 1) = true := by simp; exact fun e => hc (.inl e)
  have d2 : (ch != 2) = true := by simp; exact fun e => hc (.inr e)
  clear hc
  have HP := hide h
  unfold opV
  have HS0 : Hid (S0 w (((w.alloc (.cells #[.int .i64 4, .slice a n cap, .int .u8 ch, .int .i64 pt, .int .u64 gs, .int .u8 ac, .int .u8 tk, .int .u64 am] 33)).alloc (.cells Try.zeroCells70 70)).alloc (.cells (Try.zeroCells70.setIfInBounds 2 (.int .i64 (-1))) 70)) w.heap.size [.int .i64 4, .slice a n cap, .int .u8 ch, .int .i64 pt, .int .u64 gs, .int .u8 ac, .int .u8 tk, .int .u64 am]) := s0_start w [.int .i64 4, .slice a n cap, .int .u8 ch, .int .i64 pt, .int .u64 gs, .int .u8 ac, .int .u8 tk, .int .u64 am]
  clear h
  go_enter Try.func31, Try.ntmps31
  go_upto_region 3 with fail
  obtain ⟨D, hD⟩ : ∃ D, w.heap.size = D := ⟨_, rfl⟩
  have hD1 : w.heap.size + 1 = D + 1 := by rw [hD]
  simp only [hD] at HS0 ⊢
  simp only [show D + 1 + 1 = D + 2 from rfl] at HS0 ⊢
  have HD := hide hD
  clear hD hD1
  generalize ((w.alloc (.cells #[.int .i64 4, .slice a n cap, .int .u8 ch, .int .i64 pt, .int .u64 gs, .int .u8 ac, .int .u8 tk, .int .u64 am] 33)).alloc (.cells Try.zeroCells70 70)).alloc (.cells (Try.zeroCells70.setIfInBounds 2 (.int .i64 (-1))) 70) = w3 at *
  have cl0 := HS0.out.cell (j := 0) rfl
  have cl1 := HS0.out.cell (j := 1) rfl
  have cl2 := HS0.out.cell (j := 2) rfl
  have cl3 := HS0.out.cell (j := 3) rfl
  have cl4 := HS0.out.cell (j := 4) rfl
  have cl5 := HS0.out.cell (j := 5) rfl
  have cl6 := HS0.out.cell (j := 6) rfl
  have cl7 := HS0.out.cell (j := 7) rfl
  have HS1 := hide (s1_of HS0.out HP.out)
  obtain ⟨c0, f0, -, -, -⟩ := HS1.out.c0
  have c0' : w3.cell? ⟨D + 2, 0, none⟩ = some (.int .i64 0) := c0
  clear c0
  go_upto_region 53 with fail
  have HS2 := hide (HS1.out.code 39)
  generalize w3.setCell ⟨D + 2, 0, none⟩ (.int .i64 39) = x at *
  clear cl0 cl1 cl2 cl3 cl4 cl5 cl6 cl7 c0' f0 HS1 HS0
  obtain ⟨F, hF⟩ : ∃ F, (⟨39, refR 0 (-1), msg0⟩ : An).vals nilS nilS nilS = F := ⟨_, rfl⟩
  have HFl : Hid (F.length = 112) := by rw [← hF]; exact An.len HS2.out.ok HS2.out.mo _ _ _
  have HF1 : Hid (∀ u ∈ F, u.oneCell' = true) := by rw [← hF]; exact HS2.out.one
  have HRG : Hid (x.rangeAt (D + 2) 0 F) := by rw [← hF]; exact HS2.out.r2
  have HT6 := hide HS2.out.t1
  have HFN : Hid (∀ y, Ex (fun j => j = D + 1) x y → StPost _ _ _ _ _ (.returned (.agg F.toArray)) y) := fun y ex => by rw [← hF]; exact HS2.out.fin ex
  clear hF
  go_upto_region 53 with fail
  go_wp2_with fail
  simp only [Try.isAgg70, Try.sizeOf70, Result.andThen, ↓reduceIte, ldC x (D + 2) 0 F 112 HFl.out HRG.out]
  rw [Oper.upon_value]
  go_wp2_with fail
  simp only [Try.sizeOf70, Result.andThen, HFl.out, ↓reduceIte, stC x (D + 1) 0 F (by rw [HFl.out]; exact HT6.out) HF1.out]
  rw [Oper.upon_skip]
  have HRZ := hide (World.rangeAt_setCells_same x (D + 1) 0 F (by rw [HFl.out]; exact HT6.out))
  have HPO := hide (HFN.out _ (Ex.sets (S := fun j => j = D + 1) rfl F 0 x (Ex.refl _ _)))
  generalize x.setCells (D + 1) 0 F = wz at *
  clear HFN HRG HT6
  go_wp2_with fail
  exact bodyPost_ret (v := .agg F.toArray) (res_cell Try.results31 rfl (run_loadVar_mid wz (D + 1) 0 70 F _ HRZ.out Try.underlying70 rfl (by rw [HFl.out]; exact Try.sz70))) rfl HPO.out
set_option linter.unusedSimpArgs false in
set_option maxRecDepth 100000 in
set_option maxHeartbeats 16000000 in
theorem m_pb1 (w : World) (b : Nat) (P : Pr) (S : List Nat) (h : PP w b P S) (a : Option Addr) (n cap : Nat) (pt gs ac tk am : Int) (h2 : 64 ≤ ac) :
    Calls Try.prog 31 #[.pointer (some ⟨b, 0, none⟩), .agg (opV 4 a n cap 1 pt gs ac tk am).toArray] w (StPost w b S P ⟨5, refR 0 (-1), msg0⟩) := by
  have d3 : decide ((64 : Int) ≤ ac) = true := by simp; omega
  clear h2
  have HP := hide h
  unfold opV
  have HS0 : Hid (S0 w (((w.alloc (.cells #[.int .i64 4, .slice a n cap, .int .u8 1, .int .i64 pt, .int .u64 gs, .int .u8 ac, .int .u8 tk, .int .u64 am] 33)).alloc (.cells Try.zeroCells70 70)).alloc (.cells (Try.zeroCells70.setIfInBounds 2 (.int .i64 (-1))) 70)) w.heap.size [.int .i64 4, .slice a n cap, .int .u8 1, .int .i64 pt, .int .u64 gs, .int .u8 ac, .int .u8 tk, .int .u64 am]) := s0_start w [.int .i64 4, .slice a n cap, .int .u8 1, .int .i64 pt, .int .u64 gs, .int .u8 ac, .int .u8 tk, .int .u64 am]
  clear h
  go_enter Try.func31, Try.ntmps31
  go_upto_region 3 with fail
  obtain ⟨D, hD⟩ : ∃ D, w.heap.size = D := ⟨_, rfl⟩
  have hD1 : w.heap.size + 1 = D + 1 := by rw [hD]
  simp only [hD] at HS0 ⊢
  simp only [show D + 1 + 1 = D + 2 from rfl] at HS0 ⊢
  have HD := hide hD
  clear hD hD1
  generalize ((w.alloc (.cells #[.int .i64 4, .slice a n cap, .int .u8 1, .int .i64 pt, .int .u64 gs, .int .u8 ac, .int .u8 tk, .int .u64 am] 33)).alloc (.cells Try.zeroCells70 70)).alloc (.cells (Try.zeroCells70.setIfInBounds 2 (.int .i64 (-1))) 70) = w3 at *
  have cl0 := HS0.out.cell (j := 0) rfl
  have cl1 := HS0.out.cell (j := 1) rfl
  have cl2 := HS0.out.cell (j := 2) rfl
  have cl3 := HS0.out.cell (j := 3) rfl
  have cl4 := HS0.out.cell (j := 4) rfl
  have cl5 := HS0.out.cell (j := 5) rfl
  have cl6 := HS0.out.cell (j := 6) rfl
  have cl7 := HS0.out.cell (j := 7) rfl
  have HS1 := hide (s1_of HS0.out HP.out)
  obtain ⟨c0, f0, -, -, -⟩ := HS1.out.c0
  have c0' : w3.cell? ⟨D + 2, 0, none⟩ = some (.int .i64 0) := c0
  clear c0
  go_upto_region 53 with fail
  have HS2 := hide (HS1.out.code 5)
  generalize w3.setCell ⟨D + 2, 0, none⟩ (.int .i64 5) = x at *
  clear cl0 cl1 cl2 cl3 cl4 cl5 cl6 cl7 c0' f0 HS1 HS0
  obtain ⟨F, hF⟩ : ∃ F, (⟨5, refR 0 (-1), msg0⟩ : An).vals nilS nilS nilS = F := ⟨_, rfl⟩
  have HFl : Hid (F.length = 112) := by rw [← hF]; exact An.len HS2.out.ok HS2.out.mo _ _ _
  have HF1 : Hid (∀ u ∈ F, u.oneCell' = true) := by rw [← hF]; exact HS2.out.one
  have HRG : Hid (x.rangeAt (D + 2) 0 F) := by rw [← hF]; exact HS2.out.r2
  have HT6 := hide HS2.out.t1
  have HFN : Hid (∀ y, Ex (fun j => j = D + 1) x y → StPost _ _ _ _ _ (.returned (.agg F.toArray)) y) := fun y ex => by rw [← hF]; exact HS2.out.fin ex
  clear hF
  go_upto_region 53 with fail
  go_wp2_with fail
  simp only [Try.isAgg70, Try.sizeOf70, Result.andThen, ↓reduceIte, ldC x (D + 2) 0 F 112 HFl.out HRG.out]
  rw [Oper.upon_value]
  go_wp2_with fail
  simp only [Try.sizeOf70, Result.andThen, HFl.out, ↓reduceIte, stC x (D + 1) 0 F (by rw [HFl.out]; exact HT6.out) HF1.out]
  rw [Oper.upon_skip]
  have HRZ := hide (World.rangeAt_setCells_same x (D + 1) 0 F (by rw [HFl.out]; exact HT6.out))
  have HPO := hide (HFN.out _ (Ex.sets (S := fun j => j = D + 1) rfl F 0 x (Ex.refl _ _)))
  generalize x.setCells (D + 1) 0 F = wz at *
  clear HFN HRG HT6
  go_wp2_with fail
  exact bodyPost_ret (v := .agg F.toArray) (res_cell Try.results31 rfl (run_loadVar_mid wz (D + 1) 0 70 F _ HRZ.out Try.underlying70 rfl (by rw [HFl.out]; exact Try.sz70))) rfl HPO.out
set_option linter.unusedSimpArgs false in
set_option maxRecDepth 100000 in
set_option maxHeartbeats 16000000 in
theorem m_pb2 (w : World) (b : Nat) (P : Pr) (S : List Nat) (h : PP w b P S) (a : Option Addr) (n cap : Nat) (pt gs ac tk am : Int) (h2 : 64 ≤ ac) :
    Calls Try.prog 31 #[.pointer (some ⟨b, 0, none⟩), .agg (opV 4 a n cap 2 pt gs ac tk am).toArray] w (StPost w b S P ⟨5, refR 0 (-1), msg0⟩) := by
  have d3 : decide ((64 : Int) ≤ ac) = true := by simp; omega
  clear h2
  have HP := hide h
  unfold opV
  have HS0 : Hid (S0 w (((w.alloc (.cells #[.int .i64 4, .slice a n cap, .int .u8 2, .int .i64 pt, .int .u64 gs, .int .u8 ac, .int .u8 tk, .int .u64 am] 33)).alloc (.cells Try.zeroCells70 70)).alloc (.cells (Try.zeroCells70.setIfInBounds 2 (.int .i64 (-1))) 70)) w.heap.size [.int .i64 4, .slice a n cap, .int .u8 2, .int .i64 pt, .int .u64 gs, .int .u8 ac, .int .u8 tk, .int .u64 am]) := s0_start w [.int .i64 4, .slice a n cap, .int .u8 2, .int .i64 pt, .int .u64 gs, .int .u8 ac, .int .u8 tk, .int .u64 am]
  clear h
  go_enter Try.func31, Try.ntmps31
  go_upto_region 3 with fail
  obtain ⟨D, hD⟩ : ∃ D, w.heap.size = D := ⟨_, rfl⟩
  have hD1 : w.heap.size + 1 = D + 1 := by rw [hD]
  simp only [hD] at HS0 ⊢
  simp only [show D + 1 + 1 = D + 2 from rfl] at HS0 ⊢
  have HD := hide hD
  clear hD hD1
  generalize ((w.alloc (.cells #[.int .i64 4, .slice a n cap, .int .u8 2, .int .i64 pt, .int .u64 gs, .int .u8 ac, .int .u8 tk, .int .u64 am] 33)).alloc (.cells Try.zeroCells70 70)).alloc (.cells (Try.zeroCells70.setIfInBounds 2 (.int .i64 (-1))) 70) = w3 at *
  have cl0 := HS0.out.cell (j := 0) rfl
  have cl1 := HS0.out.cell (j := 1) rfl
  have cl2 := HS0.out.cell (j := 2) rfl
  have cl3 := HS0.out.cell (j := 3) rfl
  have cl4 := HS0.out.cell (j := 4) rfl
  have cl5 := HS0.out.cell (j := 5) rfl
  have cl6 := HS0.out.cell (j := 6) rfl
  have cl7 := HS0.out.cell (j := 7) rfl
  have HS1 := hide (s1_of HS0.out HP.out)
  obtain ⟨c0, f0, -, -, -⟩ := HS1.out.c0
  have c0' : w3.cell? ⟨D + 2, 0, none⟩ = some (.int .i64 0) := c0
  clear c0
  go_upto_region 53 with fail
  have HS2 := hide (HS1.out.code 5)
  generalize w3.setCell ⟨D + 2, 0, none⟩ (.int .i64 5) = x at *
  clear cl0 cl1 cl2 cl3 cl4 cl5 cl6 cl7 c0' f0 HS1 HS0
  obtain ⟨F, hF⟩ : ∃ F, (⟨5, refR 0 (-1), msg0⟩ : An).vals nilS nilS nilS = F := ⟨_, rfl⟩
  have HFl : Hid (F.length = 112) := by rw [← hF]; exact An.len HS2.out.ok HS2.out.mo _ _ _
  have HF1 : Hid (∀ u ∈ F, u.oneCell' = true) := by rw [← hF]; exact HS2.out.one
  have HRG : Hid (x.rangeAt (D + 2) 0 F) := by rw [← hF]; exact HS2.out.r2
  have HT6 := hide HS2.out.t1
  have HFN : Hid (∀ y, Ex (fun j => j = D + 1) x y → StPost _ _ _ _ _ (.returned (.agg F.toArray)) y) := fun y ex => by rw [← hF]; exact HS2.out.fin ex
  clear hF
  go_upto_region 53 with fail
  go_wp2_with fail
  simp only [Try.isAgg70, Try.sizeOf70, Result.andThen, ↓reduceIte, ldC x (D + 2) 0 F 112 HFl.out HRG.out]
  rw [Oper.upon_value]
  go_wp2_with fail
  simp only [Try.sizeOf70, Result.andThen, HFl.out, ↓reduceIte, stC x (D + 1) 0 F (by rw [HFl.out]; exact HT6.out) HF1.out]
  rw [Oper.upon_skip]
  have HRZ := hide (World.rangeAt_setCells_same x (D + 1) 0 F (by rw [HFl.out]; exact HT6.out))
  have HPO := hide (HFN.out _ (Ex.sets (S := fun j => j = D + 1) rfl F 0 x (Ex.refl _ _)))
  generalize x.setCells (D + 1) 0 F = wz at *
  clear HFN HRG HT6
  go_wp2_with fail
  exact bodyPost_ret (v := .agg F.toArray) (res_cell Try.results31 rfl (run_loadVar_mid wz (D + 1) 0 70 F _ HRZ.out Try.underlying70 rfl (by rw [HFl.out]; exact Try.sz70))) rfl HPO.out
set_option linter.unusedSimpArgs false in
set_option maxRecDepth 100000 in
set_option maxHeartbeats 16000000 in
theorem m_pc1 (w : World) (b : Nat) (P : Pr) (S : List Nat) (h : PP w b P S) (a : Option Addr) (n cap : Nat) (pt gs ac tk am : Int) (h2 : ac < 64) (h3 : 4 ≤ tk) :
    Calls Try.prog 31 #[.pointer (some ⟨b, 0, none⟩), .agg (opV 4 a n cap 1 pt gs ac tk am).toArray] w (StPost w b S P ⟨7, refR 0 (-1), msg0⟩) := by
  have d3 : decide ((64 : Int) ≤ ac) = false := by simp; omega
  have d4 : decide ((4 : Int) ≤ tk) = true := by simp; omega
  clear h2 h3
  have HP := hide h
  unfold opV
  have HS0 : Hid (S0 w (((w.alloc (.cells #[.int .i64 4, .slice a n cap, .int .u8 1, .int .i64 pt, .int .u64 gs, .int .u8 ac, .int .u8 tk, .int .u64 am] 33)).alloc (.cells Try.zeroCells70 70)).alloc (.cells (Try.zeroCells70.setIfInBounds 2 (.int .i64 (-1))) 70)) w.heap.size [.int .i64 4, .slice a n cap, .int .u8 1, .int .i64 pt, .int .u64 gs, .int .u8 ac, .int .u8 tk, .int .u64 am]) := s0_start w [.int .i64 4, .slice a n cap, .int .u8 1, .int .i64 pt, .int .u64 gs, .int .u8 ac, .int .u8 tk, .int .u64 am]
  clear h
  go_enter Try.func31, Try.ntmps31
  go_upto_region 3 with fail
  obtain ⟨D, hD⟩ : ∃ D, w.heap.size = D := ⟨_, rfl⟩
  have hD1 : w.heap.size + 1 = D + 1 := by rw [hD]
  simp only [hD] at HS0 ⊢
  simp only [show D + 1 + 1 = D + 2 from rfl] at HS0 ⊢
  have HD := hide hD
  clear hD hD1
  generalize ((w.alloc (.cells #[.int .i64 4, .slice a n cap, .int .u8 1, .int .i64 pt, .int .u64 gs, .int .u8 ac, .int .u8 tk, .int .u64 am] 33)).alloc (.cells Try.zeroCells70 70)).alloc (.cells (Try.zeroCells70.setIfInBounds 2 (.int .i64 (-1))) 70) = w3 at *
  have cl0 := HS0.out.cell (j := 0) rfl
  have cl1 := HS0.out.cell (j := 1) rfl
  have cl2 := HS0.out.cell (j := 2) rfl
  have cl3 := HS0.out.cell (j := 3) rfl
  have cl4 := HS0.out.cell (j := 4) rfl
  have cl5 := HS0.out.cell (j := 5) rfl
  have cl6 := HS0.out.cell (j := 6) rfl
  have cl7 := HS0.out.cell (j := 7) rfl
  have HS1 := hide (s1_of HS0.out HP.out)
  obtain ⟨c0, f0, -, -, -⟩ := HS1.out.c0
  have c0' : w3.cell? ⟨D + 2, 0, none⟩ = some (.int .i64 0) := c0
  clear c0
  go_upto_region 53 with fail
  have HS2 := hide (HS1.out.code 7)
  generalize w3.setCell ⟨D + 2, 0, none⟩ (.int .i64 7) = x at *
  clear cl0 cl1 cl2 cl3 cl4 cl5 cl6 cl7 c0' f0 HS1 HS0
  obtain ⟨F, hF⟩ : ∃ F, (⟨7, refR 0 (-1), msg0⟩ : An).vals nilS nilS nilS = F := ⟨_, rfl⟩
  have HFl : Hid (F.length = 112) := by rw [← hF]; exact An.len HS2.out.ok HS2.out.mo _ _ _
  have HF1 : Hid (∀ u ∈ F, u.oneCell' = true) := by rw [← hF]; exact HS2.out.one
  have HRG : Hid (x.rangeAt (D + 2) 0 F) := by rw [← hF]; exact HS2.out.r2
  have HT6 := hide HS2.out.t1
  have HFN : Hid (∀ y, Ex (fun j => j = D + 1) x y → StPost _ _ _ _ _ (.returned (.agg F.toArray)) y) := fun y ex => by rw [← hF]; exact HS2.out.fin ex
  clear hF
  go_upto_region 53 with fail
  go_wp2_with fail
  simp only [Try.isAgg70, Try.sizeOf70, Result.andThen, ↓reduceIte, ldC x (D + 2) 0 F 112 HFl.out HRG.out]
  rw [Oper.upon_value]
  go_wp2_with fail
  simp only [Try.sizeOf70, Result.andThen, HFl.out, ↓reduceIte, stC x (D + 1) 0 F (by rw [HFl.out]; exact HT6.out) HF1.out]
  rw [Oper.upon_skip]
  have HRZ := hide (World.rangeAt_setCells_same x (D + 1) 0 F (by rw [HFl.out]; exact HT6.out))
  have HPO := hide (HFN.out _ (Ex.sets (S := fun j => j = D + 1) rfl F 0 x (Ex.refl _ _)))
  generalize x.setCells (D + 1) 0 F = wz at *
  clear HFN HRG HT6
  go_wp2_with fail
  exact bodyPost_ret (v := .agg F.toArray) (res_cell Try.results31 rfl (run_loadVar_mid wz (D + 1) 0 70 F _ HRZ.out Try.underlying70 rfl (by rw [HFl.out]; exact Try.sz70))) rfl HPO.out
set_option linter.unusedSimpArgs false in
set_option maxRecDepth 100000 in
set_option maxHeartbeats 16000000 in
theorem m_pc2 (w : World) (b : Nat) (P : Pr) (S : List Nat) (h : PP w b P S) (a : Option Addr) (n cap : Nat) (pt gs ac tk am : Int) (h2 : ac < 64) (h3 : 4 ≤ tk) :
    Calls Try.prog 31 #[.pointer (some ⟨b, 0, none⟩), .agg (opV 4 a n cap 2 pt gs ac tk am).toArray] w (StPost w b S P ⟨7, refR 0 (-1), msg0⟩) := by
  have d3 : decide ((64 : Int) ≤ ac) = false := by simp; omega
  have d4 : decide ((4 : Int) ≤ tk) = true := by simp; omega
  clear h2 h3
  have HP := hide h
  unfold opV
  have HS0 : Hid (S0 w (((w.alloc (.cells #[.int .i64 4, .slice a n cap, .int .u8 2, .int .i64 pt, .int .u64 gs, .int .u8 ac, .int .u8 tk, .int .u64 am] 33)).alloc (.cells Try.zeroCells70 70)).alloc (.cells (Try.zeroCells70.setIfInBounds 2 (.int .i64 (-1))) 70)) w.heap.size [.int .i64 4, .slice a n cap, .int .u8 2, .int .i64 pt, .int .u64 gs, .int .u8 ac, .int .u8 tk, .int .u64 am]) := s0_start w [.int .i64 4, .slice a n cap, .int .u8 2, .int .i64 pt, .int .u64 gs, .int .u8 ac, .int .u8 tk, .int .u64 am]
  clear h
  go_enter Try.func31, Try.ntmps31
  go_upto_region 3 with fail
  obtain ⟨D, hD⟩ : ∃ D, w.heap.size = D := ⟨_, rfl⟩
  have hD1 : w.heap.size + 1 = D + 1 := by rw [hD]
  simp only [hD] at HS0 ⊢
  simp only [show D + 1 + 1 = D + 2 from rfl] at HS0 ⊢
  have HD := hide hD
  clear hD hD1
  generalize ((w.alloc (.cells #[.int .i64 4, .slice a n cap, .int .u8 2, .int .i64 pt, .int .u64 gs, .int .u8 ac, .int .u8 tk, .int .u64 am] 33)).alloc (.cells Try.zeroCells70 70)).alloc (.cells (Try.zeroCells70.setIfInBounds 2 (.int .i64 (-1))) 70) = w3 at *
  have cl0 := HS0.out.cell (j := 0) rfl
  have cl1 := HS0.out.cell (j := 1) rfl
  have cl2 := HS0.out.cell (j := 2) rfl
  have cl3 := HS0.out.cell (j := 3) rfl
  have cl4 := HS0.out.cell (j := 4) rfl
  have cl5 := HS0.out.cell (j := 5) rfl
  have cl6 := HS0.out.cell (j := 6) rfl
  have cl7 := HS0.out.cell (j := 7) rfl
  have HS1 := hide (s1_of HS0.out HP.out)
  obtain ⟨c0, f0, -, -, -⟩ := HS1.out.c0
  have c0' : w3.cell? ⟨D + 2, 0, none⟩ = some (.int .i64 0) := c0
  clear c0
  go_upto_region 53 with fail
  have HS2 := hide (HS1.out.code 7)
  generalize w3.setCell ⟨D + 2, 0, none⟩ (.int .i64 7) = x at *
  clear cl0 cl1 cl2 cl3 cl4 cl5 cl6 cl7 c0' f0 HS1 HS0
  obtain ⟨F, hF⟩ : ∃ F, (⟨7, refR 0 (-1), msg0⟩ : An).vals nilS nilS nilS = F := ⟨_, rfl⟩
  have HFl : Hid (F.length = 112) := by rw [← hF]; exact An.len HS2.out.ok HS2.out.mo _ _ _
  have HF1 : Hid (∀ u ∈ F, u.oneCell' = true) := by rw [← hF]; exact HS2.out.one
  have HRG : Hid (x.rangeAt (D + 2) 0 F) := by rw [← hF]; exact HS2.out.r2
  have HT6 := hide HS2.out.t1
  have HFN : Hid (∀ y, Ex (fun j => j = D + 1) x y → StPost _ _ _ _ _ (.returned (.agg F.toArray)) y) := fun y ex => by rw [← hF]; exact HS2.out.fin ex
  clear hF
  go_upto_region 53 with fail
  go_wp2_with fail
  simp only [Try.isAgg70, Try.sizeOf70, Result.andThen, ↓reduceIte, ldC x (D + 2) 0 F 112 HFl.out HRG.out]
  rw [Oper.upon_value]
  go_wp2_with fail
  simp only [Try.sizeOf70, Result.andThen, HFl.out, ↓reduceIte, stC x (D + 1) 0 F (by rw [HFl.out]; exact HT6.out) HF1.out]
  rw [Oper.upon_skip]
  have HRZ := hide (World.rangeAt_setCells_same x (D + 1) 0 F (by rw [HFl.out]; exact HT6.out))
  have HPO := hide (HFN.out _ (Ex.sets (S := fun j => j = D + 1) rfl F 0 x (Ex.refl _ _)))
  generalize x.setCells (D + 1) 0 F = wz at *
  clear HFN HRG HT6
  go_wp2_with fail
  exact bodyPost_ret (v := .agg F.toArray) (res_cell Try.results31 rfl (run_loadVar_mid wz (D + 1) 0 70 F _ HRZ.out Try.underlying70 rfl (by rw [HFl.out]; exact Try.sz70))) rfl HPO.out
set_option linter.unusedSimpArgs false in
set_option maxRecDepth 100000 in
set_option maxHeartbeats 16000000 in
theorem m_pd1 (w : World) (b : Nat) (P : Pr) (S : List Nat) (h : PP w b P S) (a : Option Addr) (n cap : Nat) (pt gs ac tk am : Int) (h2 : ac < 64) (h3 : tk < 4) (h4 : am = 0) :
    Calls Try.prog 31 #[.pointer (some ⟨b, 0, none⟩), .agg (opV 4 a n cap 1 pt gs ac tk am).toArray] w (StPost w b S P ⟨8, refR 0 (-1), msg0⟩) := by
  have d3 : decide ((64 : Int) ≤ ac) = false := by simp; omega
  have d4 : decide ((4 : Int) ≤ tk) = false := by simp; omega
  have d5 : (am == 0) = true := by simp; omega
  clear h2 h3 h4
  have HP := hide h
  unfold opV
  have HS0 : Hid (S0 w (((w.alloc (.cells #[.int .i64 4, .slice a n cap, .int .u8 1, .int .i64 pt, .int .u64 gs, .int .u8 ac, .int .u8 tk, .int .u64 am] 33)).alloc (.cells Try.zeroCells70 70)).alloc (.cells (Try.zeroCells70.setIfInBounds 2 (.int .i64 (-1))) 70)) w.heap.size [.int .i64 4, .slice a n cap, .int .u8 1, .int .i64 pt, .int .u64 gs, .int .u8 ac, .int .u8 tk, .int .u64 am]) := s0_start w [.int .i64 4, .slice a n cap, .int .u8 1, .int .i64 pt, .int .u64 gs, .int .u8 ac, .int .u8 tk, .int .u64 am]
  clear h
  go_enter Try.func31, Try.ntmps31
  go_upto_region 3 with fail
  obtain ⟨D, hD⟩ : ∃ D, w.heap.size = D := ⟨_, rfl⟩
  have hD1 : w.heap.size + 1 = D + 1 := by rw [hD]
  simp only [hD] at HS0 ⊢
  simp only [show D + 1 + 1 = D + 2 from rfl] at HS0 ⊢
  have HD := hide hD
  clear hD hD1
  generalize ((w.alloc (.cells #[.int .i64 4, .slice a n cap, .int .u8 1, .int .i64 pt, .int .u64 gs, .int .u8 ac, .int .u8 tk, .int .u64 am] 33)).alloc (.cells Try.zeroCells70 70)).alloc (.cells (Try.zeroCells70.setIfInBounds 2 (.int .i64 (-1))) 70) = w3 at *
  have cl0 := HS0.out.cell (j := 0) rfl
  have cl1 := HS0.out.cell (j := 1) rfl
  have cl2 := HS0.out.cell (j := 2) rfl
  have cl3 := HS0.out.cell (j := 3) rfl
  have cl4 := HS0.out.cell (j := 4) rfl
  have cl5 := HS0.out.cell (j := 5) rfl
  have cl6 := HS0.out.cell (j := 6) rfl
  have cl7 := HS0.out.cell (j := 7) rfl
  have HS1 := hide (s1_of HS0.out HP.out)
  obtain ⟨c0, f0, -, -, -⟩ := HS1.out.c0
  have c0' : w3.cell? ⟨D + 2, 0, none⟩ = some (.int .i64 0) := c0
  clear c0
  go_upto_region 53 with fail
  have HS2 := hide (HS1.out.code 8)
  generalize w3.setCell ⟨D + 2, 0, none⟩ (.int .i64 8) = x at *
  clear cl0 cl1 cl2 cl3 cl4 cl5 cl6 cl7 c0' f0 HS1 HS0
  obtain ⟨F, hF⟩ : ∃ F, (⟨8, refR 0 (-1), msg0⟩ : An).vals nilS nilS nilS = F := ⟨_, rfl⟩
  have HFl : Hid (F.length = 112) := by rw [← hF]; exact An.len HS2.out.ok HS2.out.mo _ _ _
  have HF1 : Hid (∀ u ∈ F, u.oneCell' = true) := by rw [← hF]; exact HS2.out.one
  have HRG : Hid (x.rangeAt (D + 2) 0 F) := by rw [← hF]; exact HS2.out.r2
  have HT6 := hide HS2.out.t1
  have HFN : Hid (∀ y, Ex (fun j => j = D + 1) x y → StPost _ _ _ _ _ (.returned (.agg F.toArray)) y) := fun y ex => by rw [← hF]; exact HS2.out.fin ex
  clear hF
  go_upto_region 53 with fail
  go_wp2_with fail
  simp only [Try.isAgg70, Try.sizeOf70, Result.andThen, ↓reduceIte, ldC x (D + 2) 0 F 112 HFl.out HRG.out]
  rw [Oper.upon_value]
  go_wp2_with fail
  simp only [Try.sizeOf70, Result.andThen, HFl.out, ↓reduceIte, stC x (D + 1) 0 F (by rw [HFl.out]; exact HT6.out) HF1.out]
  rw [Oper.upon_skip]
  have HRZ := hide (World.rangeAt_setCells_same x (D + 1) 0 F (by rw [HFl.out]; exact HT6.out))
  have HPO := hide (HFN.out _ (Ex.sets (S := fun j => j = D + 1) rfl F 0 x (Ex.refl _ _)))
  generalize x.setCells (D + 1) 0 F = wz at *
  clear HFN HRG HT6
  go_wp2_with fail
  exact bodyPost_ret (v := .agg F.toArray) (res_cell Try.results31 rfl (run_loadVar_mid wz (D + 1) 0 70 F _ HRZ.out Try.underlying70 rfl (by rw [HFl.out]; exact Try.sz70))) rfl HPO.out
set_option linter.unusedSimpArgs false in
set_option maxRecDepth 100000 in
set_option maxHeartbeats 16000000 in
theorem m_pd2 (w : World) (b : Nat) (P : Pr) (S : List Nat) (h : PP w b P S) (a : Option Addr) (n cap : Nat) (pt gs ac tk am : Int) (h2 : ac < 64) (h3 : tk < 4) (h4 : am = 0) :
    Calls Try.prog 31 #[.pointer (some ⟨b, 0, none⟩), .agg (opV 4 a n cap 2 pt gs ac tk am).toArray] w (StPost w b S P ⟨8, refR 0 (-1), msg0⟩) := by
  have d3 : decide ((64 : Int) ≤ ac) = false := by simp; omega
  have d4 : decide ((4 : Int) ≤ tk) = false := by simp; omega
  have d5 : (am == 0) = true := by simp; omega
  clear h2 h3 h4
  have HP := hide h
  unfold opV
  have HS0 : Hid (S0 w (((w.alloc (.cells #[.int .i64 4, .slice a n cap, .int .u8 2, .int .i64 pt, .int .u64 gs, .int .u8 ac, .int .u8 tk, .int .u64 am] 33)).alloc (.cells Try.zeroCells70 70)).alloc (.cells (Try.zeroCells70.setIfInBounds 2 (.int .i64 (-1))) 70)) w.heap.size [.int .i64 4, .slice a n cap, .int .u8 2, .int .i64 pt, .int .u64 gs, .int .u8 ac, .int .u8 tk, .int .u64 am]) := s0_start w [.int .i64 4, .slice a n cap, .int .u8 2, .int .i64 pt, .int .u64 gs, .int .u8 ac, .int .u8 tk, .int .u64 am]
  clear h
  go_enter Try.func31, Try.ntmps31
  go_upto_region 3 with fail
  obtain ⟨D, hD⟩ : ∃ D, w.heap.size = D := ⟨_, rfl⟩
  have hD1 : w.heap.size + 1 = D + 1 := by rw [hD]
  simp only [hD] at HS0 ⊢
  simp only [show D + 1 + 1 = D + 2 from rfl] at HS0 ⊢
  have HD := hide hD
  clear hD hD1
  generalize ((w.alloc (.cells #[.int .i64 4, .slice a n cap, .int .u8 2, .int .i64 pt, .int .u64 gs, .int .u8 ac, .int .u8 tk, .int .u64 am] 33)).alloc (.cells Try.zeroCells70 70)).alloc (.cells (Try.zeroCells70.setIfInBounds 2 (.int .i64 (-1))) 70) = w3 at *
  have cl0 := HS0.out.cell (j := 0) rfl
  have cl1 := HS0.out.cell (j := 1) rfl
  have cl2 := HS0.out.cell (j := 2) rfl
  have cl3 := HS0.out.cell (j := 3) rfl
  have cl4 := HS0.out.cell (j := 4) rfl
  have cl5 := HS0.out.cell (j := 5) rfl
  have cl6 := HS0.out.cell (j := 6) rfl
  have cl7 := HS0.out.cell (j := 7) rfl
  have HS1 := hide (s1_of HS0.out HP.out)
  obtain ⟨c0, f0, -, -, -⟩ := HS1.out.c0
  have c0' : w3.cell? ⟨D + 2, 0, none⟩ = some (.int .i64 0) := c0
  clear c0
  go_upto_region 53 with fail
  have HS2 := hide (HS1.out.code 8)
  generalize w3.setCell ⟨D + 2, 0, none⟩ (.int .i64 8) = x at *
  clear cl0 cl1 cl2 cl3 cl4 cl5 cl6 cl7 c0' f0 HS1 HS0
  obtain ⟨F, hF⟩ : ∃ F, (⟨8, refR 0 (-1), msg0⟩ : An).vals nilS nilS nilS = F := ⟨_, rfl⟩
  have HFl : Hid (F.length = 112) := by rw [← hF]; exact An.len HS2.out.ok HS2.out.mo _ _ _
  have HF1 : Hid (∀ u ∈ F, u.oneCell' = true) := by rw [← hF]; exact HS2.out.one
  have HRG : Hid (x.rangeAt (D + 2) 0 F) := by rw [← hF]; exact HS2.out.r2
  have HT6 := hide HS2.out.t1
  have HFN : Hid (∀ y, Ex (fun j => j = D + 1) x y → StPost _ _ _ _ _ (.returned (.agg F.toArray)) y) := fun y ex => by rw [← hF]; exact HS2.out.fin ex
  clear hF
  go_upto_region 53 with fail
  go_wp2_with fail
  simp only [Try.isAgg70, Try.sizeOf70, Result.andThen, ↓reduceIte, ldC x (D + 2) 0 F 112 HFl.out HRG.out]
  rw [Oper.upon_value]
  go_wp2_with fail
  simp only [Try.sizeOf70, Result.andThen, HFl.out, ↓reduceIte, stC x (D + 1) 0 F (by rw [HFl.out]; exact HT6.out) HF1.out]
  rw [Oper.upon_skip]
  have HRZ := hide (World.rangeAt_setCells_same x (D + 1) 0 F (by rw [HFl.out]; exact HT6.out))
  have HPO := hide (HFN.out _ (Ex.sets (S := fun j => j = D + 1) rfl F 0 x (Ex.refl _ _)))
  generalize x.setCells (D + 1) 0 F = wz at *
  clear HFN HRG HT6
  go_wp2_with fail
  exact bodyPost_ret (v := .agg F.toArray) (res_cell Try.results31 rfl (run_loadVar_mid wz (D + 1) 0 70 F _ HRZ.out Try.underlying70 rfl (by rw [HFl.out]; exact Try.sz70))) rfl HPO.out
set_option linter.unusedSimpArgs false in
set_option maxRecDepth 100000 in
set_option maxHeartbeats 16000000 in
theorem m_pe1 (w : World) (b : Nat) (P : Pr) (S : List Nat) (h : PP w b P S) (a : Option Addr) (n cap : Nat) (pt gs ac tk am : Int) (h2 : ac < 64) (h3 : tk < 4) (h4 : am ≠ 0) (h5 : 9223372036854775807 < am) :
    Calls Try.prog 31 #[.pointer (some ⟨b, 0, none⟩), .agg (opV 4 a n cap 1 pt gs ac tk am).toArray] w (StPost w b S P ⟨9, refR 0 (-1), msg0⟩) := by
  have d3 : decide ((64 : Int) ≤ ac) = false := by simp; omega
  have d4 : decide ((4 : Int) ≤ tk) = false := by simp; omega
  have d5 : (am == 0) = false := by simp; omega
  have d6 : decide ((9223372036854775807 : Int) < am) = true := by simp; omega
  clear h2 h3 h4 h5
  have HP := hide h
  unfold opV
  have HS0 : Hid (S0 w (((w.alloc (.cells #[.int .i64 4, .slice a n cap, .int .u8 1, .int .i64 pt, .int .u64 gs, .int .u8 ac, .int .u8 tk, .int .u64 am] 33)).alloc (.cells Try.zeroCells70 70)).alloc (.cells (Try.zeroCells70.setIfInBounds 2 (.int .i64 (-1))) 70)) w.heap.size [.int .i64 4, .slice a n cap, .int .u8 1, .int .i64 pt, .int .u64 gs, .int .u8 ac, .int .u8 tk, .int .u64 am]) := s0_start w [.int .i64 4, .slice a n cap, .int .u8 1, .int .i64 pt, .int .u64 gs, .int .u8 ac, .int .u8 tk, .int .u64 am]
  clear h
  go_enter Try.func31, Try.ntmps31
  go_upto_region 3 with fail
  obtain ⟨D, hD⟩ : ∃ D, w.heap.size = D := ⟨_, rfl⟩
  have hD1 : w.heap.size + 1 = D + 1 := by rw [hD]
  simp only [hD] at HS0 ⊢
  simp only [show D + 1 + 1 = D + 2 from rfl] at HS0 ⊢
  have HD := hide hD
  clear hD hD1
  generalize ((w.alloc (.cells #[.int .i64 4, .slice a n cap, .int .u8 1, .int .i64 pt, .int .u64 gs, .int .u8 ac, .int .u8 tk, .int .u64 am] 33)).alloc (.cells Try.zeroCells70 70)).alloc (.cells (Try.zeroCells70.setIfInBounds 2 (.int .i64 (-1))) 70) = w3 at *
  have cl0 := HS0.out.cell (j := 0) rfl
  have cl1 := HS0.out.cell (j := 1) rfl
  have cl2 := HS0.out.cell (j := 2) rfl
  have cl3 := HS0.out.cell (j := 3) rfl
  have cl4 := HS0.out.cell (j := 4) rfl
  have cl5 := HS0.out.cell (j := 5) rfl
  have cl6 := HS0.out.cell (j := 6) rfl
  have cl7 := HS0.out.cell (j := 7) rfl
  have HS1 := hide (s1_of HS0.out HP.out)
  obtain ⟨c0, f0, -, -, -⟩ := HS1.out.c0
  have c0' : w3.cell? ⟨D + 2, 0, none⟩ = some (.int .i64 0) := c0
  clear c0
  go_upto_region 53 with fail
  have HS2 := hide (HS1.out.code 9)
  generalize w3.setCell ⟨D + 2, 0, none⟩ (.int .i64 9) = x at *
  clear cl0 cl1 cl2 cl3 cl4 cl5 cl6 cl7 c0' f0 HS1 HS0
  obtain ⟨F, hF⟩ : ∃ F, (⟨9, refR 0 (-1), msg0⟩ : An).vals nilS nilS nilS = F := ⟨_, rfl⟩
  have HFl : Hid (F.length = 112) := by rw [← hF]; exact An.len HS2.out.ok HS2.out.mo _ _ _
  have HF1 : Hid (∀ u ∈ F, u.oneCell' = true) := by rw [← hF]; exact HS2.out.one
  have HRG : Hid (x.rangeAt (D + 2) 0 F) := by rw [← hF]; exact HS2.out.r2
  have HT6 := hide HS2.out.t1
  have HFN : Hid (∀ y, Ex (fun j => j = D + 1) x y → StPost _ _ _ _ _ (.returned (.agg F.toArray)) y) := fun y ex => by rw [← hF]; exact HS2.out.fin ex
  clear hF
  go_upto_region 53 with fail
  go_wp2_with fail
  simp only [Try.isAgg70, Try.sizeOf70, Result.andThen, ↓reduceIte, ldC x (D + 2) 0 F 112 HFl.out HRG.out]
  rw [Oper.upon_value]
  go_wp2_with fail
  simp only [Try.sizeOf70, Result.andThen, HFl.out, ↓reduceIte, stC x (D + 1) 0 F (by rw [HFl.out]; exact HT6.out) HF1.out]
  rw [Oper.upon_skip]
  have HRZ := hide (World.rangeAt_setCells_same x (D + 1) 0 F (by rw [HFl.out]; exact HT6.out))
  have HPO := hide (HFN.out _ (Ex.sets (S := fun j => j = D + 1) rfl F 0 x (Ex.refl _ _)))
  generalize x.setCells (D + 1) 0 F = wz at *
  clear HFN HRG HT6
  go_wp2_with fail
  exact bodyPost_ret (v := .agg F.toArray) (res_cell Try.results31 rfl (run_loadVar_mid wz (D + 1) 0 70 F _ HRZ.out Try.underlying70 rfl (by rw [HFl.out]; exact Try.sz70))) rfl HPO.out
set_option linter.unusedSimpArgs false in
set_option maxRecDepth 100000 in
set_option maxHeartbeats 16000000 in
theorem m_pe2 (w : World) (b : Nat) (P : Pr) (S : List Nat) (h : PP w b P S) (a : Option Addr) (n cap : Nat) (pt gs ac tk am : Int) (h2 : ac < 64) (h3 : tk < 4) (h4 : am ≠ 0) (h5 : 9223372036854775807 < am) :
    Calls Try.prog 31 #[.pointer (some ⟨b, 0, none⟩), .agg (opV 4 a n cap 2 pt gs ac tk am).toArray] w (StPost w b S P ⟨9, refR 0 (-1), msg0⟩) := by
  have d3 : decide ((64 : Int) ≤ ac) = false := by simp; omega
  have d4 : decide ((4 : Int) ≤ tk) = false := by simp; omega
  have d5 : (am == 0) = false := by simp; omega
  have d6 : decide ((9223372036854775807 : Int) < am) = true := by simp; omega
  clear h2 h3 h4 h5
  have HP := hide h
  unfold opV
  have HS0 : Hid (S0 w (((w.alloc (.cells #[.int .i64 4, .slice a n cap, .int .u8 2, .int .i64 pt, .int .u64 gs, .int .u8 ac, .int .u8 tk, .int .u64 am] 33)).alloc (.cells Try.zeroCells70 70)).alloc (.cells (Try.zeroCells70.setIfInBounds 2 (.int .i64 (-1))) 70)) w.heap.size [.int .i64 4, .slice a n cap, .int .u8 2, .int .i64 pt, .int .u64 gs, .int .u8 ac, .int .u8 tk, .int .u64 am]) := s0_start w [.int .i64 4, .slice a n cap, .int .u8 2, .int .i64 pt, .int .u64 gs, .int .u8 ac, .int .u8 tk, .int .u64 am]
  clear h
  go_enter Try.func31, Try.ntmps31
  go_upto_region 3 with fail
  obtain ⟨D, hD⟩ : ∃ D, w.heap.size = D := ⟨_, rfl⟩
  have hD1 : w.heap.size + 1 = D + 1 := by rw [hD]
  simp only [hD] at HS0 ⊢
  simp only [show D + 1 + 1 = D + 2 from rfl] at HS0 ⊢
  have HD := hide hD
  clear hD hD1
  generalize ((w.alloc (.cells #[.int .i64 4, .slice a n cap, .int .u8 2, .int .i64 pt, .int .u64 gs, .int .u8 ac, .int .u8 tk, .int .u64 am] 33)).alloc (.cells Try.zeroCells70 70)).alloc (.cells (Try.zeroCells70.setIfInBounds 2 (.int .i64 (-1))) 70) = w3 at *
  have cl0 := HS0.out.cell (j := 0) rfl
  have cl1 := HS0.out.cell (j := 1) rfl
  have cl2 := HS0.out.cell (j := 2) rfl
  have cl3 := HS0.out.cell (j := 3) rfl
  have cl4 := HS0.out.cell (j := 4) rfl
  have cl5 := HS0.out.cell (j := 5) rfl
  have cl6 := HS0.out.cell (j := 6) rfl
  have cl7 := HS0.out.cell (j := 7) rfl
  have HS1 := hide (s1_of HS0.out HP.out)
  obtain ⟨c0, f0, -, -, -⟩ := HS1.out.c0
  have c0' : w3.cell? ⟨D + 2, 0, none⟩ = some (.int .i64 0) := c0
  clear c0
  go_upto_region 53 with fail
  have HS2 := hide (HS1.out.code 9)
  generalize w3.setCell ⟨D + 2, 0, none⟩ (.int .i64 9) = x at *
  clear cl0 cl1 cl2 cl3 cl4 cl5 cl6 cl7 c0' f0 HS1 HS0
  obtain ⟨F, hF⟩ : ∃ F, (⟨9, refR 0 (-1), msg0⟩ : An).vals nilS nilS nilS = F := ⟨_, rfl⟩
  have HFl : Hid (F.length = 112) := by rw [← hF]; exact An.len HS2.out.ok HS2.out.mo _ _ _
  have HF1 : Hid (∀ u ∈ F, u.oneCell' = true) := by rw [← hF]; exact HS2.out.one
  have HRG : Hid (x.rangeAt (D + 2) 0 F) := by rw [← hF]; exact HS2.out.r2
  have HT6 := hide HS2.out.t1
  have HFN : Hid (∀ y, Ex (fun j => j = D + 1) x y → StPost _ _ _ _ _ (.returned (.agg F.toArray)) y) := fun y ex => by rw [← hF]; exact HS2.out.fin ex
  clear hF
  go_upto_region 53 with fail
  go_wp2_with fail
  simp only [Try.isAgg70, Try.sizeOf70, Result.andThen, ↓reduceIte, ldC x (D + 2) 0 F 112 HFl.out HRG.out]
  rw [Oper.upon_value]
  go_wp2_with fail
  simp only [Try.sizeOf70, Result.andThen, HFl.out, ↓reduceIte, stC x (D + 1) 0 F (by rw [HFl.out]; exact HT6.out) HF1.out]
  rw [Oper.upon_skip]
  have HRZ := hide (World.rangeAt_setCells_same x (D + 1) 0 F (by rw [HFl.out]; exact HT6.out))
  have HPO := hide (HFN.out _ (Ex.sets (S := fun j => j = D + 1) rfl F 0 x (Ex.refl _ _)))
  generalize x.setCells (D + 1) 0 F = wz at *
  clear HFN HRG HT6
  go_wp2_with fail
  exact bodyPost_ret (v := .agg F.toArray) (res_cell Try.results31 rfl (run_loadVar_mid wz (D + 1) 0 70 F _ HRZ.out Try.underlying70 rfl (by rw [HFl.out]; exact Try.sz70))) rfl HPO.out
set_option linter.unusedSimpArgs false in
set_option maxRecDepth 100000 in
set_option maxHeartbeats 16000000 in
theorem m_pf1 (w : World) (b : Nat) (P : Pr) (S : List Nat) (h : PP w b P S) (hl : P.b1.out.length ≤ 900000000000) (a : Option Addr) (n cap : Nat) (pt gs ac tk am : Int) (hb2 : 0 ≤ ac ∧ ac < 256) (hb3 : 0 ≤ tk ∧ tk < 256) (hb4 : 0 ≤ am ∧ am < m64) (h2 : ac < 64) (h3 : tk < 4) (h4 : am ≠ 0) (h5 : am ≤ 9223372036854775807) :
    Calls Try.prog 31 #[.pointer (some ⟨b, 0, none⟩), .agg (opV 4 a n cap 1 pt gs ac tk am).toArray] w (StPost w b S { P with b1 := sndB P.b1 (depM 1 ac tk am) } ⟨sndP P.b1, refR 0 (-1), sndM P.b1 (depM 1 ac tk am)⟩) := by
  have HMO := hide (depM_ok (d := 1) (rc := ac) (tk := tk) (am := am) (by omega) hb2 hb3 hb4)
  have HLn := hide hl
  have HBU := hide (built_dep 1 ac tk am)
  have d3 : decide ((64 : Int) ≤ ac) = false := by simp; omega
  have d4 : decide ((4 : Int) ≤ tk) = false := by simp; omega
  have d5 : (am == 0) = false := by simp; omega
  have d6 : decide ((9223372036854775807 : Int) < am) = false := by simp; omega
  clear h2 h3 h4 h5
  obtain ⟨m, hm⟩ : ∃ m, depM 1 ac tk am = m := ⟨_, rfl⟩
  rw [hm] at HMO HBU ⊢
  clear hm hl
  have HMF : Hid (MsgOk (sndM P.b1 m)) := by
    unfold sndM
    split
    · exact msg0_ok
    · exact stamp_ok HMO.out (by have := HLn.out; omega)
  obtain ⟨F, hF⟩ : ∃ F, msv (sndM P.b1 m) = F := ⟨_, rfl⟩
  have HF := hide hF
  have HFl : Hid (F.length = 41) := by rw [← hF]; exact msv_len HMF.out
  have HF1 : Hid (∀ u ∈ F, u.oneCell' = true) := by rw [← hF]; exact kvs_one _ _
  clear hF
  obtain ⟨cd, hcd⟩ : ∃ cd, sndP P.b1 = cd := ⟨_, rfl⟩
  have HCD := hide hcd
  rw [hcd]
  clear hcd
  obtain ⟨M, hM⟩ : ∃ M, msv m = M := ⟨_, rfl⟩
  have HM := hide hM
  rw [hM] at HBU
  clear hM
  have HP := hide h
  unfold opV
  have HS0 : Hid (S0 w (((w.alloc (.cells #[.int .i64 4, .slice a n cap, .int .u8 1, .int .i64 pt, .int .u64 gs, .int .u8 ac, .int .u8 tk, .int .u64 am] 33)).alloc (.cells Try.zeroCells70 70)).alloc (.cells (Try.zeroCells70.setIfInBounds 2 (.int .i64 (-1))) 70)) w.heap.size [.int .i64 4, .slice a n cap, .int .u8 1, .int .i64 pt, .int .u64 gs, .int .u8 ac, .int .u8 tk, .int .u64 am]) := s0_start w [.int .i64 4, .slice a n cap, .int .u8 1, .int .i64 pt, .int .u64 gs, .int .u8 ac, .int .u8 tk, .int .u64 am]
  clear h
  go_enter Try.func31, Try.ntmps31
  go_upto_region 3 with fail
  obtain ⟨D, hD⟩ : ∃ D, w.heap.size = D := ⟨_, rfl⟩
  have hD1 : w.heap.size + 1 = D + 1 := by rw [hD]
  simp only [hD] at HS0 ⊢
  simp only [show D + 1 + 1 = D + 2 from rfl] at HS0 ⊢
  have HD := hide hD
  clear hD hD1
  generalize ((w.alloc (.cells #[.int .i64 4, .slice a n cap, .int .u8 1, .int .i64 pt, .int .u64 gs, .int .u8 ac, .int .u8 tk, .int .u64 am] 33)).alloc (.cells Try.zeroCells70 70)).alloc (.cells (Try.zeroCells70.setIfInBounds 2 (.int .i64 (-1))) 70) = w3 at *
  have cl0 := HS0.out.cell (j := 0) rfl
  have cl1 := HS0.out.cell (j := 1) rfl
  have cl2 := HS0.out.cell (j := 2) rfl
  have cl3 := HS0.out.cell (j := 3) rfl
  have cl4 := HS0.out.cell (j := 4) rfl
  have cl5 := HS0.out.cell (j := 5) rfl
  have cl6 := HS0.out.cell (j := 6) rfl
  have cl7 := HS0.out.cell (j := 7) rfl
  have HS1 := hide (s1_of HS0.out HP.out)
  have HDb : Hid (¬ (D = b ∨ D ∈ S)) := fun e => by
    have := HS0.out.eD
    have := HP.out.bl
    rcases e with e | e
    · omega
    · have := HP.out.lt e; omega
  go_upto_region 19 with fail
  refine wp_region_held_drew (S := fun w' => w'.cell? ⟨D, 2, none⟩ = some (.int .u8 1) ∧ w'.cell? ⟨D, 5, none⟩ = some (.int .u8 ac) ∧ w'.cell? ⟨D, 6, none⟩ = some (.int .u8 tk) ∧ w'.cell? ⟨D, 7, none⟩ = some (.int .u64 am)) (by kernel_rfl) ⟨cl2, cl5, cl6, cl7⟩ (fun hHeld => ?_)
  replace HS1 := hide (HS1.out.below ((Below.refl w3.heap.size w3).drew))
  generalize w3.drew = w4 at *
  refine wpAnyH_take (i := 0) (v := ?_) rfl (by kernel_rfl) (by kernel_rfl) (by kernel_rfl) (fun _ _ _ h => h) (Or.inl ⟨by rfl, ?_⟩) (by assumption) ?_
  rotate_left
  · (intro w hSw; (try dsimp only at hSw); go_simp; try (with_reducible rfl))
  try simp only [Act.put, List.getElem_toArray, List.getElem_cons_zero, List.getElem_cons_succ, List.setIfInBounds_toArray, List.set_cons_zero, List.set_cons_succ]
  refine wpAnyH_take (i := 1) (v := ?_) rfl (by kernel_rfl) (by kernel_rfl) (by kernel_rfl) (fun _ _ _ h => h) (Or.inl ⟨by rfl, ?_⟩) (by assumption) ?_
  rotate_left
  · (intro w hSw; (try dsimp only at hSw); go_simp; try (with_reducible rfl))
  try simp only [Act.put, List.getElem_toArray, List.getElem_cons_zero, List.getElem_cons_succ, List.setIfInBounds_toArray, List.set_cons_zero, List.set_cons_succ]
  refine wpAnyH_take (i := 2) (v := ?_) rfl (by kernel_rfl) (by kernel_rfl) (by kernel_rfl) (fun _ _ _ h => h) (Or.inl ⟨by rfl, ?_⟩) (by assumption) ?_
  rotate_left
  · (intro w hSw; (try dsimp only at hSw); go_simp; try (with_reducible rfl))
  try simp only [Act.put, List.getElem_toArray, List.getElem_cons_zero, List.getElem_cons_succ, List.setIfInBounds_toArray, List.set_cons_zero, List.set_cons_succ]
  refine wpAnyH_take (i := 3) (v := ?_) rfl (by kernel_rfl) (by kernel_rfl) (by kernel_rfl) (fun _ _ _ h => h) (Or.inl ⟨by rfl, ?_⟩) (by assumption) ?_
  rotate_left
  · (intro w hSw; (try dsimp only at hSw); go_simp; try (with_reducible rfl))
  try simp only [Act.put, List.getElem_toArray, List.getElem_cons_zero, List.getElem_cons_succ, List.setIfInBounds_toArray, List.set_cons_zero, List.set_cons_succ]
  refine wpAnyH_take (i := 4) (v := ?_) rfl (by kernel_rfl) (by kernel_rfl) (by kernel_rfl) (fun _ _ _ h => h) (Or.inl ⟨by rfl, ?_⟩) (by assumption) ?_
  rotate_left
  · (intro w hSw; (try dsimp only at hSw); go_simp; try (with_reducible rfl))
  try simp only [Act.put, List.getElem_toArray, List.getElem_cons_zero, List.getElem_cons_succ, List.setIfInBounds_toArray, List.set_cons_zero, List.set_cons_succ]
  refine wpAnyH_take (i := 5) (v := ?_) rfl (by kernel_rfl) (by kernel_rfl) (by kernel_rfl) (fun _ _ _ h => h) (Or.inl ⟨by rfl, ?_⟩) (by assumption) ?_
  rotate_left
  · (intro w hSw; (try dsimp only at hSw); go_simp; try (with_reducible rfl))
  try simp only [Act.put, List.getElem_toArray, List.getElem_cons_zero, List.getElem_cons_succ, List.setIfInBounds_toArray, List.set_cons_zero, List.set_cons_succ]
  refine wpAnyH_take (i := 6) (v := ?_) rfl (by kernel_rfl) (by kernel_rfl) (by kernel_rfl) (fun _ _ _ h => h) (Or.inl ⟨by rfl, ?_⟩) (by assumption) ?_
  rotate_left
  · (intro w hSw; (try dsimp only at hSw); go_simp; try (with_reducible rfl))
  try simp only [Act.put, List.getElem_toArray, List.getElem_cons_zero, List.getElem_cons_succ, List.setIfInBounds_toArray, List.set_cons_zero, List.set_cons_succ]
  refine wpAnyH_take (i := 7) (v := ?_) rfl (by kernel_rfl) (by kernel_rfl) (by kernel_rfl) (fun _ _ _ h => h) (Or.inl ⟨by rfl, ?_⟩) (by assumption) ?_
  rotate_left
  · (intro w hSw; (try dsimp only at hSw); go_simp; try (with_reducible rfl))
  try simp only [Act.put, List.getElem_toArray, List.getElem_cons_zero, List.getElem_cons_succ, List.setIfInBounds_toArray, List.set_cons_zero, List.set_cons_succ]
  refine wpAnyH_take (i := 8) (v := ?_) rfl (by kernel_rfl) (by kernel_rfl) (by kernel_rfl) (fun _ _ _ h => h) (Or.inl ⟨by rfl, ?_⟩) (by assumption) ?_
  rotate_left
  · (intro w hSw; (try dsimp only at hSw); go_simp; try (with_reducible rfl))
  try simp only [Act.put, List.getElem_toArray, List.getElem_cons_zero, List.getElem_cons_succ, List.setIfInBounds_toArray, List.set_cons_zero, List.set_cons_succ]
  refine wpAnyH_take (i := 9) (v := ?_) rfl (by kernel_rfl) (by kernel_rfl) (by kernel_rfl) (fun _ _ _ h => h) (Or.inl ⟨by rfl, ?_⟩) (by assumption) ?_
  rotate_left
  · (intro w hSw; (try dsimp only at hSw); go_simp; try (with_reducible rfl))
  try simp only [Act.put, List.getElem_toArray, List.getElem_cons_zero, List.getElem_cons_succ, List.setIfInBounds_toArray, List.set_cons_zero, List.set_cons_succ]
  refine wpAnyH_take (i := 10) (v := ?_) rfl (by kernel_rfl) (by kernel_rfl) (by kernel_rfl) (fun _ _ _ h => h) (Or.inl ⟨by rfl, ?_⟩) (by assumption) ?_
  rotate_left
  · (intro w hSw; (try dsimp only at hSw); go_simp; try (with_reducible rfl))
  try simp only [Act.put, List.getElem_toArray, List.getElem_cons_zero, List.getElem_cons_succ, List.setIfInBounds_toArray, List.set_cons_zero, List.set_cons_succ]
  refine wpAnyH_take (i := 11) rfl (by kernel_rfl) (by kernel_rfl) (by kernel_rfl) (fun _ _ _ h => h) (yieldsIf_build (by rfl) 68 _ rfl M.toArray (by exact HBU.out)) (by assumption) ?_
  try simp only [Act.put, List.getElem_toArray, List.getElem_cons_zero, List.getElem_cons_succ, List.setIfInBounds_toArray, List.set_cons_zero, List.set_cons_succ]
  refine wpAnyH_ready (rs := [12]) (by kernel_rfl) (by simp) ?_
  refine (AllReadyH.cons rfl (fun K hK => ?_) AllReadyH.nil)
  obtain ⟨B, hba, up⟩ := HS1.out.pp.onE
  have hsd := send_all w4 b 662 P.b1 P.t1 B m hba HMO.out HLn.out
  rw [HM.out, HF.out, HCD.out] at hsd
  refine step_call rfl 62 #[.pointer (some ⟨b, 662, none⟩), .agg M.toArray] (by simp [go_sem]) hsd ?_
  clear hsd
  intro e y hbs
  obtain ⟨he, hps⟩ := up _ _ _ _ _ hbs
  subst he
  have HEy := hide hps.1
  obtain ⟨S', hs⟩ := HS1.out.step hps
  have HSy := hide hs
  clear hs hbs hps hba up B
  refine ⟨_, rfl, ?_⟩
  refine hK.out _ _ ?_ (fun hHeld => ?_)
  · exact ⟨HEy.out.cell HDb.out hHeld.1, HEy.out.cell HDb.out hHeld.2.1, HEy.out.cell HDb.out hHeld.2.2.1, HEy.out.cell HDb.out hHeld.2.2.2⟩
  clear hK K
  try simp only [Act.put, List.getElem_toArray, List.getElem_cons_zero, List.getElem_cons_succ, List.setIfInBounds_toArray, List.set_cons_zero, List.set_cons_succ]
  refine wpAnyH_take (i := 13) (v := ?_) rfl (by kernel_rfl) (by kernel_rfl) (by kernel_rfl) (fun _ _ _ h => h) (Or.inl ⟨by rfl, ?_⟩) (by assumption) ?_
  rotate_left
  · (intro w hSw; (try dsimp only at hSw); go_simp; try (with_reducible rfl))
  try simp only [Act.put, List.getElem_toArray, List.getElem_cons_zero, List.getElem_cons_succ, List.setIfInBounds_toArray, List.set_cons_zero, List.set_cons_succ]
  refine wpAnyH_take (i := 14) (v := ?_) rfl (by kernel_rfl) (by kernel_rfl) (by kernel_rfl) (fun _ _ _ h => h) (Or.inl ⟨by rfl, ?_⟩) (by assumption) ?_
  rotate_left
  · (intro w hSw; (try dsimp only at hSw); go_simp; try (with_reducible rfl))
  try simp only [Act.put, List.getElem_toArray, List.getElem_cons_zero, List.getElem_cons_succ, List.setIfInBounds_toArray, List.set_cons_zero, List.set_cons_succ]
  refine wpAnyH_take (i := 15) (v := ?_) rfl (by kernel_rfl) (by kernel_rfl) (by kernel_rfl) (fun _ _ _ h => h) (Or.inl ⟨by rfl, ?_⟩) (by assumption) ?_
  rotate_left
  · (intro w hSw; (try dsimp only at hSw); go_simp; try (with_reducible rfl))
  try simp only [Act.put, List.getElem_toArray, List.getElem_cons_zero, List.getElem_cons_succ, List.setIfInBounds_toArray, List.set_cons_zero, List.set_cons_succ]
  refine wpAnyH_take (i := 16) (v := ?_) rfl (by kernel_rfl) (by kernel_rfl) (by kernel_rfl) (fun _ _ _ h => h) (Or.inl ⟨by rfl, ?_⟩) (by assumption) ?_
  rotate_left
  · (intro w hSw; (try dsimp only at hSw); go_simp; try (with_reducible rfl))
  try simp only [Act.put, List.getElem_toArray, List.getElem_cons_zero, List.getElem_cons_succ, List.setIfInBounds_toArray, List.set_cons_zero, List.set_cons_succ]
  refine wpAnyH_ready (rs := [17]) (by kernel_rfl) (by simp) ?_
  refine (AllReadyH.cons rfl (fun K hK => ?_) AllReadyH.nil)
  have HTT := hide (there_part HSy.out.t2 (o := 71) (m := 41) (by omega))
  refine step_storeM rfl 68 (.tmp 85) (.tmp 83) rfl (D + 2) 71 F rfl rfl (by rw [HFl.out]; exact HTT.out) (by rw [HFl.out]; exact Try.sz68) HF1.out ?_
  have HEr : Hid (Ex (fun j => j = D + 2) y (y.setCells (D + 2) 71 F)) := Ex.sets (S := fun j => j = D + 2) rfl F 71 _ (Ex.refl _ _)
  replace HSy := hide (HSy.out.msg HMF.out)
  rw [HF.out] at HSy
  refine hK.out _ _ ?_ (fun hHeld => ?_)
  · exact ⟨HEr.out.cell (show ¬ (D = D + 2) by omega) hHeld.1, HEr.out.cell (show ¬ (D = D + 2) by omega) hHeld.2.1, HEr.out.cell (show ¬ (D = D + 2) by omega) hHeld.2.2.1, HEr.out.cell (show ¬ (D = D + 2) by omega) hHeld.2.2.2⟩
  clear hK K
  try simp only [Act.put, List.getElem_toArray, List.getElem_cons_zero, List.getElem_cons_succ, List.setIfInBounds_toArray, List.set_cons_zero, List.set_cons_succ]
  clear HEr HTT
  generalize y.setCells (D + 2) 71 F = ya at *
  refine wpAnyH_take (i := 18) (v := ?_) rfl (by kernel_rfl) (by kernel_rfl) (by kernel_rfl) (fun _ _ _ h => h) (Or.inl ⟨by rfl, ?_⟩) (by assumption) ?_
  rotate_left
  · (intro w hSw; (try dsimp only at hSw); go_simp; try (with_reducible rfl))
  try simp only [Act.put, List.getElem_toArray, List.getElem_cons_zero, List.getElem_cons_succ, List.setIfInBounds_toArray, List.set_cons_zero, List.set_cons_succ]
  refine wpAnyH_ready (rs := [19]) (by kernel_rfl) (by simp) ?_
  refine (AllReadyH.cons rfl (fun K hK => ?_) AllReadyH.nil)
  have c0y : ya.cell? ⟨D + 2, 0, none⟩ = some (.int .i64 0) := HSy.out.c0.1
  have f0y := HSy.out.c0.2.1
  go_simp
  have HEr : Hid (Ex (fun j => j = D + 2) ya (ya.setCell ⟨D + 2, 0, none⟩ (.int .i64 cd))) := (Ex.refl (fun j => j = D + 2) ya).set (j := 0) rfl (.int .i64 cd)
  replace HSy := hide (HSy.out.code cd)
  refine hK.out _ _ ?_ (fun hHeld => ?_)
  · exact ⟨HEr.out.cell (show ¬ (D = D + 2) by omega) hHeld.1, HEr.out.cell (show ¬ (D = D + 2) by omega) hHeld.2.1, HEr.out.cell (show ¬ (D = D + 2) by omega) hHeld.2.2.1, HEr.out.cell (show ¬ (D = D + 2) by omega) hHeld.2.2.2⟩
  clear hK K
  try simp only [Act.put, List.getElem_toArray, List.getElem_cons_zero, List.getElem_cons_succ, List.setIfInBounds_toArray, List.set_cons_zero, List.set_cons_succ]
  clear HEr c0y f0y
  generalize ya.setCell ⟨D + 2, 0, none⟩ (.int .i64 cd) = yb at *
  refine wpAnyH_done (by kernel_rfl) ?_ _
  obtain ⟨y3, hy3⟩ : ∃ W', W' = yb := ⟨_, rfl⟩
  subst hy3
  have HS3 : Hid (S1 w b S D y3 { P with b1 := sndB P.b1 m } S' ⟨cd, refR 0 (-1), sndM P.b1 m⟩ nilS nilS nilS []) := HSy.out
  clear HSy
  clear cl0 cl1 cl2 cl3 cl4 cl5 cl6 cl7
  obtain ⟨F, hF⟩ : ∃ F, (⟨cd, refR 0 (-1), sndM P.b1 m⟩ : An).vals nilS nilS nilS = F := ⟨_, rfl⟩
  have HFl : Hid (F.length = 112) := by rw [← hF]; exact An.len HS3.out.ok HS3.out.mo _ _ _
  have HF1 : Hid (∀ u ∈ F, u.oneCell' = true) := by rw [← hF]; exact HS3.out.one
  have HRG : Hid (y3.rangeAt (D + 2) 0 F) := by rw [← hF]; exact HS3.out.r2
  have HT6 := hide HS3.out.t1
  have HFN : Hid (∀ y, Ex (fun j => j = D + 1) y3 y → StPost _ _ _ _ _ (.returned (.agg F.toArray)) y) := fun y ex => by rw [← hF]; exact HS3.out.fin ex
  clear hF
  go_upto_region 53 with fail
  go_wp2_with fail
  simp only [Try.isAgg70, Try.sizeOf70, Result.andThen, ↓reduceIte, ldC y3 (D + 2) 0 F 112 HFl.out HRG.out]
  rw [Oper.upon_value]
  go_wp2_with fail
  simp only [Try.sizeOf70, Result.andThen, HFl.out, ↓reduceIte, stC y3 (D + 1) 0 F (by rw [HFl.out]; exact HT6.out) HF1.out]
  rw [Oper.upon_skip]
  have HRZ := hide (World.rangeAt_setCells_same y3 (D + 1) 0 F (by rw [HFl.out]; exact HT6.out))
  have HPO := hide (HFN.out _ (Ex.sets (S := fun j => j = D + 1) rfl F 0 y3 (Ex.refl _ _)))
  generalize y3.setCells (D + 1) 0 F = wz at *
  clear HFN HRG HT6
  go_wp2_with fail
  exact bodyPost_ret (v := .agg F.toArray) (res_cell Try.results31 rfl (run_loadVar_mid wz (D + 1) 0 70 F _ HRZ.out Try.underlying70 rfl (by rw [HFl.out]; exact Try.sz70))) rfl HPO.out
set_option linter.unusedSimpArgs false in
set_option maxRecDepth 100000 in
set_option maxHeartbeats 16000000 in
theorem m_pf2 (w : World) (b : Nat) (P : Pr) (S : List Nat) (h : PP w b P S) (hl : P.b1.out.length ≤ 900000000000) (a : Option Addr) (n cap : Nat) (pt gs ac tk am : Int) (hb2 : 0 ≤ ac ∧ ac < 256) (hb3 : 0 ≤ tk ∧ tk < 256) (hb4 : 0 ≤ am ∧ am < m64) (h2 : ac < 64) (h3 : tk < 4) (h4 : am ≠ 0) (h5 : am ≤ 9223372036854775807) :
    Calls Try.prog 31 #[.pointer (some ⟨b, 0, none⟩), .agg (opV 4 a n cap 2 pt gs ac tk am).toArray] w (StPost w b S { P with b1 := sndB P.b1 (depM 2 ac tk am) } ⟨sndP P.b1, refR 0 (-1), sndM P.b1 (depM 2 ac tk am)⟩) := by
  have HMO := hide (depM_ok (d := 2) (rc := ac) (tk := tk) (am := am) (by omega) hb2 hb3 hb4)
  have HLn := hide hl
  have HBU := hide (built_dep 2 ac tk am)
  have d3 : decide ((64 : Int) ≤ ac) = false := by simp; omega
  have d4 : decide ((4 : Int) ≤ tk) = false := by simp; omega
  have d5 : (am == 0) = false := by simp; omega
  have d6 : decide ((9223372036854775807 : Int) < am) = false := by simp; omega
  clear h2 h3 h4 h5
  obtain ⟨m, hm⟩ : ∃ m, depM 2 ac tk am = m := ⟨_, rfl⟩
  rw [hm] at HMO HBU ⊢
  clear hm hl
  have HMF : Hid (MsgOk (sndM P.b1 m)) := by
    unfold sndM
    split
    · exact msg0_ok
    · exact stamp_ok HMO.out (by have := HLn.out; omega)
  obtain ⟨F, hF⟩ : ∃ F, msv (sndM P.b1 m) = F := ⟨_, rfl⟩
  have HF := hide hF
  have HFl : Hid (F.length = 41) := by rw [← hF]; exact msv_len HMF.out
  have HF1 : Hid (∀ u ∈ F, u.oneCell' = true) := by rw [← hF]; exact kvs_one _ _
  clear hF
  obtain ⟨cd, hcd⟩ : ∃ cd, sndP P.b1 = cd := ⟨_, rfl⟩
  have HCD := hide hcd
  rw [hcd]
  clear hcd
  obtain ⟨M, hM⟩ : ∃ M, msv m = M := ⟨_, rfl⟩
  have HM := hide hM
  rw [hM] at HBU
  clear hM
  have HP := hide h
  unfold opV
  have HS0 : Hid (S0 w (((w.alloc (.cells #[.int .i64 4, .slice a n cap, .int .u8 2, .int .i64 pt, .int .u64 gs, .int .u8 ac, .int .u8 tk, .int .u64 am] 33)).alloc (.cells Try.zeroCells70 70)).alloc (.cells (Try.zeroCells70.setIfInBounds 2 (.int .i64 (-1))) 70)) w.heap.size [.int .i64 4, .slice a n cap, .int .u8 2, .int .i64 pt, .int .u64 gs, .int .u8 ac, .int .u8 tk, .int .u64 am]) := s0_start w [.int .i64 4, .slice a n cap, .int .u8 2, .int .i64 pt, .int .u64 gs, .int .u8 ac, .int .u8 tk, .int .u64 am]
  clear h
  go_enter Try.func31, Try.ntmps31
  go_upto_region 3 with fail
  obtain ⟨D, hD⟩ : ∃ D, w.heap.size = D := ⟨_, rfl⟩
  have hD1 : w.heap.size + 1 = D + 1 := by rw [hD]
  simp only [hD] at HS0 ⊢
  simp only [show D + 1 + 1 = D + 2 from rfl] at HS0 ⊢
  have HD := hide hD
  clear hD hD1
  generalize ((w.alloc (.cells #[.int .i64 4, .slice a n cap, .int .u8 2, .int .i64 pt, .int .u64 gs, .int .u8 ac, .int .u8 tk, .int .u64 am] 33)).alloc (.cells Try.zeroCells70 70)).alloc (.cells (Try.zeroCells70.setIfInBounds 2 (.int .i64 (-1))) 70) = w3 at *
  have cl0 := HS0.out.cell (j := 0) rfl
  have cl1 := HS0.out.cell (j := 1) rfl
  have cl2 := HS0.out.cell (j := 2) rfl
  have cl3 := HS0.out.cell (j := 3) rfl
  have cl4 := HS0.out.cell (j := 4) rfl
  have cl5 := HS0.out.cell (j := 5) rfl
  have cl6 := HS0.out.cell (j := 6) rfl
  have cl7 := HS0.out.cell (j := 7) rfl
  have HS1 := hide (s1_of HS0.out HP.out)
  have HDb : Hid (¬ (D = b ∨ D ∈ S)) := fun e => by
    have := HS0.out.eD
    have := HP.out.bl
    rcases e with e | e
    · omega
    · have := HP.out.lt e; omega
  go_upto_region 19 with fail
  refine wp_region_held_drew (S := fun w' => w'.cell? ⟨D, 2, none⟩ = some (.int .u8 2) ∧ w'.cell? ⟨D, 5, none⟩ = some (.int .u8 ac) ∧ w'.cell? ⟨D, 6, none⟩ = some (.int .u8 tk) ∧ w'.cell? ⟨D, 7, none⟩ = some (.int .u64 am)) (by kernel_rfl) ⟨cl2, cl5, cl6, cl7⟩ (fun hHeld => ?_)
  replace HS1 := hide (HS1.out.below ((Below.refl w3.heap.size w3).drew))
  generalize w3.drew = w4 at *
  refine wpAnyH_take (i := 0) (v := ?_) rfl (by kernel_rfl) (by kernel_rfl) (by kernel_rfl) (fun _ _ _ h => h) (Or.inl ⟨by rfl, ?_⟩) (by assumption) ?_
  rotate_left
  · (intro w hSw; (try dsimp only at hSw); go_simp; try (with_reducible rfl))
  try simp only [Act.put, List.getElem_toArray, List.getElem_cons_zero, List.getElem_cons_succ, List.setIfInBounds_toArray, List.set_cons_zero, List.set_cons_succ]
  refine wpAnyH_take (i := 1) (v := ?_) rfl (by kernel_rfl) (by kernel_rfl) (by kernel_rfl) (fun _ _ _ h => h) (Or.inl ⟨by rfl, ?_⟩) (by assumption) ?_
  rotate_left
  · (intro w hSw; (try dsimp only at hSw); go_simp; try (with_reducible rfl))
  try simp only [Act.put, List.getElem_toArray, List.getElem_cons_zero, List.getElem_cons_succ, List.setIfInBounds_toArray, List.set_cons_zero, List.set_cons_succ]
  refine wpAnyH_take (i := 2) (v := ?_) rfl (by kernel_rfl) (by kernel_rfl) (by kernel_rfl) (fun _ _ _ h => h) (Or.inl ⟨by rfl, ?_⟩) (by assumption) ?_
  rotate_left
  · (intro w hSw; (try dsimp only at hSw); go_simp; try (with_reducible rfl))
  try simp only [Act.put, List.getElem_toArray, List.getElem_cons_zero, List.getElem_cons_succ, List.setIfInBounds_toArray, List.set_cons_zero, List.set_cons_succ]
  refine wpAnyH_take (i := 3) (v := ?_) rfl (by kernel_rfl) (by kernel_rfl) (by kernel_rfl) (fun _ _ _ h => h) (Or.inl ⟨by rfl, ?_⟩) (by assumption) ?_
  rotate_left
  · (intro w hSw; (try dsimp only at hSw); go_simp; try (with_reducible rfl))
  try simp only [Act.put, List.getElem_toArray, List.getElem_cons_zero, List.getElem_cons_succ, List.setIfInBounds_toArray, List.set_cons_zero, List.set_cons_succ]
  refine wpAnyH_take (i := 4) (v := ?_) rfl (by kernel_rfl) (by kernel_rfl) (by kernel_rfl) (fun _ _ _ h => h) (Or.inl ⟨by rfl, ?_⟩) (by assumption) ?_
  rotate_left
  · (intro w hSw; (try dsimp only at hSw); go_simp; try (with_reducible rfl))
  try simp only [Act.put, List.getElem_toArray, List.getElem_cons_zero, List.getElem_cons_succ, List.setIfInBounds_toArray, List.set_cons_zero, List.set_cons_succ]
  refine wpAnyH_take (i := 5) (v := ?_) rfl (by kernel_rfl) (by kernel_rfl) (by kernel_rfl) (fun _ _ _ h => h) (Or.inl ⟨by rfl, ?_⟩) (by assumption) ?_
  rotate_left
  · (intro w hSw; (try dsimp only at hSw); go_simp; try (with_reducible rfl))
  try simp only [Act.put, List.getElem_toArray, List.getElem_cons_zero, List.getElem_cons_succ, List.setIfInBounds_toArray, List.set_cons_zero, List.set_cons_succ]
  refine wpAnyH_take (i := 6) (v := ?_) rfl (by kernel_rfl) (by kernel_rfl) (by kernel_rfl) (fun _ _ _ h => h) (Or.inl ⟨by rfl, ?_⟩) (by assumption) ?_
  rotate_left
  · (intro w hSw; (try dsimp only at hSw); go_simp; try (with_reducible rfl))
  try simp only [Act.put, List.getElem_toArray, List.getElem_cons_zero, List.getElem_cons_succ, List.setIfInBounds_toArray, List.set_cons_zero, List.set_cons_succ]
  refine wpAnyH_take (i := 7) (v := ?_) rfl (by kernel_rfl) (by kernel_rfl) (by kernel_rfl) (fun _ _ _ h => h) (Or.inl ⟨by rfl, ?_⟩) (by assumption) ?_
  rotate_left
  · (intro w hSw; (try dsimp only at hSw); go_simp; try (with_reducible rfl))
  try simp only [Act.put, List.getElem_toArray, List.getElem_cons_zero, List.getElem_cons_succ, List.setIfInBounds_toArray, List.set_cons_zero, List.set_cons_succ]
  refine wpAnyH_take (i := 8) (v := ?_) rfl (by kernel_rfl) (by kernel_rfl) (by kernel_rfl) (fun _ _ _ h => h) (Or.inl ⟨by rfl, ?_⟩) (by assumption) ?_
  rotate_left
  · (intro w hSw; (try dsimp only at hSw); go_simp; try (with_reducible rfl))
  try simp only [Act.put, List.getElem_toArray, List.getElem_cons_zero, List.getElem_cons_succ, List.setIfInBounds_toArray, List.set_cons_zero, List.set_cons_succ]
  refine wpAnyH_take (i := 9) (v := ?_) rfl (by kernel_rfl) (by kernel_rfl) (by kernel_rfl) (fun _ _ _ h => h) (Or.inl ⟨by rfl, ?_⟩) (by assumption) ?_
  rotate_left
  · (intro w hSw; (try dsimp only at hSw); go_simp; try (with_reducible rfl))
  try simp only [Act.put, List.getElem_toArray, List.getElem_cons_zero, List.getElem_cons_succ, List.setIfInBounds_toArray, List.set_cons_zero, List.set_cons_succ]
  refine wpAnyH_take (i := 10) (v := ?_) rfl (by kernel_rfl) (by kernel_rfl) (by kernel_rfl) (fun _ _ _ h => h) (Or.inl ⟨by rfl, ?_⟩) (by assumption) ?_
  rotate_left
  · (intro w hSw; (try dsimp only at hSw); go_simp; try (with_reducible rfl))
  try simp only [Act.put, List.getElem_toArray, List.getElem_cons_zero, List.getElem_cons_succ, List.setIfInBounds_toArray, List.set_cons_zero, List.set_cons_succ]
  refine wpAnyH_take (i := 11) rfl (by kernel_rfl) (by kernel_rfl) (by kernel_rfl) (fun _ _ _ h => h) (yieldsIf_build (by rfl) 68 _ rfl M.toArray (by exact HBU.out)) (by assumption) ?_
  try simp only [Act.put, List.getElem_toArray, List.getElem_cons_zero, List.getElem_cons_succ, List.setIfInBounds_toArray, List.set_cons_zero, List.set_cons_succ]
  refine wpAnyH_ready (rs := [12]) (by kernel_rfl) (by simp) ?_
  refine (AllReadyH.cons rfl (fun K hK => ?_) AllReadyH.nil)
  obtain ⟨B, hba, up⟩ := HS1.out.pp.onE
  have hsd := send_all w4 b 662 P.b1 P.t1 B m hba HMO.out HLn.out
  rw [HM.out, HF.out, HCD.out] at hsd
  refine step_call rfl 62 #[.pointer (some ⟨b, 662, none⟩), .agg M.toArray] (by simp [go_sem]) hsd ?_
  clear hsd
  intro e y hbs
  obtain ⟨he, hps⟩ := up _ _ _ _ _ hbs
  subst he
  have HEy := hide hps.1
  obtain ⟨S', hs⟩ := HS1.out.step hps
  have HSy := hide hs
  clear hs hbs hps hba up B
  refine ⟨_, rfl, ?_⟩
  refine hK.out _ _ ?_ (fun hHeld => ?_)
  · exact ⟨HEy.out.cell HDb.out hHeld.1, HEy.out.cell HDb.out hHeld.2.1, HEy.out.cell HDb.out hHeld.2.2.1, HEy.out.cell HDb.out hHeld.2.2.2⟩
  clear hK K
  try simp only [Act.put, List.getElem_toArray, List.getElem_cons_zero, List.getElem_cons_succ, List.setIfInBounds_toArray, List.set_cons_zero, List.set_cons_succ]
  refine wpAnyH_take (i := 13) (v := ?_) rfl (by kernel_rfl) (by kernel_rfl) (by kernel_rfl) (fun _ _ _ h => h) (Or.inl ⟨by rfl, ?_⟩) (by assumption) ?_
  rotate_left
  · (intro w hSw; (try dsimp only at hSw); go_simp; try (with_reducible rfl))
  try simp only [Act.put, List.getElem_toArray, List.getElem_cons_zero, List.getElem_cons_succ, List.setIfInBounds_toArray, List.set_cons_zero, List.set_cons_succ]
  refine wpAnyH_take (i := 14) (v := ?_) rfl (by kernel_rfl) (by kernel_rfl) (by kernel_rfl) (fun _ _ _ h => h) (Or.inl ⟨by rfl, ?_⟩) (by assumption) ?_
  rotate_left
  · (intro w hSw; (try dsimp only at hSw); go_simp; try (with_reducible rfl))
  try simp only [Act.put, List.getElem_toArray, List.getElem_cons_zero, List.getElem_cons_succ, List.setIfInBounds_toArray, List.set_cons_zero, List.set_cons_succ]
  refine wpAnyH_take (i := 15) (v := ?_) rfl (by kernel_rfl) (by kernel_rfl) (by kernel_rfl) (fun _ _ _ h => h) (Or.inl ⟨by rfl, ?_⟩) (by assumption) ?_
  rotate_left
  · (intro w hSw; (try dsimp only at hSw); go_simp; try (with_reducible rfl))
  try simp only [Act.put, List.getElem_toArray, List.getElem_cons_zero, List.getElem_cons_succ, List.setIfInBounds_toArray, List.set_cons_zero, List.set_cons_succ]
  refine wpAnyH_take (i := 16) (v := ?_) rfl (by kernel_rfl) (by kernel_rfl) (by kernel_rfl) (fun _ _ _ h => h) (Or.inl ⟨by rfl, ?_⟩) (by assumption) ?_
  rotate_left
  · (intro w hSw; (try dsimp only at hSw); go_simp; try (with_reducible rfl))
  try simp only [Act.put, List.getElem_toArray, List.getElem_cons_zero, List.getElem_cons_succ, List.setIfInBounds_toArray, List.set_cons_zero, List.set_cons_succ]
  refine wpAnyH_ready (rs := [17]) (by kernel_rfl) (by simp) ?_
  refine (AllReadyH.cons rfl (fun K hK => ?_) AllReadyH.nil)
  have HTT := hide (there_part HSy.out.t2 (o := 71) (m := 41) (by omega))
  refine step_storeM rfl 68 (.tmp 85) (.tmp 83) rfl (D + 2) 71 F rfl rfl (by rw [HFl.out]; exact HTT.out) (by rw [HFl.out]; exact Try.sz68) HF1.out ?_
  have HEr : Hid (Ex (fun j => j = D + 2) y (y.setCells (D + 2) 71 F)) := Ex.sets (S := fun j => j = D + 2) rfl F 71 _ (Ex.refl _ _)
  replace HSy := hide (HSy.out.msg HMF.out)
  rw [HF.out] at HSy
  refine hK.out _ _ ?_ (fun hHeld => ?_)
  · exact ⟨HEr.out.cell (show ¬ (D = D + 2) by omega) hHeld.1, HEr.out.cell (show ¬ (D = D + 2) by omega) hHeld.2.1, HEr.out.cell (show ¬ (D = D + 2) by omega) hHeld.2.2.1, HEr.out.cell (show ¬ (D = D + 2) by omega) hHeld.2.2.2⟩
  clear hK K
  try simp only [Act.put, List.getElem_toArray, List.getElem_cons_zero, List.getElem_cons_succ, List.setIfInBounds_toArray, List.set_cons_zero, List.set_cons_succ]
  clear HEr HTT
  generalize y.setCells (D + 2) 71 F = ya at *
  refine wpAnyH_take (i := 18) (v := ?_) rfl (by kernel_rfl) (by kernel_rfl) (by kernel_rfl) (fun _ _ _ h => h) (Or.inl ⟨by rfl, ?_⟩) (by assumption) ?_
  rotate_left
  · (intro w hSw; (try dsimp only at hSw); go_simp; try (with_reducible rfl))
  try simp only [Act.put, List.getElem_toArray, List.getElem_cons_zero, List.getElem_cons_succ, List.setIfInBounds_toArray, List.set_cons_zero, List.set_cons_succ]
  refine wpAnyH_ready (rs := [19]) (by kernel_rfl) (by simp) ?_
  refine (AllReadyH.cons rfl (fun K hK => ?_) AllReadyH.nil)
  have c0y : ya.cell? ⟨D + 2, 0, none⟩ = some (.int .i64 0) := HSy.out.c0.1
  have f0y := HSy.out.c0.2.1
  go_simp
  have HEr : Hid (Ex (fun j => j = D + 2) ya (ya.setCell ⟨D + 2, 0, none⟩ (.int .i64 cd))) := (Ex.refl (fun j => j = D + 2) ya).set (j := 0) rfl (.int .i64 cd)
  replace HSy := hide (HSy.out.code cd)
  refine hK.out _ _ ?_ (fun hHeld => ?_)
  · exact ⟨HEr.out.cell (show ¬ (D = D + 2) by omega) hHeld.1, HEr.out.cell (show ¬ (D = D + 2) by omega) hHeld.2.1, HEr.out.cell (show ¬ (D = D + 2) by omega) hHeld.2.2.1, HEr.out.cell (show ¬ (D = D + 2) by omega) hHeld.2.2.2⟩
  clear hK K
  try simp only [Act.put, List.getElem_toArray, List.getElem_cons_zero, List.getElem_cons_succ, List.setIfInBounds_toArray, List.set_cons_zero, List.set_cons_succ]
  clear HEr c0y f0y
  generalize ya.setCell ⟨D + 2, 0, none⟩ (.int .i64 cd) = yb at *
  refine wpAnyH_done (by kernel_rfl) ?_ _
  obtain ⟨y3, hy3⟩ : ∃ W', W' = yb := ⟨_, rfl⟩
  subst hy3
  have HS3 : Hid (S1 w b S D y3 { P with b1 := sndB P.b1 m } S' ⟨cd, refR 0 (-1), sndM P.b1 m⟩ nilS nilS nilS []) := HSy.out
  clear HSy
  clear cl0 cl1 cl2 cl3 cl4 cl5 cl6 cl7
  obtain ⟨F, hF⟩ : ∃ F, (⟨cd, refR 0 (-1), sndM P.b1 m⟩ : An).vals nilS nilS nilS = F := ⟨_, rfl⟩
  have HFl : Hid (F.length = 112) := by rw [← hF]; exact An.len HS3.out.ok HS3.out.mo _ _ _
  have HF1 : Hid (∀ u ∈ F, u.oneCell' = true) := by rw [← hF]; exact HS3.out.one
  have HRG : Hid (y3.rangeAt (D + 2) 0 F) := by rw [← hF]; exact HS3.out.r2
  have HT6 := hide HS3.out.t1
  have HFN : Hid (∀ y, Ex (fun j => j = D + 1) y3 y → StPost _ _ _ _ _ (.returned (.agg F.toArray)) y) := fun y ex => by rw [← hF]; exact HS3.out.fin ex
  clear hF
  go_upto_region 53 with fail
  go_wp2_with fail
  simp only [Try.isAgg70, Try.sizeOf70, Result.andThen, ↓reduceIte, ldC y3 (D + 2) 0 F 112 HFl.out HRG.out]
  rw [Oper.upon_value]
  go_wp2_with fail
  simp only [Try.sizeOf70, Result.andThen, HFl.out, ↓reduceIte, stC y3 (D + 1) 0 F (by rw [HFl.out]; exact HT6.out) HF1.out]
  rw [Oper.upon_skip]
  have HRZ := hide (World.rangeAt_setCells_same y3 (D + 1) 0 F (by rw [HFl.out]; exact HT6.out))
  have HPO := hide (HFN.out _ (Ex.sets (S := fun j => j = D + 1) rfl F 0 y3 (Ex.refl _ _)))
  generalize y3.setCells (D + 1) 0 F = wz at *
  clear HFN HRG HT6
  go_wp2_with fail
  exact bodyPost_ret (v := .agg F.toArray) (res_cell Try.results31 rfl (run_loadVar_mid wz (D + 1) 0 70 F _ HRZ.out Try.underlying70 rfl (by rw [HFl.out]; exact Try.sz70))) rfl HPO.out
theorem m_p (w : World) (b : Nat) (P : Pr) (S : List Nat) (h : PP w b P S) (hl : P.b1.out.length ≤ 900000000000) (a : Option Addr) (n cap : Nat) (ch pt gs ac tk am : Int) (hb2 : 0 ≤ ac ∧ ac < 256) (hb3 : 0 ≤ tk ∧ tk < 256) (hb4 : 0 ≤ am ∧ am < m64) :
    Calls Try.prog 31 #[.pointer (some ⟨b, 0, none⟩), .agg (opV 4 a n cap ch pt gs ac tk am).toArray] w (StPost w b S (depS P ch ac tk am) ⟨depC P ch ac tk am, refR 0 (-1), depA P ch ac tk am⟩) := by
  by_cases hr : ch = 1 ∨ ch = 2
  · have hrr : ¬ ¬ (ch = 1 ∨ ch = 2) := fun z => z hr
    by_cases h2 : 64 ≤ ac
    · have hB : ¬ depB ch ac tk am := fun z => by have := z.2.1; omega
      have e : depC P ch ac tk am = 5 := by unfold depC; rw [if_neg hrr, if_pos h2]
      unfold depS depA
      rw [if_neg hB, if_neg hB, e]
      rcases hr with rfl | rfl
      · exact m_pb1 w b P S h a n cap pt gs ac tk am h2
      · exact m_pb2 w b P S h a n cap pt gs ac tk am h2
    by_cases h3 : 4 ≤ tk
    · have hB : ¬ depB ch ac tk am := fun z => by have := z.2.2.1; omega
      have e : depC P ch ac tk am = 7 := by unfold depC; rw [if_neg hrr, if_neg h2, if_pos h3]
      unfold depS depA
      rw [if_neg hB, if_neg hB, e]
      rcases hr with rfl | rfl
      · exact m_pc1 w b P S h a n cap pt gs ac tk am (by omega) h3
      · exact m_pc2 w b P S h a n cap pt gs ac tk am (by omega) h3
    by_cases h4 : am = 0
    · have hB : ¬ depB ch ac tk am := fun z => z.2.2.2.1 h4
      have e : depC P ch ac tk am = 8 := by unfold depC; rw [if_neg hrr, if_neg h2, if_neg h3, if_pos h4]
      unfold depS depA
      rw [if_neg hB, if_neg hB, e]
      rcases hr with rfl | rfl
      · exact m_pd1 w b P S h a n cap pt gs ac tk am (by omega) (by omega) h4
      · exact m_pd2 w b P S h a n cap pt gs ac tk am (by omega) (by omega) h4
    by_cases h5 : 9223372036854775807 < am
    · have hB : ¬ depB ch ac tk am := fun z => by have := z.2.2.2.2; omega
      have e : depC P ch ac tk am = 9 := by unfold depC; rw [if_neg hrr, if_neg h2, if_neg h3, if_neg h4, if_pos h5]
      unfold depS depA
      rw [if_neg hB, if_neg hB, e]
      rcases hr with rfl | rfl
      · exact m_pe1 w b P S h a n cap pt gs ac tk am (by omega) (by omega) h4 h5
      · exact m_pe2 w b P S h a n cap pt gs ac tk am (by omega) (by omega) h4 h5
    · have hB : depB ch ac tk am := ⟨hr, by omega, by omega, h4, by omega⟩
      have e : depC P ch ac tk am = sndP P.b1 := by unfold depC; rw [if_neg hrr, if_neg h2, if_neg h3, if_neg h4, if_neg h5]
      unfold depS depA
      rw [if_pos hB, if_pos hB, e]
      rcases hr with rfl | rfl
      · exact m_pf1 w b P S h hl a n cap pt gs ac tk am hb2 hb3 hb4 (by omega) (by omega) h4 (by omega)
      · exact m_pf2 w b P S h hl a n cap pt gs ac tk am hb2 hb3 hb4 (by omega) (by omega) h4 (by omega)
  · have hB : ¬ depB ch ac tk am := fun z => hr z.1
    have e : depC P ch ac tk am = 39 := by unfold depC; rw [if_pos hr]
    unfold depS depA
    rw [if_neg hB, if_neg hB, e]
    exact m_pa w b P S h a n cap ch pt gs ac tk am hr
end Go.Proofs.Qxb6500784a
