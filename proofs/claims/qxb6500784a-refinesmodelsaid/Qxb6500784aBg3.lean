import Derived.Test.Qxb6500784aBg2
import Derived.Test.Qxb6500784aLeastW
namespace Go.Proofs.Qxb6500784a
open Go.RowKit

attribute [-simp] Try.isAgg56 Try.sizeOf56 Try.typeInfo56 Try.isAgg65 Try.sizeOf65 Try.typeInfo65 Try.isAgg63 Try.sizeOf63 Try.typeInfo63 Try.isAgg68 Try.sizeOf68 Try.typeInfo68 Try.isAgg89 Try.sizeOf89 Try.typeInfo89 Try.isAgg92 Try.sizeOf92 Try.typeInfo92 Try.isAgg95 Try.sizeOf95 Try.typeInfo95
attribute [local irreducible] rootP shaP
theorem sim_refuse {P : Pr} {n : Nat} {L : Nat → Leg} {T : Nat → List Int} {v : Value} (h : ordCode n L ≠ 0) : simR P n L T v = refR (ordCode n L) (-1) ∧ simS true P n L T = P := by
  refine ⟨by unfold simR; rw [if_pos h], ?_⟩
  unfold simS
  rw [if_neg]
  rintro ⟨_, h1, _⟩
  exact h h1
theorem sim_deepR {P : Pr} {n : Nat} {L : Nat → Leg} {T : Nat → List Int} {v : Value} (h : ordCode n L = 0) (hs : ¬ shallow P) : simR P n L T v = refR 34 (-1) ∧ simS true P n L T = P := by
  refine ⟨by unfold simR; rw [if_neg (by simp [h]), if_pos hs], ?_⟩
  unfold simS
  rw [if_neg]
  rintro ⟨_, _, h1, _⟩
  exact hs h1
set_option linter.unusedSimpArgs false in
set_option maxRecDepth 100000 in
set_option maxHeartbeats 16000000 in
theorem big_bad (w : World) (P : Pr) (G : List Value) (S : List Nat) (h : WF w P G S) (hsm : PSm P) (a : Option Addr) (n cap : Nat) (L : Nat → Leg) (T : Nat → List Int) (hn : n ≤ 9223372036854775807) (hL : LegsAt w a n L) (h1 : LegsOne n L) (hc : bCode n L ≠ 0) :
    Calls Try.prog 25 #[.agg G.toArray, .agg #[.slice a n cap]] w (BgPost w P n L T G S) := by
  have HL := hide hL
  have HL1 := hide h1
  have HWF := hide h
  have HSM := hide hsm
  obtain ⟨RR, hRR⟩ : ∃ RR, BgPost w P n L T G S = RR := ⟨_, rfl⟩
  rw [hRR]
  have HRR := hide hRR
  have HSR : Hid (simR P n L T nilS = refR (bCode n L) (-1) ∧ simS true P n L T = P) := by
    have e := ordCode_bad hc
    have := sim_refuse (P := P) (T := T) (v := nilS) (by rw [e]; exact hc)
    rw [e] at this
    exact this
  obtain ⟨cd, hcd⟩ : ∃ c, bCode n L = c := ⟨_, rfl⟩
  rw [hcd] at hc HSR
  have HB0 := hide hcd
  have d1 : (cd != 0) = true := by simp [hc]
  clear hcd hRR h hsm hL h1 hc
  obtain ⟨Z6, hZ6⟩ : ∃ Z, Try.zeroCells56.toList = Z := ⟨_, rfl⟩
  obtain ⟨Z5, hZ5⟩ : ∃ Z, Try.zeroCells65.toList = Z := ⟨_, rfl⟩
  have HZ6 : Hid (Z6.length = 667) := by rw [← hZ6]; show Try.zeroCells56.toList.length = 667; rw [Array.length_toList]; kernel_rfl
  have HZ5 : Hid (Z5.length = 70) := by rw [← hZ5]; show Try.zeroCells65.toList.length = 70; rw [Array.length_toList]; exact Try.zs65
  have eZ6 : Try.zeroCells56 = Z6.toArray := by rw [← hZ6]
  have eZ5 : Try.zeroCells65 = Z5.toArray := by rw [← hZ5]
  clear hZ6 hZ5
  have HGl : Hid (G.length = 667) := HWF.out.len
  have HG1 : Hid (∀ u ∈ G, u.oneCell' = true) := HWF.out.one
  go_enter Try.func25, Try.ntmps25
  go_upto_region 1 with fail
  (try rw [eZ6]); (try rw [eZ5])
  obtain ⟨w1, hw1⟩ : ∃ x, (((w.alloc (.cells G.toArray 56)).alloc (.cells #[.slice a n cap] 27)).alloc (.cells Z6.toArray 56)).alloc (.cells Z5.toArray 65) = x := ⟨_, rfl⟩
  have g4 := new4 w G (.slice a n cap) Z6 Z5 hw1
  rw [hw1]
  clear hw1 eZ6 eZ5
  obtain ⟨B0, hB0⟩ : ∃ D, w.heap.size = D := ⟨_, rfl⟩
  have HBs := hide hB0
  rw [hB0] at g4 ⊢
  have HW1 : Hid (Below w.heap.size w w1) := by rw [hB0]; exact g4.1
  have HS1 : Hid (w1.heap.size = B0 + 4) := g4.2.1
  have HX1 := hide g4.2.2
  have cl : w1.cell? ⟨B0 + 1, 0, none⟩ = some (.slice a n cap) := by have := (g4.2.2 (B0 + 1, [.slice a n cap]) (by simp)).2.2.1 0 _ rfl; simpa using this
  clear g4 hB0
  rw [show B0 + 1 + 1 + 1 = B0 + 3 from rfl, show B0 + 1 + 1 = B0 + 2 from rfl]
  go_upto_region 2 with (go_at_call 15; refine (malformed_any _ a n cap L hn (HL.out.below HW1.out) HL1.out).mono ?_; rintro e w2 ⟨rfl, hbe⟩; have HW2 := hide hbe; clear hbe; rw [HB0.out]; simp only [])
  obtain ⟨R, hR⟩ : ∃ F, (refR cd (-1)).vals nilS nilS nilS = F := ⟨_, rfl⟩
  have HRv := hide hR
  have HRl : Hid (R.length = 70) := by rw [← hR]; exact Rs.len (refR_ok _ _) _ _ _
  have HR1v : Hid (∀ u ∈ R, u.oneCell' = true) := by rw [← hR]; exact Rs.one _ rfl rfl rfl
  have HBU : Hid (Try.prog.built 65 [(0, .int .i64 cd), (1, .int .i64 (-1))] = some R.toArray) := by rw [← hR]; exact built_ref cd (-1)
  clear hR
  have HRG : Hid (w2.rangeAt B0 0 G) := range_below (HX1.out (B0, G) (by simp)).2.2.1 (by have := HS1.out; show B0 < _; omega) HW2.out
  have HT2 : Hid (w2.there (B0 + 2) 0 667) := by have := (HX1.out (B0 + 2, Z6) (by simp)).2.2.2; rw [show (B0 + 2, Z6).2.length = 667 from HZ6.out] at this; exact there_below this (by have := HS1.out; show B0 + 2 < _; omega) HW2.out
  have HT3 : Hid (w2.there (B0 + 3) 0 70) := by have := (HX1.out (B0 + 3, Z5) (by simp)).2.2.2; rw [show (B0 + 3, Z5).2.length = 70 from HZ5.out] at this; exact there_below this (by have := HS1.out; show B0 + 3 < _; omega) HW2.out
  have HL2 : Hid (B0 + 2 < w2.heap.size) := by have := HS1.out; have := HW2.out.size; show _ < _; omega
  go_upto_region 3 with fail
  refine wp_region_lit ?_
  refine wpL_load rfl 56 (.tmp 2) rfl B0 0 rfl G _ HRG.out Try.underlying56 rfl (by rw [HGl.out]; exact Try.sz56) ?_
  try simp only [Act.put, List.getElem_toArray, List.getElem_cons_zero, List.getElem_cons_succ, List.setIfInBounds_toArray, List.set_cons_zero, List.set_cons_succ]
  refine wpL_run rfl (.int .i64 cd) w2 rfl ?_
  try simp only [Act.put, List.getElem_toArray, List.getElem_cons_zero, List.getElem_cons_succ, List.setIfInBounds_toArray, List.set_cons_zero, List.set_cons_succ]
  refine wpL_build rfl 65 _ rfl R.toArray (by exact HBU.out) ?_
  try simp only [Act.put, List.getElem_toArray, List.getElem_cons_zero, List.getElem_cons_succ, List.setIfInBounds_toArray, List.set_cons_zero, List.set_cons_succ]
  refine wpL_store rfl 56 (.tmp 4) (.tmp 20) rfl (B0 + 2) 0 G rfl rfl (by rw [HGl.out]; exact HT2.out) (by rw [HGl.out]; exact Try.sz56) HG1.out ?_
  try simp only [Act.put, List.getElem_toArray, List.getElem_cons_zero, List.getElem_cons_succ, List.setIfInBounds_toArray, List.set_cons_zero, List.set_cons_succ]
  refine wpL_store rfl 65 (.tmp 5) (.tmp 22) rfl (B0 + 3) 0 R rfl rfl (by rw [HRl.out]; exact World.there_setCells HT3.out _ _ _) (by rw [HRl.out]; exact Try.sz65) HR1v.out ?_
  try simp only [Act.put, List.getElem_toArray, List.getElem_cons_zero, List.getElem_cons_succ, List.setIfInBounds_toArray, List.set_cons_zero, List.set_cons_succ]
  have HZA : Hid (((w2.setCells (B0 + 2) 0 G).setCells (B0 + 3) 0 R).rangeAt (B0 + 2) 0 G) := range_ex (World.rangeAt_setCells_same w2 (B0 + 2) 0 G (by rw [HGl.out]; exact HT2.out)) (Nat.lt_of_lt_of_le HL2.out (Ex.sets (S := fun k => k = B0 + 2) rfl G 0 w2 (Ex.refl _ _)).size) (Ex.sets (S := fun k => k = B0 + 3) rfl R 0 _ (Ex.refl _ _)) (show ¬ (B0 + 2 = B0 + 3) by omega)
  have HZB : Hid (((w2.setCells (B0 + 2) 0 G).setCells (B0 + 3) 0 R).rangeAt (B0 + 3) 0 R) := World.rangeAt_setCells_same _ (B0 + 3) 0 R (by rw [HRl.out]; exact World.there_setCells HT3.out _ _ _)
  have HEX : Hid (Ex (fun j => j = B0 + 2 ∨ j = B0 + 3) w2 ((w2.setCells (B0 + 2) 0 G).setCells (B0 + 3) 0 R)) := Ex.sets (S := fun j => j = B0 + 2 ∨ j = B0 + 3) (.inr rfl) R 0 _ (Ex.sets (S := fun j => j = B0 + 2 ∨ j = B0 + 3) (.inl rfl) G 0 _ (Ex.refl _ _))
  have HPO : Hid (RR (.returned (.tuple #[.agg G.toArray, .agg R.toArray])) ((w2.setCells (B0 + 2) 0 G).setCells (B0 + 3) 0 R)) := by
    rw [← HRR.out]
    exact big_refused (v := nilS) HWF.out (lec HW1.out HW2.out) HRv.out HEX.out (by have := HBs.out; omega) (by have := HBs.out; omega) HSR.out.1 HSR.out.2
  generalize (w2.setCells (B0 + 2) 0 G).setCells (B0 + 3) 0 R = wz at *
  repeat go_step
  exact bodyPost_ret (v := .tuple #[.agg G.toArray, .agg R.toArray]) (res_cell_cell Try.results25 rfl (run_loadVar_mid wz (B0 + 2) 0 56 G _ HZA.out Try.underlying56 rfl (by rw [HGl.out]; exact Try.sz56)) rfl (run_loadVar_mid wz (B0 + 3) 0 65 R _ HZB.out Try.underlying65 rfl (by rw [HRl.out]; exact Try.sz65))) rfl HPO.out
set_option linter.unusedSimpArgs false in
set_option maxRecDepth 100000 in
set_option maxHeartbeats 16000000 in
theorem big_cyc (w : World) (P : Pr) (G : List Value) (S : List Nat) (h : WF w P G S) (hsm : PSm P) (a : Option Addr) (n cap : Nat) (L : Nat → Leg) (T : Nat → List Int) (hn : n ≤ 9223372036854775807) (hL : LegsAt w a n L) (h1 : LegsOne n L) (hb0 : bCode n L = 0) (hc : ordCode n L ≠ 0) :
    Calls Try.prog 25 #[.agg G.toArray, .agg #[.slice a n cap]] w (BgPost w P n L T G S) := by
  have HL := hide hL
  have HL1 := hide h1
  have HWF := hide h
  have HSM := hide hsm
  obtain ⟨RR, hRR⟩ : ∃ RR, BgPost w P n L T G S = RR := ⟨_, rfl⟩
  rw [hRR]
  have HRR := hide hRR
  have hst : stuckP n (needM n L) ≠ 0 := fun e => hc (by unfold ordCode; rw [if_neg (by simp [hb0]), if_neg (by simp [e])])
  have HSR : Hid (simR P n L T nilS = refR 67 (-1) ∧ simS true P n L T = P) := by
    have := sim_refuse (P := P) (T := T) (v := nilS) hc
    rw [ordCode_cyc hb0 hst] at this
    exact this
  have HLE : Hid (∀ (W : World), LegsAt W a n L → Calls Try.prog 16 #[.agg #[.slice a n cap]] W fun e w' => (∃ v, e = .returned (.tuple #[v, .bool false])) ∧ Below W.heap.size W w') := fun W hW => by
    refine (least_any W a n cap L (bCode_zero hb0).2 hW).mono ?_
    rintro e y ⟨hb, ⟨r, ao, cp, hr, _⟩ | ⟨_, hv⟩⟩
    · rw [least_none hb0 hst] at hr; cases hr
    · exact ⟨hv, hb⟩
  have HB0 := hide hb0
  clear hb0 hRR h hsm hL h1 hc hst
  obtain ⟨Z6, hZ6⟩ : ∃ Z, Try.zeroCells56.toList = Z := ⟨_, rfl⟩
  obtain ⟨Z5, hZ5⟩ : ∃ Z, Try.zeroCells65.toList = Z := ⟨_, rfl⟩
  have HZ6 : Hid (Z6.length = 667) := by rw [← hZ6]; show Try.zeroCells56.toList.length = 667; rw [Array.length_toList]; kernel_rfl
  have HZ5 : Hid (Z5.length = 70) := by rw [← hZ5]; show Try.zeroCells65.toList.length = 70; rw [Array.length_toList]; exact Try.zs65
  have eZ6 : Try.zeroCells56 = Z6.toArray := by rw [← hZ6]
  have eZ5 : Try.zeroCells65 = Z5.toArray := by rw [← hZ5]
  clear hZ6 hZ5
  have HGl : Hid (G.length = 667) := HWF.out.len
  have HG1 : Hid (∀ u ∈ G, u.oneCell' = true) := HWF.out.one
  go_enter Try.func25, Try.ntmps25
  go_upto_region 1 with fail
  (try rw [eZ6]); (try rw [eZ5])
  obtain ⟨w1, hw1⟩ : ∃ x, (((w.alloc (.cells G.toArray 56)).alloc (.cells #[.slice a n cap] 27)).alloc (.cells Z6.toArray 56)).alloc (.cells Z5.toArray 65) = x := ⟨_, rfl⟩
  have g4 := new4 w G (.slice a n cap) Z6 Z5 hw1
  rw [hw1]
  clear hw1 eZ6 eZ5
  obtain ⟨B0, hB0⟩ : ∃ D, w.heap.size = D := ⟨_, rfl⟩
  have HBs := hide hB0
  rw [hB0] at g4 ⊢
  have HW1 : Hid (Below w.heap.size w w1) := by rw [hB0]; exact g4.1
  have HS1 : Hid (w1.heap.size = B0 + 4) := g4.2.1
  have HX1 := hide g4.2.2
  have cl : w1.cell? ⟨B0 + 1, 0, none⟩ = some (.slice a n cap) := by have := (g4.2.2 (B0 + 1, [.slice a n cap]) (by simp)).2.2.1 0 _ rfl; simpa using this
  clear g4 hB0
  rw [show B0 + 1 + 1 + 1 = B0 + 3 from rfl, show B0 + 1 + 1 = B0 + 2 from rfl]
  go_upto_region 2 with (go_at_call 15; refine (malformed_any _ a n cap L hn (HL.out.below HW1.out) HL1.out).mono ?_; rintro e w2 ⟨rfl, hbe⟩; have HW2 := hide hbe; clear hbe; rw [HB0.out]; simp only [])
  have cl2 := cellKeep HW2.out cl
  go_upto_region 4 with fail
  go_upto_region 5 with (go_at_call 16; refine (HLE.out _ (HL.out.below (lec HW1.out HW2.out))).mono ?_; rintro e w3 ⟨⟨v, rfl⟩, hbe⟩; have HW3 := hide hbe; clear hbe; simp only [])
  have HW13 : Hid (Below w1.heap.size w1 w3) := lec HW2.out HW3.out
  obtain ⟨R, hR⟩ : ∃ F, (refR 67 (-1)).vals nilS nilS nilS = F := ⟨_, rfl⟩
  have HRv := hide hR
  have HRl : Hid (R.length = 70) := by rw [← hR]; exact Rs.len (refR_ok _ _) _ _ _
  have HR1v : Hid (∀ u ∈ R, u.oneCell' = true) := by rw [← hR]; exact Rs.one _ rfl rfl rfl
  have HBU : Hid (Try.prog.built 65 [(0, .int .i64 67), (1, .int .i64 (-1))] = some R.toArray) := by rw [← hR]; exact built_ref 67 (-1)
  clear hR
  have HRG : Hid (w3.rangeAt B0 0 G) := range_below (HX1.out (B0, G) (by simp)).2.2.1 (by have := HS1.out; show B0 < _; omega) HW13.out
  have HT2 : Hid (w3.there (B0 + 2) 0 667) := by have := (HX1.out (B0 + 2, Z6) (by simp)).2.2.2; rw [show (B0 + 2, Z6).2.length = 667 from HZ6.out] at this; exact there_below this (by have := HS1.out; show B0 + 2 < _; omega) HW13.out
  have HT3 : Hid (w3.there (B0 + 3) 0 70) := by have := (HX1.out (B0 + 3, Z5) (by simp)).2.2.2; rw [show (B0 + 3, Z5).2.length = 70 from HZ5.out] at this; exact there_below this (by have := HS1.out; show B0 + 3 < _; omega) HW13.out
  have HL2 : Hid (B0 + 2 < w3.heap.size) := by have := HS1.out; have := HW13.out.size; show _ < _; omega
  go_upto_region 6 with fail
  refine wp_region_lit ?_
  refine wpL_load rfl 56 (.tmp 2) rfl B0 0 rfl G _ HRG.out Try.underlying56 rfl (by rw [HGl.out]; exact Try.sz56) ?_
  try simp only [Act.put, List.getElem_toArray, List.getElem_cons_zero, List.getElem_cons_succ, List.setIfInBounds_toArray, List.set_cons_zero, List.set_cons_succ]
  refine wpL_build rfl 65 _ rfl R.toArray (by exact HBU.out) ?_
  try simp only [Act.put, List.getElem_toArray, List.getElem_cons_zero, List.getElem_cons_succ, List.setIfInBounds_toArray, List.set_cons_zero, List.set_cons_succ]
  refine wpL_store rfl 56 (.tmp 4) (.tmp 30) rfl (B0 + 2) 0 G rfl rfl (by rw [HGl.out]; exact HT2.out) (by rw [HGl.out]; exact Try.sz56) HG1.out ?_
  try simp only [Act.put, List.getElem_toArray, List.getElem_cons_zero, List.getElem_cons_succ, List.setIfInBounds_toArray, List.set_cons_zero, List.set_cons_succ]
  refine wpL_store rfl 65 (.tmp 5) (.tmp 31) rfl (B0 + 3) 0 R rfl rfl (by rw [HRl.out]; exact World.there_setCells HT3.out _ _ _) (by rw [HRl.out]; exact Try.sz65) HR1v.out ?_
  try simp only [Act.put, List.getElem_toArray, List.getElem_cons_zero, List.getElem_cons_succ, List.setIfInBounds_toArray, List.set_cons_zero, List.set_cons_succ]
  have HZA : Hid (((w3.setCells (B0 + 2) 0 G).setCells (B0 + 3) 0 R).rangeAt (B0 + 2) 0 G) := range_ex (World.rangeAt_setCells_same w3 (B0 + 2) 0 G (by rw [HGl.out]; exact HT2.out)) (Nat.lt_of_lt_of_le HL2.out (Ex.sets (S := fun k => k = B0 + 2) rfl G 0 w3 (Ex.refl _ _)).size) (Ex.sets (S := fun k => k = B0 + 3) rfl R 0 _ (Ex.refl _ _)) (show ¬ (B0 + 2 = B0 + 3) by omega)
  have HZB : Hid (((w3.setCells (B0 + 2) 0 G).setCells (B0 + 3) 0 R).rangeAt (B0 + 3) 0 R) := World.rangeAt_setCells_same _ (B0 + 3) 0 R (by rw [HRl.out]; exact World.there_setCells HT3.out _ _ _)
  have HEX : Hid (Ex (fun j => j = B0 + 2 ∨ j = B0 + 3) w3 ((w3.setCells (B0 + 2) 0 G).setCells (B0 + 3) 0 R)) := Ex.sets (S := fun j => j = B0 + 2 ∨ j = B0 + 3) (.inr rfl) R 0 _ (Ex.sets (S := fun j => j = B0 + 2 ∨ j = B0 + 3) (.inl rfl) G 0 _ (Ex.refl _ _))
  have HPO : Hid (RR (.returned (.tuple #[.agg G.toArray, .agg R.toArray])) ((w3.setCells (B0 + 2) 0 G).setCells (B0 + 3) 0 R)) := by
    rw [← HRR.out]
    exact big_refused (v := nilS) HWF.out (lec HW1.out HW13.out) HRv.out HEX.out (by have := HBs.out; omega) (by have := HBs.out; omega) HSR.out.1 HSR.out.2
  generalize (w3.setCells (B0 + 2) 0 G).setCells (B0 + 3) 0 R = wz at *
  repeat go_step
  exact bodyPost_ret (v := .tuple #[.agg G.toArray, .agg R.toArray]) (res_cell_cell Try.results25 rfl (run_loadVar_mid wz (B0 + 2) 0 56 G _ HZA.out Try.underlying56 rfl (by rw [HGl.out]; exact Try.sz56)) rfl (run_loadVar_mid wz (B0 + 3) 0 65 R _ HZB.out Try.underlying65 rfl (by rw [HRl.out]; exact Try.sz65))) rfl HPO.out
set_option linter.unusedSimpArgs false in
set_option maxRecDepth 100000 in
set_option maxHeartbeats 16000000 in
theorem big_deep (w : World) (P : Pr) (G : List Value) (S : List Nat) (h : WF w P G S) (hsm : PSm P) (a : Option Addr) (n cap : Nat) (L : Nat → Leg) (T : Nat → List Int) (hn : n ≤ 9223372036854775807) (hL : LegsAt w a n L) (h1 : LegsOne n L) (hc : ordCode n L = 0) (hsh : ¬ shallow P) :
    Calls Try.prog 25 #[.agg G.toArray, .agg #[.slice a n cap]] w (BgPost w P n L T G S) := by
  have HL := hide hL
  have HL1 := hide h1
  have HWF := hide h
  have HSM := hide hsm
  obtain ⟨RR, hRR⟩ : ∃ RR, BgPost w P n L T G S = RR := ⟨_, rfl⟩
  rw [hRR]
  have HRR := hide hRR
  have HSR : Hid (simR P n L T nilS = refR 34 (-1) ∧ simS true P n L T = P) := sim_deepR hc hsh
  have HLE : Hid (∀ (W : World), LegsAt W a n L → Calls Try.prog 16 #[.agg #[.slice a n cap]] W fun e w' => (∃ v, e = .returned (.tuple #[v, .bool true])) ∧ Below W.heap.size W w') := fun W hW => by
    refine (least_run W a n cap L hW hc).mono ?_
    rintro e y ⟨g, vc, rfl, hb, _⟩
    exact ⟨⟨_, rfl⟩, hb⟩
  have HB0 := hide (ord_least hc).1
  have HSH := hide hsh
  clear hsh hRR h hsm hL h1 hc
  obtain ⟨Z6, hZ6⟩ : ∃ Z, Try.zeroCells56.toList = Z := ⟨_, rfl⟩
  obtain ⟨Z5, hZ5⟩ : ∃ Z, Try.zeroCells65.toList = Z := ⟨_, rfl⟩
  have HZ6 : Hid (Z6.length = 667) := by rw [← hZ6]; show Try.zeroCells56.toList.length = 667; rw [Array.length_toList]; kernel_rfl
  have HZ5 : Hid (Z5.length = 70) := by rw [← hZ5]; show Try.zeroCells65.toList.length = 70; rw [Array.length_toList]; exact Try.zs65
  have eZ6 : Try.zeroCells56 = Z6.toArray := by rw [← hZ6]
  have eZ5 : Try.zeroCells65 = Z5.toArray := by rw [← hZ5]
  clear hZ6 hZ5
  have HGl : Hid (G.length = 667) := HWF.out.len
  have HG1 : Hid (∀ u ∈ G, u.oneCell' = true) := HWF.out.one
  go_enter Try.func25, Try.ntmps25
  go_upto_region 1 with fail
  (try rw [eZ6]); (try rw [eZ5])
  obtain ⟨w1, hw1⟩ : ∃ x, (((w.alloc (.cells G.toArray 56)).alloc (.cells #[.slice a n cap] 27)).alloc (.cells Z6.toArray 56)).alloc (.cells Z5.toArray 65) = x := ⟨_, rfl⟩
  have g4 := new4 w G (.slice a n cap) Z6 Z5 hw1
  rw [hw1]
  clear hw1 eZ6 eZ5
  obtain ⟨B0, hB0⟩ : ∃ D, w.heap.size = D := ⟨_, rfl⟩
  have HBs := hide hB0
  rw [hB0] at g4 ⊢
  have HW1 : Hid (Below w.heap.size w w1) := by rw [hB0]; exact g4.1
  have HS1 : Hid (w1.heap.size = B0 + 4) := g4.2.1
  have HX1 := hide g4.2.2
  have cl : w1.cell? ⟨B0 + 1, 0, none⟩ = some (.slice a n cap) := by have := (g4.2.2 (B0 + 1, [.slice a n cap]) (by simp)).2.2.1 0 _ rfl; simpa using this
  clear g4 hB0
  rw [show B0 + 1 + 1 + 1 = B0 + 3 from rfl, show B0 + 1 + 1 = B0 + 2 from rfl]
  go_upto_region 2 with (go_at_call 15; refine (malformed_any _ a n cap L hn (HL.out.below HW1.out) HL1.out).mono ?_; rintro e w2 ⟨rfl, hbe⟩; have HW2 := hide hbe; clear hbe; rw [HB0.out]; simp only [])
  have cl2 := cellKeep HW2.out cl
  go_upto_region 4 with fail
  go_upto_region 5 with (go_at_call 16; refine (HLE.out _ (HL.out.below (lec HW1.out HW2.out))).mono ?_; rintro e w3 ⟨⟨v, rfl⟩, hbe⟩; have HW3 := hide hbe; clear hbe; simp only [])
  have HW13 : Hid (Below w1.heap.size w1 w3) := lec HW2.out HW3.out
  have HRP : Hid (w3.rangeAt B0 0 G ∧ w3.there B0 0 667) := by
    have q := HX1.out (B0, G) (by simp)
    have q4 := q.2.2.2
    rw [show (B0, G).2.length = 667 from HGl.out] at q4
    exact ⟨range_below q.2.2.1 (by have := HS1.out; show B0 < _; omega) HW13.out, there_below q4 (by have := HS1.out; show B0 < _; omega) HW13.out⟩
  have HPP : Hid (PP w3 B0 P S) := (HWF.out.below (lec HW1.out HW13.out)).pp HRP.out.1 HRP.out.2 (by have := HS1.out; have := HW13.out.size; omega) (fun e => by have := HWF.out.lt e; have := HBs.out; omega)
  obtain ⟨e1, he1⟩ : ∃ e : Int, (P.sa.length : Int) = e := ⟨_, rfl⟩
  obtain ⟨e2, he2⟩ : ∃ e : Int, (P.sb.length : Int) = e := ⟨_, rfl⟩
  obtain ⟨e3, he3⟩ : ∃ e : Int, (P.ta.length : Int) = e := ⟨_, rfl⟩
  obtain ⟨e4, he4⟩ : ∃ e : Int, (P.tb.length : Int) = e := ⟨_, rfl⟩
  obtain ⟨FA, hFA⟩ : ∃ FA : Nat → Int, (fun o => if o = 0 then e1 else e2) = FA := ⟨_, rfl⟩
  obtain ⟨FB, hFB⟩ : ∃ FB : Nat → Int, (fun o => if o = 652 then e3 else e4) = FB := ⟨_, rfl⟩
  have HDL : ∀ o, (o = 0 ∨ o = 326) → Calls Try.prog 50 #[.pointer (some ⟨B0, o, none⟩)] w3 fun e w' => e = .returned (.int .i64 (FA o)) ∧ w3 = w' := fun o ho => by
    rcases ho with rfl | rfl
    · obtain ⟨B, hB, -⟩ := HPP.out.onA
      exact (depthL_any w3 B0 0 _ _ _ hB).mono fun e w' he => ⟨by rw [← hFA, he.1, he1]; rfl, he.2.symm⟩
    · obtain ⟨B, hB, -⟩ := HPP.out.onB
      exact (depthL_any w3 B0 326 _ _ _ hB).mono fun e w' he => ⟨by rw [← hFA, he.1, he2]; rfl, he.2.symm⟩
  have HDB : ∀ o, (o = 652 ∨ o = 657) → Calls Try.prog 51 #[.pointer (some ⟨B0, o, none⟩)] w3 fun e w' => e = .returned (.int .i64 (FB o)) ∧ w3 = w' := fun o ho => by
    rcases ho with rfl | rfl
    · obtain ⟨B, hB, -⟩ := HPP.out.onC
      exact (depthB_any w3 B0 652 _ _ _ hB).mono fun e w' he => ⟨by rw [← hFB, he.1, he3]; rfl, he.2.symm⟩
    · obtain ⟨B, hB, -⟩ := HPP.out.onD
      exact (depthB_any w3 B0 657 _ _ _ hB).mono fun e w' he => ⟨by rw [← hFB, he.1, he4]; rfl, he.2.symm⟩
  have HEE : Hid (8 ≤ FA 0 ∨ 8 ≤ FA 326 ∨ 8 ≤ FB 652 ∨ 8 ≤ FB 657) := by
    rw [← hFA, ← hFB]
    show 8 ≤ e1 ∨ 8 ≤ e2 ∨ 8 ≤ e3 ∨ 8 ≤ e4
    have := HSH.out
    unfold shallow at this
    omega
  clear hFA hFB he1 he2 he3 he4
  obtain ⟨f1, hf1⟩ : ∃ f, FA 0 = f := ⟨_, rfl⟩
  obtain ⟨f2, hf2⟩ : ∃ f, FA 326 = f := ⟨_, rfl⟩
  obtain ⟨f3, hf3⟩ : ∃ f, FB 652 = f := ⟨_, rfl⟩
  obtain ⟨f4, hf4⟩ : ∃ f, FB 657 = f := ⟨_, rfl⟩
  rw [hf1, hf2, hf3, hf4] at HEE
  go_upto_region 7 with fail
  go_cut [49] (fun s49 wx => s49 = .bool true ∧ w3 = wx)
  case first =>
    by_cases g1 : 8 ≤ f1
    · have q1 : decide (8 ≤ f1) = true := by simpa using g1
      clear HEE
      go_wp2_with (first | (go_at_call 50; refine (HDL _ (by simp)).mono ?_; rintro e wq ⟨rfl, rfl⟩; (try rw [hf1]); (try rw [hf2]); simp only []) | (go_at_call 51; refine (HDB _ (by simp)).mono ?_; rintro e wq ⟨rfl, rfl⟩; (try rw [hf3]); (try rw [hf4]); simp only []))
      go_meet
      exact ⟨rfl, rfl⟩
    · have q1 : decide (8 ≤ f1) = false := by simpa using g1
      by_cases g2 : 8 ≤ f2
      · have q2 : decide (8 ≤ f2) = true := by simpa using g2
        clear HEE
        go_wp2_with (first | (go_at_call 50; refine (HDL _ (by simp)).mono ?_; rintro e wq ⟨rfl, rfl⟩; (try rw [hf1]); (try rw [hf2]); simp only []) | (go_at_call 51; refine (HDB _ (by simp)).mono ?_; rintro e wq ⟨rfl, rfl⟩; (try rw [hf3]); (try rw [hf4]); simp only []))
        go_meet
        exact ⟨rfl, rfl⟩
      · have q2 : decide (8 ≤ f2) = false := by simpa using g2
        by_cases g3 : 8 ≤ f3
        · have q3 : decide (8 ≤ f3) = true := by simpa using g3
          clear HEE
          go_wp2_with (first | (go_at_call 50; refine (HDL _ (by simp)).mono ?_; rintro e wq ⟨rfl, rfl⟩; (try rw [hf1]); (try rw [hf2]); simp only []) | (go_at_call 51; refine (HDB _ (by simp)).mono ?_; rintro e wq ⟨rfl, rfl⟩; (try rw [hf3]); (try rw [hf4]); simp only []))
          go_meet
          exact ⟨rfl, rfl⟩
        · have q3 : decide (8 ≤ f3) = false := by simpa using g3
          by_cases g4 : 8 ≤ f4
          · have q4 : decide (8 ≤ f4) = true := by simpa using g4
            clear HEE
            go_wp2_with (first | (go_at_call 50; refine (HDL _ (by simp)).mono ?_; rintro e wq ⟨rfl, rfl⟩; (try rw [hf1]); (try rw [hf2]); simp only []) | (go_at_call 51; refine (HDB _ (by simp)).mono ?_; rintro e wq ⟨rfl, rfl⟩; (try rw [hf3]); (try rw [hf4]); simp only []))
            go_meet
            exact ⟨rfl, rfl⟩
          · have q4 : decide (8 ≤ f4) = false := by simpa using g4
            exact absurd HEE.out (by omega)
  obtain ⟨rfl, rfl⟩ := hcut
  clear HDL HDB HEE hf1 hf2 hf3 hf4
  obtain ⟨R, hR⟩ : ∃ F, (refR 34 (-1)).vals nilS nilS nilS = F := ⟨_, rfl⟩
  have HRv := hide hR
  have HRl : Hid (R.length = 70) := by rw [← hR]; exact Rs.len (refR_ok _ _) _ _ _
  have HR1v : Hid (∀ u ∈ R, u.oneCell' = true) := by rw [← hR]; exact Rs.one _ rfl rfl rfl
  have HBU : Hid (Try.prog.built 65 [(0, .int .i64 34), (1, .int .i64 (-1))] = some R.toArray) := by rw [← hR]; exact built_ref 34 (-1)
  clear hR
  have HRG : Hid (w3.rangeAt B0 0 G) := range_below (HX1.out (B0, G) (by simp)).2.2.1 (by have := HS1.out; show B0 < _; omega) HW13.out
  have HT2 : Hid (w3.there (B0 + 2) 0 667) := by have := (HX1.out (B0 + 2, Z6) (by simp)).2.2.2; rw [show (B0 + 2, Z6).2.length = 667 from HZ6.out] at this; exact there_below this (by have := HS1.out; show B0 + 2 < _; omega) HW13.out
  have HT3 : Hid (w3.there (B0 + 3) 0 70) := by have := (HX1.out (B0 + 3, Z5) (by simp)).2.2.2; rw [show (B0 + 3, Z5).2.length = 70 from HZ5.out] at this; exact there_below this (by have := HS1.out; show B0 + 3 < _; omega) HW13.out
  have HL2 : Hid (B0 + 2 < w3.heap.size) := by have := HS1.out; have := HW13.out.size; show _ < _; omega
  go_upto_region 8 with fail
  refine wp_region_lit ?_
  refine wpL_load rfl 56 (.tmp 2) rfl B0 0 rfl G _ HRG.out Try.underlying56 rfl (by rw [HGl.out]; exact Try.sz56) ?_
  try simp only [Act.put, List.getElem_toArray, List.getElem_cons_zero, List.getElem_cons_succ, List.setIfInBounds_toArray, List.set_cons_zero, List.set_cons_succ]
  refine wpL_build rfl 65 _ rfl R.toArray (by exact HBU.out) ?_
  try simp only [Act.put, List.getElem_toArray, List.getElem_cons_zero, List.getElem_cons_succ, List.setIfInBounds_toArray, List.set_cons_zero, List.set_cons_succ]
  refine wpL_store rfl 56 (.tmp 4) (.tmp 50) rfl (B0 + 2) 0 G rfl rfl (by rw [HGl.out]; exact HT2.out) (by rw [HGl.out]; exact Try.sz56) HG1.out ?_
  try simp only [Act.put, List.getElem_toArray, List.getElem_cons_zero, List.getElem_cons_succ, List.setIfInBounds_toArray, List.set_cons_zero, List.set_cons_succ]
  refine wpL_store rfl 65 (.tmp 5) (.tmp 51) rfl (B0 + 3) 0 R rfl rfl (by rw [HRl.out]; exact World.there_setCells HT3.out _ _ _) (by rw [HRl.out]; exact Try.sz65) HR1v.out ?_
  try simp only [Act.put, List.getElem_toArray, List.getElem_cons_zero, List.getElem_cons_succ, List.setIfInBounds_toArray, List.set_cons_zero, List.set_cons_succ]
  have HZA : Hid (((w3.setCells (B0 + 2) 0 G).setCells (B0 + 3) 0 R).rangeAt (B0 + 2) 0 G) := range_ex (World.rangeAt_setCells_same w3 (B0 + 2) 0 G (by rw [HGl.out]; exact HT2.out)) (Nat.lt_of_lt_of_le HL2.out (Ex.sets (S := fun k => k = B0 + 2) rfl G 0 w3 (Ex.refl _ _)).size) (Ex.sets (S := fun k => k = B0 + 3) rfl R 0 _ (Ex.refl _ _)) (show ¬ (B0 + 2 = B0 + 3) by omega)
  have HZB : Hid (((w3.setCells (B0 + 2) 0 G).setCells (B0 + 3) 0 R).rangeAt (B0 + 3) 0 R) := World.rangeAt_setCells_same _ (B0 + 3) 0 R (by rw [HRl.out]; exact World.there_setCells HT3.out _ _ _)
  have HEX : Hid (Ex (fun j => j = B0 + 2 ∨ j = B0 + 3) w3 ((w3.setCells (B0 + 2) 0 G).setCells (B0 + 3) 0 R)) := Ex.sets (S := fun j => j = B0 + 2 ∨ j = B0 + 3) (.inr rfl) R 0 _ (Ex.sets (S := fun j => j = B0 + 2 ∨ j = B0 + 3) (.inl rfl) G 0 _ (Ex.refl _ _))
  have HPO : Hid (RR (.returned (.tuple #[.agg G.toArray, .agg R.toArray])) ((w3.setCells (B0 + 2) 0 G).setCells (B0 + 3) 0 R)) := by
    rw [← HRR.out]
    exact big_refused (v := nilS) HWF.out (lec HW1.out HW13.out) HRv.out HEX.out (by have := HBs.out; omega) (by have := HBs.out; omega) HSR.out.1 HSR.out.2
  generalize (w3.setCells (B0 + 2) 0 G).setCells (B0 + 3) 0 R = wz at *
  repeat go_step
  exact bodyPost_ret (v := .tuple #[.agg G.toArray, .agg R.toArray]) (res_cell_cell Try.results25 rfl (run_loadVar_mid wz (B0 + 2) 0 56 G _ HZA.out Try.underlying56 rfl (by rw [HGl.out]; exact Try.sz56)) rfl (run_loadVar_mid wz (B0 + 3) 0 65 R _ HZB.out Try.underlying65 rfl (by rw [HRl.out]; exact Try.sz65))) rfl HPO.out
/-- bundlem.BigStep -/
theorem big_any (w : World) (P : Pr) (G : List Value) (S : List Nat) (h : WF w P G S) (hsm : PSm P) (a : Option Addr) (n cap : Nat) (L : Nat → Leg) (T : Nat → List Int) (hn : n ≤ 9223372036854775807) (hL : LegsAt w a n L) (h1 : LegsOne n L) (hV : ordCode n L = 0 → ∀ i, i < n → LegV (legL (L i)) (L i).ch (T i)) (z : Nat) (hz : Bnd z P) (hzl : z ≤ 800000000000) :
    Calls Try.prog 25 #[.agg G.toArray, .agg #[.slice a n cap]] w (BgPost w P n L T G S) := by
  by_cases hb : bCode n L = 0
  · by_cases hc : ordCode n L = 0
    · by_cases hs : shallow P
      · exact big_run w P G S h hsm a n cap L T hn hL h1 (hV hc) hc hs z hz hzl
      · exact big_deep w P G S h hsm a n cap L T hn hL h1 hc hs
    · exact big_cyc w P G S h hsm a n cap L T hn hL h1 hb hc
  · exact big_bad w P G S h hsm a n cap L T hn hL h1 hb
end Go.Proofs.Qxb6500784a
