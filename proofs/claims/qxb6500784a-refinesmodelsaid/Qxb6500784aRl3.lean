import Derived.Test.Qxb6500784aRl0
namespace Go.Proofs.Qxb6500784a
open Go.RowKit

attribute [-simp] Try.isAgg68 Try.sizeOf68 Try.typeInfo68 Try.isAgg92 Try.sizeOf92 Try.typeInfo92 Try.isAgg89 Try.sizeOf89 Try.typeInfo89 Try.isAgg95 Try.sizeOf95 Try.typeInfo95 Try.isAgg65 Try.sizeOf65 Try.typeInfo65
set_option linter.unusedSimpArgs false in
set_option maxRecDepth 100000 in
set_option maxHeartbeats 8000000 in
theorem runLeg_b (w : World) (b d : Nat) (P : Pr) (S : List Nat) (r : Rs) (C : List Nat) (h : RW w b P S d r C) (c : Int) (t : List Int) (Lv : List Value) (hv : LegV Lv c t) (hsz : Sz P r) (hc : refP (P.led c) t = 0) (hk : fld t 0 = 3 ∨ fld t 0 = 5) (hn : conP (P.box c) (P.box (fld t 43)) (txMsg t) ≠ 0) :
    Calls Try.prog 86 #[.pointer (some ⟨b, 0, none⟩), .agg Lv.toArray, .pointer (some ⟨d, 0, none⟩)] w (LegPost w b d S C P c t r) := by
  have HAR : Hid (appR (P.led c) t = { rcp0 with gas := gasP t, fee := fld t 4, ht := true, took := txMsg t }) := by show _ = _; rw [appR, if_neg (by simp [hc]), if_neg (by omega), if_neg (by omega), if_neg (by omega)]
  obtain ⟨K, hK⟩ : ∃ k, conP (P.box c) (P.box (fld t 43)) (txMsg t) = k := ⟨_, rfl⟩
  have HKC := hide hK
  have HCZ : Hid (legC P c t = K) := by show _ = _; rw [legC, if_neg (by simp [hc]), if_pos hk, hK]
  have HPS : Hid (legS P c t = (P.setL c (appL (P.led c) t) (P.sled c)).setB c (conB (P.box c) (P.box (fld t 43)) (txMsg t)) (P.sbox c)) := by show _ = _; rw [legS, if_neg (by simp [hc]), if_pos hk]
  have HLR : Hid (legR P c t r = { r with rcs := r.rcs ++ [appR (P.led c) t], gas := w64 (r.gas + gasP t) }) := by show _ = _; rw [legR, if_neg (by omega)]
  have HK0 : Hid (K ≠ 0) := by rw [← hK]; exact hn
  clear hc hk hK hn
  have HRW := hide h
  have HLV := hide hv
  have HSZ := hide hsz
  clear h hv hsz
  obtain ⟨R, hR⟩ : ∃ R, LegPost w b d S C P c t r = R := ⟨_, rfl⟩
  rw [hR]
  have HR := hide hR
  clear hR
  have HLl : Hid (Lv.length = 86) := HLV.out.l
  go_enter Try.func86, Try.ntmps86
  go_upto_region 1 with fail
  obtain ⟨A, hA⟩ : ∃ A, w.heap.size = A := ⟨_, rfl⟩
  have HLc : Hid (LW w b d S C (w.alloc (.cells Lv.toArray 95)) P S r C [(A, Lv)]) := by rw [← hA]; exact (LW.refl HRW.out).alloc Lv 95
  have HAw := hide hA
  rw [hA]
  generalize w.alloc (.cells Lv.toArray 95) = w1 at *
  clear hA
  obtain ⟨V, hV⟩ : ∃ V, kvs txk t = V := ⟨_, rfl⟩
  have HV := hide hV
  have HVl : Hid (V.length = 83) := by rw [← hV, kvs_len]; exact HLV.out.k.l
  obtain ⟨F, hF⟩ : ∃ F, Rcp.vals (appR (P.led c) t) = F := ⟨_, rfl⟩
  have HF := hide hF
  have HLO : Hid ((P.led c).Ok) := by obtain ⟨Bq, hBq, _⟩ := HRW.out.pp.onL c; exact hBq.ok
  have HRO : Hid ((appR (P.led c) t).Ok) := appR_ok HLO.out HLV.out.k
  have HFl : Hid (F.length = 87) := by rw [← hF]; exact Rcp.len HRO.out
  have HF1 : Hid (∀ u ∈ F, u.oneCell' = true) := by rw [← hF]; exact Rcp.one _
  clear hV hF
  go_cut [7] (fun s7 wx => ∃ D S', s7 = .pointer (some ⟨D, 0, none⟩) ∧ w.heap.size ≤ D ∧ D ≠ A ∧ LW w b d S C wx (P.setL c (appL (P.led c) t) (P.sled c)) S' r C [(D, F), (A, Lv)])
  case first =>
    have hz92 := Try.sizeOf92
    have hHd := legHeld (HLc.out.lo (A, Lv) (by simp)) HLV.out HV.out
    refine wp_region_held_drew (S := fun w' => w'.cell? ⟨A, 1, none⟩ = some (.int .u8 c) ∧ w'.rangeAt A 2 V) (by kernel_rfl) hHd (fun hHeld => ?_)
    replace HLc := hide (HLc.out.below ((Below.refl w1.heap.size w1).drew))
    generalize w1.drew = w2 at *
    refine wpAnyH_take (i := 0) (v := ?_) rfl (by kernel_rfl) (by kernel_rfl) (by kernel_rfl) (fun _ _ _ h => h) (Or.inl ⟨by rfl, ?_⟩) (by assumption) ?_
    rotate_left
    · (intro w hSw; (try dsimp only at hSw); go_simp; try (with_reducible rfl))
    try simp only [Act.put, List.getElem_toArray, List.getElem_cons_zero, List.getElem_cons_succ, List.setIfInBounds_toArray, List.set_cons_zero, List.set_cons_succ]
    refine wpAnyH_take (i := 1) (v := ?_) rfl (by kernel_rfl) (by kernel_rfl) (by kernel_rfl) (fun _ _ _ h => h) (Or.inl ⟨by rfl, ?_⟩) (by assumption) ?_
    rotate_left
    · (intro w hSw; (try dsimp only at hSw); go_simp; try (with_reducible rfl))
    try simp only [Act.put, List.getElem_toArray, List.getElem_cons_zero, List.getElem_cons_succ, List.setIfInBounds_toArray, List.set_cons_zero, List.set_cons_succ]
    refine wpAnyH_take (i := 2) (v := ?_) rfl (by kernel_rfl) (by kernel_rfl) (by kernel_rfl) (fun _ _ _ h => h) (Or.inl ⟨by rfl, ?_⟩) (by assumption) ?_
    rotate_left
    · (intro w hSw; (try dsimp only at hSw); go_simp; try (with_reducible rfl))
    try simp only [Act.put, List.getElem_toArray, List.getElem_cons_zero, List.getElem_cons_succ, List.setIfInBounds_toArray, List.set_cons_zero, List.set_cons_succ]
    refine wpAnyH_take (i := 4) (v := ?_) rfl (by kernel_rfl) (by kernel_rfl) (by kernel_rfl) (fun _ _ _ h => h) (Or.inl ⟨by rfl, ?_⟩) (by assumption) ?_
    rotate_left
    · (intro w hSw; (try dsimp only at hSw); go_simp; try (with_reducible rfl))
    try simp only [Act.put, List.getElem_toArray, List.getElem_cons_zero, List.getElem_cons_succ, List.setIfInBounds_toArray, List.set_cons_zero, List.set_cons_succ]
    refine wpAnyH_take (i := 5) rfl (by kernel_rfl) (by kernel_rfl) (by kernel_rfl) (fun _ _ _ h => h) (yieldsIf_load_mid (by rfl) 92 (.tmp 16) rfl A 2 rfl V _ (fun w hSw => hSw.2) Try.underlying92 rfl (by rw [HVl.out]; exact Try.sz92)) (by assumption) ?_
    try simp only [Act.put, List.getElem_toArray, List.getElem_cons_zero, List.getElem_cons_succ, List.setIfInBounds_toArray, List.set_cons_zero, List.set_cons_succ]
    refine wpAnyH_ready (rs := [3, 7]) (by kernel_rfl) (by simp) ?_
    refine (AllReadyH.cons rfl (fun K hK => ?_) (AllReadyH.cons rfl (fun K hK => ?_) AllReadyH.nil))
    · refine step_call rfl 92 #[.pointer (some ⟨b, 0, none⟩), .int .u8 c] (by simp [go_sem]) (ledger_any _ b c) ?_
      rintro e wq ⟨rfl, rfl⟩
      refine ⟨_, rfl, ?_⟩
      refine hK.out _ _ ?_ (fun hHeld => ?_)
      · exact hHeld
      clear hK K
      try simp only [Act.put, List.getElem_toArray, List.getElem_cons_zero, List.getElem_cons_succ, List.setIfInBounds_toArray, List.set_cons_zero, List.set_cons_succ]
      refine wpAnyH_ready (rs := [6, 7]) (by kernel_rfl) (by simp) ?_
      refine (AllReadyH.cons rfl (fun K hK => ?_) (AllReadyH.cons rfl (fun K hK => ?_) AllReadyH.nil))
      · obtain ⟨Bq, hBq, upq⟩ := HLc.out.rw.pp.onL c
        have hap := apply_any _ b (ledO c) (P.led c) (P.sled c) Bq t hBq HLV.out.k (by have := HSZ.out.m c; omega)
        rw [HV.out, HF.out] at hap
        refine step_call rfl 60 #[.pointer (some ⟨b, ledO c, none⟩), .agg V.toArray] (by simp [go_sem]) hap ?_
        clear hap
        rintro e w4 hst
        obtain ⟨rfl, hps⟩ := upq _ _ _ _ _ hst
        obtain ⟨S1, hlw⟩ := HLc.out.ps hps
        replace HLc := hide hlw
        clear hst hps hlw upq hBq Bq
        refine ⟨_, rfl, ?_⟩
        refine hK.out _ _ ?_ (fun hHeld => ?_)
        · exact legHeld (HLc.out.lo (A, Lv) (by simp)) HLV.out HV.out
        clear hK K
        try simp only [Act.put, List.getElem_toArray, List.getElem_cons_zero, List.getElem_cons_succ, List.setIfInBounds_toArray, List.set_cons_zero, List.set_cons_succ]
        refine wpAnyH_ready (rs := [7]) (by kernel_rfl) (by simp) ?_
        refine (AllReadyH.cons rfl (fun K hK => ?_) AllReadyH.nil)
        go_simp
        have HDw : Hid (w.heap.size ≤ w4.heap.size) := HLc.out.ex.size
        have HDA : Hid (w4.heap.size ≠ A) := by have := (HLc.out.lo (A, Lv) (by simp)).lt; show _ ≠ _; simp only at this; omega
        replace HLc := hide (HLc.out.alloc rcp0.vals 89)
        rw [← zc89] at HLc
        obtain ⟨D, hDe⟩ : ∃ D, w4.heap.size = D := ⟨_, rfl⟩
        rw [hDe] at HLc HDw HDA
        refine hK.out _ _ ?_ (fun hHeld => ?_)
        · exact legHeld (HLc.out.lo (A, Lv) (by simp)) HLV.out HV.out
        clear hK K
        try simp only [Act.put, List.getElem_toArray, List.getElem_cons_zero, List.getElem_cons_succ, List.setIfInBounds_toArray, List.set_cons_zero, List.set_cons_succ]
        rw [hDe]
        clear hDe
        generalize w4.alloc (.cells Try.zeroCells89 89) = w3 at *
        refine wpAnyH_ready (rs := [8]) (by kernel_rfl) (by simp) ?_
        refine (AllReadyH.cons rfl (fun K hK => ?_) AllReadyH.nil)
        have hLD := HLc.out.lo (D, rcp0.vals) (by simp)
        have hth := hLD.th
        simp only [rcp0_len] at hth
        refine step_storeM rfl 89 (.tmp 7) (.tmp 18) rfl D 0 F rfl rfl (by rw [HFl.out]; exact hth) (by rw [HFl.out]; exact Try.sz89) HF1.out ?_
        have exD : Ex (fun k => k = D) w3 (w3.setCells D 0 F) := Ex.sets (S := fun k => k = D) rfl _ _ _ (Ex.refl _ _)
        replace HLc := hide ((HLc.out.setC (q := D) (cs := rcp0.vals) (by simp) HDw.out exD (cs' := F) (World.rangeAt_setCells_same w3 D 0 F (by rw [HFl.out]; exact hth)) (World.there_setCells (by rw [HFl.out]; exact hth) _ _ _)).pick (Y := [(D, F), (A, Lv)]) (fun p hp => by
          have hne := HDA.out
          simp only [List.mem_cons, List.not_mem_nil, or_false] at hp
          rcases hp with rfl | rfl
          · simp
          · simp [List.mem_filter, Ne.symm hne]) (by have := HDA.out; simpa using this))
        clear hLD hth exD
        refine hK.out _ _ ?_ (fun hHeld => ?_)
        · exact legHeld (HLc.out.lo (A, Lv) (by simp)) HLV.out HV.out
        clear hK K
        try simp only [Act.put, List.getElem_toArray, List.getElem_cons_zero, List.getElem_cons_succ, List.setIfInBounds_toArray, List.set_cons_zero, List.set_cons_succ]
        refine wpAnyH_done (by kernel_rfl) ?_ _
        go_wp2_with fail
        go_meet
        exact ⟨D, S1, rfl, HDw.out, HDA.out, HLc.out⟩
      · go_simp
        have HDw : Hid (w.heap.size ≤ wq.heap.size) := HLc.out.ex.size
        have HDA : Hid (wq.heap.size ≠ A) := by have := (HLc.out.lo (A, Lv) (by simp)).lt; show _ ≠ _; simp only at this; omega
        replace HLc := hide (HLc.out.alloc rcp0.vals 89)
        rw [← zc89] at HLc
        obtain ⟨D, hDe⟩ : ∃ D, wq.heap.size = D := ⟨_, rfl⟩
        rw [hDe] at HLc HDw HDA
        refine hK.out _ _ ?_ (fun hHeld => ?_)
        · exact legHeld (HLc.out.lo (A, Lv) (by simp)) HLV.out HV.out
        clear hK K
        try simp only [Act.put, List.getElem_toArray, List.getElem_cons_zero, List.getElem_cons_succ, List.setIfInBounds_toArray, List.set_cons_zero, List.set_cons_succ]
        rw [hDe]
        clear hDe
        generalize wq.alloc (.cells Try.zeroCells89 89) = w3 at *
        refine wpAnyH_ready (rs := [6]) (by kernel_rfl) (by simp) ?_
        refine (AllReadyH.cons rfl (fun K hK => ?_) AllReadyH.nil)
        obtain ⟨Bq, hBq, upq⟩ := HLc.out.rw.pp.onL c
        have hap := apply_any _ b (ledO c) (P.led c) (P.sled c) Bq t hBq HLV.out.k (by have := HSZ.out.m c; omega)
        rw [HV.out, HF.out] at hap
        refine step_call rfl 60 #[.pointer (some ⟨b, ledO c, none⟩), .agg V.toArray] (by simp [go_sem]) hap ?_
        clear hap
        rintro e w4 hst
        obtain ⟨rfl, hps⟩ := upq _ _ _ _ _ hst
        obtain ⟨S1, hlw⟩ := HLc.out.ps hps
        replace HLc := hide hlw
        clear hst hps hlw upq hBq Bq
        refine ⟨_, rfl, ?_⟩
        refine hK.out _ _ ?_ (fun hHeld => ?_)
        · exact legHeld (HLc.out.lo (A, Lv) (by simp)) HLV.out HV.out
        clear hK K
        try simp only [Act.put, List.getElem_toArray, List.getElem_cons_zero, List.getElem_cons_succ, List.setIfInBounds_toArray, List.set_cons_zero, List.set_cons_succ]
        refine wpAnyH_ready (rs := [8]) (by kernel_rfl) (by simp) ?_
        refine (AllReadyH.cons rfl (fun K hK => ?_) AllReadyH.nil)
        have hLD := HLc.out.lo (D, rcp0.vals) (by simp)
        have hth := hLD.th
        simp only [rcp0_len] at hth
        refine step_storeM rfl 89 (.tmp 7) (.tmp 18) rfl D 0 F rfl rfl (by rw [HFl.out]; exact hth) (by rw [HFl.out]; exact Try.sz89) HF1.out ?_
        have exD : Ex (fun k => k = D) w4 (w4.setCells D 0 F) := Ex.sets (S := fun k => k = D) rfl _ _ _ (Ex.refl _ _)
        replace HLc := hide ((HLc.out.setC (q := D) (cs := rcp0.vals) (by simp) HDw.out exD (cs' := F) (World.rangeAt_setCells_same w4 D 0 F (by rw [HFl.out]; exact hth)) (World.there_setCells (by rw [HFl.out]; exact hth) _ _ _)).pick (Y := [(D, F), (A, Lv)]) (fun p hp => by
          have hne := HDA.out
          simp only [List.mem_cons, List.not_mem_nil, or_false] at hp
          rcases hp with rfl | rfl
          · simp
          · simp [List.mem_filter, Ne.symm hne]) (by have := HDA.out; simpa using this))
        clear hLD hth exD
        refine hK.out _ _ ?_ (fun hHeld => ?_)
        · exact legHeld (HLc.out.lo (A, Lv) (by simp)) HLV.out HV.out
        clear hK K
        try simp only [Act.put, List.getElem_toArray, List.getElem_cons_zero, List.getElem_cons_succ, List.setIfInBounds_toArray, List.set_cons_zero, List.set_cons_succ]
        refine wpAnyH_done (by kernel_rfl) ?_ _
        go_wp2_with fail
        go_meet
        exact ⟨D, S1, rfl, HDw.out, HDA.out, HLc.out⟩
    · go_simp
      have HDw : Hid (w.heap.size ≤ w2.heap.size) := HLc.out.ex.size
      have HDA : Hid (w2.heap.size ≠ A) := by have := (HLc.out.lo (A, Lv) (by simp)).lt; show _ ≠ _; simp only at this; omega
      replace HLc := hide (HLc.out.alloc rcp0.vals 89)
      rw [← zc89] at HLc
      obtain ⟨D, hDe⟩ : ∃ D, w2.heap.size = D := ⟨_, rfl⟩
      rw [hDe] at HLc HDw HDA
      refine hK.out _ _ ?_ (fun hHeld => ?_)
      · exact legHeld (HLc.out.lo (A, Lv) (by simp)) HLV.out HV.out
      clear hK K
      try simp only [Act.put, List.getElem_toArray, List.getElem_cons_zero, List.getElem_cons_succ, List.setIfInBounds_toArray, List.set_cons_zero, List.set_cons_succ]
      rw [hDe]
      clear hDe
      generalize w2.alloc (.cells Try.zeroCells89 89) = w3 at *
      refine wpAnyH_ready (rs := [3]) (by kernel_rfl) (by simp) ?_
      refine (AllReadyH.cons rfl (fun K hK => ?_) AllReadyH.nil)
      refine step_call rfl 92 #[.pointer (some ⟨b, 0, none⟩), .int .u8 c] (by simp [go_sem]) (ledger_any _ b c) ?_
      rintro e wq ⟨rfl, rfl⟩
      refine ⟨_, rfl, ?_⟩
      refine hK.out _ _ ?_ (fun hHeld => ?_)
      · exact hHeld
      clear hK K
      try simp only [Act.put, List.getElem_toArray, List.getElem_cons_zero, List.getElem_cons_succ, List.setIfInBounds_toArray, List.set_cons_zero, List.set_cons_succ]
      refine wpAnyH_ready (rs := [6]) (by kernel_rfl) (by simp) ?_
      refine (AllReadyH.cons rfl (fun K hK => ?_) AllReadyH.nil)
      obtain ⟨Bq, hBq, upq⟩ := HLc.out.rw.pp.onL c
      have hap := apply_any _ b (ledO c) (P.led c) (P.sled c) Bq t hBq HLV.out.k (by have := HSZ.out.m c; omega)
      rw [HV.out, HF.out] at hap
      refine step_call rfl 60 #[.pointer (some ⟨b, ledO c, none⟩), .agg V.toArray] (by simp [go_sem]) hap ?_
      clear hap
      rintro e w4 hst
      obtain ⟨rfl, hps⟩ := upq _ _ _ _ _ hst
      obtain ⟨S1, hlw⟩ := HLc.out.ps hps
      replace HLc := hide hlw
      clear hst hps hlw upq hBq Bq
      refine ⟨_, rfl, ?_⟩
      refine hK.out _ _ ?_ (fun hHeld => ?_)
      · exact legHeld (HLc.out.lo (A, Lv) (by simp)) HLV.out HV.out
      clear hK K
      try simp only [Act.put, List.getElem_toArray, List.getElem_cons_zero, List.getElem_cons_succ, List.setIfInBounds_toArray, List.set_cons_zero, List.set_cons_succ]
      refine wpAnyH_ready (rs := [8]) (by kernel_rfl) (by simp) ?_
      refine (AllReadyH.cons rfl (fun K hK => ?_) AllReadyH.nil)
      have hLD := HLc.out.lo (D, rcp0.vals) (by simp)
      have hth := hLD.th
      simp only [rcp0_len] at hth
      refine step_storeM rfl 89 (.tmp 7) (.tmp 18) rfl D 0 F rfl rfl (by rw [HFl.out]; exact hth) (by rw [HFl.out]; exact Try.sz89) HF1.out ?_
      have exD : Ex (fun k => k = D) w4 (w4.setCells D 0 F) := Ex.sets (S := fun k => k = D) rfl _ _ _ (Ex.refl _ _)
      replace HLc := hide ((HLc.out.setC (q := D) (cs := rcp0.vals) (by simp) HDw.out exD (cs' := F) (World.rangeAt_setCells_same w4 D 0 F (by rw [HFl.out]; exact hth)) (World.there_setCells (by rw [HFl.out]; exact hth) _ _ _)).pick (Y := [(D, F), (A, Lv)]) (fun p hp => by
        have hne := HDA.out
        simp only [List.mem_cons, List.not_mem_nil, or_false] at hp
        rcases hp with rfl | rfl
        · simp
        · simp [List.mem_filter, Ne.symm hne]) (by have := HDA.out; simpa using this))
      clear hLD hth exD
      refine hK.out _ _ ?_ (fun hHeld => ?_)
      · exact legHeld (HLc.out.lo (A, Lv) (by simp)) HLV.out HV.out
      clear hK K
      try simp only [Act.put, List.getElem_toArray, List.getElem_cons_zero, List.getElem_cons_succ, List.setIfInBounds_toArray, List.set_cons_zero, List.set_cons_succ]
      refine wpAnyH_done (by kernel_rfl) ?_ _
      go_wp2_with fail
      go_meet
      exact ⟨D, S1, rfl, HDw.out, HDA.out, HLc.out⟩
  obtain ⟨D, S1, rfl, hDw, hDA, hlw⟩ := hcut
  have HDw := hide hDw
  have HDA := hide hDA
  replace HLc := hide hlw
  clear hDw hDA hlw
  obtain ⟨w5, hw5⟩ : ∃ W', W' = wc := ⟨_, rfl⟩
  subst hw5
  have HZ : Hid (w5.rangeAt D 0 F) := (HLc.out.lo (D, F) (by simp)).rg
  obtain ⟨C1, hC1⟩ : ∃ C1, C = C1 := ⟨_, rfl⟩
  have HLc : Hid (LW w b d S C w5 (P.setL c (appL (P.led c) t) (P.sled c)) S1 r C1 [(D, F), (A, Lv)]) := by rw [← hC1]; exact HLc.out
  clear hC1
  have cD0 : w5.cell? ⟨D, 0, none⟩ = some (.int .i64 0) := by have := HZ.out 0 (.int .i64 0) (by rw [← HF.out, HAR.out]; rfl); simpa using this
  have cD3 : w5.cell? ⟨D, 3, none⟩ = some (.bool false) := by have := HZ.out 3 (.bool false) (by rw [← HF.out, HAR.out]; rfl); simpa using this
  have cD45 : w5.cell? ⟨D, 45, none⟩ = some (.bool true) := by have := HZ.out 45 (.bool true) (by rw [← HF.out, Rcp.at45 HRO.out, HAR.out] <;> rfl); simpa using this
  have cA1 : w5.cell? ⟨A, 1, none⟩ = some (.int .u8 c) := (legHeld (HLc.out.lo (A, Lv) (by simp)) HLV.out HV.out).1
  go_upto_region 4 with fail
  go_wp2_with fail
  refine (box_any w5 b c).mono ?_
  rintro e wq ⟨rfl, rfl⟩
  obtain ⟨w6, hw6⟩ : ∃ W', W' = wq := ⟨_, rfl⟩
  subst hw6
  go_upto_region 6 with fail
  clear cD0 cD45 cA1
  obtain ⟨U, hU⟩ : ∃ U, msv (txMsg t) = U := ⟨_, rfl⟩
  have HU := hide hU
  have HMO : Hid (MsgOk (txMsg t)) := txMsg_ok HLV.out.k
  have HUl : Hid (U.length = 41) := by rw [← hU]; exact msv_len HMO.out
  obtain ⟨f, hf⟩ : ∃ f, fld t 43 = f := ⟨_, rfl⟩
  have HFD := hide hf
  have HUr : Hid (w6.rangeAt D 46 U) := range_of HZ.out (fun j v hv => by rw [← hU] at hv; rw [← HF.out]; refine Rcp.tookAt HRO.out j v ?_; rw [HAR.out]; exact hv)
  have cf : w6.cell? ⟨D, 47, none⟩ = some (.int .u8 f) := by
    have := HUr.out 1 (.int .u8 f) (by rw [← hU, ← hf, show fld t 43 = fld (txMsg t) 1 from (fld_msg t 1).symm]; exact fld_at HMO.out (by omega))
    exact this
  have HF47 : Hid (F[47]? = some (.int .u8 f)) := by
    show _ = _
    rw [← HF.out]
    refine Rcp.tookAt HRO.out 1 _ ?_
    rw [HAR.out, ← hf, show fld t 43 = fld (txMsg t) 1 from (fld_msg t 1).symm]
    exact fld_at HMO.out (by omega)
  have HFU : Hid (∀ j v, U[j]? = some v → F[46 + j]? = some v) := fun j v hv => by rw [← hU] at hv; rw [← HF.out]; refine Rcp.tookAt HRO.out j v ?_; rw [HAR.out]; exact hv
  clear hU hf
  have hz68 := Try.sizeOf68
  refine wp_region_held_drew (S := fun w' => w'.cell? ⟨D, 47, none⟩ = some (.int .u8 f) ∧ w'.rangeAt D 46 U) (by kernel_rfl) ⟨cf, HUr.out⟩ (fun hHeld => ?_)
  replace HLc := hide (HLc.out.below ((Below.refl w6.heap.size w6).drew))
  generalize w6.drew = w7 at *
  refine wpAnyH_take (i := 0) (v := ?_) rfl (by kernel_rfl) (by kernel_rfl) (by kernel_rfl) (fun _ _ _ h => h) (Or.inl ⟨by rfl, ?_⟩) (by assumption) ?_
  rotate_left
  · (intro w hSw; (try dsimp only at hSw); go_simp; try (with_reducible rfl))
  try simp only [Act.put, List.getElem_toArray, List.getElem_cons_zero, List.getElem_cons_succ, List.setIfInBounds_toArray, List.set_cons_zero, List.set_cons_succ]
  refine wpAnyH_take (i := 1) (v := ?_) rfl (by kernel_rfl) (by kernel_rfl) (by kernel_rfl) (fun _ _ _ h => h) (Or.inl ⟨by rfl, ?_⟩) (by assumption) ?_
  rotate_left
  · (intro w hSw; (try dsimp only at hSw); go_simp; try (with_reducible rfl))
  try simp only [Act.put, List.getElem_toArray, List.getElem_cons_zero, List.getElem_cons_succ, List.setIfInBounds_toArray, List.set_cons_zero, List.set_cons_succ]
  refine wpAnyH_take (i := 2) (v := ?_) rfl (by kernel_rfl) (by kernel_rfl) (by kernel_rfl) (fun _ _ _ h => h) (Or.inl ⟨by rfl, ?_⟩) (by assumption) ?_
  rotate_left
  · (intro w hSw; (try dsimp only at hSw); go_simp; try (with_reducible rfl))
  try simp only [Act.put, List.getElem_toArray, List.getElem_cons_zero, List.getElem_cons_succ, List.setIfInBounds_toArray, List.set_cons_zero, List.set_cons_succ]
  refine wpAnyH_take (i := 3) (v := ?_) rfl (by kernel_rfl) (by kernel_rfl) (by kernel_rfl) (fun _ _ _ h => h) (Or.inl ⟨by rfl, ?_⟩) (by assumption) ?_
  rotate_left
  · (intro w hSw; (try dsimp only at hSw); go_simp; try (with_reducible rfl))
  try simp only [Act.put, List.getElem_toArray, List.getElem_cons_zero, List.getElem_cons_succ, List.setIfInBounds_toArray, List.set_cons_zero, List.set_cons_succ]
  refine wpAnyH_take (i := 4) (v := ?_) rfl (by kernel_rfl) (by kernel_rfl) (by kernel_rfl) (fun _ _ _ h => h) (Or.inl ⟨by rfl, ?_⟩) (by assumption) ?_
  rotate_left
  · (intro w hSw; (try dsimp only at hSw); go_simp; try (with_reducible rfl))
  try simp only [Act.put, List.getElem_toArray, List.getElem_cons_zero, List.getElem_cons_succ, List.setIfInBounds_toArray, List.set_cons_zero, List.set_cons_succ]
  refine wpAnyH_take (i := 6) (v := ?_) rfl (by kernel_rfl) (by kernel_rfl) (by kernel_rfl) (fun _ _ _ h => h) (Or.inl ⟨by rfl, ?_⟩) (by assumption) ?_
  rotate_left
  · (intro w hSw; (try dsimp only at hSw); go_simp; try (with_reducible rfl))
  try simp only [Act.put, List.getElem_toArray, List.getElem_cons_zero, List.getElem_cons_succ, List.setIfInBounds_toArray, List.set_cons_zero, List.set_cons_succ]
  refine wpAnyH_take (i := 7) rfl (by kernel_rfl) (by kernel_rfl) (by kernel_rfl) (fun _ _ _ h => h) (yieldsIf_load_mid (by rfl) 68 (.tmp 36) rfl D 46 rfl U _ (fun w hSw => hSw.2) Try.underlying68 rfl (by rw [HUl.out]; exact Try.sz68)) (by assumption) ?_
  try simp only [Act.put, List.getElem_toArray, List.getElem_cons_zero, List.getElem_cons_succ, List.setIfInBounds_toArray, List.set_cons_zero, List.set_cons_succ]
  refine wpAnyH_ready (rs := [5]) (by kernel_rfl) (by simp) ?_
  refine (AllReadyH.cons rfl (fun K hK => ?_) AllReadyH.nil)
  refine step_call rfl 93 #[.pointer (some ⟨b, 0, none⟩), .int .u8 f] (by simp [go_sem]) (box_any _ b f) ?_
  rintro e wq2 ⟨rfl, rfl⟩
  refine ⟨_, rfl, ?_⟩
  refine hK.out _ _ ?_ (fun hHeld => ?_)
  · exact hHeld
  clear hK K
  try simp only [Act.put, List.getElem_toArray, List.getElem_cons_zero, List.getElem_cons_succ, List.setIfInBounds_toArray, List.set_cons_zero, List.set_cons_succ]
  refine wpAnyH_ready (rs := [8]) (by kernel_rfl) (by simp) ?_
  refine (AllReadyH.cons rfl (fun K hK => ?_) AllReadyH.nil)
  obtain ⟨Bx, hBx, upx⟩ := HLc.out.rw.pp.onX c
  obtain ⟨By, hBy, upy⟩ := HLc.out.rw.pp.onX f
  clear upy
  rw [Pr.setL_box, Pr.setL_sbox] at hBx hBy
  have hcs := consume_any _ b (boxO c) (P.box c) (P.sbox c) Bx b (boxO f) (P.box f) (P.sbox f) By (txMsg t) hBx hBy HMO.out (by have := HSZ.out.o f; omega) (HSZ.out.i c)
  rw [HU.out, ← HFD.out, HKC.out, HFD.out] at hcs
  refine step_call rfl 61 #[.pointer (some ⟨b, boxO c, none⟩), .pointer (some ⟨b, boxO f, none⟩), .agg U.toArray] (by simp [go_sem]) hcs ?_
  clear hcs
  rintro e w8 hst
  obtain ⟨rfl, hps⟩ := upx _ _ _ _ _ hst
  obtain ⟨S2, hlw⟩ := HLc.out.ps hps
  replace HLc := hide hlw
  rw [← HFD.out] at HLc
  clear hst hps hlw upx hBx hBy Bx By
  refine ⟨_, rfl, ?_⟩
  refine hK.out _ _ ?_ (fun hHeld => ?_)
  · exact ⟨(by have := (HLc.out.lo (D, F) (by simp)).rg 47 (.int .u8 f) (HF47.out); simpa using this), range_of (HLc.out.lo (D, F) (by simp)).rg HFU.out⟩
  clear hK K
  try simp only [Act.put, List.getElem_toArray, List.getElem_cons_zero, List.getElem_cons_succ, List.setIfInBounds_toArray, List.set_cons_zero, List.set_cons_succ]
  refine wpAnyH_take (i := 9) (v := ?_) rfl (by kernel_rfl) (by kernel_rfl) (by kernel_rfl) (fun _ _ _ h => h) (Or.inl ⟨by rfl, ?_⟩) (by assumption) ?_
  rotate_left
  · (intro w hSw; (try dsimp only at hSw); go_simp; try (with_reducible rfl))
  try simp only [Act.put, List.getElem_toArray, List.getElem_cons_zero, List.getElem_cons_succ, List.setIfInBounds_toArray, List.set_cons_zero, List.set_cons_succ]
  refine wpAnyH_done (by kernel_rfl) ?_ _
  clear hz68 hHeld cf
  have d0 : (K != 0) = true := by simpa using HK0.out
  have HRR : Hid (R (.returned (.int .i64 K)) w8) := by
    rw [← HR.out]
    refine ⟨by rw [HCZ.out], S2, C1, ?_⟩
    rw [if_neg (by rw [HCZ.out]; exact HK0.out), HPS.out]
    exact HLc.out.drop (List.nil_sublist _)
  clear cD3
  go_wp2
  exact HRR.out
end Go.Proofs.Qxb6500784a
