import Derived.Test.Qxb6500784aRl0
namespace Go.Proofs.Qxb6500784a
open Go.RowKit

attribute [-simp] Try.isAgg68 Try.sizeOf68 Try.typeInfo68 Try.isAgg92 Try.sizeOf92 Try.typeInfo92 Try.isAgg89 Try.sizeOf89 Try.typeInfo89 Try.isAgg95 Try.sizeOf95 Try.typeInfo95 Try.isAgg65 Try.sizeOf65 Try.typeInfo65
set_option linter.unusedSimpArgs false in
set_option maxRecDepth 100000 in
set_option maxHeartbeats 8000000 in
theorem runLeg_e (w : World) (b d : Nat) (P : Pr) (S : List Nat) (r : Rs) (C : List Nat) (h : RW w b P S d r C) (c : Int) (t : List Int) (Lv : List Value) (hv : LegV Lv c t) (hsz : Sz P r) (hc : refP (P.led c) t = 0) (hk : fld t 0 = 2 ∨ fld t 0 = 4) (hn : (P.box c).sn < 32) :
    Calls Try.prog 86 #[.pointer (some ⟨b, 0, none⟩), .agg Lv.toArray, .pointer (some ⟨d, 0, none⟩)] w (LegPost w b d S C P c t r) := by
  have HAR : Hid (appR (P.led c) t = { rcp0 with gas := gasP t, fee := fld t 4, hs := true, sent := sntM (P.led c) t }) := by
    show _ = _
    rw [appR, if_neg (by simp [hc]), if_neg (by omega), sntM]
    rcases hk with hk | hk
    · rw [if_pos hk, if_pos hk]
    · rw [if_neg (by omega), if_pos hk, if_neg (by omega)]
  obtain ⟨K, hK⟩ : ∃ k, sndP (P.box c) = k := ⟨_, rfl⟩
  have HKC := hide hK
  have HCZ : Hid (legC P c t = K) := by show _ = _; rw [legC, if_neg (by simp [hc]), if_neg (by omega), if_pos hk, hK]
  have HPS : Hid (legS P c t = (P.setL c (appL (P.led c) t) (P.sled c)).setB c (sndB (P.box c) (sntM (P.led c) t)) (P.sbox c)) := by show _ = _; rw [legS, if_neg (by simp [hc]), if_neg (by omega), if_pos hk]
  have HLR : Hid (legR P c t r = { r with rcs := r.rcs ++ [appR (P.led c) t], stm := r.stm ++ [stamp (P.box c) (sntM (P.led c) t)], gas := w64 (r.gas + gasP t) }) := by show _ = _; rw [legR, if_pos hk]
  have hK0 : K = 0 := by rw [← hK, sndP, if_neg (by omega)]
  have HNN := hide hn
  clear hc hk hK hn
  subst hK0
  have HRW := hide h
  have HLV := hide hv
  have HSZ := hide hsz
  clear h hv hsz
  obtain ⟨R, hR⟩ : ∃ R, LegPost w b d S C P c t r = R := ⟨_, rfl⟩
  rw [hR]
  have HR := hide hR
  clear hR
  have HLl : Hid (Lv.length = 86) := HLV.out.l
  go_enter Try.func86, Try.ntmps86
  go_upto_region 1 with fail
  obtain ⟨A, hA⟩ : ∃ A, w.heap.size = A := ⟨_, rfl⟩
  have HLc : Hid (LW w b d S C (w.alloc (.cells Lv.toArray 95)) P S r C [(A, Lv)]) := by rw [← hA]; exact (LW.refl HRW.out).alloc Lv 95
  have HAw := hide hA
  rw [hA]
  generalize w.alloc (.cells Lv.toArray 95) = w1 at *
  clear hA
  obtain ⟨V, hV⟩ : ∃ V, kvs txk t = V := ⟨_, rfl⟩
  have HV := hide hV
  have HVl : Hid (V.length = 83) := by rw [← hV, kvs_len]; exact HLV.out.k.l
  obtain ⟨F, hF⟩ : ∃ F, Rcp.vals (appR (P.led c) t) = F := ⟨_, rfl⟩
  have HF := hide hF
  have HLO : Hid ((P.led c).Ok) := by obtain ⟨Bq, hBq, _⟩ := HRW.out.pp.onL c; exact hBq.ok
  have HRO : Hid ((appR (P.led c) t).Ok) := appR_ok HLO.out HLV.out.k
  have HFl : Hid (F.length = 87) := by rw [← hF]; exact Rcp.len HRO.out
  have HF1 : Hid (∀ u ∈ F, u.oneCell' = true) := by rw [← hF]; exact Rcp.one _
  clear hV hF
  go_cut [7] (fun s7 wx => ∃ D S', s7 = .pointer (some ⟨D, 0, none⟩) ∧ w.heap.size ≤ D ∧ D ≠ A ∧ LW w b d S C wx (P.setL c (appL (P.led c) t) (P.sled c)) S' r C [(D, F), (A, Lv)])
  case first =>
    have hz92 := Try.sizeOf92
    have hHd := legHeld (HLc.out.lo (A, Lv) (by simp)) HLV.out HV.out
    refine wp_region_held_drew (S := fun w' => w'.cell? ⟨A, 1, none⟩ = some (.int .u8 c) ∧ w'.rangeAt A 2 V) (by kernel_rfl) hHd (fun hHeld => ?_)
    replace HLc := hide (HLc.out.below ((Below.refl w1.heap.size w1).drew))
    generalize w1.drew = w2 at *
    refine wpAnyH_take (i := 0) (v := ?_) rfl (by kernel_rfl) (by kernel_rfl) (by kernel_rfl) (fun _ _ _ h => h) (Or.inl ⟨by rfl, ?_⟩) (by assumption) ?_
    rotate_left
    · (intro w hSw; (try dsimp only at hSw); go_simp; try (with_reducible rfl))
    try simp only [Act.put, List.getElem_toArray, List.getElem_cons_zero, List.getElem_cons_succ, List.setIfInBounds_toArray, List.set_cons_zero, List.set_cons_succ]
    refine wpAnyH_take (i := 1) (v := ?_) rfl (by kernel_rfl) (by kernel_rfl) (by kernel_rfl) (fun _ _ _ h => h) (Or.inl ⟨by rfl, ?_⟩) (by assumption) ?_
    rotate_left
    · (intro w hSw; (try dsimp only at hSw); go_simp; try (with_reducible rfl))
    try simp only [Act.put, List.getElem_toArray, List.getElem_cons_zero, List.getElem_cons_succ, List.setIfInBounds_toArray, List.set_cons_zero, List.set_cons_succ]
    refine wpAnyH_take (i := 2) (v := ?_) rfl (by kernel_rfl) (by kernel_rfl) (by kernel_rfl) (fun _ _ _ h => h) (Or.inl ⟨by rfl, ?_⟩) (by assumption) ?_
    rotate_left
    · (intro w hSw; (try dsimp only at hSw); go_simp; try (with_reducible rfl))
    try simp only [Act.put, List.getElem_toArray, List.getElem_cons_zero, List.getElem_cons_succ, List.setIfInBounds_toArray, List.set_cons_zero, List.set_cons_succ]
    refine wpAnyH_take (i := 4) (v := ?_) rfl (by kernel_rfl) (by kernel_rfl) (by kernel_rfl) (fun _ _ _ h => h) (Or.inl ⟨by rfl, ?_⟩) (by assumption) ?_
    rotate_left
    · (intro w hSw; (try dsimp only at hSw); go_simp; try (with_reducible rfl))
    try simp only [Act.put, List.getElem_toArray, List.getElem_cons_zero, List.getElem_cons_succ, List.setIfInBounds_toArray, List.set_cons_zero, List.set_cons_succ]
    refine wpAnyH_take (i := 5) rfl (by kernel_rfl) (by kernel_rfl) (by kernel_rfl) (fun _ _ _ h => h) (yieldsIf_load_mid (by rfl) 92 (.tmp 16) rfl A 2 rfl V _ (fun w hSw => hSw.2) Try.underlying92 rfl (by rw [HVl.out]; exact Try.sz92)) (by assumption) ?_
    try simp only [Act.put, List.getElem_toArray, List.getElem_cons_zero, List.getElem_cons_succ, List.setIfInBounds_toArray, List.set_cons_zero, List.set_cons_succ]
    refine wpAnyH_ready (rs := [3, 7]) (by kernel_rfl) (by simp) ?_
    refine (AllReadyH.cons rfl (fun K hK => ?_) (AllReadyH.cons rfl (fun K hK => ?_) AllReadyH.nil))
    · refine step_call rfl 92 #[.pointer (some ⟨b, 0, none⟩), .int .u8 c] (by simp [go_sem]) (ledger_any _ b c) ?_
      rintro e wq ⟨rfl, rfl⟩
      refine ⟨_, rfl, ?_⟩
      refine hK.out _ _ ?_ (fun hHeld => ?_)
      · exact hHeld
      clear hK K
      try simp only [Act.put, List.getElem_toArray, List.getElem_cons_zero, List.getElem_cons_succ, List.setIfInBounds_toArray, List.set_cons_zero, List.set_cons_succ]
      refine wpAnyH_ready (rs := [6, 7]) (by kernel_rfl) (by simp) ?_
      refine (AllReadyH.cons rfl (fun K hK => ?_) (AllReadyH.cons rfl (fun K hK => ?_) AllReadyH.nil))
      · obtain ⟨Bq, hBq, upq⟩ := HLc.out.rw.pp.onL c
        have hap := apply_any _ b (ledO c) (P.led c) (P.sled c) Bq t hBq HLV.out.k (by have := HSZ.out.m c; omega)
        rw [HV.out, HF.out] at hap
        refine step_call rfl 60 #[.pointer (some ⟨b, ledO c, none⟩), .agg V.toArray] (by simp [go_sem]) hap ?_
        clear hap
        rintro e w4 hst
        obtain ⟨rfl, hps⟩ := upq _ _ _ _ _ hst
        obtain ⟨S1, hlw⟩ := HLc.out.ps hps
        replace HLc := hide hlw
        clear hst hps hlw upq hBq Bq
        refine ⟨_, rfl, ?_⟩
        refine hK.out _ _ ?_ (fun hHeld => ?_)
        · exact legHeld (HLc.out.lo (A, Lv) (by simp)) HLV.out HV.out
        clear hK K
        try simp only [Act.put, List.getElem_toArray, List.getElem_cons_zero, List.getElem_cons_succ, List.setIfInBounds_toArray, List.set_cons_zero, List.set_cons_succ]
        refine wpAnyH_ready (rs := [7]) (by kernel_rfl) (by simp) ?_
        refine (AllReadyH.cons rfl (fun K hK => ?_) AllReadyH.nil)
        go_simp
        have HDw : Hid (w.heap.size ≤ w4.heap.size) := HLc.out.ex.size
        have HDA : Hid (w4.heap.size ≠ A) := by have := (HLc.out.lo (A, Lv) (by simp)).lt; show _ ≠ _; simp only at this; omega
        replace HLc := hide (HLc.out.alloc rcp0.vals 89)
        rw [← zc89] at HLc
        obtain ⟨D, hDe⟩ : ∃ D, w4.heap.size = D := ⟨_, rfl⟩
        rw [hDe] at HLc HDw HDA
        refine hK.out _ _ ?_ (fun hHeld => ?_)
        · exact legHeld (HLc.out.lo (A, Lv) (by simp)) HLV.out HV.out
        clear hK K
        try simp only [Act.put, List.getElem_toArray, List.getElem_cons_zero, List.getElem_cons_succ, List.setIfInBounds_toArray, List.set_cons_zero, List.set_cons_succ]
        rw [hDe]
        clear hDe
        generalize w4.alloc (.cells Try.zeroCells89 89) = w3 at *
        refine wpAnyH_ready (rs := [8]) (by kernel_rfl) (by simp) ?_
        refine (AllReadyH.cons rfl (fun K hK => ?_) AllReadyH.nil)
        have hLD := HLc.out.lo (D, rcp0.vals) (by simp)
        have hth := hLD.th
        simp only [rcp0_len] at hth
        refine step_storeM rfl 89 (.tmp 7) (.tmp 18) rfl D 0 F rfl rfl (by rw [HFl.out]; exact hth) (by rw [HFl.out]; exact Try.sz89) HF1.out ?_
        have exD : Ex (fun k => k = D) w3 (w3.setCells D 0 F) := Ex.sets (S := fun k => k = D) rfl _ _ _ (Ex.refl _ _)
        replace HLc := hide ((HLc.out.setC (q := D) (cs := rcp0.vals) (by simp) HDw.out exD (cs' := F) (World.rangeAt_setCells_same w3 D 0 F (by rw [HFl.out]; exact hth)) (World.there_setCells (by rw [HFl.out]; exact hth) _ _ _)).pick (Y := [(D, F), (A, Lv)]) (fun p hp => by
          have hne := HDA.out
          simp only [List.mem_cons, List.not_mem_nil, or_false] at hp
          rcases hp with rfl | rfl
          · simp
          · simp [List.mem_filter, Ne.symm hne]) (by have := HDA.out; simpa using this))
        clear hLD hth exD
        refine hK.out _ _ ?_ (fun hHeld => ?_)
        · exact legHeld (HLc.out.lo (A, Lv) (by simp)) HLV.out HV.out
        clear hK K
        try simp only [Act.put, List.getElem_toArray, List.getElem_cons_zero, List.getElem_cons_succ, List.setIfInBounds_toArray, List.set_cons_zero, List.set_cons_succ]
        refine wpAnyH_done (by kernel_rfl) ?_ _
        go_wp2_with fail
        go_meet
        exact ⟨D, S1, rfl, HDw.out, HDA.out, HLc.out⟩
      · go_simp
        have HDw : Hid (w.heap.size ≤ wq.heap.size) := HLc.out.ex.size
        have HDA : Hid (wq.heap.size ≠ A) := by have := (HLc.out.lo (A, Lv) (by simp)).lt; show _ ≠ _; simp only at this; omega
        replace HLc := hide (HLc.out.alloc rcp0.vals 89)
        rw [← zc89] at HLc
        obtain ⟨D, hDe⟩ : ∃ D, wq.heap.size = D := ⟨_, rfl⟩
        rw [hDe] at HLc HDw HDA
        refine hK.out _ _ ?_ (fun hHeld => ?_)
        · exact legHeld (HLc.out.lo (A, Lv) (by simp)) HLV.out HV.out
        clear hK K
        try simp only [Act.put, List.getElem_toArray, List.getElem_cons_zero, List.getElem_cons_succ, List.setIfInBounds_toArray, List.set_cons_zero, List.set_cons_succ]
        rw [hDe]
        clear hDe
        generalize wq.alloc (.cells Try.zeroCells89 89) = w3 at *
        refine wpAnyH_ready (rs := [6]) (by kernel_rfl) (by simp) ?_
        refine (AllReadyH.cons rfl (fun K hK => ?_) AllReadyH.nil)
        obtain ⟨Bq, hBq, upq⟩ := HLc.out.rw.pp.onL c
        have hap := apply_any _ b (ledO c) (P.led c) (P.sled c) Bq t hBq HLV.out.k (by have := HSZ.out.m c; omega)
        rw [HV.out, HF.out] at hap
        refine step_call rfl 60 #[.pointer (some ⟨b, ledO c, none⟩), .agg V.toArray] (by simp [go_sem]) hap ?_
        clear hap
        rintro e w4 hst
        obtain ⟨rfl, hps⟩ := upq _ _ _ _ _ hst
        obtain ⟨S1, hlw⟩ := HLc.out.ps hps
        replace HLc := hide hlw
        clear hst hps hlw upq hBq Bq
        refine ⟨_, rfl, ?_⟩
        refine hK.out _ _ ?_ (fun hHeld => ?_)
        · exact legHeld (HLc.out.lo (A, Lv) (by simp)) HLV.out HV.out
        clear hK K
        try simp only [Act.put, List.getElem_toArray, List.getElem_cons_zero, List.getElem_cons_succ, List.setIfInBounds_toArray, List.set_cons_zero, List.set_cons_succ]
        refine wpAnyH_ready (rs := [8]) (by kernel_rfl) (by simp) ?_
        refine (AllReadyH.cons rfl (fun K hK => ?_) AllReadyH.nil)
        have hLD := HLc.out.lo (D, rcp0.vals) (by simp)
        have hth := hLD.th
        simp only [rcp0_len] at hth
        refine step_storeM rfl 89 (.tmp 7) (.tmp 18) rfl D 0 F rfl rfl (by rw [HFl.out]; exact hth) (by rw [HFl.out]; exact Try.sz89) HF1.out ?_
        have exD : Ex (fun k => k = D) w4 (w4.setCells D 0 F) := Ex.sets (S := fun k => k = D) rfl _ _ _ (Ex.refl _ _)
        replace HLc := hide ((HLc.out.setC (q := D) (cs := rcp0.vals) (by simp) HDw.out exD (cs' := F) (World.rangeAt_setCells_same w4 D 0 F (by rw [HFl.out]; exact hth)) (World.there_setCells (by rw [HFl.out]; exact hth) _ _ _)).pick (Y := [(D, F), (A, Lv)]) (fun p hp => by
          have hne := HDA.out
          simp only [List.mem_cons, List.not_mem_nil, or_false] at hp
          rcases hp with rfl | rfl
          · simp
          · simp [List.mem_filter, Ne.symm hne]) (by have := HDA.out; simpa using this))
        clear hLD hth exD
        refine hK.out _ _ ?_ (fun hHeld => ?_)
        · exact legHeld (HLc.out.lo (A, Lv) (by simp)) HLV.out HV.out
        clear hK K
        try simp only [Act.put, List.getElem_toArray, List.getElem_cons_zero, List.getElem_cons_succ, List.setIfInBounds_toArray, List.set_cons_zero, List.set_cons_succ]
        refine wpAnyH_done (by kernel_rfl) ?_ _
        go_wp2_with fail
        go_meet
        exact ⟨D, S1, rfl, HDw.out, HDA.out, HLc.out⟩
    · go_simp
      have HDw : Hid (w.heap.size ≤ w2.heap.size) := HLc.out.ex.size
      have HDA : Hid (w2.heap.size ≠ A) := by have := (HLc.out.lo (A, Lv) (by simp)).lt; show _ ≠ _; simp only at this; omega
      replace HLc := hide (HLc.out.alloc rcp0.vals 89)
      rw [← zc89] at HLc
      obtain ⟨D, hDe⟩ : ∃ D, w2.heap.size = D := ⟨_, rfl⟩
      rw [hDe] at HLc HDw HDA
      refine hK.out _ _ ?_ (fun hHeld => ?_)
      · exact legHeld (HLc.out.lo (A, Lv) (by simp)) HLV.out HV.out
      clear hK K
      try simp only [Act.put, List.getElem_toArray, List.getElem_cons_zero, List.getElem_cons_succ, List.setIfInBounds_toArray, List.set_cons_zero, List.set_cons_succ]
      rw [hDe]
      clear hDe
      generalize w2.alloc (.cells Try.zeroCells89 89) = w3 at *
      refine wpAnyH_ready (rs := [3]) (by kernel_rfl) (by simp) ?_
      refine (AllReadyH.cons rfl (fun K hK => ?_) AllReadyH.nil)
      refine step_call rfl 92 #[.pointer (some ⟨b, 0, none⟩), .int .u8 c] (by simp [go_sem]) (ledger_any _ b c) ?_
      rintro e wq ⟨rfl, rfl⟩
      refine ⟨_, rfl, ?_⟩
      refine hK.out _ _ ?_ (fun hHeld => ?_)
      · exact hHeld
      clear hK K
      try simp only [Act.put, List.getElem_toArray, List.getElem_cons_zero, List.getElem_cons_succ, List.setIfInBounds_toArray, List.set_cons_zero, List.set_cons_succ]
      refine wpAnyH_ready (rs := [6]) (by kernel_rfl) (by simp) ?_
      refine (AllReadyH.cons rfl (fun K hK => ?_) AllReadyH.nil)
      obtain ⟨Bq, hBq, upq⟩ := HLc.out.rw.pp.onL c
      have hap := apply_any _ b (ledO c) (P.led c) (P.sled c) Bq t hBq HLV.out.k (by have := HSZ.out.m c; omega)
      rw [HV.out, HF.out] at hap
      refine step_call rfl 60 #[.pointer (some ⟨b, ledO c, none⟩), .agg V.toArray] (by simp [go_sem]) hap ?_
      clear hap
      rintro e w4 hst
      obtain ⟨rfl, hps⟩ := upq _ _ _ _ _ hst
      obtain ⟨S1, hlw⟩ := HLc.out.ps hps
      replace HLc := hide hlw
      clear hst hps hlw upq hBq Bq
      refine ⟨_, rfl, ?_⟩
      refine hK.out _ _ ?_ (fun hHeld => ?_)
      · exact legHeld (HLc.out.lo (A, Lv) (by simp)) HLV.out HV.out
      clear hK K
      try simp only [Act.put, List.getElem_toArray, List.getElem_cons_zero, List.getElem_cons_succ, List.setIfInBounds_toArray, List.set_cons_zero, List.set_cons_succ]
      refine wpAnyH_ready (rs := [8]) (by kernel_rfl) (by simp) ?_
      refine (AllReadyH.cons rfl (fun K hK => ?_) AllReadyH.nil)
      have hLD := HLc.out.lo (D, rcp0.vals) (by simp)
      have hth := hLD.th
      simp only [rcp0_len] at hth
      refine step_storeM rfl 89 (.tmp 7) (.tmp 18) rfl D 0 F rfl rfl (by rw [HFl.out]; exact hth) (by rw [HFl.out]; exact Try.sz89) HF1.out ?_
      have exD : Ex (fun k => k = D) w4 (w4.setCells D 0 F) := Ex.sets (S := fun k => k = D) rfl _ _ _ (Ex.refl _ _)
      replace HLc := hide ((HLc.out.setC (q := D) (cs := rcp0.vals) (by simp) HDw.out exD (cs' := F) (World.rangeAt_setCells_same w4 D 0 F (by rw [HFl.out]; exact hth)) (World.there_setCells (by rw [HFl.out]; exact hth) _ _ _)).pick (Y := [(D, F), (A, Lv)]) (fun p hp => by
        have hne := HDA.out
        simp only [List.mem_cons, List.not_mem_nil, or_false] at hp
        rcases hp with rfl | rfl
        · simp
        · simp [List.mem_filter, Ne.symm hne]) (by have := HDA.out; simpa using this))
      clear hLD hth exD
      refine hK.out _ _ ?_ (fun hHeld => ?_)
      · exact legHeld (HLc.out.lo (A, Lv) (by simp)) HLV.out HV.out
      clear hK K
      try simp only [Act.put, List.getElem_toArray, List.getElem_cons_zero, List.getElem_cons_succ, List.setIfInBounds_toArray, List.set_cons_zero, List.set_cons_succ]
      refine wpAnyH_done (by kernel_rfl) ?_ _
      go_wp2_with fail
      go_meet
      exact ⟨D, S1, rfl, HDw.out, HDA.out, HLc.out⟩
  obtain ⟨D, S1, rfl, hDw, hDA, hlw⟩ := hcut
  have HDw := hide hDw
  have HDA := hide hDA
  replace HLc := hide hlw
  clear hDw hDA hlw
  obtain ⟨w5, hw5⟩ : ∃ W', W' = wc := ⟨_, rfl⟩
  subst hw5
  have HZ : Hid (w5.rangeAt D 0 F) := (HLc.out.lo (D, F) (by simp)).rg
  obtain ⟨C1, hC1⟩ : ∃ C1, C = C1 := ⟨_, rfl⟩
  have HLc : Hid (LW w b d S C w5 (P.setL c (appL (P.led c) t) (P.sled c)) S1 r C1 [(D, F), (A, Lv)]) := by rw [← hC1]; exact HLc.out
  clear hC1
  have cD0 : w5.cell? ⟨D, 0, none⟩ = some (.int .i64 0) := by have := HZ.out 0 (.int .i64 0) (by rw [← HF.out, HAR.out]; rfl); simpa using this
  have cD3 : w5.cell? ⟨D, 3, none⟩ = some (.bool true) := by have := HZ.out 3 (.bool true) (by rw [← HF.out, HAR.out]; rfl); simpa using this
  have cD45 : w5.cell? ⟨D, 45, none⟩ = some (.bool false) := by have := HZ.out 45 (.bool false) (by rw [← HF.out, Rcp.at45 HRO.out, HAR.out] <;> rfl); simpa using this
  have cA1 : w5.cell? ⟨A, 1, none⟩ = some (.int .u8 c) := (legHeld (HLc.out.lo (A, Lv) (by simp)) HLV.out HV.out).1
  go_upto_region 4 with fail
  go_wp2_with fail
  refine (box_any w5 b c).mono ?_
  rintro e wq ⟨rfl, rfl⟩
  obtain ⟨w6, hw6⟩ : ∃ W', W' = wq := ⟨_, rfl⟩
  subst hw6
  go_upto_region 10 with fail
  clear cD0 cD45 cA1 cD3
  obtain ⟨M, hM⟩ : ∃ M, sntM (P.led c) t = M := ⟨_, rfl⟩
  have HMO : Hid (MsgOk M) := by rw [← hM]; have := HRO.out.s; rw [HAR.out] at this; exact this
  obtain ⟨U, hU⟩ : ∃ U, msv M = U := ⟨_, rfl⟩
  have HU := hide hU
  have HUl : Hid (U.length = 41) := by rw [← hU]; exact msv_len HMO.out
  have HUr : Hid (w6.rangeAt D 4 U) := range_of HZ.out (fun j v hv => by rw [← hU, ← hM] at hv; rw [← HF.out]; refine Rcp.sentAt j v ?_; rw [HAR.out]; exact hv)
  rw [hM] at HAR HPS HLR
  have HM := hide hM
  clear hU hM
  go_wp2_with fail
  simp only [Try.sizeOf68, Result.andThen, show ((41 : Nat) = 0) = False from by simp, ↓reduceIte]
  rw [Oper.upon_value]
  go_wp2_with fail
  simp only [Try.isAgg68, Try.sizeOf68, Result.andThen, ↓reduceIte, ldC w6 D 4 U 41 HUl.out HUr.out]
  rw [Oper.upon_value]
  go_wp2_with fail
  obtain ⟨Bx, hBx, upx⟩ := HLc.out.rw.pp.onX c
  rw [Pr.setL_box, Pr.setL_sbox] at hBx
  obtain ⟨Um, hUm⟩ : ∃ U, msv (sndM (P.box c) M) = U := ⟨_, rfl⟩
  have HUM := hide hUm
  have HUMl : Hid (Um.length = 41) := by rw [← hUm]; exact msv_len (sndM_ok HMO.out (HSZ.out.o c))
  have HUM1 : Hid (∀ u ∈ Um, u.oneCell' = true) := by rw [← hUm]; exact kvs_one _ _
  have hcs := send_all w6 b (boxO c) (P.box c) (P.sbox c) Bx M hBx HMO.out (HSZ.out.o c)
  rw [HU.out, HKC.out, hUm] at hcs
  refine hcs.mono ?_
  clear hcs
  rintro e w8 hst
  obtain ⟨rfl, hps⟩ := upx _ _ _ _ _ hst
  obtain ⟨S2, hlw⟩ := HLc.out.ps hps
  replace HLc := hide hlw
  clear hst hps hlw upx hBx Bx hUm HUr
  go_wp2_with fail
  simp only [Try.sizeOf68, Result.andThen, HUMl.out, ↓reduceIte, stNew w8 68 #[.int .u8 0, .int .u8 0, .int .u8 0, .int .u8 0, .int .u8 0, .int .u64 0, .int .u8 0, .int .u64 0, .int .u8 0, .int .u8 0, .int .u8 0, .int .u8 0, .int .u8 0, .int .u8 0, .int .u8 0, .int .u8 0, .int .u8 0, .int .u8 0, .int .u8 0, .int .u8 0, .int .u8 0, .int .u8 0, .int .u8 0, .int .u8 0, .int .u8 0, .int .u8 0, .int .u8 0, .int .u8 0, .int .u8 0, .int .u8 0, .int .u8 0, .int .u8 0, .int .u8 0, .int .u8 0, .int .u8 0, .int .u8 0, .int .u8 0, .int .u8 0, .int .u8 0, .int .u8 0, .int .u8 0] Um 41 Try.sz68 rfl HUMl.out HUM1.out]
  rw [Oper.upon_skip]
  replace HLc := hide (HLc.out.alloc Um 68)
  obtain ⟨E, hE⟩ : ∃ E, w8.heap.size = E := ⟨_, rfl⟩
  rw [hE] at HLc ⊢
  generalize w8.alloc (.cells Um.toArray 68) = w9 at *
  clear hE
  have HUS : Hid (msv (stamp (P.box c) M) = Um) := by show _ = _; rw [← HUM.out, sndM, if_neg (by have := HNN.out; omega)]
  go_upto_region 13 with fail
  obtain ⟨n, hn⟩ : ∃ n, r.stm.length = n := ⟨_, rfl⟩
  have HN := hide hn
  have hnl : n ≤ 1001 := by rw [← hn]; have := HSZ.out.s; omega
  clear hn
  obtain ⟨ua, uc, c1⟩ : ∃ ua uc, w9.cell? ⟨d, 4, none⟩ = some (.slice ua n uc) := by
    obtain ⟨vo, vr, vs, hrg, hrl⟩ := HLc.out.rw.rl
    obtain ⟨ua, uc, e⟩ := own_form hrl.s
    refine ⟨ua, uc, ?_⟩
    have := hrg 4 vs rfl
    rw [e, HN.out] at this
    simpa using this
  obtain ⟨i1, hi1, hz1, hy1, hb1⟩ := info_parts Try.inf68
  have HI1 := hide (show Try.prog.info? 68 = some i1 ∧ i1.zero = some (.agg (msv (List.replicate 41 0)).toArray) ∧ i1.size = 41 ∧ i1.bytes = 72 from ⟨hi1, hz1, hy1, hb1⟩)
  clear hi1 hz1 hy1 hb1
  have HE : Hid (w9.rangeAt E 0 Um) := (HLc.out.lo (E, Um) (by simp)).rg
  refine wp_region_held_drew (S := fun w' => w'.rangeAt E 0 Um) (by kernel_rfl) HE.out (fun hHeld => ?_)
  replace HLc := hide (HLc.out.below ((Below.refl w9.heap.size w9).drew))
  replace c1 := cellKeep ((Below.refl w9.heap.size w9).drew) c1
  generalize w9.drew = u2 at *
  clear HE
  refine wpAnyH_take (i := 0) (v := ?_) rfl (by kernel_rfl) (by kernel_rfl) (by kernel_rfl) (fun _ _ _ h => h) (Or.inl ⟨by rfl, ?_⟩) (by assumption) ?_
  rotate_left
  · (intro w hSw; (try dsimp only at hSw); go_simp; try (with_reducible rfl))
  try simp only [Act.put, List.getElem_toArray, List.getElem_cons_zero, List.getElem_cons_succ, List.setIfInBounds_toArray, List.set_cons_zero, List.set_cons_succ]
  refine wpAnyH_take (i := 1) (v := ?_) rfl (by kernel_rfl) (by kernel_rfl) (by kernel_rfl) (fun _ _ _ h => h) (Or.inl ⟨by rfl, ?_⟩) (by assumption) ?_
  rotate_left
  · (intro w hSw; (try dsimp only at hSw); go_simp; try (with_reducible rfl))
  try simp only [Act.put, List.getElem_toArray, List.getElem_cons_zero, List.getElem_cons_succ, List.setIfInBounds_toArray, List.set_cons_zero, List.set_cons_succ]
  refine wpAnyH_take (i := 2) (v := ?_) rfl (by kernel_rfl) (by kernel_rfl) (by kernel_rfl) (fun _ _ _ h => h) (Or.inl ⟨by rfl, ?_⟩) (by assumption) ?_
  rotate_left
  · (intro w hSw; (try dsimp only at hSw); go_simp; try (with_reducible rfl))
  try simp only [Act.put, List.getElem_toArray, List.getElem_cons_zero, List.getElem_cons_succ, List.setIfInBounds_toArray, List.set_cons_zero, List.set_cons_succ]
  refine wpAnyH_take (i := 3) (v := ?_) rfl (by kernel_rfl) (by kernel_rfl) (by kernel_rfl) (fun _ _ _ h => h) (Or.inl ⟨by rfl, ?_⟩) (by assumption) ?_
  rotate_left
  · (intro w hSw; (try dsimp only at hSw); go_simp; try (with_reducible rfl))
  try simp only [Act.put, List.getElem_toArray, List.getElem_cons_zero, List.getElem_cons_succ, List.setIfInBounds_toArray, List.set_cons_zero, List.set_cons_succ]
  refine wpAnyH_take (i := 5) rfl (by kernel_rfl) (by kernel_rfl) (by kernel_rfl) (fun _ _ _ h => h) (yieldsIf_load_mid (by rfl) 68 (.tmp 10) rfl E 0 rfl Um _ (fun w hSw => hSw) Try.underlying68 rfl (by rw [HUMl.out]; exact Try.sz68)) (by assumption) ?_
  try simp only [Act.put, List.getElem_toArray, List.getElem_cons_zero, List.getElem_cons_succ, List.setIfInBounds_toArray, List.set_cons_zero, List.set_cons_succ]
  refine wpAnyH_ready (rs := [4, 6]) (by kernel_rfl) (by simp) ?_
  refine (AllReadyH.cons rfl (fun K hK => ?_) (AllReadyH.cons rfl (fun K hK => ?_) AllReadyH.nil))
  · go_simp
    refine hK.out _ _ ?_ (fun hHeld => ?_)
    · exact hHeld
    clear hK K
    try simp only [Act.put, List.getElem_toArray, List.getElem_cons_zero, List.getElem_cons_succ, List.setIfInBounds_toArray, List.set_cons_zero, List.set_cons_succ]
    refine wpAnyH_ready (rs := [6]) (by kernel_rfl) (by simp) ?_
    refine (AllReadyH.cons rfl (fun K hK => ?_) AllReadyH.nil)
    refine step_buildS rfl 51 68 (.tmp 59) rfl Um rfl i1 _ 41 72 Try.underlying51 HI1.out.1 HI1.out.2.1 HI1.out.2.2.1 HI1.out.2.2.2 HUMl.out (by decide) (by decide) ?_
    have b4 := be1 u2 (.cells Um.toArray 68)
    have HLc4 := hide (HLc.out.below b4)
    have HZ4 := hide (newR u2 Um 68)
    have c4 := cellKeep b4 c1
    clear b4
    refine hK.out _ _ ?_ (fun hHeld => ?_)
    · exact (HLc4.out.lo (E, Um) (by simp)).rg
    clear hK K
    try simp only [Act.put, List.getElem_toArray, List.getElem_cons_zero, List.getElem_cons_succ, List.setIfInBounds_toArray, List.set_cons_zero, List.set_cons_succ]
    generalize u2.alloc (.cells Um.toArray 68) = u4 at *
    refine wpAnyH_ready (rs := [7]) (by kernel_rfl) (by simp) ?_
    refine (AllReadyH.cons rfl (fun K hK => ?_) AllReadyH.nil)
    obtain ⟨vo, vr, vs, hrg, hrl⟩ := HLc4.out.rw.rl
    have ev : vs = .slice ua n uc := by have := hrg 4 vs rfl; rw [Nat.zero_add, c4] at this; exact (Option.some.inj this).symm
    have hown0 := hrl.s
    rw [ev, HN.out] at hown0
    refine step_append_lies _ rfl (.tmp 58) (.tmp 60) 51 rfl 0 68 i1 _ 41 72 Try.underlying51 HI1.out.1 HI1.out.2.1 HI1.out.2.2.1 HI1.out.2.2.2 (by kernel_rfl) (by decide) (.slice ua n uc) n (r.stm.flatMap msv) rfl hown0 ⟨u2.heap.size, 0, none⟩ 1 1 Um rfl (by rw [HUMl.out]) (fun j u hj => by rw [Addr.add_mid]; exact HZ4.out j u hj) HUM1.out (by decide) (by unfold maxLen; omega) (by omega) (Nat.zero_le _) _ rfl ?_
    intro g2 cap2 u5 hown hgrow hat hlt2
    have hat2 : ∀ j, (Value.slice (some ⟨g2, 0, none⟩) (n + 1) cap2).ownBlock = some j → (Value.slice ua n uc).ownBlock = some j ∨ u4.heap.size ≤ j := fun j hj => by
      have e : g2 = j := by simpa [Value.ownBlock] using hj
      subst e
      exact hat.imp id fun z => by rw [z]; exact Nat.le_refl _
    have HGR := hide (HLc4.out.grown hrg hrl (i := 4) (v := .slice ua n uc) (v' := .slice (some ⟨g2, 0, none⟩) (n + 1) cap2) (.inr ⟨ev.symm, rfl⟩) hgrow hat2 { r with stm := r.stm ++ [stamp (P.box c) M] } (⟨HLc4.out.rw.ok.al, HLc4.out.rw.ok.bl, HLc4.out.rw.ok.rc, fun x hx => by rcases List.mem_append.1 hx with z | z; exact HLc4.out.rw.ok.sm x z; have e : x = stamp (P.box c) M := (by simpa using z); rw [e]; exact stamp_ok HMO.out (HSZ.out.o c)⟩) rfl (fun _ _ _ => rfl) (.inr ⟨rfl, rfl⟩) (.inl (by rw [if_pos rfl]; rw [List.length_append, List.flatMap_append, HN.out, show [stamp (P.box c) M].flatMap msv = msv (stamp (P.box c) M) by simp, HUS.out]; exact hown)))
    have exg := Ex.ofGrown (S := fun k => (Value.slice ua n uc).ownBlock = some k) hgrow (fun k e => e.symm)
    have hsb : ∀ j, (Value.slice ua n uc).ownBlock = some j → j ∈ C1 := fun j e => by rw [hrl.c]; exact mem_blks.2 ⟨vs, by simp, by rw [ev]; exact e⟩
    have HE5 : Hid (u5.rangeAt E 0 Um) := range_ex (HLc4.out.lo (E, Um) (by simp)).rg (HLc4.out.lo (E, Um) (by simp)).lt exg (fun e => (HLc4.out.lo (E, Um) (by simp)).nC (hsb _ e))
    have c5 : u5.cell? ⟨d, 4, none⟩ = some (.slice ua n uc) := exg.cell (fun e => HLc4.out.rw.dC (hsb d e)) c4
    have f5 : u5.frozen? ⟨d, 4, none⟩ = false := (exg.frozen (fun e => HLc4.out.rw.dC (hsb d e)) HLc4.out.rw.dl).trans (by have := (HLc4.out.rw.th 4 (by omega)).2; simpa using this)
    have HEd : Hid (E ≠ d) := (HLc4.out.lo (E, Um) (by simp)).nd
    clear hown hgrow hat hlt2 hat2 exg hsb c4 hrg hrl ev hown0 vo vr vs
    refine hK.out _ _ ?_ (fun hHeld => ?_)
    · exact HE5.out
    clear hK K
    try simp only [Act.put, List.getElem_toArray, List.getElem_cons_zero, List.getElem_cons_succ, List.setIfInBounds_toArray, List.set_cons_zero, List.set_cons_succ]
    refine wpAnyH_take (i := 8) (v := ?_) rfl (by kernel_rfl) (by kernel_rfl) (by kernel_rfl) (fun _ _ _ h => h) (Or.inl ⟨by rfl, ?_⟩) (by assumption) ?_
    rotate_left
    · (intro w hSw; (try dsimp only at hSw); go_simp; try (with_reducible rfl))
    try simp only [Act.put, List.getElem_toArray, List.getElem_cons_zero, List.getElem_cons_succ, List.setIfInBounds_toArray, List.set_cons_zero, List.set_cons_succ]
    refine wpAnyH_take (i := 9) (v := ?_) rfl (by kernel_rfl) (by kernel_rfl) (by kernel_rfl) (fun _ _ _ h => h) (Or.inl ⟨by rfl, ?_⟩) (by assumption) ?_
    rotate_left
    · (intro w hSw; (try dsimp only at hSw); go_simp; try (with_reducible rfl))
    try simp only [Act.put, List.getElem_toArray, List.getElem_cons_zero, List.getElem_cons_succ, List.setIfInBounds_toArray, List.set_cons_zero, List.set_cons_succ]
    refine wpAnyH_ready (rs := [10]) (by kernel_rfl) (by simp) ?_
    refine (AllReadyH.cons rfl (fun K hK => ?_) AllReadyH.nil)
    go_simp
    refine hK.out _ _ ?_ (fun hHeld => ?_)
    · exact range_set_ne HE5.out HEd.out _ _
    clear hK K
    try simp only [Act.put, List.getElem_toArray, List.getElem_cons_zero, List.getElem_cons_succ, List.setIfInBounds_toArray, List.set_cons_zero, List.set_cons_succ]
    refine wpAnyH_done (by kernel_rfl) ?_ _
    obtain ⟨C3, HLx⟩ := HGR.out
    have HLc := hide HLx
    clear HLx HGR HE5 HEd c5 f5 HZ4 HLc4 c1
    generalize u5.setCell ⟨d, 4, none⟩ (.slice (some ⟨g2, 0, none⟩) (n + 1) cap2) = u6 at *
    obtain ⟨C1, hC1⟩ : ∃ C1, C3 = C1 := ⟨_, rfl⟩
    rw [hC1] at HLc
    clear hC1 HN hnl HI1
    go_upto_region 14 with fail
    obtain ⟨n, hn⟩ : ∃ n, ({ r with stm := r.stm ++ [stamp (P.box c) M] }).rcs.length = n := ⟨_, rfl⟩
    have HN := hide hn
    have hnl : n ≤ 1001 := by rw [← hn]; have := HSZ.out.q; show r.rcs.length ≤ 1001; omega
    clear hn
    obtain ⟨ua, uc, c1⟩ : ∃ ua uc, u6.cell? ⟨d, 3, none⟩ = some (.slice ua n uc) := by
      obtain ⟨vo, vr, vs, hrg, hrl⟩ := HLc.out.rw.rl
      obtain ⟨ua, uc, e⟩ := own_form hrl.q
      refine ⟨ua, uc, ?_⟩
      have := hrg 3 vr rfl
      rw [e, HN.out] at this
      simpa using this
    obtain ⟨i1, hi1, hz1, hy1, hb1⟩ := info_parts Try.inf89
    have HI1 := hide (show Try.prog.info? 89 = some i1 ∧ i1.zero = some (.agg rcp0.vals.toArray) ∧ i1.size = 87 ∧ i1.bytes = 184 from ⟨hi1, hz1, hy1, hb1⟩)
    clear hi1 hz1 hy1 hb1
    have HE : Hid (u6.rangeAt D 0 F) := (HLc.out.lo (D, F) (by simp)).rg
    refine wp_region_held_drew (S := fun w' => w'.rangeAt D 0 F) (by kernel_rfl) HE.out (fun hHeld => ?_)
    replace HLc := hide (HLc.out.below ((Below.refl u6.heap.size u6).drew))
    replace c1 := cellKeep ((Below.refl u6.heap.size u6).drew) c1
    generalize u6.drew = v2 at *
    clear HE
    refine wpAnyH_take (i := 0) (v := ?_) rfl (by kernel_rfl) (by kernel_rfl) (by kernel_rfl) (fun _ _ _ h => h) (Or.inl ⟨by rfl, ?_⟩) (by assumption) ?_
    rotate_left
    · (intro w hSw; (try dsimp only at hSw); go_simp; try (with_reducible rfl))
    try simp only [Act.put, List.getElem_toArray, List.getElem_cons_zero, List.getElem_cons_succ, List.setIfInBounds_toArray, List.set_cons_zero, List.set_cons_succ]
    refine wpAnyH_take (i := 1) (v := ?_) rfl (by kernel_rfl) (by kernel_rfl) (by kernel_rfl) (fun _ _ _ h => h) (Or.inl ⟨by rfl, ?_⟩) (by assumption) ?_
    rotate_left
    · (intro w hSw; (try dsimp only at hSw); go_simp; try (with_reducible rfl))
    try simp only [Act.put, List.getElem_toArray, List.getElem_cons_zero, List.getElem_cons_succ, List.setIfInBounds_toArray, List.set_cons_zero, List.set_cons_succ]
    refine wpAnyH_take (i := 2) (v := ?_) rfl (by kernel_rfl) (by kernel_rfl) (by kernel_rfl) (fun _ _ _ h => h) (Or.inl ⟨by rfl, ?_⟩) (by assumption) ?_
    rotate_left
    · (intro w hSw; (try dsimp only at hSw); go_simp; try (with_reducible rfl))
    try simp only [Act.put, List.getElem_toArray, List.getElem_cons_zero, List.getElem_cons_succ, List.setIfInBounds_toArray, List.set_cons_zero, List.set_cons_succ]
    refine wpAnyH_take (i := 3) (v := ?_) rfl (by kernel_rfl) (by kernel_rfl) (by kernel_rfl) (fun _ _ _ h => h) (Or.inl ⟨by rfl, ?_⟩) (by assumption) ?_
    rotate_left
    · (intro w hSw; (try dsimp only at hSw); go_simp; try (with_reducible rfl))
    try simp only [Act.put, List.getElem_toArray, List.getElem_cons_zero, List.getElem_cons_succ, List.setIfInBounds_toArray, List.set_cons_zero, List.set_cons_succ]
    refine wpAnyH_take (i := 5) rfl (by kernel_rfl) (by kernel_rfl) (by kernel_rfl) (fun _ _ _ h => h) (yieldsIf_load_mid (by rfl) 89 (.tmp 7) rfl D 0 rfl F _ (fun w hSw => hSw) Try.underlying89 rfl (by rw [HFl.out]; exact Try.sz89)) (by assumption) ?_
    try simp only [Act.put, List.getElem_toArray, List.getElem_cons_zero, List.getElem_cons_succ, List.setIfInBounds_toArray, List.set_cons_zero, List.set_cons_succ]
    refine wpAnyH_ready (rs := [4, 6]) (by kernel_rfl) (by simp) ?_
    refine (AllReadyH.cons rfl (fun K hK => ?_) (AllReadyH.cons rfl (fun K hK => ?_) AllReadyH.nil))
    · go_simp
      refine hK.out _ _ ?_ (fun hHeld => ?_)
      · exact hHeld
      clear hK K
      try simp only [Act.put, List.getElem_toArray, List.getElem_cons_zero, List.getElem_cons_succ, List.setIfInBounds_toArray, List.set_cons_zero, List.set_cons_succ]
      refine wpAnyH_ready (rs := [6]) (by kernel_rfl) (by simp) ?_
      refine (AllReadyH.cons rfl (fun K hK => ?_) AllReadyH.nil)
      refine step_buildS rfl 61 89 (.tmp 69) rfl F rfl i1 _ 87 184 Try.underlying61 HI1.out.1 HI1.out.2.1 HI1.out.2.2.1 HI1.out.2.2.2 HFl.out (by decide) (by decide) ?_
      have b4 := be1 v2 (.cells F.toArray 89)
      have HLc4 := hide (HLc.out.below b4)
      have HZ4 := hide (newR v2 F 89)
      have c4 := cellKeep b4 c1
      clear b4
      refine hK.out _ _ ?_ (fun hHeld => ?_)
      · exact (HLc4.out.lo (D, F) (by simp)).rg
      clear hK K
      try simp only [Act.put, List.getElem_toArray, List.getElem_cons_zero, List.getElem_cons_succ, List.setIfInBounds_toArray, List.set_cons_zero, List.set_cons_succ]
      generalize v2.alloc (.cells F.toArray 89) = v4 at *
      refine wpAnyH_ready (rs := [7]) (by kernel_rfl) (by simp) ?_
      refine (AllReadyH.cons rfl (fun K hK => ?_) AllReadyH.nil)
      obtain ⟨vo, vr, vs, hrg, hrl⟩ := HLc4.out.rw.rl
      have ev : vr = .slice ua n uc := by have := hrg 3 vr rfl; rw [Nat.zero_add, c4] at this; exact (Option.some.inj this).symm
      have hown0 := hrl.q
      rw [ev, HN.out] at hown0
      refine step_append_lies _ rfl (.tmp 68) (.tmp 70) 61 rfl 0 89 i1 _ 87 184 Try.underlying61 HI1.out.1 HI1.out.2.1 HI1.out.2.2.1 HI1.out.2.2.2 (by kernel_rfl) (by decide) (.slice ua n uc) n (({ r with stm := r.stm ++ [stamp (P.box c) M] }).rcs.flatMap Rcp.vals) rfl hown0 ⟨v2.heap.size, 0, none⟩ 1 1 F rfl (by rw [HFl.out]) (fun j u hj => by rw [Addr.add_mid]; exact HZ4.out j u hj) HF1.out (by decide) (by unfold maxLen; omega) (by omega) (Nat.zero_le _) _ rfl ?_
      intro g2 cap2 v5 hown hgrow hat hlt2
      have hat2 : ∀ j, (Value.slice (some ⟨g2, 0, none⟩) (n + 1) cap2).ownBlock = some j → (Value.slice ua n uc).ownBlock = some j ∨ v4.heap.size ≤ j := fun j hj => by
        have e : g2 = j := by simpa [Value.ownBlock] using hj
        subst e
        exact hat.imp id fun z => by rw [z]; exact Nat.le_refl _
      have HGR := hide (HLc4.out.grown hrg hrl (i := 3) (v := .slice ua n uc) (v' := .slice (some ⟨g2, 0, none⟩) (n + 1) cap2) (.inl ⟨ev.symm, rfl⟩) hgrow hat2 { ({ r with stm := r.stm ++ [stamp (P.box c) M] }) with rcs := ({ r with stm := r.stm ++ [stamp (P.box c) M] }).rcs ++ [appR (P.led c) t] } (⟨HLc4.out.rw.ok.al, HLc4.out.rw.ok.bl, fun x hx => by rcases List.mem_append.1 hx with z | z; exact HLc4.out.rw.ok.rc x z; have e : x = appR (P.led c) t := (by simpa using z); rw [e]; exact HRO.out, HLc4.out.rw.ok.sm⟩) rfl (fun _ _ _ => rfl) (.inl (by rw [if_pos rfl]; rw [List.length_append, List.flatMap_append, HN.out, show [appR (P.led c) t].flatMap Rcp.vals = Rcp.vals (appR (P.led c) t) by simp, HF.out]; exact hown)) (.inr ⟨rfl, rfl⟩))
      have exg := Ex.ofGrown (S := fun k => (Value.slice ua n uc).ownBlock = some k) hgrow (fun k e => e.symm)
      have hsb : ∀ j, (Value.slice ua n uc).ownBlock = some j → j ∈ C1 := fun j e => by rw [hrl.c]; exact mem_blks.2 ⟨vr, by simp, by rw [ev]; exact e⟩
      have HE5 : Hid (v5.rangeAt D 0 F) := range_ex (HLc4.out.lo (D, F) (by simp)).rg (HLc4.out.lo (D, F) (by simp)).lt exg (fun e => (HLc4.out.lo (D, F) (by simp)).nC (hsb _ e))
      have c5 : v5.cell? ⟨d, 3, none⟩ = some (.slice ua n uc) := exg.cell (fun e => HLc4.out.rw.dC (hsb d e)) c4
      have f5 : v5.frozen? ⟨d, 3, none⟩ = false := (exg.frozen (fun e => HLc4.out.rw.dC (hsb d e)) HLc4.out.rw.dl).trans (by have := (HLc4.out.rw.th 3 (by omega)).2; simpa using this)
      have HEd : Hid (D ≠ d) := (HLc4.out.lo (D, F) (by simp)).nd
      clear hown hgrow hat hlt2 hat2 exg hsb c4 hrg hrl ev hown0 vo vr vs
      refine hK.out _ _ ?_ (fun hHeld => ?_)
      · exact HE5.out
      clear hK K
      try simp only [Act.put, List.getElem_toArray, List.getElem_cons_zero, List.getElem_cons_succ, List.setIfInBounds_toArray, List.set_cons_zero, List.set_cons_succ]
      refine wpAnyH_take (i := 8) (v := ?_) rfl (by kernel_rfl) (by kernel_rfl) (by kernel_rfl) (fun _ _ _ h => h) (Or.inl ⟨by rfl, ?_⟩) (by assumption) ?_
      rotate_left
      · (intro w hSw; (try dsimp only at hSw); go_simp; try (with_reducible rfl))
      try simp only [Act.put, List.getElem_toArray, List.getElem_cons_zero, List.getElem_cons_succ, List.setIfInBounds_toArray, List.set_cons_zero, List.set_cons_succ]
      refine wpAnyH_take (i := 9) (v := ?_) rfl (by kernel_rfl) (by kernel_rfl) (by kernel_rfl) (fun _ _ _ h => h) (Or.inl ⟨by rfl, ?_⟩) (by assumption) ?_
      rotate_left
      · (intro w hSw; (try dsimp only at hSw); go_simp; try (with_reducible rfl))
      try simp only [Act.put, List.getElem_toArray, List.getElem_cons_zero, List.getElem_cons_succ, List.setIfInBounds_toArray, List.set_cons_zero, List.set_cons_succ]
      refine wpAnyH_ready (rs := [10]) (by kernel_rfl) (by simp) ?_
      refine (AllReadyH.cons rfl (fun K hK => ?_) AllReadyH.nil)
      go_simp
      refine hK.out _ _ ?_ (fun hHeld => ?_)
      · exact range_set_ne HE5.out HEd.out _ _
      clear hK K
      try simp only [Act.put, List.getElem_toArray, List.getElem_cons_zero, List.getElem_cons_succ, List.setIfInBounds_toArray, List.set_cons_zero, List.set_cons_succ]
      refine wpAnyH_done (by kernel_rfl) ?_ _
      obtain ⟨C2, HLx⟩ := HGR.out
      have HLc := hide HLx
      clear HLx HGR HE5 HEd c5 f5 HZ4 HLc4 c1
      generalize v5.setCell ⟨d, 3, none⟩ (.slice (some ⟨g2, 0, none⟩) (n + 1) cap2) = v6 at *
      obtain ⟨g0, hg0⟩ : ∃ g, r.gas = g := ⟨_, rfl⟩
      have HG0 := hide hg0
      obtain ⟨gt, hgt⟩ : ∃ g, w64 (g0 + gasP t) = g := ⟨_, rfl⟩
      have HGT := hide hgt
      obtain ⟨gp, hgp⟩ : ∃ g, gasP t = g := ⟨_, rfl⟩
      have HGP := hide hgp
      have hwg : IntKind.u64.wrap (g0 + gp) = gt := by rw [IntKind.wrap_u64, ← hgt, ← hgp]; rfl
      have cg : v6.cell? ⟨d, 5, none⟩ = some (.int .u64 g0) := by
        obtain ⟨vo, vr, vs, hrg, hrl⟩ := HLc.out.rw.rl
        have := hrg 5 (.int .u64 g0) (by rw [← hg0]; rfl)
        simpa using this
      have fg : v6.frozen? ⟨d, 5, none⟩ = false := by have := (HLc.out.rw.th 5 (by omega)).2; simpa using this
      have cD1 : v6.cell? ⟨D, 1, none⟩ = some (.int .u64 gp) := by have := (HLc.out.lo (D, F) (by simp)).rg 1 (.int .u64 gp) (by show F[1]? = _; rw [← HF.out, HAR.out, ← hgp]; rfl); simpa using this
      clear hg0 hgt hgp
      go_upto_region 15 with fail
      go_region
      replace HLc := hide ((HLc.out.setR (j := 5) (.int .u64 gt) (legR P c t r) (fun _ _ _ => by rw [← HGT.out, ← HG0.out, HLR.out]; rfl) (by rw [HLR.out]) (by rw [HLR.out]) (by rw [HLR.out]) (by have ok := HLc.out.rw.ok; rw [HLR.out]; exact ⟨ok.al, ok.bl, ok.rc, ok.sm⟩)).below ((Below.refl (v6.setCell ⟨d, 5, none⟩ (.int .u64 gt)).heap.size (v6.setCell ⟨d, 5, none⟩ (.int .u64 gt))).drew))
      generalize (v6.setCell ⟨d, 5, none⟩ (.int .u64 gt)).drew = v7 at *
      have HRR : Hid (R (.returned (.int .i64 0)) v7) := by
        rw [← HR.out]
        refine ⟨by rw [HCZ.out], S2, C2, ?_⟩
        rw [if_pos HCZ.out, HPS.out]
        exact HLc.out.drop (List.nil_sublist _)
      clear cg fg cD1 hwg
      go_wp2
      exact HRR.out
    · refine step_buildS rfl 61 89 (.tmp 69) rfl F rfl i1 _ 87 184 Try.underlying61 HI1.out.1 HI1.out.2.1 HI1.out.2.2.1 HI1.out.2.2.2 HFl.out (by decide) (by decide) ?_
      have b4 := be1 v2 (.cells F.toArray 89)
      have HLc4 := hide (HLc.out.below b4)
      have HZ4 := hide (newR v2 F 89)
      have c4 := cellKeep b4 c1
      clear b4
      refine hK.out _ _ ?_ (fun hHeld => ?_)
      · exact (HLc4.out.lo (D, F) (by simp)).rg
      clear hK K
      try simp only [Act.put, List.getElem_toArray, List.getElem_cons_zero, List.getElem_cons_succ, List.setIfInBounds_toArray, List.set_cons_zero, List.set_cons_succ]
      generalize v2.alloc (.cells F.toArray 89) = v4 at *
      refine wpAnyH_ready (rs := [4]) (by kernel_rfl) (by simp) ?_
      refine (AllReadyH.cons rfl (fun K hK => ?_) AllReadyH.nil)
      go_simp
      refine hK.out _ _ ?_ (fun hHeld => ?_)
      · exact hHeld
      clear hK K
      try simp only [Act.put, List.getElem_toArray, List.getElem_cons_zero, List.getElem_cons_succ, List.setIfInBounds_toArray, List.set_cons_zero, List.set_cons_succ]
      refine wpAnyH_ready (rs := [7]) (by kernel_rfl) (by simp) ?_
      refine (AllReadyH.cons rfl (fun K hK => ?_) AllReadyH.nil)
      obtain ⟨vo, vr, vs, hrg, hrl⟩ := HLc4.out.rw.rl
      have ev : vr = .slice ua n uc := by have := hrg 3 vr rfl; rw [Nat.zero_add, c4] at this; exact (Option.some.inj this).symm
      have hown0 := hrl.q
      rw [ev, HN.out] at hown0
      refine step_append_lies _ rfl (.tmp 68) (.tmp 70) 61 rfl 0 89 i1 _ 87 184 Try.underlying61 HI1.out.1 HI1.out.2.1 HI1.out.2.2.1 HI1.out.2.2.2 (by kernel_rfl) (by decide) (.slice ua n uc) n (({ r with stm := r.stm ++ [stamp (P.box c) M] }).rcs.flatMap Rcp.vals) rfl hown0 ⟨v2.heap.size, 0, none⟩ 1 1 F rfl (by rw [HFl.out]) (fun j u hj => by rw [Addr.add_mid]; exact HZ4.out j u hj) HF1.out (by decide) (by unfold maxLen; omega) (by omega) (Nat.zero_le _) _ rfl ?_
      intro g2 cap2 v5 hown hgrow hat hlt2
      have hat2 : ∀ j, (Value.slice (some ⟨g2, 0, none⟩) (n + 1) cap2).ownBlock = some j → (Value.slice ua n uc).ownBlock = some j ∨ v4.heap.size ≤ j := fun j hj => by
        have e : g2 = j := by simpa [Value.ownBlock] using hj
        subst e
        exact hat.imp id fun z => by rw [z]; exact Nat.le_refl _
      have HGR := hide (HLc4.out.grown hrg hrl (i := 3) (v := .slice ua n uc) (v' := .slice (some ⟨g2, 0, none⟩) (n + 1) cap2) (.inl ⟨ev.symm, rfl⟩) hgrow hat2 { ({ r with stm := r.stm ++ [stamp (P.box c) M] }) with rcs := ({ r with stm := r.stm ++ [stamp (P.box c) M] }).rcs ++ [appR (P.led c) t] } (⟨HLc4.out.rw.ok.al, HLc4.out.rw.ok.bl, fun x hx => by rcases List.mem_append.1 hx with z | z; exact HLc4.out.rw.ok.rc x z; have e : x = appR (P.led c) t := (by simpa using z); rw [e]; exact HRO.out, HLc4.out.rw.ok.sm⟩) rfl (fun _ _ _ => rfl) (.inl (by rw [if_pos rfl]; rw [List.length_append, List.flatMap_append, HN.out, show [appR (P.led c) t].flatMap Rcp.vals = Rcp.vals (appR (P.led c) t) by simp, HF.out]; exact hown)) (.inr ⟨rfl, rfl⟩))
      have exg := Ex.ofGrown (S := fun k => (Value.slice ua n uc).ownBlock = some k) hgrow (fun k e => e.symm)
      have hsb : ∀ j, (Value.slice ua n uc).ownBlock = some j → j ∈ C1 := fun j e => by rw [hrl.c]; exact mem_blks.2 ⟨vr, by simp, by rw [ev]; exact e⟩
      have HE5 : Hid (v5.rangeAt D 0 F) := range_ex (HLc4.out.lo (D, F) (by simp)).rg (HLc4.out.lo (D, F) (by simp)).lt exg (fun e => (HLc4.out.lo (D, F) (by simp)).nC (hsb _ e))
      have c5 : v5.cell? ⟨d, 3, none⟩ = some (.slice ua n uc) := exg.cell (fun e => HLc4.out.rw.dC (hsb d e)) c4
      have f5 : v5.frozen? ⟨d, 3, none⟩ = false := (exg.frozen (fun e => HLc4.out.rw.dC (hsb d e)) HLc4.out.rw.dl).trans (by have := (HLc4.out.rw.th 3 (by omega)).2; simpa using this)
      have HEd : Hid (D ≠ d) := (HLc4.out.lo (D, F) (by simp)).nd
      clear hown hgrow hat hlt2 hat2 exg hsb c4 hrg hrl ev hown0 vo vr vs
      refine hK.out _ _ ?_ (fun hHeld => ?_)
      · exact HE5.out
      clear hK K
      try simp only [Act.put, List.getElem_toArray, List.getElem_cons_zero, List.getElem_cons_succ, List.setIfInBounds_toArray, List.set_cons_zero, List.set_cons_succ]
      refine wpAnyH_take (i := 8) (v := ?_) rfl (by kernel_rfl) (by kernel_rfl) (by kernel_rfl) (fun _ _ _ h => h) (Or.inl ⟨by rfl, ?_⟩) (by assumption) ?_
      rotate_left
      · (intro w hSw; (try dsimp only at hSw); go_simp; try (with_reducible rfl))
      try simp only [Act.put, List.getElem_toArray, List.getElem_cons_zero, List.getElem_cons_succ, List.setIfInBounds_toArray, List.set_cons_zero, List.set_cons_succ]
      refine wpAnyH_take (i := 9) (v := ?_) rfl (by kernel_rfl) (by kernel_rfl) (by kernel_rfl) (fun _ _ _ h => h) (Or.inl ⟨by rfl, ?_⟩) (by assumption) ?_
      rotate_left
      · (intro w hSw; (try dsimp only at hSw); go_simp; try (with_reducible rfl))
      try simp only [Act.put, List.getElem_toArray, List.getElem_cons_zero, List.getElem_cons_succ, List.setIfInBounds_toArray, List.set_cons_zero, List.set_cons_succ]
      refine wpAnyH_ready (rs := [10]) (by kernel_rfl) (by simp) ?_
      refine (AllReadyH.cons rfl (fun K hK => ?_) AllReadyH.nil)
      go_simp
      refine hK.out _ _ ?_ (fun hHeld => ?_)
      · exact range_set_ne HE5.out HEd.out _ _
      clear hK K
      try simp only [Act.put, List.getElem_toArray, List.getElem_cons_zero, List.getElem_cons_succ, List.setIfInBounds_toArray, List.set_cons_zero, List.set_cons_succ]
      refine wpAnyH_done (by kernel_rfl) ?_ _
      obtain ⟨C2, HLx⟩ := HGR.out
      have HLc := hide HLx
      clear HLx HGR HE5 HEd c5 f5 HZ4 HLc4 c1
      generalize v5.setCell ⟨d, 3, none⟩ (.slice (some ⟨g2, 0, none⟩) (n + 1) cap2) = v6 at *
      obtain ⟨g0, hg0⟩ : ∃ g, r.gas = g := ⟨_, rfl⟩
      have HG0 := hide hg0
      obtain ⟨gt, hgt⟩ : ∃ g, w64 (g0 + gasP t) = g := ⟨_, rfl⟩
      have HGT := hide hgt
      obtain ⟨gp, hgp⟩ : ∃ g, gasP t = g := ⟨_, rfl⟩
      have HGP := hide hgp
      have hwg : IntKind.u64.wrap (g0 + gp) = gt := by rw [IntKind.wrap_u64, ← hgt, ← hgp]; rfl
      have cg : v6.cell? ⟨d, 5, none⟩ = some (.int .u64 g0) := by
        obtain ⟨vo, vr, vs, hrg, hrl⟩ := HLc.out.rw.rl
        have := hrg 5 (.int .u64 g0) (by rw [← hg0]; rfl)
        simpa using this
      have fg : v6.frozen? ⟨d, 5, none⟩ = false := by have := (HLc.out.rw.th 5 (by omega)).2; simpa using this
      have cD1 : v6.cell? ⟨D, 1, none⟩ = some (.int .u64 gp) := by have := (HLc.out.lo (D, F) (by simp)).rg 1 (.int .u64 gp) (by show F[1]? = _; rw [← HF.out, HAR.out, ← hgp]; rfl); simpa using this
      clear hg0 hgt hgp
      go_upto_region 15 with fail
      go_region
      replace HLc := hide ((HLc.out.setR (j := 5) (.int .u64 gt) (legR P c t r) (fun _ _ _ => by rw [← HGT.out, ← HG0.out, HLR.out]; rfl) (by rw [HLR.out]) (by rw [HLR.out]) (by rw [HLR.out]) (by have ok := HLc.out.rw.ok; rw [HLR.out]; exact ⟨ok.al, ok.bl, ok.rc, ok.sm⟩)).below ((Below.refl (v6.setCell ⟨d, 5, none⟩ (.int .u64 gt)).heap.size (v6.setCell ⟨d, 5, none⟩ (.int .u64 gt))).drew))
      generalize (v6.setCell ⟨d, 5, none⟩ (.int .u64 gt)).drew = v7 at *
      have HRR : Hid (R (.returned (.int .i64 0)) v7) := by
        rw [← HR.out]
        refine ⟨by rw [HCZ.out], S2, C2, ?_⟩
        rw [if_pos HCZ.out, HPS.out]
        exact HLc.out.drop (List.nil_sublist _)
      clear cg fg cD1 hwg
      go_wp2
      exact HRR.out
  · refine step_buildS rfl 51 68 (.tmp 59) rfl Um rfl i1 _ 41 72 Try.underlying51 HI1.out.1 HI1.out.2.1 HI1.out.2.2.1 HI1.out.2.2.2 HUMl.out (by decide) (by decide) ?_
    have b4 := be1 u2 (.cells Um.toArray 68)
    have HLc4 := hide (HLc.out.below b4)
    have HZ4 := hide (newR u2 Um 68)
    have c4 := cellKeep b4 c1
    clear b4
    refine hK.out _ _ ?_ (fun hHeld => ?_)
    · exact (HLc4.out.lo (E, Um) (by simp)).rg
    clear hK K
    try simp only [Act.put, List.getElem_toArray, List.getElem_cons_zero, List.getElem_cons_succ, List.setIfInBounds_toArray, List.set_cons_zero, List.set_cons_succ]
    generalize u2.alloc (.cells Um.toArray 68) = u4 at *
    refine wpAnyH_ready (rs := [4]) (by kernel_rfl) (by simp) ?_
    refine (AllReadyH.cons rfl (fun K hK => ?_) AllReadyH.nil)
    go_simp
    refine hK.out _ _ ?_ (fun hHeld => ?_)
    · exact hHeld
    clear hK K
    try simp only [Act.put, List.getElem_toArray, List.getElem_cons_zero, List.getElem_cons_succ, List.setIfInBounds_toArray, List.set_cons_zero, List.set_cons_succ]
    refine wpAnyH_ready (rs := [7]) (by kernel_rfl) (by simp) ?_
    refine (AllReadyH.cons rfl (fun K hK => ?_) AllReadyH.nil)
    obtain ⟨vo, vr, vs, hrg, hrl⟩ := HLc4.out.rw.rl
    have ev : vs = .slice ua n uc := by have := hrg 4 vs rfl; rw [Nat.zero_add, c4] at this; exact (Option.some.inj this).symm
    have hown0 := hrl.s
    rw [ev, HN.out] at hown0
    refine step_append_lies _ rfl (.tmp 58) (.tmp 60) 51 rfl 0 68 i1 _ 41 72 Try.underlying51 HI1.out.1 HI1.out.2.1 HI1.out.2.2.1 HI1.out.2.2.2 (by kernel_rfl) (by decide) (.slice ua n uc) n (r.stm.flatMap msv) rfl hown0 ⟨u2.heap.size, 0, none⟩ 1 1 Um rfl (by rw [HUMl.out]) (fun j u hj => by rw [Addr.add_mid]; exact HZ4.out j u hj) HUM1.out (by decide) (by unfold maxLen; omega) (by omega) (Nat.zero_le _) _ rfl ?_
    intro g2 cap2 u5 hown hgrow hat hlt2
    have hat2 : ∀ j, (Value.slice (some ⟨g2, 0, none⟩) (n + 1) cap2).ownBlock = some j → (Value.slice ua n uc).ownBlock = some j ∨ u4.heap.size ≤ j := fun j hj => by
      have e : g2 = j := by simpa [Value.ownBlock] using hj
      subst e
      exact hat.imp id fun z => by rw [z]; exact Nat.le_refl _
    have HGR := hide (HLc4.out.grown hrg hrl (i := 4) (v := .slice ua n uc) (v' := .slice (some ⟨g2, 0, none⟩) (n + 1) cap2) (.inr ⟨ev.symm, rfl⟩) hgrow hat2 { r with stm := r.stm ++ [stamp (P.box c) M] } (⟨HLc4.out.rw.ok.al, HLc4.out.rw.ok.bl, HLc4.out.rw.ok.rc, fun x hx => by rcases List.mem_append.1 hx with z | z; exact HLc4.out.rw.ok.sm x z; have e : x = stamp (P.box c) M := (by simpa using z); rw [e]; exact stamp_ok HMO.out (HSZ.out.o c)⟩) rfl (fun _ _ _ => rfl) (.inr ⟨rfl, rfl⟩) (.inl (by rw [if_pos rfl]; rw [List.length_append, List.flatMap_append, HN.out, show [stamp (P.box c) M].flatMap msv = msv (stamp (P.box c) M) by simp, HUS.out]; exact hown)))
    have exg := Ex.ofGrown (S := fun k => (Value.slice ua n uc).ownBlock = some k) hgrow (fun k e => e.symm)
    have hsb : ∀ j, (Value.slice ua n uc).ownBlock = some j → j ∈ C1 := fun j e => by rw [hrl.c]; exact mem_blks.2 ⟨vs, by simp, by rw [ev]; exact e⟩
    have HE5 : Hid (u5.rangeAt E 0 Um) := range_ex (HLc4.out.lo (E, Um) (by simp)).rg (HLc4.out.lo (E, Um) (by simp)).lt exg (fun e => (HLc4.out.lo (E, Um) (by simp)).nC (hsb _ e))
    have c5 : u5.cell? ⟨d, 4, none⟩ = some (.slice ua n uc) := exg.cell (fun e => HLc4.out.rw.dC (hsb d e)) c4
    have f5 : u5.frozen? ⟨d, 4, none⟩ = false := (exg.frozen (fun e => HLc4.out.rw.dC (hsb d e)) HLc4.out.rw.dl).trans (by have := (HLc4.out.rw.th 4 (by omega)).2; simpa using this)
    have HEd : Hid (E ≠ d) := (HLc4.out.lo (E, Um) (by simp)).nd
    clear hown hgrow hat hlt2 hat2 exg hsb c4 hrg hrl ev hown0 vo vr vs
    refine hK.out _ _ ?_ (fun hHeld => ?_)
    · exact HE5.out
    clear hK K
    try simp only [Act.put, List.getElem_toArray, List.getElem_cons_zero, List.getElem_cons_succ, List.setIfInBounds_toArray, List.set_cons_zero, List.set_cons_succ]
    refine wpAnyH_take (i := 8) (v := ?_) rfl (by kernel_rfl) (by kernel_rfl) (by kernel_rfl) (fun _ _ _ h => h) (Or.inl ⟨by rfl, ?_⟩) (by assumption) ?_
    rotate_left
    · (intro w hSw; (try dsimp only at hSw); go_simp; try (with_reducible rfl))
    try simp only [Act.put, List.getElem_toArray, List.getElem_cons_zero, List.getElem_cons_succ, List.setIfInBounds_toArray, List.set_cons_zero, List.set_cons_succ]
    refine wpAnyH_take (i := 9) (v := ?_) rfl (by kernel_rfl) (by kernel_rfl) (by kernel_rfl) (fun _ _ _ h => h) (Or.inl ⟨by rfl, ?_⟩) (by assumption) ?_
    rotate_left
    · (intro w hSw; (try dsimp only at hSw); go_simp; try (with_reducible rfl))
    try simp only [Act.put, List.getElem_toArray, List.getElem_cons_zero, List.getElem_cons_succ, List.setIfInBounds_toArray, List.set_cons_zero, List.set_cons_succ]
    refine wpAnyH_ready (rs := [10]) (by kernel_rfl) (by simp) ?_
    refine (AllReadyH.cons rfl (fun K hK => ?_) AllReadyH.nil)
    go_simp
    refine hK.out _ _ ?_ (fun hHeld => ?_)
    · exact range_set_ne HE5.out HEd.out _ _
    clear hK K
    try simp only [Act.put, List.getElem_toArray, List.getElem_cons_zero, List.getElem_cons_succ, List.setIfInBounds_toArray, List.set_cons_zero, List.set_cons_succ]
    refine wpAnyH_done (by kernel_rfl) ?_ _
    obtain ⟨C3, HLx⟩ := HGR.out
    have HLc := hide HLx
    clear HLx HGR HE5 HEd c5 f5 HZ4 HLc4 c1
    generalize u5.setCell ⟨d, 4, none⟩ (.slice (some ⟨g2, 0, none⟩) (n + 1) cap2) = u6 at *
    obtain ⟨C1, hC1⟩ : ∃ C1, C3 = C1 := ⟨_, rfl⟩
    rw [hC1] at HLc
    clear hC1 HN hnl HI1
    go_upto_region 14 with fail
    obtain ⟨n, hn⟩ : ∃ n, ({ r with stm := r.stm ++ [stamp (P.box c) M] }).rcs.length = n := ⟨_, rfl⟩
    have HN := hide hn
    have hnl : n ≤ 1001 := by rw [← hn]; have := HSZ.out.q; show r.rcs.length ≤ 1001; omega
    clear hn
    obtain ⟨ua, uc, c1⟩ : ∃ ua uc, u6.cell? ⟨d, 3, none⟩ = some (.slice ua n uc) := by
      obtain ⟨vo, vr, vs, hrg, hrl⟩ := HLc.out.rw.rl
      obtain ⟨ua, uc, e⟩ := own_form hrl.q
      refine ⟨ua, uc, ?_⟩
      have := hrg 3 vr rfl
      rw [e, HN.out] at this
      simpa using this
    obtain ⟨i1, hi1, hz1, hy1, hb1⟩ := info_parts Try.inf89
    have HI1 := hide (show Try.prog.info? 89 = some i1 ∧ i1.zero = some (.agg rcp0.vals.toArray) ∧ i1.size = 87 ∧ i1.bytes = 184 from ⟨hi1, hz1, hy1, hb1⟩)
    clear hi1 hz1 hy1 hb1
    have HE : Hid (u6.rangeAt D 0 F) := (HLc.out.lo (D, F) (by simp)).rg
    refine wp_region_held_drew (S := fun w' => w'.rangeAt D 0 F) (by kernel_rfl) HE.out (fun hHeld => ?_)
    replace HLc := hide (HLc.out.below ((Below.refl u6.heap.size u6).drew))
    replace c1 := cellKeep ((Below.refl u6.heap.size u6).drew) c1
    generalize u6.drew = v2 at *
    clear HE
    refine wpAnyH_take (i := 0) (v := ?_) rfl (by kernel_rfl) (by kernel_rfl) (by kernel_rfl) (fun _ _ _ h => h) (Or.inl ⟨by rfl, ?_⟩) (by assumption) ?_
    rotate_left
    · (intro w hSw; (try dsimp only at hSw); go_simp; try (with_reducible rfl))
    try simp only [Act.put, List.getElem_toArray, List.getElem_cons_zero, List.getElem_cons_succ, List.setIfInBounds_toArray, List.set_cons_zero, List.set_cons_succ]
    refine wpAnyH_take (i := 1) (v := ?_) rfl (by kernel_rfl) (by kernel_rfl) (by kernel_rfl) (fun _ _ _ h => h) (Or.inl ⟨by rfl, ?_⟩) (by assumption) ?_
    rotate_left
    · (intro w hSw; (try dsimp only at hSw); go_simp; try (with_reducible rfl))
    try simp only [Act.put, List.getElem_toArray, List.getElem_cons_zero, List.getElem_cons_succ, List.setIfInBounds_toArray, List.set_cons_zero, List.set_cons_succ]
    refine wpAnyH_take (i := 2) (v := ?_) rfl (by kernel_rfl) (by kernel_rfl) (by kernel_rfl) (fun _ _ _ h => h) (Or.inl ⟨by rfl, ?_⟩) (by assumption) ?_
    rotate_left
    · (intro w hSw; (try dsimp only at hSw); go_simp; try (with_reducible rfl))
    try simp only [Act.put, List.getElem_toArray, List.getElem_cons_zero, List.getElem_cons_succ, List.setIfInBounds_toArray, List.set_cons_zero, List.set_cons_succ]
    refine wpAnyH_take (i := 3) (v := ?_) rfl (by kernel_rfl) (by kernel_rfl) (by kernel_rfl) (fun _ _ _ h => h) (Or.inl ⟨by rfl, ?_⟩) (by assumption) ?_
    rotate_left
    · (intro w hSw; (try dsimp only at hSw); go_simp; try (with_reducible rfl))
    try simp only [Act.put, List.getElem_toArray, List.getElem_cons_zero, List.getElem_cons_succ, List.setIfInBounds_toArray, List.set_cons_zero, List.set_cons_succ]
    refine wpAnyH_take (i := 5) rfl (by kernel_rfl) (by kernel_rfl) (by kernel_rfl) (fun _ _ _ h => h) (yieldsIf_load_mid (by rfl) 89 (.tmp 7) rfl D 0 rfl F _ (fun w hSw => hSw) Try.underlying89 rfl (by rw [HFl.out]; exact Try.sz89)) (by assumption) ?_
    try simp only [Act.put, List.getElem_toArray, List.getElem_cons_zero, List.getElem_cons_succ, List.setIfInBounds_toArray, List.set_cons_zero, List.set_cons_succ]
    refine wpAnyH_ready (rs := [4, 6]) (by kernel_rfl) (by simp) ?_
    refine (AllReadyH.cons rfl (fun K hK => ?_) (AllReadyH.cons rfl (fun K hK => ?_) AllReadyH.nil))
    · go_simp
      refine hK.out _ _ ?_ (fun hHeld => ?_)
      · exact hHeld
      clear hK K
      try simp only [Act.put, List.getElem_toArray, List.getElem_cons_zero, List.getElem_cons_succ, List.setIfInBounds_toArray, List.set_cons_zero, List.set_cons_succ]
      refine wpAnyH_ready (rs := [6]) (by kernel_rfl) (by simp) ?_
      refine (AllReadyH.cons rfl (fun K hK => ?_) AllReadyH.nil)
      refine step_buildS rfl 61 89 (.tmp 69) rfl F rfl i1 _ 87 184 Try.underlying61 HI1.out.1 HI1.out.2.1 HI1.out.2.2.1 HI1.out.2.2.2 HFl.out (by decide) (by decide) ?_
      have b4 := be1 v2 (.cells F.toArray 89)
      have HLc4 := hide (HLc.out.below b4)
      have HZ4 := hide (newR v2 F 89)
      have c4 := cellKeep b4 c1
      clear b4
      refine hK.out _ _ ?_ (fun hHeld => ?_)
      · exact (HLc4.out.lo (D, F) (by simp)).rg
      clear hK K
      try simp only [Act.put, List.getElem_toArray, List.getElem_cons_zero, List.getElem_cons_succ, List.setIfInBounds_toArray, List.set_cons_zero, List.set_cons_succ]
      generalize v2.alloc (.cells F.toArray 89) = v4 at *
      refine wpAnyH_ready (rs := [7]) (by kernel_rfl) (by simp) ?_
      refine (AllReadyH.cons rfl (fun K hK => ?_) AllReadyH.nil)
      obtain ⟨vo, vr, vs, hrg, hrl⟩ := HLc4.out.rw.rl
      have ev : vr = .slice ua n uc := by have := hrg 3 vr rfl; rw [Nat.zero_add, c4] at this; exact (Option.some.inj this).symm
      have hown0 := hrl.q
      rw [ev, HN.out] at hown0
      refine step_append_lies _ rfl (.tmp 68) (.tmp 70) 61 rfl 0 89 i1 _ 87 184 Try.underlying61 HI1.out.1 HI1.out.2.1 HI1.out.2.2.1 HI1.out.2.2.2 (by kernel_rfl) (by decide) (.slice ua n uc) n (({ r with stm := r.stm ++ [stamp (P.box c) M] }).rcs.flatMap Rcp.vals) rfl hown0 ⟨v2.heap.size, 0, none⟩ 1 1 F rfl (by rw [HFl.out]) (fun j u hj => by rw [Addr.add_mid]; exact HZ4.out j u hj) HF1.out (by decide) (by unfold maxLen; omega) (by omega) (Nat.zero_le _) _ rfl ?_
      intro g2 cap2 v5 hown hgrow hat hlt2
      have hat2 : ∀ j, (Value.slice (some ⟨g2, 0, none⟩) (n + 1) cap2).ownBlock = some j → (Value.slice ua n uc).ownBlock = some j ∨ v4.heap.size ≤ j := fun j hj => by
        have e : g2 = j := by simpa [Value.ownBlock] using hj
        subst e
        exact hat.imp id fun z => by rw [z]; exact Nat.le_refl _
      have HGR := hide (HLc4.out.grown hrg hrl (i := 3) (v := .slice ua n uc) (v' := .slice (some ⟨g2, 0, none⟩) (n + 1) cap2) (.inl ⟨ev.symm, rfl⟩) hgrow hat2 { ({ r with stm := r.stm ++ [stamp (P.box c) M] }) with rcs := ({ r with stm := r.stm ++ [stamp (P.box c) M] }).rcs ++ [appR (P.led c) t] } (⟨HLc4.out.rw.ok.al, HLc4.out.rw.ok.bl, fun x hx => by rcases List.mem_append.1 hx with z | z; exact HLc4.out.rw.ok.rc x z; have e : x = appR (P.led c) t := (by simpa using z); rw [e]; exact HRO.out, HLc4.out.rw.ok.sm⟩) rfl (fun _ _ _ => rfl) (.inl (by rw [if_pos rfl]; rw [List.length_append, List.flatMap_append, HN.out, show [appR (P.led c) t].flatMap Rcp.vals = Rcp.vals (appR (P.led c) t) by simp, HF.out]; exact hown)) (.inr ⟨rfl, rfl⟩))
      have exg := Ex.ofGrown (S := fun k => (Value.slice ua n uc).ownBlock = some k) hgrow (fun k e => e.symm)
      have hsb : ∀ j, (Value.slice ua n uc).ownBlock = some j → j ∈ C1 := fun j e => by rw [hrl.c]; exact mem_blks.2 ⟨vr, by simp, by rw [ev]; exact e⟩
      have HE5 : Hid (v5.rangeAt D 0 F) := range_ex (HLc4.out.lo (D, F) (by simp)).rg (HLc4.out.lo (D, F) (by simp)).lt exg (fun e => (HLc4.out.lo (D, F) (by simp)).nC (hsb _ e))
      have c5 : v5.cell? ⟨d, 3, none⟩ = some (.slice ua n uc) := exg.cell (fun e => HLc4.out.rw.dC (hsb d e)) c4
      have f5 : v5.frozen? ⟨d, 3, none⟩ = false := (exg.frozen (fun e => HLc4.out.rw.dC (hsb d e)) HLc4.out.rw.dl).trans (by have := (HLc4.out.rw.th 3 (by omega)).2; simpa using this)
      have HEd : Hid (D ≠ d) := (HLc4.out.lo (D, F) (by simp)).nd
      clear hown hgrow hat hlt2 hat2 exg hsb c4 hrg hrl ev hown0 vo vr vs
      refine hK.out _ _ ?_ (fun hHeld => ?_)
      · exact HE5.out
      clear hK K
      try simp only [Act.put, List.getElem_toArray, List.getElem_cons_zero, List.getElem_cons_succ, List.setIfInBounds_toArray, List.set_cons_zero, List.set_cons_succ]
      refine wpAnyH_take (i := 8) (v := ?_) rfl (by kernel_rfl) (by kernel_rfl) (by kernel_rfl) (fun _ _ _ h => h) (Or.inl ⟨by rfl, ?_⟩) (by assumption) ?_
      rotate_left
      · (intro w hSw; (try dsimp only at hSw); go_simp; try (with_reducible rfl))
      try simp only [Act.put, List.getElem_toArray, List.getElem_cons_zero, List.getElem_cons_succ, List.setIfInBounds_toArray, List.set_cons_zero, List.set_cons_succ]
      refine wpAnyH_take (i := 9) (v := ?_) rfl (by kernel_rfl) (by kernel_rfl) (by kernel_rfl) (fun _ _ _ h => h) (Or.inl ⟨by rfl, ?_⟩) (by assumption) ?_
      rotate_left
      · (intro w hSw; (try dsimp only at hSw); go_simp; try (with_reducible rfl))
      try simp only [Act.put, List.getElem_toArray, List.getElem_cons_zero, List.getElem_cons_succ, List.setIfInBounds_toArray, List.set_cons_zero, List.set_cons_succ]
      refine wpAnyH_ready (rs := [10]) (by kernel_rfl) (by simp) ?_
      refine (AllReadyH.cons rfl (fun K hK => ?_) AllReadyH.nil)
      go_simp
      refine hK.out _ _ ?_ (fun hHeld => ?_)
      · exact range_set_ne HE5.out HEd.out _ _
      clear hK K
      try simp only [Act.put, List.getElem_toArray, List.getElem_cons_zero, List.getElem_cons_succ, List.setIfInBounds_toArray, List.set_cons_zero, List.set_cons_succ]
      refine wpAnyH_done (by kernel_rfl) ?_ _
      obtain ⟨C2, HLx⟩ := HGR.out
      have HLc := hide HLx
      clear HLx HGR HE5 HEd c5 f5 HZ4 HLc4 c1
      generalize v5.setCell ⟨d, 3, none⟩ (.slice (some ⟨g2, 0, none⟩) (n + 1) cap2) = v6 at *
      obtain ⟨g0, hg0⟩ : ∃ g, r.gas = g := ⟨_, rfl⟩
      have HG0 := hide hg0
      obtain ⟨gt, hgt⟩ : ∃ g, w64 (g0 + gasP t) = g := ⟨_, rfl⟩
      have HGT := hide hgt
      obtain ⟨gp, hgp⟩ : ∃ g, gasP t = g := ⟨_, rfl⟩
      have HGP := hide hgp
      have hwg : IntKind.u64.wrap (g0 + gp) = gt := by rw [IntKind.wrap_u64, ← hgt, ← hgp]; rfl
      have cg : v6.cell? ⟨d, 5, none⟩ = some (.int .u64 g0) := by
        obtain ⟨vo, vr, vs, hrg, hrl⟩ := HLc.out.rw.rl
        have := hrg 5 (.int .u64 g0) (by rw [← hg0]; rfl)
        simpa using this
      have fg : v6.frozen? ⟨d, 5, none⟩ = false := by have := (HLc.out.rw.th 5 (by omega)).2; simpa using this
      have cD1 : v6.cell? ⟨D, 1, none⟩ = some (.int .u64 gp) := by have := (HLc.out.lo (D, F) (by simp)).rg 1 (.int .u64 gp) (by show F[1]? = _; rw [← HF.out, HAR.out, ← hgp]; rfl); simpa using this
      clear hg0 hgt hgp
      go_upto_region 15 with fail
      go_region
      replace HLc := hide ((HLc.out.setR (j := 5) (.int .u64 gt) (legR P c t r) (fun _ _ _ => by rw [← HGT.out, ← HG0.out, HLR.out]; rfl) (by rw [HLR.out]) (by rw [HLR.out]) (by rw [HLR.out]) (by have ok := HLc.out.rw.ok; rw [HLR.out]; exact ⟨ok.al, ok.bl, ok.rc, ok.sm⟩)).below ((Below.refl (v6.setCell ⟨d, 5, none⟩ (.int .u64 gt)).heap.size (v6.setCell ⟨d, 5, none⟩ (.int .u64 gt))).drew))
      generalize (v6.setCell ⟨d, 5, none⟩ (.int .u64 gt)).drew = v7 at *
      have HRR : Hid (R (.returned (.int .i64 0)) v7) := by
        rw [← HR.out]
        refine ⟨by rw [HCZ.out], S2, C2, ?_⟩
        rw [if_pos HCZ.out, HPS.out]
        exact HLc.out.drop (List.nil_sublist _)
      clear cg fg cD1 hwg
      go_wp2
      exact HRR.out
    · refine step_buildS rfl 61 89 (.tmp 69) rfl F rfl i1 _ 87 184 Try.underlying61 HI1.out.1 HI1.out.2.1 HI1.out.2.2.1 HI1.out.2.2.2 HFl.out (by decide) (by decide) ?_
      have b4 := be1 v2 (.cells F.toArray 89)
      have HLc4 := hide (HLc.out.below b4)
      have HZ4 := hide (newR v2 F 89)
      have c4 := cellKeep b4 c1
      clear b4
      refine hK.out _ _ ?_ (fun hHeld => ?_)
      · exact (HLc4.out.lo (D, F) (by simp)).rg
      clear hK K
      try simp only [Act.put, List.getElem_toArray, List.getElem_cons_zero, List.getElem_cons_succ, List.setIfInBounds_toArray, List.set_cons_zero, List.set_cons_succ]
      generalize v2.alloc (.cells F.toArray 89) = v4 at *
      refine wpAnyH_ready (rs := [4]) (by kernel_rfl) (by simp) ?_
      refine (AllReadyH.cons rfl (fun K hK => ?_) AllReadyH.nil)
      go_simp
      refine hK.out _ _ ?_ (fun hHeld => ?_)
      · exact hHeld
      clear hK K
      try simp only [Act.put, List.getElem_toArray, List.getElem_cons_zero, List.getElem_cons_succ, List.setIfInBounds_toArray, List.set_cons_zero, List.set_cons_succ]
      refine wpAnyH_ready (rs := [7]) (by kernel_rfl) (by simp) ?_
      refine (AllReadyH.cons rfl (fun K hK => ?_) AllReadyH.nil)
      obtain ⟨vo, vr, vs, hrg, hrl⟩ := HLc4.out.rw.rl
      have ev : vr = .slice ua n uc := by have := hrg 3 vr rfl; rw [Nat.zero_add, c4] at this; exact (Option.some.inj this).symm
      have hown0 := hrl.q
      rw [ev, HN.out] at hown0
      refine step_append_lies _ rfl (.tmp 68) (.tmp 70) 61 rfl 0 89 i1 _ 87 184 Try.underlying61 HI1.out.1 HI1.out.2.1 HI1.out.2.2.1 HI1.out.2.2.2 (by kernel_rfl) (by decide) (.slice ua n uc) n (({ r with stm := r.stm ++ [stamp (P.box c) M] }).rcs.flatMap Rcp.vals) rfl hown0 ⟨v2.heap.size, 0, none⟩ 1 1 F rfl (by rw [HFl.out]) (fun j u hj => by rw [Addr.add_mid]; exact HZ4.out j u hj) HF1.out (by decide) (by unfold maxLen; omega) (by omega) (Nat.zero_le _) _ rfl ?_
      intro g2 cap2 v5 hown hgrow hat hlt2
      have hat2 : ∀ j, (Value.slice (some ⟨g2, 0, none⟩) (n + 1) cap2).ownBlock = some j → (Value.slice ua n uc).ownBlock = some j ∨ v4.heap.size ≤ j := fun j hj => by
        have e : g2 = j := by simpa [Value.ownBlock] using hj
        subst e
        exact hat.imp id fun z => by rw [z]; exact Nat.le_refl _
      have HGR := hide (HLc4.out.grown hrg hrl (i := 3) (v := .slice ua n uc) (v' := .slice (some ⟨g2, 0, none⟩) (n + 1) cap2) (.inl ⟨ev.symm, rfl⟩) hgrow hat2 { ({ r with stm := r.stm ++ [stamp (P.box c) M] }) with rcs := ({ r with stm := r.stm ++ [stamp (P.box c) M] }).rcs ++ [appR (P.led c) t] } (⟨HLc4.out.rw.ok.al, HLc4.out.rw.ok.bl, fun x hx => by rcases List.mem_append.1 hx with z | z; exact HLc4.out.rw.ok.rc x z; have e : x = appR (P.led c) t := (by simpa using z); rw [e]; exact HRO.out, HLc4.out.rw.ok.sm⟩) rfl (fun _ _ _ => rfl) (.inl (by rw [if_pos rfl]; rw [List.length_append, List.flatMap_append, HN.out, show [appR (P.led c) t].flatMap Rcp.vals = Rcp.vals (appR (P.led c) t) by simp, HF.out]; exact hown)) (.inr ⟨rfl, rfl⟩))
      have exg := Ex.ofGrown (S := fun k => (Value.slice ua n uc).ownBlock = some k) hgrow (fun k e => e.symm)
      have hsb : ∀ j, (Value.slice ua n uc).ownBlock = some j → j ∈ C1 := fun j e => by rw [hrl.c]; exact mem_blks.2 ⟨vr, by simp, by rw [ev]; exact e⟩
      have HE5 : Hid (v5.rangeAt D 0 F) := range_ex (HLc4.out.lo (D, F) (by simp)).rg (HLc4.out.lo (D, F) (by simp)).lt exg (fun e => (HLc4.out.lo (D, F) (by simp)).nC (hsb _ e))
      have c5 : v5.cell? ⟨d, 3, none⟩ = some (.slice ua n uc) := exg.cell (fun e => HLc4.out.rw.dC (hsb d e)) c4
      have f5 : v5.frozen? ⟨d, 3, none⟩ = false := (exg.frozen (fun e => HLc4.out.rw.dC (hsb d e)) HLc4.out.rw.dl).trans (by have := (HLc4.out.rw.th 3 (by omega)).2; simpa using this)
      have HEd : Hid (D ≠ d) := (HLc4.out.lo (D, F) (by simp)).nd
      clear hown hgrow hat hlt2 hat2 exg hsb c4 hrg hrl ev hown0 vo vr vs
      refine hK.out _ _ ?_ (fun hHeld => ?_)
      · exact HE5.out
      clear hK K
      try simp only [Act.put, List.getElem_toArray, List.getElem_cons_zero, List.getElem_cons_succ, List.setIfInBounds_toArray, List.set_cons_zero, List.set_cons_succ]
      refine wpAnyH_take (i := 8) (v := ?_) rfl (by kernel_rfl) (by kernel_rfl) (by kernel_rfl) (fun _ _ _ h => h) (Or.inl ⟨by rfl, ?_⟩) (by assumption) ?_
      rotate_left
      · (intro w hSw; (try dsimp only at hSw); go_simp; try (with_reducible rfl))
      try simp only [Act.put, List.getElem_toArray, List.getElem_cons_zero, List.getElem_cons_succ, List.setIfInBounds_toArray, List.set_cons_zero, List.set_cons_succ]
      refine wpAnyH_take (i := 9) (v := ?_) rfl (by kernel_rfl) (by kernel_rfl) (by kernel_rfl) (fun _ _ _ h => h) (Or.inl ⟨by rfl, ?_⟩) (by assumption) ?_
      rotate_left
      · (intro w hSw; (try dsimp only at hSw); go_simp; try (with_reducible rfl))
      try simp only [Act.put, List.getElem_toArray, List.getElem_cons_zero, List.getElem_cons_succ, List.setIfInBounds_toArray, List.set_cons_zero, List.set_cons_succ]
      refine wpAnyH_ready (rs := [10]) (by kernel_rfl) (by simp) ?_
      refine (AllReadyH.cons rfl (fun K hK => ?_) AllReadyH.nil)
      go_simp
      refine hK.out _ _ ?_ (fun hHeld => ?_)
      · exact range_set_ne HE5.out HEd.out _ _
      clear hK K
      try simp only [Act.put, List.getElem_toArray, List.getElem_cons_zero, List.getElem_cons_succ, List.setIfInBounds_toArray, List.set_cons_zero, List.set_cons_succ]
      refine wpAnyH_done (by kernel_rfl) ?_ _
      obtain ⟨C2, HLx⟩ := HGR.out
      have HLc := hide HLx
      clear HLx HGR HE5 HEd c5 f5 HZ4 HLc4 c1
      generalize v5.setCell ⟨d, 3, none⟩ (.slice (some ⟨g2, 0, none⟩) (n + 1) cap2) = v6 at *
      obtain ⟨g0, hg0⟩ : ∃ g, r.gas = g := ⟨_, rfl⟩
      have HG0 := hide hg0
      obtain ⟨gt, hgt⟩ : ∃ g, w64 (g0 + gasP t) = g := ⟨_, rfl⟩
      have HGT := hide hgt
      obtain ⟨gp, hgp⟩ : ∃ g, gasP t = g := ⟨_, rfl⟩
      have HGP := hide hgp
      have hwg : IntKind.u64.wrap (g0 + gp) = gt := by rw [IntKind.wrap_u64, ← hgt, ← hgp]; rfl
      have cg : v6.cell? ⟨d, 5, none⟩ = some (.int .u64 g0) := by
        obtain ⟨vo, vr, vs, hrg, hrl⟩ := HLc.out.rw.rl
        have := hrg 5 (.int .u64 g0) (by rw [← hg0]; rfl)
        simpa using this
      have fg : v6.frozen? ⟨d, 5, none⟩ = false := by have := (HLc.out.rw.th 5 (by omega)).2; simpa using this
      have cD1 : v6.cell? ⟨D, 1, none⟩ = some (.int .u64 gp) := by have := (HLc.out.lo (D, F) (by simp)).rg 1 (.int .u64 gp) (by show F[1]? = _; rw [← HF.out, HAR.out, ← hgp]; rfl); simpa using this
      clear hg0 hgt hgp
      go_upto_region 15 with fail
      go_region
      replace HLc := hide ((HLc.out.setR (j := 5) (.int .u64 gt) (legR P c t r) (fun _ _ _ => by rw [← HGT.out, ← HG0.out, HLR.out]; rfl) (by rw [HLR.out]) (by rw [HLR.out]) (by rw [HLR.out]) (by have ok := HLc.out.rw.ok; rw [HLR.out]; exact ⟨ok.al, ok.bl, ok.rc, ok.sm⟩)).below ((Below.refl (v6.setCell ⟨d, 5, none⟩ (.int .u64 gt)).heap.size (v6.setCell ⟨d, 5, none⟩ (.int .u64 gt))).drew))
      generalize (v6.setCell ⟨d, 5, none⟩ (.int .u64 gt)).drew = v7 at *
      have HRR : Hid (R (.returned (.int .i64 0)) v7) := by
        rw [← HR.out]
        refine ⟨by rw [HCZ.out], S2, C2, ?_⟩
        rw [if_pos HCZ.out, HPS.out]
        exact HLc.out.drop (List.nil_sublist _)
      clear cg fg cD1 hwg
      go_wp2
      exact HRR.out
end Go.Proofs.Qxb6500784a
