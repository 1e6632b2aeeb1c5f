import Derived.Test.Qxb6500773aGreatOz
namespace Go.Proofs.Qxb6500773aGreat
open Go.RowKit

set_option linter.unusedSimpArgs false in
set_option maxRecDepth 100000 in
set_option maxHeartbeats 32000000 in
/-- cnflaw.modelBench.step: OpAddClause -/
theorem mstep_3 (w : World) (B m z : Nat) (X : Nat → Prop) (V : Nat → Value) (S : Nat → Nat → Prop) (s : Mst) (h : MN w B m X V S (QM B s) s.nv s.sv) (hB : B ≤ w.heap.size) (hX : ∀ k, X k → k < w.heap.size) (hok : MsOk z s) (hz : z ≤ 65536) (v : OpV) (hk : v.kd = 3) (ha : -9223372036854775808 ≤ v.a ∧ v.a ≤ 9223372036854775807) (L : List Int) (hL : L.length = v.ln) (hIL : ∀ w', Ex (fun k => B ≤ k) w w' → IL w' v.la L) (hln : v.ln ≤ 65536) :
    Calls Tryz.prog 10 #[.pointer (some ⟨m, 0, none⟩), opZ v] w (MpPost w (fp m S) B m X (if ncE L = 0 then { s with F := s.F ++ [L], nv := mxA s.nv L } else s) (if ncE L = 0 then { ob0 with n := (s.F.length : Int), m := mxA s.nv L } else { ob0 with er := ncE L, n := -1, m := s.nv })) := by
  have HS0 := hide (mw_new v h hB hX)
  have HRB : Hid (∀ k, fp m S k → B ≤ k) := fun k z => z.elim (fun z => by rw [z]; exact h.mB) (fun ⟨i, hi, y⟩ => (h.rg i hi k y).1)
  unfold opZ
  have HOK := hide hok
  have HZ := hide hz
  obtain ⟨s', hs'⟩ : ∃ x : Mst, (if ncE L = 0 then { s with F := s.F ++ [L], nv := mxA s.nv L } else s) = x := ⟨_, rfl⟩
  obtain ⟨b', hb'⟩ : ∃ x : Ob, (if ncE L = 0 then { ob0 with n := (s.F.length : Int), m := mxA s.nv L } else { ob0 with er := ncE L, n := -1, m := s.nv }) = x := ⟨_, rfl⟩
  rw [hs', hb']
  obtain ⟨kd, va, la, ln, lc, VX, ta, tn, tc, VT⟩ := v
  dsimp only at hk HS0 ha hs' hb' ⊢
  subst hk
  have HSE := hide hs'
  have HBE := hide hb'
  dsimp only at hL hIL hln
  have HL := hide hL
  have HIL := hide hIL
  have hlnb := hln
  clear hL hIL hln
  clear h hok hz hB hX hs' hb'
  generalize fp m S = R at *
  go_enter Tryz.func10, Tryz.ntmps10
  go_upto_region 2 with fail
  generalize (((w.alloc (.cells #[.int .i64 3, .int .i64 va, .slice la ln lc, .slice ta tn tc] 37)).alloc (.cells #[.int .i64 0, .int .i64 0, .int .i64 0, .int .i64 0, .int .i64 0, .slice none 0 0] 43)).alloc (.cells #[.int .i64 0, .int .i64 0, .int .i64 0, .int .i64 0, .int .i64 0, .slice none 0 0] 43)) = W0 at *
  generalize w.heap.size + 1 + 1 = o at *
  generalize w.heap.size + 1 = t at *
  generalize w.heap.size = q at *
  have q0 : W0.cell? ⟨q, 0, none⟩ = some (.int .i64 3) := HS0.out.sc.q0
  obtain ⟨i1, hi0, hz0, hz1, hz2⟩ := info_of Tryz.info30
  have HI1 := hide (And.intro hi0 (And.intro hz0 (And.intro hz1 hz2)))
  clear hi0 hz0 hz1 hz2
  obtain ⟨fa, fc, hvf, hlf, hcf, hmf⟩ := HS0.out.f
  obtain ⟨nf, hnf⟩ : ∃ z, s.F.length = z := ⟨_, rfl⟩
  rw [hnf] at hvf hcf
  have HVf := hide hvf
  have HOf := hide hlf
  have HNf := hide hnf
  have HCf := hide (And.intro hcf hmf)
  clear hvf hlf hcf hmf hnf
  have HNL1 : Hid (nf ≤ 65536) := by have h1 := HOK.out.F.len; have h2 := HZ.out; rw [HNf.out] at h1; show _ ≤ _; omega
  rw [HNf.out] at HBE
  go_upto_region 19 with fail
  obtain ⟨E, hE⟩ : ∃ x, ncE L = x := ⟨_, rfl⟩
  have HE := hide hE
  clear hE
  have q2 : W0.cell? ⟨q, 2, none⟩ = some (.slice la ln lc) := HS0.out.sc.q2
  have cc : Hid (Calls Tryz.prog 74 #[.slice la ln lc] W0 fun e w' => e = .returned (.int .i64 E) ∧ w' = W0) := by have := checkLits_any W0 la lc L (HIL.out W0 (HS0.out.exB HRB.out)) (by rw [HL.out]; omega); rw [HL.out, HE.out] at this; exact this
  have HDI : Hid (E = 0 → ∀ x ∈ L, DI x ∧ x ≠ 0) := fun z => ncE_di (by rw [HE.out]; exact z)
  go_wp2_with fail
  refine cc.out.mono ?_
  rintro e wz ⟨rfl, hw⟩
  rw [hw]
  clear hw wz
  clear q0 q2 cc
  have o0 := HS0.out.sc.o0
  have hof := HS0.out.sc.of
  go_upto_region 20 with fail
  have HS1 := hide (HS0.out.er (E))
  clear HS0
  generalize W0.setCell ⟨o, 0, none⟩ (.int .i64 (E)) = W1 at *
  clear o0 hof
  by_cases hE : E = 0
  · have HE0 := hide hE
    have HDL := hide (HDI.out hE)
    subst hE
    have oe : W1.cell? ⟨o, 0, none⟩ = some (.int .i64 (0)) := HS1.out.sc.o0
    have v1 := (HS1.out.vf HVf.out)
    have hn5 : ((nf : Int) == 2147483647) = false := by have := HNL1.out; simp; omega
    go_upto_region 22 with fail
    clear oe v1 hn5
    have o3 := HS1.out.sc.o3
    have hof := HS1.out.sc.of
    go_upto_region 23 with fail
    have HS2 := hide (HS1.out.on (-1))
    clear HS1
    generalize W1.setCell ⟨o, 3, none⟩ (.int .i64 (-1)) = W2 at *
    clear o3 hof
    have oe : W2.cell? ⟨o, 0, none⟩ = some (.int .i64 (0)) := HS2.out.sc.o0
    go_upto_region 24 with fail
    clear oe
    have v1 := (HS2.out.vf HVf.out)
    have o3 := HS2.out.sc.o3
    have hof := HS2.out.sc.of
    go_upto_region 25 with fail
    have HS3 := hide (HS2.out.on ((nf : Int)))
    clear HS2
    generalize W2.setCell ⟨o, 3, none⟩ (.int .i64 ((nf : Int))) = W3 at *
    clear o3 hof v1
    go_upto_region 25 with fail
    have HC0 := hide (HS3.out.low ((Below.refl _ _).drew))
    have KS0 : Hid ((fun w' => w'.cell? ⟨q, 2, none⟩ = some (.slice la ln lc)) W3.drew) := HC0.out.sc.q2
    refine wp_region_held_drew (S := fun w' => w'.cell? ⟨q, 2, none⟩ = some (.slice la ln lc)) (by kernel_rfl) KS0.out (fun hHeld => ?_)
    refine wpAnyH_take (i := 0) (v := ?_) rfl (by kernel_rfl) (by kernel_rfl) (by kernel_rfl) (fun _ _ _ h => h) (Or.inl ⟨by rfl, ?_⟩) (by assumption) ?_
    rotate_left
    · (intro w hSw; (try dsimp only at hSw); go_simp; try (with_reducible rfl))
    try simp only [Act.put, List.getElem_toArray, List.getElem_cons_zero, List.getElem_cons_succ, List.setIfInBounds_toArray, List.set_cons_zero, List.set_cons_succ]
    refine wpAnyH_take (i := 1) (v := ?_) rfl (by kernel_rfl) (by kernel_rfl) (by kernel_rfl) (fun _ _ _ h => h) (Or.inl ⟨by rfl, ?_⟩) (by assumption) ?_
    rotate_left
    · (intro w hSw; (try dsimp only at hSw); go_simp; try (with_reducible rfl))
    try simp only [Act.put, List.getElem_toArray, List.getElem_cons_zero, List.getElem_cons_succ, List.setIfInBounds_toArray, List.set_cons_zero, List.set_cons_succ]
    refine wpAnyH_take (i := 2) (v := ?_) rfl (by kernel_rfl) (by kernel_rfl) (by kernel_rfl) (fun _ _ _ h => h) (Or.inl ⟨by rfl, ?_⟩) (by assumption) ?_
    rotate_left
    · (intro w hSw; (try dsimp only at hSw); go_simp; try (with_reducible rfl))
    try simp only [Act.put, List.getElem_toArray, List.getElem_cons_zero, List.getElem_cons_succ, List.setIfInBounds_toArray, List.set_cons_zero, List.set_cons_succ]
    refine wpAnyH_take (i := 3) (v := ?_) rfl (by kernel_rfl) (by kernel_rfl) (by kernel_rfl) (fun _ _ _ h => h) (Or.inl ⟨by rfl, ?_⟩) (by assumption) ?_
    rotate_left
    · (intro w hSw; (try dsimp only at hSw); go_simp; try (with_reducible rfl))
    try simp only [Act.put, List.getElem_toArray, List.getElem_cons_zero, List.getElem_cons_succ, List.setIfInBounds_toArray, List.set_cons_zero, List.set_cons_succ]
    refine wpAnyH_take (i := 4) (v := ?_) rfl (by kernel_rfl) (by kernel_rfl) (by kernel_rfl) (fun _ _ _ h => h) (Or.inl ⟨by rfl, ?_⟩) (by assumption) ?_
    rotate_left
    · (intro w hSw; (try dsimp only at hSw); go_simp; try (with_reducible rfl))
    try simp only [Act.put, List.getElem_toArray, List.getElem_cons_zero, List.getElem_cons_succ, List.setIfInBounds_toArray, List.set_cons_zero, List.set_cons_succ]
    refine wpAnyH_take (i := 6) (v := ?_) rfl (by kernel_rfl) (by kernel_rfl) (by kernel_rfl) (fun _ _ _ h => h) (Or.inl ⟨by rfl, ?_⟩) (by assumption) ?_
    rotate_left
    · (intro w hSw; (try dsimp only at hSw); go_simp; try (with_reducible rfl))
    try simp only [Act.put, List.getElem_toArray, List.getElem_cons_zero, List.getElem_cons_succ, List.setIfInBounds_toArray, List.set_cons_zero, List.set_cons_succ]
    refine wpAnyH_take (i := 7) (v := ?_) rfl (by kernel_rfl) (by kernel_rfl) (by kernel_rfl) (fun _ _ _ h => h) (Or.inl ⟨by rfl, ?_⟩) (by assumption) ?_
    rotate_left
    · (intro w hSw; (try dsimp only at hSw); (have z0 := hSw); go_simp; try (with_reducible rfl))
    try simp only [Act.put, List.getElem_toArray, List.getElem_cons_zero, List.getElem_cons_succ, List.setIfInBounds_toArray, List.set_cons_zero, List.set_cons_succ]
    refine wpAnyH_ready (rs := [5, 8]) (by kernel_rfl) (by simp) ?_
    refine (AllReadyH.cons rfl (fun K hK => ?_) (AllReadyH.cons rfl (fun K hK => ?_) AllReadyH.nil))
    · have u4 := HC0.out.vf HVf.out
      first | (have u4b := HC5.out.vf HVf.out; have u4c := HCa.out.vf HVf.out) | skip
      go_simp
      refine hK.out _ _ ?_ (fun hHeld => ?_)
      · (first | with_reducible exact KS0.out | with_reducible exact KS1.out | with_reducible exact KS2.out | with_reducible exact KS3.out | with_reducible exact KS4.out)
      clear hK K
      try simp only [Act.put, List.getElem_toArray, List.getElem_cons_zero, List.getElem_cons_succ, List.setIfInBounds_toArray, List.set_cons_zero, List.set_cons_succ]
      refine wpAnyH_ready (rs := [8]) (by kernel_rfl) (by simp) ?_
      refine (AllReadyH.cons rfl (fun K hK => ?_) AllReadyH.nil)
      · have cc : Hid (Calls Tryz.prog 75 #[.slice la ln lc] W3.drew (MlPost W3.drew L)) := by have := copyM_any W3.drew la lc L ((HIL.out W3 (HS3.out.exB HRB.out)).keep ((Ex.refl (fun _ => False) _).drew) (fun _ _ _ z => z)) (by rw [HL.out]; omega); rw [HL.out] at this; exact this
        refine step_call rfl 75 #[.slice la ln lc] (by simp [go_sem]) cc.out ?_
        rintro e w5 ⟨a5, c5, rfl, hr5, hx5⟩
        clear cc
        rw [HL.out] at hr5 ⊢
        have HC5 := hide (HC0.out.lowE hx5)
        have HCa := hide (HC5.out.low (be1 w5 (.cells #[.slice a5 ln c5] 30)))
        have KS1 : Hid ((fun w' => w'.cell? ⟨q, 2, none⟩ = some (.slice la ln lc)) w5) := HC5.out.sc.q2
        have KS2 : Hid ((fun w' => w'.cell? ⟨q, 2, none⟩ = some (.slice la ln lc)) (w5.alloc (.cells #[.slice a5 ln c5] 30))) := HCa.out.sc.q2
        refine ⟨_, rfl, ?_⟩
        refine hK.out _ _ ?_ (fun hHeld => ?_)
        · (first | with_reducible exact KS0.out | with_reducible exact KS1.out | with_reducible exact KS2.out | with_reducible exact KS3.out | with_reducible exact KS4.out)
        clear hK K
        try simp only [Act.put, List.getElem_toArray, List.getElem_cons_zero, List.getElem_cons_succ, List.setIfInBounds_toArray, List.set_cons_zero, List.set_cons_succ]
        refine wpAnyH_ready (rs := [9]) (by kernel_rfl) (by simp) ?_
        refine (AllReadyH.cons rfl (fun K hK => ?_) AllReadyH.nil)
        · go_simp
          refine hK.out _ _ ?_ (fun hHeld => ?_)
          · (first | with_reducible exact KS0.out | with_reducible exact KS1.out | with_reducible exact KS2.out | with_reducible exact KS3.out | with_reducible exact KS4.out)
          clear hK K
          try simp only [Act.put, List.getElem_toArray, List.getElem_cons_zero, List.getElem_cons_succ, List.setIfInBounds_toArray, List.set_cons_zero, List.set_cons_succ]
          refine wpAnyH_ready (rs := [10]) (by kernel_rfl) (by simp) ?_
          refine (AllReadyH.cons rfl (fun K hK => ?_) AllReadyH.nil)
          · obtain ⟨Vr, hro, hrg, -, hSS⟩ := HCa.out.rowF HVf.out
            have HRG := hide hrg
            have HSS := hide hSS
            have HRO := hide hro
            clear hrg hSS hro
            have HNC : Hid (∀ (jq : Nat) (u : Value), [.slice a5 ln c5][jq]? = some u → (w5.alloc (.cells #[.slice a5 ln c5] 30)).cell? ((⟨w5.heap.size, 0, none⟩ : Addr).add jq) = some u) := fun jq u hj => new_cells w5 [.slice a5 ln c5] 30 jq u hj
            refine step_append_lies _ rfl (.tmp 130) (.tmp 134) 27 rfl B 30 i1 _ 1 24 Tryz.underlying27 HI1.out.1 HI1.out.2.1 HI1.out.2.2.1 HI1.out.2.2.2 rfl (by decide) (.slice fa nf fc) nf Vr rfl HRO.out ⟨w5.heap.size, 0, none⟩ 1 1 [.slice a5 ln c5] rfl rfl HNC.out (fun u hu => by simp at hu; subst hu; rfl) (by decide) (by have := HNL1.out; unfold maxLen; omega) (by have := HNL1.out; omega) HCa.out.szB _ rfl ?_
            intro g6 c6 w6 hr hg hat hlt2
            obtain ⟨V7, S7, hs7⟩ := HC0.out.joinF (hx5.alloc (.cells #[.slice a5 ln c5] 30)) (own_kept hr5 (Ex.of (S := fun _ => False) (be1 w5 _)) (fun _ _ e => e)) HL.out HVf.out HRG.out hr hg hat
            have HC7 := hide hs7
            have E6 := hide (Ex.ofGrown hg (S := fun k => (Value.slice fa nf fc).ownBlock = some k) (fun _ z => z.symm))
            clear hr hg hat hlt2 hs7
            have hnm : Hid (¬ (Value.slice fa nf fc).ownBlock = some m) := fun z => HCa.out.mn.mr 0 (by decide) (HSS.out _ z)
            have hnq : Hid (¬ (Value.slice fa nf fc).ownBlock = some q) := fun z => (HCa.out.nS 0 (by decide)).1 (HSS.out _ z)
            have p3 : w6.cell? ⟨m, 1, none⟩ = some (.slice fa nf fc) := E6.out.cell hnm.out (HCa.out.vf HVf.out)
            have pf : ∀ j, w6.frozen? ⟨m, j, none⟩ = false := fun j => (E6.out.frozen hnm.out HCa.out.mn.lt).trans (HCa.out.mn.fz j)
            have KS3 : Hid ((fun w' => w'.cell? ⟨q, 2, none⟩ = some (.slice la ln lc)) w6) := E6.out.cell hnq.out HCa.out.sc.q2
            have KS4 : Hid ((fun w' => w'.cell? ⟨q, 2, none⟩ = some (.slice la ln lc)) (w6.setCell ⟨m, 1, none⟩ (.slice (some ⟨g6, 0, none⟩) (nf + 1) c6))) := HC7.out.sc.q2
            have v4n : (w6.setCell ⟨m, 1, none⟩ (.slice (some ⟨g6, 0, none⟩) (nf + 1) c6)).cell? ⟨m, 1, none⟩ = some (.slice (some ⟨g6, 0, none⟩) (nf + 1) c6) := World.cell?_setCell_same _ _ _ p3
            clear HRG HSS HRO HNC E6 hnm hnq
            refine hK.out _ _ ?_ (fun hHeld => ?_)
            · (first | with_reducible exact KS0.out | with_reducible exact KS1.out | with_reducible exact KS2.out | with_reducible exact KS3.out | with_reducible exact KS4.out)
            clear hK K
            try simp only [Act.put, List.getElem_toArray, List.getElem_cons_zero, List.getElem_cons_succ, List.setIfInBounds_toArray, List.set_cons_zero, List.set_cons_succ]
            refine wpAnyH_take (i := 11) (v := ?_) rfl (by kernel_rfl) (by kernel_rfl) (by kernel_rfl) (fun _ _ _ h => h) (Or.inl ⟨by rfl, ?_⟩) (by assumption) ?_
            rotate_left
            · (intro w hSw; (try dsimp only at hSw); go_simp; try (with_reducible rfl))
            try simp only [Act.put, List.getElem_toArray, List.getElem_cons_zero, List.getElem_cons_succ, List.setIfInBounds_toArray, List.set_cons_zero, List.set_cons_succ]
            refine wpAnyH_take (i := 12) (v := ?_) rfl (by kernel_rfl) (by kernel_rfl) (by kernel_rfl) (fun _ _ _ h => h) (Or.inl ⟨by rfl, ?_⟩) (by assumption) ?_
            rotate_left
            · (intro w hSw; (try dsimp only at hSw); go_simp; try (with_reducible rfl))
            try simp only [Act.put, List.getElem_toArray, List.getElem_cons_zero, List.getElem_cons_succ, List.setIfInBounds_toArray, List.set_cons_zero, List.set_cons_succ]
            refine wpAnyH_take (i := 13) (v := ?_) rfl (by kernel_rfl) (by kernel_rfl) (by kernel_rfl) (fun _ _ _ h => h) (Or.inl ⟨by rfl, ?_⟩) (by assumption) ?_
            rotate_left
            · (intro w hSw; (try dsimp only at hSw); go_simp; try (with_reducible rfl))
            try simp only [Act.put, List.getElem_toArray, List.getElem_cons_zero, List.getElem_cons_succ, List.setIfInBounds_toArray, List.set_cons_zero, List.set_cons_succ]
            refine wpAnyH_ready (rs := [14]) (by kernel_rfl) (by simp) ?_
            refine (AllReadyH.cons rfl (fun K hK => ?_) AllReadyH.nil)
            · go_simp
              refine hK.out _ _ ?_ (fun hHeld => ?_)
              · (first | with_reducible exact KS0.out | with_reducible exact KS1.out | with_reducible exact KS2.out | with_reducible exact KS3.out | with_reducible exact KS4.out)
              clear hK K
              try simp only [Act.put, List.getElem_toArray, List.getElem_cons_zero, List.getElem_cons_succ, List.setIfInBounds_toArray, List.set_cons_zero, List.set_cons_succ]
              refine wpAnyH_done (by kernel_rfl) ?_ _
              clear KS0 KS1 KS2 KS3 KS4
              clear HC0 HC5 HCa p3 pf HS3 hx5 hr5
              try clear u4
              try clear u4b u4c
              generalize w6.setCell ⟨m, 1, none⟩ (.slice (some ⟨g6, 0, none⟩) (nf + 1) c6) = Wp at *
              have q2 : Wp.cell? ⟨q, 2, none⟩ = some (.slice la ln lc) := HC7.out.sc.q2
              obtain ⟨bb, hbb⟩ : ∃ x : Ob, ({ ({ ({ (ob0 : Ob) with er := 0 } : Ob) with n := -1 } : Ob) with n := (nf : Int) }) = x := ⟨_, rfl⟩
              rw [hbb] at HC7
              have HBB := hide hbb
              clear hbb
              have HST0 : Hid (MW w Wp R B m q t o X V7 S7 { s with F := s.F ++ [L], nv := mxA s.nv (L.take 0) } ⟨3, va, la, ln, lc, VX, ta, tn, tc, VT⟩ bb (.slice none 0 0)) := HC7.out
              go_upto_region 27 with fail
              clear q2 v4n HC7
              go_loopw [7, 142] (fun _ s142 wx => ∃ (i : Nat), s142 = .int .i64 i ∧ i ≤ ln ∧ Hid (MW w wx R B m q t o X V7 S7 { s with F := s.F ++ [L], nv := mxA s.nv (L.take i) } ⟨3, va, la, ln, lc, VX, ta, tn, tc, VT⟩ bb (.slice none 0 0))) (fun _ s142 _ => ln - (intOf s142).toNat)
              case atStart => exact ⟨0, rfl, Nat.zero_le _, HST0⟩
              case round =>
                clear HST0
                obtain ⟨i, rfl, hi, HSi⟩ := hrel
                generalize hgw : wr = wl at *
                clear hgw
                have hw1 : wrap64 ((i : Int) + 1) = ((i + 1 : Nat) : Int) := by unfold wrap64; omega
                obtain ⟨nv, hnv⟩ : ∃ z, mxA s.nv (L.take i) = z := ⟨_, rfl⟩
                rw [hnv] at HSi
                have HNV := hide hnv
                clear hnv
                by_cases hlt : i < ln
                · have hib : decide ((i : Int) < (ln : Int)) = true := decide_eq_true (by omega)
                  have hii : (i : Int) < (ln : Int) := by omega
                  obtain ⟨x, hx⟩ : ∃ x, L[i]? = some x := ⟨_, List.getElem?_eq_getElem (by rw [HL.out]; exact hlt)⟩
                  have HXM := hide (HDL.out x (List.mem_of_getElem? hx))
                  obtain ⟨gl, ol, ea, x0⟩ := (HIL.out wl (HSi.out.exB HRB.out)) i x hx
                  subst ea
                  obtain ⟨ax, hax⟩ : ∃ z, absP x = z := ⟨_, rfl⟩
                  have HNX : Hid (mxA s.nv (L.take (i + 1)) = if nv < ax then ax else nv) := by show _ = _; rw [mxA_snoc s.nv L hx, HNV.out, hax]
                  clear hx
                  have HVO : Hid (∀ w, Calls Tryz.prog 76 #[.int .i64 x] w fun e w' => e = .returned (.int .i64 ax) ∧ w' = w) := fun w => by have hm := HXM.out.1; unfold DI at hm; have := varOf_any w x (by omega); rw [hax] at this; exact this
                  clear hax
                  have c0 : wl.cell? ⟨m, 0, none⟩ = some (.int .i64 nv) := HSi.out.mn.c0
                  have cf := HSi.out.mn.fz
                  by_cases hg : nv < ax
                  · have hgb : decide (nv < ax) = true := decide_eq_true hg
                    go_upto_region 29 with fail
                    go_upto_region 29 with fail
                    go_quiet (first | (go_at_call 76; refine Calls.quiet_of_same (HVO.out _)))
                    rename_i nq
                    have HS301 := hide (HSi.out.low (belN _ nq))
                    clear HSi
                    generalize World.drewN wl nq = W301 at *
                    clear c0 cf hgb x0 hii hib
                    have c0 : W301.cell? ⟨m, 0, none⟩ = some (.int .i64 nv) := HS301.out.mn.c0
                    have cf := HS301.out.mn.fz
                    go_upto_region 30 with fail
                    have cc := hide (HVO.out W301)
                    go_wp2_with fail
                    refine cc.out.mono ?_
                    rintro e wz ⟨rfl, hw⟩
                    rw [hw]
                    clear hw wz
                    clear cc
                    go_upto_region 31 with fail
                    have HS302 := hide (HS301.out.num0 (ax))
                    clear HS301
                    generalize W301.setCell ⟨m, 0, none⟩ (.int .i64 (ax)) = W302 at *
                    clear c0 cf
                    go_wp2
                    go_roundw
                    case rel => exact ⟨i + 1, by go_num, by omega, by rw [HNX.out, if_pos hg]; exact HS302⟩
                    case measure => (simp [intOf]; try omega)
                  · have hgb : decide (nv < ax) = false := decide_eq_false hg
                    go_upto_region 29 with fail
                    go_upto_region 29 with fail
                    go_quiet (first | (go_at_call 76; refine Calls.quiet_of_same (HVO.out _)))
                    rename_i nq
                    have HS301 := hide (HSi.out.low (belN _ nq))
                    clear HSi
                    generalize World.drewN wl nq = W301 at *
                    clear c0 cf x0 hii hib
                    go_wp2
                    go_roundw
                    case rel => exact ⟨i + 1, by go_num, by omega, by rw [HNX.out, if_neg hg]; exact HS301⟩
                    case measure => (simp [intOf]; try omega)
                · have hib : decide ((i : Int) < (ln : Int)) = false := decide_eq_false (by omega)
                  have hin : ¬ (i : Int) < (ln : Int) := by omega
                  rw [List.take_of_length_le (by rw [HL.out]; omega)] at HNV
                  go_upto_region 32 with fail
                  have c0 : wl.cell? ⟨m, 0, none⟩ = some (.int .i64 nv) := HSi.out.mn.c0
                  have o4 := HSi.out.sc.o4
                  have hof := HSi.out.sc.of
                  go_upto_region 151 with fail
                  have HS301 := hide (HSi.out.om (nv))
                  clear HSi
                  generalize wl.setCell ⟨o, 4, none⟩ (.int .i64 (nv)) = W301 at *
                  clear o4 hof c0 hib hin hw1
                  obtain ⟨bo, hbo⟩ : ∃ x : Ob, ({ (bb : Ob) with m := nv }) = x := ⟨_, rfl⟩
                  have HSQ : Hid (s' = { s with F := s.F ++ [L], nv := nv }) := (by show _ = _; rw [← HSE.out, HE.out, if_pos rfl, HNV.out])
                  have HBQ : Hid (b' = bo) := by show _ = _; rw [← hbo]; exact (by rw [← HBE.out, HE.out, if_pos rfl, HNV.out, ← HBB.out] <;> rfl)
                  rw [hbo] at HS301
                  clear hbo HSE HBE
                  have o0 := HS301.out.sc.o0
                  have o1 := HS301.out.sc.o1
                  have o2 := HS301.out.sc.o2
                  have o3 := HS301.out.sc.o3
                  have o4 := HS301.out.sc.o4
                  have o5 := HS301.out.sc.o5
                  have t0 := HS301.out.sc.t0
                  have t1 := HS301.out.sc.t1
                  have t2 := HS301.out.sc.t2
                  have t3 := HS301.out.sc.t3
                  have t4 := HS301.out.sc.t4
                  have t5 := HS301.out.sc.t5
                  have htf := HS301.out.sc.tf
                  have hot : o ≠ t := fun z => HS301.out.ne.2.2.1 z.symm
                  have HF := hide HS301.out.fin
                  have HC := hide (fin_cells HS301.out.sc)
                  clear HS301
                  go_wp2_with (with_reducible refine bodyPost_ret (v := ?v) ?hr ?hd ?hp)
                  case v => exact obV bo (.slice none 0 0)
                  case hr =>
                    change (results _ _).run _ (fin6 W301 t bo (.slice none 0 0)) = .ok _ (fin6 W301 t bo (.slice none 0 0))
                    obtain ⟨y0, y1, y2, y3, y4, y5⟩ := HC.out
                    clear HF HC
                    generalize fin6 W301 t bo (.slice none 0 0) = WF at *
                    simp [results, Tryz.results10, go_sem, y0, y1, y2, y3, y4, y5, obV]
                  case hd => rfl
                  case hp => rw [HSQ.out, HBQ.out]; exact HF.out
    · have cc : Hid (Calls Tryz.prog 75 #[.slice la ln lc] W3.drew (MlPost W3.drew L)) := by have := copyM_any W3.drew la lc L ((HIL.out W3 (HS3.out.exB HRB.out)).keep ((Ex.refl (fun _ => False) _).drew) (fun _ _ _ z => z)) (by rw [HL.out]; omega); rw [HL.out] at this; exact this
      refine step_call rfl 75 #[.slice la ln lc] (by simp [go_sem]) cc.out ?_
      rintro e w5 ⟨a5, c5, rfl, hr5, hx5⟩
      clear cc
      rw [HL.out] at hr5 ⊢
      have HC5 := hide (HC0.out.lowE hx5)
      have HCa := hide (HC5.out.low (be1 w5 (.cells #[.slice a5 ln c5] 30)))
      have KS1 : Hid ((fun w' => w'.cell? ⟨q, 2, none⟩ = some (.slice la ln lc)) w5) := HC5.out.sc.q2
      have KS2 : Hid ((fun w' => w'.cell? ⟨q, 2, none⟩ = some (.slice la ln lc)) (w5.alloc (.cells #[.slice a5 ln c5] 30))) := HCa.out.sc.q2
      refine ⟨_, rfl, ?_⟩
      refine hK.out _ _ ?_ (fun hHeld => ?_)
      · (first | with_reducible exact KS0.out | with_reducible exact KS1.out | with_reducible exact KS2.out | with_reducible exact KS3.out | with_reducible exact KS4.out)
      clear hK K
      try simp only [Act.put, List.getElem_toArray, List.getElem_cons_zero, List.getElem_cons_succ, List.setIfInBounds_toArray, List.set_cons_zero, List.set_cons_succ]
      refine wpAnyH_ready (rs := [5, 9]) (by kernel_rfl) (by simp) ?_
      refine (AllReadyH.cons rfl (fun K hK => ?_) (AllReadyH.cons rfl (fun K hK => ?_) AllReadyH.nil))
      · have u4 := HC0.out.vf HVf.out
        first | (have u4b := HC5.out.vf HVf.out; have u4c := HCa.out.vf HVf.out) | skip
        go_simp
        refine hK.out _ _ ?_ (fun hHeld => ?_)
        · (first | with_reducible exact KS0.out | with_reducible exact KS1.out | with_reducible exact KS2.out | with_reducible exact KS3.out | with_reducible exact KS4.out)
        clear hK K
        try simp only [Act.put, List.getElem_toArray, List.getElem_cons_zero, List.getElem_cons_succ, List.setIfInBounds_toArray, List.set_cons_zero, List.set_cons_succ]
        refine wpAnyH_ready (rs := [9]) (by kernel_rfl) (by simp) ?_
        refine (AllReadyH.cons rfl (fun K hK => ?_) AllReadyH.nil)
        · go_simp
          refine hK.out _ _ ?_ (fun hHeld => ?_)
          · (first | with_reducible exact KS0.out | with_reducible exact KS1.out | with_reducible exact KS2.out | with_reducible exact KS3.out | with_reducible exact KS4.out)
          clear hK K
          try simp only [Act.put, List.getElem_toArray, List.getElem_cons_zero, List.getElem_cons_succ, List.setIfInBounds_toArray, List.set_cons_zero, List.set_cons_succ]
          refine wpAnyH_ready (rs := [10]) (by kernel_rfl) (by simp) ?_
          refine (AllReadyH.cons rfl (fun K hK => ?_) AllReadyH.nil)
          · obtain ⟨Vr, hro, hrg, -, hSS⟩ := HCa.out.rowF HVf.out
            have HRG := hide hrg
            have HSS := hide hSS
            have HRO := hide hro
            clear hrg hSS hro
            have HNC : Hid (∀ (jq : Nat) (u : Value), [.slice a5 ln c5][jq]? = some u → (w5.alloc (.cells #[.slice a5 ln c5] 30)).cell? ((⟨w5.heap.size, 0, none⟩ : Addr).add jq) = some u) := fun jq u hj => new_cells w5 [.slice a5 ln c5] 30 jq u hj
            refine step_append_lies _ rfl (.tmp 130) (.tmp 134) 27 rfl B 30 i1 _ 1 24 Tryz.underlying27 HI1.out.1 HI1.out.2.1 HI1.out.2.2.1 HI1.out.2.2.2 rfl (by decide) (.slice fa nf fc) nf Vr rfl HRO.out ⟨w5.heap.size, 0, none⟩ 1 1 [.slice a5 ln c5] rfl rfl HNC.out (fun u hu => by simp at hu; subst hu; rfl) (by decide) (by have := HNL1.out; unfold maxLen; omega) (by have := HNL1.out; omega) HCa.out.szB _ rfl ?_
            intro g6 c6 w6 hr hg hat hlt2
            obtain ⟨V7, S7, hs7⟩ := HC0.out.joinF (hx5.alloc (.cells #[.slice a5 ln c5] 30)) (own_kept hr5 (Ex.of (S := fun _ => False) (be1 w5 _)) (fun _ _ e => e)) HL.out HVf.out HRG.out hr hg hat
            have HC7 := hide hs7
            have E6 := hide (Ex.ofGrown hg (S := fun k => (Value.slice fa nf fc).ownBlock = some k) (fun _ z => z.symm))
            clear hr hg hat hlt2 hs7
            have hnm : Hid (¬ (Value.slice fa nf fc).ownBlock = some m) := fun z => HCa.out.mn.mr 0 (by decide) (HSS.out _ z)
            have hnq : Hid (¬ (Value.slice fa nf fc).ownBlock = some q) := fun z => (HCa.out.nS 0 (by decide)).1 (HSS.out _ z)
            have p3 : w6.cell? ⟨m, 1, none⟩ = some (.slice fa nf fc) := E6.out.cell hnm.out (HCa.out.vf HVf.out)
            have pf : ∀ j, w6.frozen? ⟨m, j, none⟩ = false := fun j => (E6.out.frozen hnm.out HCa.out.mn.lt).trans (HCa.out.mn.fz j)
            have KS3 : Hid ((fun w' => w'.cell? ⟨q, 2, none⟩ = some (.slice la ln lc)) w6) := E6.out.cell hnq.out HCa.out.sc.q2
            have KS4 : Hid ((fun w' => w'.cell? ⟨q, 2, none⟩ = some (.slice la ln lc)) (w6.setCell ⟨m, 1, none⟩ (.slice (some ⟨g6, 0, none⟩) (nf + 1) c6))) := HC7.out.sc.q2
            have v4n : (w6.setCell ⟨m, 1, none⟩ (.slice (some ⟨g6, 0, none⟩) (nf + 1) c6)).cell? ⟨m, 1, none⟩ = some (.slice (some ⟨g6, 0, none⟩) (nf + 1) c6) := World.cell?_setCell_same _ _ _ p3
            clear HRG HSS HRO HNC E6 hnm hnq
            refine hK.out _ _ ?_ (fun hHeld => ?_)
            · (first | with_reducible exact KS0.out | with_reducible exact KS1.out | with_reducible exact KS2.out | with_reducible exact KS3.out | with_reducible exact KS4.out)
            clear hK K
            try simp only [Act.put, List.getElem_toArray, List.getElem_cons_zero, List.getElem_cons_succ, List.setIfInBounds_toArray, List.set_cons_zero, List.set_cons_succ]
            refine wpAnyH_take (i := 11) (v := ?_) rfl (by kernel_rfl) (by kernel_rfl) (by kernel_rfl) (fun _ _ _ h => h) (Or.inl ⟨by rfl, ?_⟩) (by assumption) ?_
            rotate_left
            · (intro w hSw; (try dsimp only at hSw); go_simp; try (with_reducible rfl))
            try simp only [Act.put, List.getElem_toArray, List.getElem_cons_zero, List.getElem_cons_succ, List.setIfInBounds_toArray, List.set_cons_zero, List.set_cons_succ]
            refine wpAnyH_take (i := 12) (v := ?_) rfl (by kernel_rfl) (by kernel_rfl) (by kernel_rfl) (fun _ _ _ h => h) (Or.inl ⟨by rfl, ?_⟩) (by assumption) ?_
            rotate_left
            · (intro w hSw; (try dsimp only at hSw); go_simp; try (with_reducible rfl))
            try simp only [Act.put, List.getElem_toArray, List.getElem_cons_zero, List.getElem_cons_succ, List.setIfInBounds_toArray, List.set_cons_zero, List.set_cons_succ]
            refine wpAnyH_take (i := 13) (v := ?_) rfl (by kernel_rfl) (by kernel_rfl) (by kernel_rfl) (fun _ _ _ h => h) (Or.inl ⟨by rfl, ?_⟩) (by assumption) ?_
            rotate_left
            · (intro w hSw; (try dsimp only at hSw); go_simp; try (with_reducible rfl))
            try simp only [Act.put, List.getElem_toArray, List.getElem_cons_zero, List.getElem_cons_succ, List.setIfInBounds_toArray, List.set_cons_zero, List.set_cons_succ]
            refine wpAnyH_ready (rs := [14]) (by kernel_rfl) (by simp) ?_
            refine (AllReadyH.cons rfl (fun K hK => ?_) AllReadyH.nil)
            · go_simp
              refine hK.out _ _ ?_ (fun hHeld => ?_)
              · (first | with_reducible exact KS0.out | with_reducible exact KS1.out | with_reducible exact KS2.out | with_reducible exact KS3.out | with_reducible exact KS4.out)
              clear hK K
              try simp only [Act.put, List.getElem_toArray, List.getElem_cons_zero, List.getElem_cons_succ, List.setIfInBounds_toArray, List.set_cons_zero, List.set_cons_succ]
              refine wpAnyH_done (by kernel_rfl) ?_ _
              clear KS0 KS1 KS2 KS3 KS4
              clear HC0 HC5 HCa p3 pf HS3 hx5 hr5
              try clear u4
              try clear u4b u4c
              generalize w6.setCell ⟨m, 1, none⟩ (.slice (some ⟨g6, 0, none⟩) (nf + 1) c6) = Wp at *
              have q2 : Wp.cell? ⟨q, 2, none⟩ = some (.slice la ln lc) := HC7.out.sc.q2
              obtain ⟨bb, hbb⟩ : ∃ x : Ob, ({ ({ ({ (ob0 : Ob) with er := 0 } : Ob) with n := -1 } : Ob) with n := (nf : Int) }) = x := ⟨_, rfl⟩
              rw [hbb] at HC7
              have HBB := hide hbb
              clear hbb
              have HST0 : Hid (MW w Wp R B m q t o X V7 S7 { s with F := s.F ++ [L], nv := mxA s.nv (L.take 0) } ⟨3, va, la, ln, lc, VX, ta, tn, tc, VT⟩ bb (.slice none 0 0)) := HC7.out
              go_upto_region 27 with fail
              clear q2 v4n HC7
              go_loopw [7, 142] (fun _ s142 wx => ∃ (i : Nat), s142 = .int .i64 i ∧ i ≤ ln ∧ Hid (MW w wx R B m q t o X V7 S7 { s with F := s.F ++ [L], nv := mxA s.nv (L.take i) } ⟨3, va, la, ln, lc, VX, ta, tn, tc, VT⟩ bb (.slice none 0 0))) (fun _ s142 _ => ln - (intOf s142).toNat)
              case atStart => exact ⟨0, rfl, Nat.zero_le _, HST0⟩
              case round =>
                clear HST0
                obtain ⟨i, rfl, hi, HSi⟩ := hrel
                generalize hgw : wr = wl at *
                clear hgw
                have hw1 : wrap64 ((i : Int) + 1) = ((i + 1 : Nat) : Int) := by unfold wrap64; omega
                obtain ⟨nv, hnv⟩ : ∃ z, mxA s.nv (L.take i) = z := ⟨_, rfl⟩
                rw [hnv] at HSi
                have HNV := hide hnv
                clear hnv
                by_cases hlt : i < ln
                · have hib : decide ((i : Int) < (ln : Int)) = true := decide_eq_true (by omega)
                  have hii : (i : Int) < (ln : Int) := by omega
                  obtain ⟨x, hx⟩ : ∃ x, L[i]? = some x := ⟨_, List.getElem?_eq_getElem (by rw [HL.out]; exact hlt)⟩
                  have HXM := hide (HDL.out x (List.mem_of_getElem? hx))
                  obtain ⟨gl, ol, ea, x0⟩ := (HIL.out wl (HSi.out.exB HRB.out)) i x hx
                  subst ea
                  obtain ⟨ax, hax⟩ : ∃ z, absP x = z := ⟨_, rfl⟩
                  have HNX : Hid (mxA s.nv (L.take (i + 1)) = if nv < ax then ax else nv) := by show _ = _; rw [mxA_snoc s.nv L hx, HNV.out, hax]
                  clear hx
                  have HVO : Hid (∀ w, Calls Tryz.prog 76 #[.int .i64 x] w fun e w' => e = .returned (.int .i64 ax) ∧ w' = w) := fun w => by have hm := HXM.out.1; unfold DI at hm; have := varOf_any w x (by omega); rw [hax] at this; exact this
                  clear hax
                  have c0 : wl.cell? ⟨m, 0, none⟩ = some (.int .i64 nv) := HSi.out.mn.c0
                  have cf := HSi.out.mn.fz
                  by_cases hg : nv < ax
                  · have hgb : decide (nv < ax) = true := decide_eq_true hg
                    go_upto_region 29 with fail
                    go_upto_region 29 with fail
                    go_quiet (first | (go_at_call 76; refine Calls.quiet_of_same (HVO.out _)))
                    rename_i nq
                    have HS301 := hide (HSi.out.low (belN _ nq))
                    clear HSi
                    generalize World.drewN wl nq = W301 at *
                    clear c0 cf hgb x0 hii hib
                    have c0 : W301.cell? ⟨m, 0, none⟩ = some (.int .i64 nv) := HS301.out.mn.c0
                    have cf := HS301.out.mn.fz
                    go_upto_region 30 with fail
                    have cc := hide (HVO.out W301)
                    go_wp2_with fail
                    refine cc.out.mono ?_
                    rintro e wz ⟨rfl, hw⟩
                    rw [hw]
                    clear hw wz
                    clear cc
                    go_upto_region 31 with fail
                    have HS302 := hide (HS301.out.num0 (ax))
                    clear HS301
                    generalize W301.setCell ⟨m, 0, none⟩ (.int .i64 (ax)) = W302 at *
                    clear c0 cf
                    go_wp2
                    go_roundw
                    case rel => exact ⟨i + 1, by go_num, by omega, by rw [HNX.out, if_pos hg]; exact HS302⟩
                    case measure => (simp [intOf]; try omega)
                  · have hgb : decide (nv < ax) = false := decide_eq_false hg
                    go_upto_region 29 with fail
                    go_upto_region 29 with fail
                    go_quiet (first | (go_at_call 76; refine Calls.quiet_of_same (HVO.out _)))
                    rename_i nq
                    have HS301 := hide (HSi.out.low (belN _ nq))
                    clear HSi
                    generalize World.drewN wl nq = W301 at *
                    clear c0 cf x0 hii hib
                    go_wp2
                    go_roundw
                    case rel => exact ⟨i + 1, by go_num, by omega, by rw [HNX.out, if_neg hg]; exact HS301⟩
                    case measure => (simp [intOf]; try omega)
                · have hib : decide ((i : Int) < (ln : Int)) = false := decide_eq_false (by omega)
                  have hin : ¬ (i : Int) < (ln : Int) := by omega
                  rw [List.take_of_length_le (by rw [HL.out]; omega)] at HNV
                  go_upto_region 32 with fail
                  have c0 : wl.cell? ⟨m, 0, none⟩ = some (.int .i64 nv) := HSi.out.mn.c0
                  have o4 := HSi.out.sc.o4
                  have hof := HSi.out.sc.of
                  go_upto_region 151 with fail
                  have HS301 := hide (HSi.out.om (nv))
                  clear HSi
                  generalize wl.setCell ⟨o, 4, none⟩ (.int .i64 (nv)) = W301 at *
                  clear o4 hof c0 hib hin hw1
                  obtain ⟨bo, hbo⟩ : ∃ x : Ob, ({ (bb : Ob) with m := nv }) = x := ⟨_, rfl⟩
                  have HSQ : Hid (s' = { s with F := s.F ++ [L], nv := nv }) := (by show _ = _; rw [← HSE.out, HE.out, if_pos rfl, HNV.out])
                  have HBQ : Hid (b' = bo) := by show _ = _; rw [← hbo]; exact (by rw [← HBE.out, HE.out, if_pos rfl, HNV.out, ← HBB.out] <;> rfl)
                  rw [hbo] at HS301
                  clear hbo HSE HBE
                  have o0 := HS301.out.sc.o0
                  have o1 := HS301.out.sc.o1
                  have o2 := HS301.out.sc.o2
                  have o3 := HS301.out.sc.o3
                  have o4 := HS301.out.sc.o4
                  have o5 := HS301.out.sc.o5
                  have t0 := HS301.out.sc.t0
                  have t1 := HS301.out.sc.t1
                  have t2 := HS301.out.sc.t2
                  have t3 := HS301.out.sc.t3
                  have t4 := HS301.out.sc.t4
                  have t5 := HS301.out.sc.t5
                  have htf := HS301.out.sc.tf
                  have hot : o ≠ t := fun z => HS301.out.ne.2.2.1 z.symm
                  have HF := hide HS301.out.fin
                  have HC := hide (fin_cells HS301.out.sc)
                  clear HS301
                  go_wp2_with (with_reducible refine bodyPost_ret (v := ?v) ?hr ?hd ?hp)
                  case v => exact obV bo (.slice none 0 0)
                  case hr =>
                    change (results _ _).run _ (fin6 W301 t bo (.slice none 0 0)) = .ok _ (fin6 W301 t bo (.slice none 0 0))
                    obtain ⟨y0, y1, y2, y3, y4, y5⟩ := HC.out
                    clear HF HC
                    generalize fin6 W301 t bo (.slice none 0 0) = WF at *
                    simp [results, Tryz.results10, go_sem, y0, y1, y2, y3, y4, y5, obV]
                  case hd => rfl
                  case hp => rw [HSQ.out, HBQ.out]; exact HF.out
      · go_simp
        refine hK.out _ _ ?_ (fun hHeld => ?_)
        · (first | with_reducible exact KS0.out | with_reducible exact KS1.out | with_reducible exact KS2.out | with_reducible exact KS3.out | with_reducible exact KS4.out)
        clear hK K
        try simp only [Act.put, List.getElem_toArray, List.getElem_cons_zero, List.getElem_cons_succ, List.setIfInBounds_toArray, List.set_cons_zero, List.set_cons_succ]
        refine wpAnyH_ready (rs := [5]) (by kernel_rfl) (by simp) ?_
        refine (AllReadyH.cons rfl (fun K hK => ?_) AllReadyH.nil)
        · have u4 := HC0.out.vf HVf.out
          first | (have u4b := HC5.out.vf HVf.out; have u4c := HCa.out.vf HVf.out) | skip
          go_simp
          refine hK.out _ _ ?_ (fun hHeld => ?_)
          · (first | with_reducible exact KS0.out | with_reducible exact KS1.out | with_reducible exact KS2.out | with_reducible exact KS3.out | with_reducible exact KS4.out)
          clear hK K
          try simp only [Act.put, List.getElem_toArray, List.getElem_cons_zero, List.getElem_cons_succ, List.setIfInBounds_toArray, List.set_cons_zero, List.set_cons_succ]
          refine wpAnyH_ready (rs := [10]) (by kernel_rfl) (by simp) ?_
          refine (AllReadyH.cons rfl (fun K hK => ?_) AllReadyH.nil)
          · obtain ⟨Vr, hro, hrg, -, hSS⟩ := HCa.out.rowF HVf.out
            have HRG := hide hrg
            have HSS := hide hSS
            have HRO := hide hro
            clear hrg hSS hro
            have HNC : Hid (∀ (jq : Nat) (u : Value), [.slice a5 ln c5][jq]? = some u → (w5.alloc (.cells #[.slice a5 ln c5] 30)).cell? ((⟨w5.heap.size, 0, none⟩ : Addr).add jq) = some u) := fun jq u hj => new_cells w5 [.slice a5 ln c5] 30 jq u hj
            refine step_append_lies _ rfl (.tmp 130) (.tmp 134) 27 rfl B 30 i1 _ 1 24 Tryz.underlying27 HI1.out.1 HI1.out.2.1 HI1.out.2.2.1 HI1.out.2.2.2 rfl (by decide) (.slice fa nf fc) nf Vr rfl HRO.out ⟨w5.heap.size, 0, none⟩ 1 1 [.slice a5 ln c5] rfl rfl HNC.out (fun u hu => by simp at hu; subst hu; rfl) (by decide) (by have := HNL1.out; unfold maxLen; omega) (by have := HNL1.out; omega) HCa.out.szB _ rfl ?_
            intro g6 c6 w6 hr hg hat hlt2
            obtain ⟨V7, S7, hs7⟩ := HC0.out.joinF (hx5.alloc (.cells #[.slice a5 ln c5] 30)) (own_kept hr5 (Ex.of (S := fun _ => False) (be1 w5 _)) (fun _ _ e => e)) HL.out HVf.out HRG.out hr hg hat
            have HC7 := hide hs7
            have E6 := hide (Ex.ofGrown hg (S := fun k => (Value.slice fa nf fc).ownBlock = some k) (fun _ z => z.symm))
            clear hr hg hat hlt2 hs7
            have hnm : Hid (¬ (Value.slice fa nf fc).ownBlock = some m) := fun z => HCa.out.mn.mr 0 (by decide) (HSS.out _ z)
            have hnq : Hid (¬ (Value.slice fa nf fc).ownBlock = some q) := fun z => (HCa.out.nS 0 (by decide)).1 (HSS.out _ z)
            have p3 : w6.cell? ⟨m, 1, none⟩ = some (.slice fa nf fc) := E6.out.cell hnm.out (HCa.out.vf HVf.out)
            have pf : ∀ j, w6.frozen? ⟨m, j, none⟩ = false := fun j => (E6.out.frozen hnm.out HCa.out.mn.lt).trans (HCa.out.mn.fz j)
            have KS3 : Hid ((fun w' => w'.cell? ⟨q, 2, none⟩ = some (.slice la ln lc)) w6) := E6.out.cell hnq.out HCa.out.sc.q2
            have KS4 : Hid ((fun w' => w'.cell? ⟨q, 2, none⟩ = some (.slice la ln lc)) (w6.setCell ⟨m, 1, none⟩ (.slice (some ⟨g6, 0, none⟩) (nf + 1) c6))) := HC7.out.sc.q2
            have v4n : (w6.setCell ⟨m, 1, none⟩ (.slice (some ⟨g6, 0, none⟩) (nf + 1) c6)).cell? ⟨m, 1, none⟩ = some (.slice (some ⟨g6, 0, none⟩) (nf + 1) c6) := World.cell?_setCell_same _ _ _ p3
            clear HRG HSS HRO HNC E6 hnm hnq
            refine hK.out _ _ ?_ (fun hHeld => ?_)
            · (first | with_reducible exact KS0.out | with_reducible exact KS1.out | with_reducible exact KS2.out | with_reducible exact KS3.out | with_reducible exact KS4.out)
            clear hK K
            try simp only [Act.put, List.getElem_toArray, List.getElem_cons_zero, List.getElem_cons_succ, List.setIfInBounds_toArray, List.set_cons_zero, List.set_cons_succ]
            refine wpAnyH_take (i := 11) (v := ?_) rfl (by kernel_rfl) (by kernel_rfl) (by kernel_rfl) (fun _ _ _ h => h) (Or.inl ⟨by rfl, ?_⟩) (by assumption) ?_
            rotate_left
            · (intro w hSw; (try dsimp only at hSw); go_simp; try (with_reducible rfl))
            try simp only [Act.put, List.getElem_toArray, List.getElem_cons_zero, List.getElem_cons_succ, List.setIfInBounds_toArray, List.set_cons_zero, List.set_cons_succ]
            refine wpAnyH_take (i := 12) (v := ?_) rfl (by kernel_rfl) (by kernel_rfl) (by kernel_rfl) (fun _ _ _ h => h) (Or.inl ⟨by rfl, ?_⟩) (by assumption) ?_
            rotate_left
            · (intro w hSw; (try dsimp only at hSw); go_simp; try (with_reducible rfl))
            try simp only [Act.put, List.getElem_toArray, List.getElem_cons_zero, List.getElem_cons_succ, List.setIfInBounds_toArray, List.set_cons_zero, List.set_cons_succ]
            refine wpAnyH_take (i := 13) (v := ?_) rfl (by kernel_rfl) (by kernel_rfl) (by kernel_rfl) (fun _ _ _ h => h) (Or.inl ⟨by rfl, ?_⟩) (by assumption) ?_
            rotate_left
            · (intro w hSw; (try dsimp only at hSw); go_simp; try (with_reducible rfl))
            try simp only [Act.put, List.getElem_toArray, List.getElem_cons_zero, List.getElem_cons_succ, List.setIfInBounds_toArray, List.set_cons_zero, List.set_cons_succ]
            refine wpAnyH_ready (rs := [14]) (by kernel_rfl) (by simp) ?_
            refine (AllReadyH.cons rfl (fun K hK => ?_) AllReadyH.nil)
            · go_simp
              refine hK.out _ _ ?_ (fun hHeld => ?_)
              · (first | with_reducible exact KS0.out | with_reducible exact KS1.out | with_reducible exact KS2.out | with_reducible exact KS3.out | with_reducible exact KS4.out)
              clear hK K
              try simp only [Act.put, List.getElem_toArray, List.getElem_cons_zero, List.getElem_cons_succ, List.setIfInBounds_toArray, List.set_cons_zero, List.set_cons_succ]
              refine wpAnyH_done (by kernel_rfl) ?_ _
              clear KS0 KS1 KS2 KS3 KS4
              clear HC0 HC5 HCa p3 pf HS3 hx5 hr5
              try clear u4
              try clear u4b u4c
              generalize w6.setCell ⟨m, 1, none⟩ (.slice (some ⟨g6, 0, none⟩) (nf + 1) c6) = Wp at *
              have q2 : Wp.cell? ⟨q, 2, none⟩ = some (.slice la ln lc) := HC7.out.sc.q2
              obtain ⟨bb, hbb⟩ : ∃ x : Ob, ({ ({ ({ (ob0 : Ob) with er := 0 } : Ob) with n := -1 } : Ob) with n := (nf : Int) }) = x := ⟨_, rfl⟩
              rw [hbb] at HC7
              have HBB := hide hbb
              clear hbb
              have HST0 : Hid (MW w Wp R B m q t o X V7 S7 { s with F := s.F ++ [L], nv := mxA s.nv (L.take 0) } ⟨3, va, la, ln, lc, VX, ta, tn, tc, VT⟩ bb (.slice none 0 0)) := HC7.out
              go_upto_region 27 with fail
              clear q2 v4n HC7
              go_loopw [7, 142] (fun _ s142 wx => ∃ (i : Nat), s142 = .int .i64 i ∧ i ≤ ln ∧ Hid (MW w wx R B m q t o X V7 S7 { s with F := s.F ++ [L], nv := mxA s.nv (L.take i) } ⟨3, va, la, ln, lc, VX, ta, tn, tc, VT⟩ bb (.slice none 0 0))) (fun _ s142 _ => ln - (intOf s142).toNat)
              case atStart => exact ⟨0, rfl, Nat.zero_le _, HST0⟩
              case round =>
                clear HST0
                obtain ⟨i, rfl, hi, HSi⟩ := hrel
                generalize hgw : wr = wl at *
                clear hgw
                have hw1 : wrap64 ((i : Int) + 1) = ((i + 1 : Nat) : Int) := by unfold wrap64; omega
                obtain ⟨nv, hnv⟩ : ∃ z, mxA s.nv (L.take i) = z := ⟨_, rfl⟩
                rw [hnv] at HSi
                have HNV := hide hnv
                clear hnv
                by_cases hlt : i < ln
                · have hib : decide ((i : Int) < (ln : Int)) = true := decide_eq_true (by omega)
                  have hii : (i : Int) < (ln : Int) := by omega
                  obtain ⟨x, hx⟩ : ∃ x, L[i]? = some x := ⟨_, List.getElem?_eq_getElem (by rw [HL.out]; exact hlt)⟩
                  have HXM := hide (HDL.out x (List.mem_of_getElem? hx))
                  obtain ⟨gl, ol, ea, x0⟩ := (HIL.out wl (HSi.out.exB HRB.out)) i x hx
                  subst ea
                  obtain ⟨ax, hax⟩ : ∃ z, absP x = z := ⟨_, rfl⟩
                  have HNX : Hid (mxA s.nv (L.take (i + 1)) = if nv < ax then ax else nv) := by show _ = _; rw [mxA_snoc s.nv L hx, HNV.out, hax]
                  clear hx
                  have HVO : Hid (∀ w, Calls Tryz.prog 76 #[.int .i64 x] w fun e w' => e = .returned (.int .i64 ax) ∧ w' = w) := fun w => by have hm := HXM.out.1; unfold DI at hm; have := varOf_any w x (by omega); rw [hax] at this; exact this
                  clear hax
                  have c0 : wl.cell? ⟨m, 0, none⟩ = some (.int .i64 nv) := HSi.out.mn.c0
                  have cf := HSi.out.mn.fz
                  by_cases hg : nv < ax
                  · have hgb : decide (nv < ax) = true := decide_eq_true hg
                    go_upto_region 29 with fail
                    go_upto_region 29 with fail
                    go_quiet (first | (go_at_call 76; refine Calls.quiet_of_same (HVO.out _)))
                    rename_i nq
                    have HS301 := hide (HSi.out.low (belN _ nq))
                    clear HSi
                    generalize World.drewN wl nq = W301 at *
                    clear c0 cf hgb x0 hii hib
                    have c0 : W301.cell? ⟨m, 0, none⟩ = some (.int .i64 nv) := HS301.out.mn.c0
                    have cf := HS301.out.mn.fz
                    go_upto_region 30 with fail
                    have cc := hide (HVO.out W301)
                    go_wp2_with fail
                    refine cc.out.mono ?_
                    rintro e wz ⟨rfl, hw⟩
                    rw [hw]
                    clear hw wz
                    clear cc
                    go_upto_region 31 with fail
                    have HS302 := hide (HS301.out.num0 (ax))
                    clear HS301
                    generalize W301.setCell ⟨m, 0, none⟩ (.int .i64 (ax)) = W302 at *
                    clear c0 cf
                    go_wp2
                    go_roundw
                    case rel => exact ⟨i + 1, by go_num, by omega, by rw [HNX.out, if_pos hg]; exact HS302⟩
                    case measure => (simp [intOf]; try omega)
                  · have hgb : decide (nv < ax) = false := decide_eq_false hg
                    go_upto_region 29 with fail
                    go_upto_region 29 with fail
                    go_quiet (first | (go_at_call 76; refine Calls.quiet_of_same (HVO.out _)))
                    rename_i nq
                    have HS301 := hide (HSi.out.low (belN _ nq))
                    clear HSi
                    generalize World.drewN wl nq = W301 at *
                    clear c0 cf x0 hii hib
                    go_wp2
                    go_roundw
                    case rel => exact ⟨i + 1, by go_num, by omega, by rw [HNX.out, if_neg hg]; exact HS301⟩
                    case measure => (simp [intOf]; try omega)
                · have hib : decide ((i : Int) < (ln : Int)) = false := decide_eq_false (by omega)
                  have hin : ¬ (i : Int) < (ln : Int) := by omega
                  rw [List.take_of_length_le (by rw [HL.out]; omega)] at HNV
                  go_upto_region 32 with fail
                  have c0 : wl.cell? ⟨m, 0, none⟩ = some (.int .i64 nv) := HSi.out.mn.c0
                  have o4 := HSi.out.sc.o4
                  have hof := HSi.out.sc.of
                  go_upto_region 151 with fail
                  have HS301 := hide (HSi.out.om (nv))
                  clear HSi
                  generalize wl.setCell ⟨o, 4, none⟩ (.int .i64 (nv)) = W301 at *
                  clear o4 hof c0 hib hin hw1
                  obtain ⟨bo, hbo⟩ : ∃ x : Ob, ({ (bb : Ob) with m := nv }) = x := ⟨_, rfl⟩
                  have HSQ : Hid (s' = { s with F := s.F ++ [L], nv := nv }) := (by show _ = _; rw [← HSE.out, HE.out, if_pos rfl, HNV.out])
                  have HBQ : Hid (b' = bo) := by show _ = _; rw [← hbo]; exact (by rw [← HBE.out, HE.out, if_pos rfl, HNV.out, ← HBB.out] <;> rfl)
                  rw [hbo] at HS301
                  clear hbo HSE HBE
                  have o0 := HS301.out.sc.o0
                  have o1 := HS301.out.sc.o1
                  have o2 := HS301.out.sc.o2
                  have o3 := HS301.out.sc.o3
                  have o4 := HS301.out.sc.o4
                  have o5 := HS301.out.sc.o5
                  have t0 := HS301.out.sc.t0
                  have t1 := HS301.out.sc.t1
                  have t2 := HS301.out.sc.t2
                  have t3 := HS301.out.sc.t3
                  have t4 := HS301.out.sc.t4
                  have t5 := HS301.out.sc.t5
                  have htf := HS301.out.sc.tf
                  have hot : o ≠ t := fun z => HS301.out.ne.2.2.1 z.symm
                  have HF := hide HS301.out.fin
                  have HC := hide (fin_cells HS301.out.sc)
                  clear HS301
                  go_wp2_with (with_reducible refine bodyPost_ret (v := ?v) ?hr ?hd ?hp)
                  case v => exact obV bo (.slice none 0 0)
                  case hr =>
                    change (results _ _).run _ (fin6 W301 t bo (.slice none 0 0)) = .ok _ (fin6 W301 t bo (.slice none 0 0))
                    obtain ⟨y0, y1, y2, y3, y4, y5⟩ := HC.out
                    clear HF HC
                    generalize fin6 W301 t bo (.slice none 0 0) = WF at *
                    simp [results, Tryz.results10, go_sem, y0, y1, y2, y3, y4, y5, obV]
                  case hd => rfl
                  case hp => rw [HSQ.out, HBQ.out]; exact HF.out
  · have HE0 := hide hE
    have heb : (E == 0) = false := by simp [hE]
    clear hE
    have oe : W1.cell? ⟨o, 0, none⟩ = some (.int .i64 (E)) := HS1.out.sc.o0
    go_upto_region 22 with fail
    clear oe
    have o3 := HS1.out.sc.o3
    have hof := HS1.out.sc.of
    go_upto_region 23 with fail
    have HS2 := hide (HS1.out.on (-1))
    clear HS1
    generalize W1.setCell ⟨o, 3, none⟩ (.int .i64 (-1)) = W2 at *
    clear o3 hof
    have oe : W2.cell? ⟨o, 0, none⟩ = some (.int .i64 (E)) := HS2.out.sc.o0
    go_upto_region 32 with fail
    clear oe heb
    have c0 := HS2.out.mn.c0
    have o4 := HS2.out.sc.o4
    have hof := HS2.out.sc.of
    go_upto_region 151 with fail
    have HS3 := hide (HS2.out.om (s.nv))
    clear HS2
    generalize W2.setCell ⟨o, 4, none⟩ (.int .i64 (s.nv)) = W3 at *
    clear o4 hof c0
    obtain ⟨bo, hbo⟩ : ∃ x : Ob, ({ ({ ({ (ob0 : Ob) with er := E } : Ob) with n := -1 } : Ob) with m := s.nv }) = x := ⟨_, rfl⟩
    have HSQ : Hid (s' = s) := (by show _ = _; rw [← HSE.out, HE.out, if_neg (by have := HE0.out; omega)])
    have HBQ : Hid (b' = bo) := by show _ = _; rw [← hbo]; exact (by rw [← HBE.out, HE.out, if_neg (by have := HE0.out; omega)] <;> rfl)
    rw [hbo] at HS3
    clear hbo HSE HBE
    have o0 := HS3.out.sc.o0
    have o1 := HS3.out.sc.o1
    have o2 := HS3.out.sc.o2
    have o3 := HS3.out.sc.o3
    have o4 := HS3.out.sc.o4
    have o5 := HS3.out.sc.o5
    have t0 := HS3.out.sc.t0
    have t1 := HS3.out.sc.t1
    have t2 := HS3.out.sc.t2
    have t3 := HS3.out.sc.t3
    have t4 := HS3.out.sc.t4
    have t5 := HS3.out.sc.t5
    have htf := HS3.out.sc.tf
    have hot : o ≠ t := fun z => HS3.out.ne.2.2.1 z.symm
    have HF := hide HS3.out.fin
    have HC := hide (fin_cells HS3.out.sc)
    clear HS3
    go_wp2_with (with_reducible refine bodyPost_ret (v := ?v) ?hr ?hd ?hp)
    case v => exact obV bo (.slice none 0 0)
    case hr =>
      change (results _ _).run _ (fin6 W3 t bo (.slice none 0 0)) = .ok _ (fin6 W3 t bo (.slice none 0 0))
      obtain ⟨y0, y1, y2, y3, y4, y5⟩ := HC.out
      clear HF HC
      generalize fin6 W3 t bo (.slice none 0 0) = WF at *
      simp [results, Tryz.results10, go_sem, y0, y1, y2, y3, y4, y5, obV]
    case hd => rfl
    case hp => rw [HSQ.out, HBQ.out]; exact HF.out
set_option linter.unusedSimpArgs false in
set_option maxRecDepth 100000 in
set_option maxHeartbeats 32000000 in
/-- cnflaw.modelBench.step: OpProofAdd -/
theorem mstep_16 (w : World) (B m z : Nat) (X : Nat → Prop) (V : Nat → Value) (S : Nat → Nat → Prop) (s : Mst) (h : MN w B m X V S (QM B s) s.nv s.sv) (hB : B ≤ w.heap.size) (hX : ∀ k, X k → k < w.heap.size) (hok : MsOk z s) (hz : z ≤ 65536) (v : OpV) (hk : v.kd = 16) (ha : -9223372036854775808 ≤ v.a ∧ v.a ≤ 9223372036854775807) (L : List Int) (hL : L.length = v.ln) (hIL : ∀ w', Ex (fun k => B ≤ k) w w' → IL w' v.la L) (hln : v.ln ≤ 65536) :
    Calls Tryz.prog 10 #[.pointer (some ⟨m, 0, none⟩), opZ v] w (MpPost w (fp m S) B m X (if ncE L = 0 then { s with P := s.P ++ [(false, L)] } else s) (if ncE L = 0 then { ob0 with n := (s.P.length : Int) + 1 } else { ob0 with er := ncE L, n := s.P.length })) := by
  have HS0 := hide (mw_new v h hB hX)
  have HRB : Hid (∀ k, fp m S k → B ≤ k) := fun k z => z.elim (fun z => by rw [z]; exact h.mB) (fun ⟨i, hi, y⟩ => (h.rg i hi k y).1)
  unfold opZ
  have HOK := hide hok
  have HZ := hide hz
  obtain ⟨s', hs'⟩ : ∃ x : Mst, (if ncE L = 0 then { s with P := s.P ++ [(false, L)] } else s) = x := ⟨_, rfl⟩
  obtain ⟨b', hb'⟩ : ∃ x : Ob, (if ncE L = 0 then { ob0 with n := (s.P.length : Int) + 1 } else { ob0 with er := ncE L, n := s.P.length }) = x := ⟨_, rfl⟩
  rw [hs', hb']
  obtain ⟨kd, va, la, ln, lc, VX, ta, tn, tc, VT⟩ := v
  dsimp only at hk HS0 ha hs' hb' ⊢
  subst hk
  have HSE := hide hs'
  have HBE := hide hb'
  dsimp only at hL hIL hln
  have HL := hide hL
  have HIL := hide hIL
  have hlnb := hln
  clear hL hIL hln
  clear h hok hz hB hX hs' hb'
  generalize fp m S = R at *
  go_enter Tryz.func10, Tryz.ntmps10
  go_upto_region 2 with fail
  generalize (((w.alloc (.cells #[.int .i64 16, .int .i64 va, .slice la ln lc, .slice ta tn tc] 37)).alloc (.cells #[.int .i64 0, .int .i64 0, .int .i64 0, .int .i64 0, .int .i64 0, .slice none 0 0] 43)).alloc (.cells #[.int .i64 0, .int .i64 0, .int .i64 0, .int .i64 0, .int .i64 0, .slice none 0 0] 43)) = W0 at *
  generalize w.heap.size + 1 + 1 = o at *
  generalize w.heap.size + 1 = t at *
  generalize w.heap.size = q at *
  have q0 : W0.cell? ⟨q, 0, none⟩ = some (.int .i64 16) := HS0.out.sc.q0
  obtain ⟨i1, hi0, hz0, hz1, hz2⟩ := info_of Tryz.info136
  have HI1 := hide (And.intro hi0 (And.intro hz0 (And.intro hz1 hz2)))
  clear hi0 hz0 hz1 hz2
  obtain ⟨pa, pc, hvp, hlp, hcp, hmp⟩ := HS0.out.p
  obtain ⟨np, hnp⟩ : ∃ z, s.P.length = z := ⟨_, rfl⟩
  rw [hnp] at hvp hcp
  have HVp := hide hvp
  have HOp := hide hlp
  have HNp := hide hnp
  have HCp := hide (And.intro hcp hmp)
  clear hvp hlp hcp hmp hnp
  have HNL1 : Hid (np ≤ 65536) := by have h1 := HOK.out.P.len; have h2 := HZ.out; rw [HNp.out] at h1; show _ ≤ _; omega
  rw [HNp.out] at HBE
  go_upto_region 82 with fail
  obtain ⟨E, hE⟩ : ∃ x, ncE L = x := ⟨_, rfl⟩
  have HE := hide hE
  clear hE
  have q2 : W0.cell? ⟨q, 2, none⟩ = some (.slice la ln lc) := HS0.out.sc.q2
  have cc : Hid (Calls Tryz.prog 74 #[.slice la ln lc] W0 fun e w' => e = .returned (.int .i64 E) ∧ w' = W0) := by have := checkLits_any W0 la lc L (HIL.out W0 (HS0.out.exB HRB.out)) (by rw [HL.out]; omega); rw [HL.out, HE.out] at this; exact this
  have HDI : Hid (E = 0 → ∀ x ∈ L, DI x ∧ x ≠ 0) := fun z => ncE_di (by rw [HE.out]; exact z)
  go_wp2_with fail
  refine cc.out.mono ?_
  rintro e wz ⟨rfl, hw⟩
  rw [hw]
  clear hw wz
  clear q0 q2 cc
  have o0 := HS0.out.sc.o0
  have hof := HS0.out.sc.of
  go_upto_region 83 with fail
  have HS1 := hide (HS0.out.er (E))
  clear HS0
  generalize W0.setCell ⟨o, 0, none⟩ (.int .i64 (E)) = W1 at *
  clear o0 hof
  by_cases hE : E = 0
  · have HE0 := hide hE
    subst hE
    have oe : W1.cell? ⟨o, 0, none⟩ = some (.int .i64 (0)) := HS1.out.sc.o0
    go_upto_region 84 with fail
    have HC0 := hide (HS1.out.low ((Below.refl _ _).drew))
    have KS0 : Hid ((fun w' => w'.cell? ⟨q, 2, none⟩ = some (.slice la ln lc)) W1.drew) := HC0.out.sc.q2
    refine wp_region_held_drew (S := fun w' => w'.cell? ⟨q, 2, none⟩ = some (.slice la ln lc)) (by kernel_rfl) KS0.out (fun hHeld => ?_)
    refine wpAnyH_take (i := 0) (v := ?_) rfl (by kernel_rfl) (by kernel_rfl) (by kernel_rfl) (fun _ _ _ h => h) (Or.inl ⟨by rfl, ?_⟩) (by assumption) ?_
    rotate_left
    · (intro w hSw; (try dsimp only at hSw); go_simp; try (with_reducible rfl))
    try simp only [Act.put, List.getElem_toArray, List.getElem_cons_zero, List.getElem_cons_succ, List.setIfInBounds_toArray, List.set_cons_zero, List.set_cons_succ]
    refine wpAnyH_take (i := 1) (v := ?_) rfl (by kernel_rfl) (by kernel_rfl) (by kernel_rfl) (fun _ _ _ h => h) (Or.inl ⟨by rfl, ?_⟩) (by assumption) ?_
    rotate_left
    · (intro w hSw; (try dsimp only at hSw); go_simp; try (with_reducible rfl))
    try simp only [Act.put, List.getElem_toArray, List.getElem_cons_zero, List.getElem_cons_succ, List.setIfInBounds_toArray, List.set_cons_zero, List.set_cons_succ]
    refine wpAnyH_take (i := 2) (v := ?_) rfl (by kernel_rfl) (by kernel_rfl) (by kernel_rfl) (fun _ _ _ h => h) (Or.inl ⟨by rfl, ?_⟩) (by assumption) ?_
    rotate_left
    · (intro w hSw; (try dsimp only at hSw); go_simp; try (with_reducible rfl))
    try simp only [Act.put, List.getElem_toArray, List.getElem_cons_zero, List.getElem_cons_succ, List.setIfInBounds_toArray, List.set_cons_zero, List.set_cons_succ]
    refine wpAnyH_take (i := 3) (v := ?_) rfl (by kernel_rfl) (by kernel_rfl) (by kernel_rfl) (fun _ _ _ h => h) (Or.inl ⟨by rfl, ?_⟩) (by assumption) ?_
    rotate_left
    · (intro w hSw; (try dsimp only at hSw); go_simp; try (with_reducible rfl))
    try simp only [Act.put, List.getElem_toArray, List.getElem_cons_zero, List.getElem_cons_succ, List.setIfInBounds_toArray, List.set_cons_zero, List.set_cons_succ]
    refine wpAnyH_take (i := 5) (v := ?_) rfl (by kernel_rfl) (by kernel_rfl) (by kernel_rfl) (fun _ _ _ h => h) (Or.inl ⟨by rfl, ?_⟩) (by assumption) ?_
    rotate_left
    · (intro w hSw; (try dsimp only at hSw); go_simp; try (with_reducible rfl))
    try simp only [Act.put, List.getElem_toArray, List.getElem_cons_zero, List.getElem_cons_succ, List.setIfInBounds_toArray, List.set_cons_zero, List.set_cons_succ]
    refine wpAnyH_take (i := 6) (v := ?_) rfl (by kernel_rfl) (by kernel_rfl) (by kernel_rfl) (fun _ _ _ h => h) (Or.inl ⟨by rfl, ?_⟩) (by assumption) ?_
    rotate_left
    · (intro w hSw; (try dsimp only at hSw); (have z0 := hSw); go_simp; try (with_reducible rfl))
    try simp only [Act.put, List.getElem_toArray, List.getElem_cons_zero, List.getElem_cons_succ, List.setIfInBounds_toArray, List.set_cons_zero, List.set_cons_succ]
    refine wpAnyH_ready (rs := [4, 7]) (by kernel_rfl) (by simp) ?_
    refine (AllReadyH.cons rfl (fun K hK => ?_) (AllReadyH.cons rfl (fun K hK => ?_) AllReadyH.nil))
    · have u4 := HC0.out.vp HVp.out
      first | (have u4b := HC5.out.vp HVp.out; have u4c := HCa.out.vp HVp.out) | skip
      go_simp
      refine hK.out _ _ ?_ (fun hHeld => ?_)
      · (first | with_reducible exact KS0.out | with_reducible exact KS1.out | with_reducible exact KS2.out | with_reducible exact KS3.out | with_reducible exact KS4.out)
      clear hK K
      try simp only [Act.put, List.getElem_toArray, List.getElem_cons_zero, List.getElem_cons_succ, List.setIfInBounds_toArray, List.set_cons_zero, List.set_cons_succ]
      refine wpAnyH_ready (rs := [7]) (by kernel_rfl) (by simp) ?_
      refine (AllReadyH.cons rfl (fun K hK => ?_) AllReadyH.nil)
      · have cc : Hid (Calls Tryz.prog 75 #[.slice la ln lc] W1.drew (MlPost W1.drew L)) := by have := copyM_any W1.drew la lc L ((HIL.out W1 (HS1.out.exB HRB.out)).keep ((Ex.refl (fun _ => False) _).drew) (fun _ _ _ z => z)) (by rw [HL.out]; omega); rw [HL.out] at this; exact this
        refine step_call rfl 75 #[.slice la ln lc] (by simp [go_sem]) cc.out ?_
        rintro e w5 ⟨a5, c5, rfl, hr5, hx5⟩
        clear cc
        rw [HL.out] at hr5 ⊢
        have HC5 := hide (HC0.out.lowE hx5)
        have HCa := hide (HC5.out.low (be1 w5 (.cells #[.bool false, .slice a5 ln c5] 136)))
        have KS1 : Hid ((fun w' => w'.cell? ⟨q, 2, none⟩ = some (.slice la ln lc)) w5) := HC5.out.sc.q2
        have KS2 : Hid ((fun w' => w'.cell? ⟨q, 2, none⟩ = some (.slice la ln lc)) (w5.alloc (.cells #[.bool false, .slice a5 ln c5] 136))) := HCa.out.sc.q2
        refine ⟨_, rfl, ?_⟩
        refine hK.out _ _ ?_ (fun hHeld => ?_)
        · (first | with_reducible exact KS0.out | with_reducible exact KS1.out | with_reducible exact KS2.out | with_reducible exact KS3.out | with_reducible exact KS4.out)
        clear hK K
        try simp only [Act.put, List.getElem_toArray, List.getElem_cons_zero, List.getElem_cons_succ, List.setIfInBounds_toArray, List.set_cons_zero, List.set_cons_succ]
        refine wpAnyH_take (i := 8) (v := ?_) rfl (by kernel_rfl) (by kernel_rfl) (by kernel_rfl) (fun _ _ _ h => h) (Or.inl ⟨by rfl, ?_⟩) (by assumption) ?_
        rotate_left
        · (intro w hSw; (try dsimp only at hSw); go_simp; try (with_reducible rfl))
        try simp only [Act.put, List.getElem_toArray, List.getElem_cons_zero, List.getElem_cons_succ, List.setIfInBounds_toArray, List.set_cons_zero, List.set_cons_succ]
        refine wpAnyH_ready (rs := [9]) (by kernel_rfl) (by simp) ?_
        refine (AllReadyH.cons rfl (fun K hK => ?_) AllReadyH.nil)
        · go_simp
          refine hK.out _ _ ?_ (fun hHeld => ?_)
          · (first | with_reducible exact KS0.out | with_reducible exact KS1.out | with_reducible exact KS2.out | with_reducible exact KS3.out | with_reducible exact KS4.out)
          clear hK K
          try simp only [Act.put, List.getElem_toArray, List.getElem_cons_zero, List.getElem_cons_succ, List.setIfInBounds_toArray, List.set_cons_zero, List.set_cons_succ]
          refine wpAnyH_ready (rs := [10]) (by kernel_rfl) (by simp) ?_
          refine (AllReadyH.cons rfl (fun K hK => ?_) AllReadyH.nil)
          · obtain ⟨Vr, hro, hrg, -, hSS⟩ := HCa.out.rowP HVp.out
            have HRG := hide hrg
            have HSS := hide hSS
            have HRO := hide hro
            clear hrg hSS hro
            have HNC : Hid (∀ (jq : Nat) (u : Value), [.bool false, .slice a5 ln c5][jq]? = some u → (w5.alloc (.cells #[.bool false, .slice a5 ln c5] 136)).cell? ((⟨w5.heap.size, 0, none⟩ : Addr).add jq) = some u) := fun jq u hj => new_cells w5 [.bool false, .slice a5 ln c5] 136 jq u hj
            refine step_append_lies _ rfl (.tmp 450) (.tmp 455) 31 rfl B 136 i1 _ 2 32 Tryz.underlying31 HI1.out.1 HI1.out.2.1 HI1.out.2.2.1 HI1.out.2.2.2 rfl (by decide) (.slice pa np pc) np Vr rfl HRO.out ⟨w5.heap.size, 0, none⟩ 1 1 [.bool false, .slice a5 ln c5] rfl rfl HNC.out (fun u hu => by simp at hu; rcases hu with hu | hu <;> (subst hu; rfl)) (by decide) (by have := HNL1.out; unfold maxLen; omega) (by have := HNL1.out; omega) HCa.out.szB _ rfl ?_
            intro g6 c6 w6 hr hg hat hlt2
            obtain ⟨V7, S7, hs7⟩ := HC0.out.joinP (hx5.alloc (.cells #[.bool false, .slice a5 ln c5] 136)) (own_kept hr5 (Ex.of (S := fun _ => False) (be1 w5 _)) (fun _ _ e => e)) HL.out HVp.out HRG.out hr hg hat
            have HC7 := hide hs7
            have E6 := hide (Ex.ofGrown hg (S := fun k => (Value.slice pa np pc).ownBlock = some k) (fun _ z => z.symm))
            clear hr hg hat hlt2 hs7
            have hnm : Hid (¬ (Value.slice pa np pc).ownBlock = some m) := fun z => HCa.out.mn.mr 1 (by decide) (HSS.out _ z)
            have hnq : Hid (¬ (Value.slice pa np pc).ownBlock = some q) := fun z => (HCa.out.nS 1 (by decide)).1 (HSS.out _ z)
            have p3 : w6.cell? ⟨m, 3, none⟩ = some (.slice pa np pc) := E6.out.cell hnm.out (HCa.out.vp HVp.out)
            have pf : ∀ j, w6.frozen? ⟨m, j, none⟩ = false := fun j => (E6.out.frozen hnm.out HCa.out.mn.lt).trans (HCa.out.mn.fz j)
            have KS3 : Hid ((fun w' => w'.cell? ⟨q, 2, none⟩ = some (.slice la ln lc)) w6) := E6.out.cell hnq.out HCa.out.sc.q2
            have KS4 : Hid ((fun w' => w'.cell? ⟨q, 2, none⟩ = some (.slice la ln lc)) (w6.setCell ⟨m, 3, none⟩ (.slice (some ⟨g6, 0, none⟩) (np + 1) c6))) := HC7.out.sc.q2
            have v4n : (w6.setCell ⟨m, 3, none⟩ (.slice (some ⟨g6, 0, none⟩) (np + 1) c6)).cell? ⟨m, 3, none⟩ = some (.slice (some ⟨g6, 0, none⟩) (np + 1) c6) := World.cell?_setCell_same _ _ _ p3
            clear HRG HSS HRO HNC E6 hnm hnq
            refine hK.out _ _ ?_ (fun hHeld => ?_)
            · (first | with_reducible exact KS0.out | with_reducible exact KS1.out | with_reducible exact KS2.out | with_reducible exact KS3.out | with_reducible exact KS4.out)
            clear hK K
            try simp only [Act.put, List.getElem_toArray, List.getElem_cons_zero, List.getElem_cons_succ, List.setIfInBounds_toArray, List.set_cons_zero, List.set_cons_succ]
            refine wpAnyH_take (i := 11) (v := ?_) rfl (by kernel_rfl) (by kernel_rfl) (by kernel_rfl) (fun _ _ _ h => h) (Or.inl ⟨by rfl, ?_⟩) (by assumption) ?_
            rotate_left
            · (intro w hSw; (try dsimp only at hSw); go_simp; try (with_reducible rfl))
            try simp only [Act.put, List.getElem_toArray, List.getElem_cons_zero, List.getElem_cons_succ, List.setIfInBounds_toArray, List.set_cons_zero, List.set_cons_succ]
            refine wpAnyH_take (i := 12) (v := ?_) rfl (by kernel_rfl) (by kernel_rfl) (by kernel_rfl) (fun _ _ _ h => h) (Or.inl ⟨by rfl, ?_⟩) (by assumption) ?_
            rotate_left
            · (intro w hSw; (try dsimp only at hSw); go_simp; try (with_reducible rfl))
            try simp only [Act.put, List.getElem_toArray, List.getElem_cons_zero, List.getElem_cons_succ, List.setIfInBounds_toArray, List.set_cons_zero, List.set_cons_succ]
            refine wpAnyH_ready (rs := [13]) (by kernel_rfl) (by simp) ?_
            refine (AllReadyH.cons rfl (fun K hK => ?_) AllReadyH.nil)
            · go_simp
              refine hK.out _ _ ?_ (fun hHeld => ?_)
              · (first | with_reducible exact KS0.out | with_reducible exact KS1.out | with_reducible exact KS2.out | with_reducible exact KS3.out | with_reducible exact KS4.out)
              clear hK K
              try simp only [Act.put, List.getElem_toArray, List.getElem_cons_zero, List.getElem_cons_succ, List.setIfInBounds_toArray, List.set_cons_zero, List.set_cons_succ]
              refine wpAnyH_done (by kernel_rfl) ?_ _
              clear KS0 KS1 KS2 KS3 KS4
              clear HC0 HC5 HCa p3 pf HS1 hx5 hr5 oe
              try clear u4
              try clear u4b u4c
              generalize w6.setCell ⟨m, 3, none⟩ (.slice (some ⟨g6, 0, none⟩) (np + 1) c6) = Wp at *
              have o3 := HC7.out.sc.o3
              have hof := HC7.out.sc.of
              go_upto_region 151 with fail
              have HS201 := hide (HC7.out.on ((np : Int) + 1))
              clear HC7
              generalize Wp.setCell ⟨o, 3, none⟩ (.int .i64 ((np : Int) + 1)) = W201 at *
              clear o3 hof v4n
              obtain ⟨bo, hbo⟩ : ∃ x : Ob, ({ ({ (ob0 : Ob) with er := 0 } : Ob) with n := (np : Int) + 1 }) = x := ⟨_, rfl⟩
              have HSQ : Hid (s' = { (s : Mst) with P := s.P ++ [(false, L)] }) := (by show _ = _; rw [← HSE.out, HE.out, if_pos rfl])
              have HBQ : Hid (b' = bo) := by show _ = _; rw [← hbo]; exact (by rw [← HBE.out, HE.out, if_pos rfl] <;> rfl)
              rw [hbo] at HS201
              clear hbo HSE HBE
              have o0 := HS201.out.sc.o0
              have o1 := HS201.out.sc.o1
              have o2 := HS201.out.sc.o2
              have o3 := HS201.out.sc.o3
              have o4 := HS201.out.sc.o4
              have o5 := HS201.out.sc.o5
              have t0 := HS201.out.sc.t0
              have t1 := HS201.out.sc.t1
              have t2 := HS201.out.sc.t2
              have t3 := HS201.out.sc.t3
              have t4 := HS201.out.sc.t4
              have t5 := HS201.out.sc.t5
              have htf := HS201.out.sc.tf
              have hot : o ≠ t := fun z => HS201.out.ne.2.2.1 z.symm
              have HF := hide HS201.out.fin
              have HC := hide (fin_cells HS201.out.sc)
              clear HS201
              go_wp2_with (with_reducible refine bodyPost_ret (v := ?v) ?hr ?hd ?hp)
              case v => exact obV bo (.slice none 0 0)
              case hr =>
                change (results _ _).run _ (fin6 W201 t bo (.slice none 0 0)) = .ok _ (fin6 W201 t bo (.slice none 0 0))
                obtain ⟨y0, y1, y2, y3, y4, y5⟩ := HC.out
                clear HF HC
                generalize fin6 W201 t bo (.slice none 0 0) = WF at *
                simp [results, Tryz.results10, go_sem, y0, y1, y2, y3, y4, y5, obV]
              case hd => rfl
              case hp => rw [HSQ.out, HBQ.out]; exact HF.out
    · have cc : Hid (Calls Tryz.prog 75 #[.slice la ln lc] W1.drew (MlPost W1.drew L)) := by have := copyM_any W1.drew la lc L ((HIL.out W1 (HS1.out.exB HRB.out)).keep ((Ex.refl (fun _ => False) _).drew) (fun _ _ _ z => z)) (by rw [HL.out]; omega); rw [HL.out] at this; exact this
      refine step_call rfl 75 #[.slice la ln lc] (by simp [go_sem]) cc.out ?_
      rintro e w5 ⟨a5, c5, rfl, hr5, hx5⟩
      clear cc
      rw [HL.out] at hr5 ⊢
      have HC5 := hide (HC0.out.lowE hx5)
      have HCa := hide (HC5.out.low (be1 w5 (.cells #[.bool false, .slice a5 ln c5] 136)))
      have KS1 : Hid ((fun w' => w'.cell? ⟨q, 2, none⟩ = some (.slice la ln lc)) w5) := HC5.out.sc.q2
      have KS2 : Hid ((fun w' => w'.cell? ⟨q, 2, none⟩ = some (.slice la ln lc)) (w5.alloc (.cells #[.bool false, .slice a5 ln c5] 136))) := HCa.out.sc.q2
      refine ⟨_, rfl, ?_⟩
      refine hK.out _ _ ?_ (fun hHeld => ?_)
      · (first | with_reducible exact KS0.out | with_reducible exact KS1.out | with_reducible exact KS2.out | with_reducible exact KS3.out | with_reducible exact KS4.out)
      clear hK K
      try simp only [Act.put, List.getElem_toArray, List.getElem_cons_zero, List.getElem_cons_succ, List.setIfInBounds_toArray, List.set_cons_zero, List.set_cons_succ]
      refine wpAnyH_take (i := 8) (v := ?_) rfl (by kernel_rfl) (by kernel_rfl) (by kernel_rfl) (fun _ _ _ h => h) (Or.inl ⟨by rfl, ?_⟩) (by assumption) ?_
      rotate_left
      · (intro w hSw; (try dsimp only at hSw); go_simp; try (with_reducible rfl))
      try simp only [Act.put, List.getElem_toArray, List.getElem_cons_zero, List.getElem_cons_succ, List.setIfInBounds_toArray, List.set_cons_zero, List.set_cons_succ]
      refine wpAnyH_ready (rs := [4, 9]) (by kernel_rfl) (by simp) ?_
      refine (AllReadyH.cons rfl (fun K hK => ?_) (AllReadyH.cons rfl (fun K hK => ?_) AllReadyH.nil))
      · have u4 := HC0.out.vp HVp.out
        first | (have u4b := HC5.out.vp HVp.out; have u4c := HCa.out.vp HVp.out) | skip
        go_simp
        refine hK.out _ _ ?_ (fun hHeld => ?_)
        · (first | with_reducible exact KS0.out | with_reducible exact KS1.out | with_reducible exact KS2.out | with_reducible exact KS3.out | with_reducible exact KS4.out)
        clear hK K
        try simp only [Act.put, List.getElem_toArray, List.getElem_cons_zero, List.getElem_cons_succ, List.setIfInBounds_toArray, List.set_cons_zero, List.set_cons_succ]
        refine wpAnyH_ready (rs := [9]) (by kernel_rfl) (by simp) ?_
        refine (AllReadyH.cons rfl (fun K hK => ?_) AllReadyH.nil)
        · go_simp
          refine hK.out _ _ ?_ (fun hHeld => ?_)
          · (first | with_reducible exact KS0.out | with_reducible exact KS1.out | with_reducible exact KS2.out | with_reducible exact KS3.out | with_reducible exact KS4.out)
          clear hK K
          try simp only [Act.put, List.getElem_toArray, List.getElem_cons_zero, List.getElem_cons_succ, List.setIfInBounds_toArray, List.set_cons_zero, List.set_cons_succ]
          refine wpAnyH_ready (rs := [10]) (by kernel_rfl) (by simp) ?_
          refine (AllReadyH.cons rfl (fun K hK => ?_) AllReadyH.nil)
          · obtain ⟨Vr, hro, hrg, -, hSS⟩ := HCa.out.rowP HVp.out
            have HRG := hide hrg
            have HSS := hide hSS
            have HRO := hide hro
            clear hrg hSS hro
            have HNC : Hid (∀ (jq : Nat) (u : Value), [.bool false, .slice a5 ln c5][jq]? = some u → (w5.alloc (.cells #[.bool false, .slice a5 ln c5] 136)).cell? ((⟨w5.heap.size, 0, none⟩ : Addr).add jq) = some u) := fun jq u hj => new_cells w5 [.bool false, .slice a5 ln c5] 136 jq u hj
            refine step_append_lies _ rfl (.tmp 450) (.tmp 455) 31 rfl B 136 i1 _ 2 32 Tryz.underlying31 HI1.out.1 HI1.out.2.1 HI1.out.2.2.1 HI1.out.2.2.2 rfl (by decide) (.slice pa np pc) np Vr rfl HRO.out ⟨w5.heap.size, 0, none⟩ 1 1 [.bool false, .slice a5 ln c5] rfl rfl HNC.out (fun u hu => by simp at hu; rcases hu with hu | hu <;> (subst hu; rfl)) (by decide) (by have := HNL1.out; unfold maxLen; omega) (by have := HNL1.out; omega) HCa.out.szB _ rfl ?_
            intro g6 c6 w6 hr hg hat hlt2
            obtain ⟨V7, S7, hs7⟩ := HC0.out.joinP (hx5.alloc (.cells #[.bool false, .slice a5 ln c5] 136)) (own_kept hr5 (Ex.of (S := fun _ => False) (be1 w5 _)) (fun _ _ e => e)) HL.out HVp.out HRG.out hr hg hat
            have HC7 := hide hs7
            have E6 := hide (Ex.ofGrown hg (S := fun k => (Value.slice pa np pc).ownBlock = some k) (fun _ z => z.symm))
            clear hr hg hat hlt2 hs7
            have hnm : Hid (¬ (Value.slice pa np pc).ownBlock = some m) := fun z => HCa.out.mn.mr 1 (by decide) (HSS.out _ z)
            have hnq : Hid (¬ (Value.slice pa np pc).ownBlock = some q) := fun z => (HCa.out.nS 1 (by decide)).1 (HSS.out _ z)
            have p3 : w6.cell? ⟨m, 3, none⟩ = some (.slice pa np pc) := E6.out.cell hnm.out (HCa.out.vp HVp.out)
            have pf : ∀ j, w6.frozen? ⟨m, j, none⟩ = false := fun j => (E6.out.frozen hnm.out HCa.out.mn.lt).trans (HCa.out.mn.fz j)
            have KS3 : Hid ((fun w' => w'.cell? ⟨q, 2, none⟩ = some (.slice la ln lc)) w6) := E6.out.cell hnq.out HCa.out.sc.q2
            have KS4 : Hid ((fun w' => w'.cell? ⟨q, 2, none⟩ = some (.slice la ln lc)) (w6.setCell ⟨m, 3, none⟩ (.slice (some ⟨g6, 0, none⟩) (np + 1) c6))) := HC7.out.sc.q2
            have v4n : (w6.setCell ⟨m, 3, none⟩ (.slice (some ⟨g6, 0, none⟩) (np + 1) c6)).cell? ⟨m, 3, none⟩ = some (.slice (some ⟨g6, 0, none⟩) (np + 1) c6) := World.cell?_setCell_same _ _ _ p3
            clear HRG HSS HRO HNC E6 hnm hnq
            refine hK.out _ _ ?_ (fun hHeld => ?_)
            · (first | with_reducible exact KS0.out | with_reducible exact KS1.out | with_reducible exact KS2.out | with_reducible exact KS3.out | with_reducible exact KS4.out)
            clear hK K
            try simp only [Act.put, List.getElem_toArray, List.getElem_cons_zero, List.getElem_cons_succ, List.setIfInBounds_toArray, List.set_cons_zero, List.set_cons_succ]
            refine wpAnyH_take (i := 11) (v := ?_) rfl (by kernel_rfl) (by kernel_rfl) (by kernel_rfl) (fun _ _ _ h => h) (Or.inl ⟨by rfl, ?_⟩) (by assumption) ?_
            rotate_left
            · (intro w hSw; (try dsimp only at hSw); go_simp; try (with_reducible rfl))
            try simp only [Act.put, List.getElem_toArray, List.getElem_cons_zero, List.getElem_cons_succ, List.setIfInBounds_toArray, List.set_cons_zero, List.set_cons_succ]
            refine wpAnyH_take (i := 12) (v := ?_) rfl (by kernel_rfl) (by kernel_rfl) (by kernel_rfl) (fun _ _ _ h => h) (Or.inl ⟨by rfl, ?_⟩) (by assumption) ?_
            rotate_left
            · (intro w hSw; (try dsimp only at hSw); go_simp; try (with_reducible rfl))
            try simp only [Act.put, List.getElem_toArray, List.getElem_cons_zero, List.getElem_cons_succ, List.setIfInBounds_toArray, List.set_cons_zero, List.set_cons_succ]
            refine wpAnyH_ready (rs := [13]) (by kernel_rfl) (by simp) ?_
            refine (AllReadyH.cons rfl (fun K hK => ?_) AllReadyH.nil)
            · go_simp
              refine hK.out _ _ ?_ (fun hHeld => ?_)
              · (first | with_reducible exact KS0.out | with_reducible exact KS1.out | with_reducible exact KS2.out | with_reducible exact KS3.out | with_reducible exact KS4.out)
              clear hK K
              try simp only [Act.put, List.getElem_toArray, List.getElem_cons_zero, List.getElem_cons_succ, List.setIfInBounds_toArray, List.set_cons_zero, List.set_cons_succ]
              refine wpAnyH_done (by kernel_rfl) ?_ _
              clear KS0 KS1 KS2 KS3 KS4
              clear HC0 HC5 HCa p3 pf HS1 hx5 hr5 oe
              try clear u4
              try clear u4b u4c
              generalize w6.setCell ⟨m, 3, none⟩ (.slice (some ⟨g6, 0, none⟩) (np + 1) c6) = Wp at *
              have o3 := HC7.out.sc.o3
              have hof := HC7.out.sc.of
              go_upto_region 151 with fail
              have HS201 := hide (HC7.out.on ((np : Int) + 1))
              clear HC7
              generalize Wp.setCell ⟨o, 3, none⟩ (.int .i64 ((np : Int) + 1)) = W201 at *
              clear o3 hof v4n
              obtain ⟨bo, hbo⟩ : ∃ x : Ob, ({ ({ (ob0 : Ob) with er := 0 } : Ob) with n := (np : Int) + 1 }) = x := ⟨_, rfl⟩
              have HSQ : Hid (s' = { (s : Mst) with P := s.P ++ [(false, L)] }) := (by show _ = _; rw [← HSE.out, HE.out, if_pos rfl])
              have HBQ : Hid (b' = bo) := by show _ = _; rw [← hbo]; exact (by rw [← HBE.out, HE.out, if_pos rfl] <;> rfl)
              rw [hbo] at HS201
              clear hbo HSE HBE
              have o0 := HS201.out.sc.o0
              have o1 := HS201.out.sc.o1
              have o2 := HS201.out.sc.o2
              have o3 := HS201.out.sc.o3
              have o4 := HS201.out.sc.o4
              have o5 := HS201.out.sc.o5
              have t0 := HS201.out.sc.t0
              have t1 := HS201.out.sc.t1
              have t2 := HS201.out.sc.t2
              have t3 := HS201.out.sc.t3
              have t4 := HS201.out.sc.t4
              have t5 := HS201.out.sc.t5
              have htf := HS201.out.sc.tf
              have hot : o ≠ t := fun z => HS201.out.ne.2.2.1 z.symm
              have HF := hide HS201.out.fin
              have HC := hide (fin_cells HS201.out.sc)
              clear HS201
              go_wp2_with (with_reducible refine bodyPost_ret (v := ?v) ?hr ?hd ?hp)
              case v => exact obV bo (.slice none 0 0)
              case hr =>
                change (results _ _).run _ (fin6 W201 t bo (.slice none 0 0)) = .ok _ (fin6 W201 t bo (.slice none 0 0))
                obtain ⟨y0, y1, y2, y3, y4, y5⟩ := HC.out
                clear HF HC
                generalize fin6 W201 t bo (.slice none 0 0) = WF at *
                simp [results, Tryz.results10, go_sem, y0, y1, y2, y3, y4, y5, obV]
              case hd => rfl
              case hp => rw [HSQ.out, HBQ.out]; exact HF.out
      · go_simp
        refine hK.out _ _ ?_ (fun hHeld => ?_)
        · (first | with_reducible exact KS0.out | with_reducible exact KS1.out | with_reducible exact KS2.out | with_reducible exact KS3.out | with_reducible exact KS4.out)
        clear hK K
        try simp only [Act.put, List.getElem_toArray, List.getElem_cons_zero, List.getElem_cons_succ, List.setIfInBounds_toArray, List.set_cons_zero, List.set_cons_succ]
        refine wpAnyH_ready (rs := [4]) (by kernel_rfl) (by simp) ?_
        refine (AllReadyH.cons rfl (fun K hK => ?_) AllReadyH.nil)
        · have u4 := HC0.out.vp HVp.out
          first | (have u4b := HC5.out.vp HVp.out; have u4c := HCa.out.vp HVp.out) | skip
          go_simp
          refine hK.out _ _ ?_ (fun hHeld => ?_)
          · (first | with_reducible exact KS0.out | with_reducible exact KS1.out | with_reducible exact KS2.out | with_reducible exact KS3.out | with_reducible exact KS4.out)
          clear hK K
          try simp only [Act.put, List.getElem_toArray, List.getElem_cons_zero, List.getElem_cons_succ, List.setIfInBounds_toArray, List.set_cons_zero, List.set_cons_succ]
          refine wpAnyH_ready (rs := [10]) (by kernel_rfl) (by simp) ?_
          refine (AllReadyH.cons rfl (fun K hK => ?_) AllReadyH.nil)
          · obtain ⟨Vr, hro, hrg, -, hSS⟩ := HCa.out.rowP HVp.out
            have HRG := hide hrg
            have HSS := hide hSS
            have HRO := hide hro
            clear hrg hSS hro
            have HNC : Hid (∀ (jq : Nat) (u : Value), [.bool false, .slice a5 ln c5][jq]? = some u → (w5.alloc (.cells #[.bool false, .slice a5 ln c5] 136)).cell? ((⟨w5.heap.size, 0, none⟩ : Addr).add jq) = some u) := fun jq u hj => new_cells w5 [.bool false, .slice a5 ln c5] 136 jq u hj
            refine step_append_lies _ rfl (.tmp 450) (.tmp 455) 31 rfl B 136 i1 _ 2 32 Tryz.underlying31 HI1.out.1 HI1.out.2.1 HI1.out.2.2.1 HI1.out.2.2.2 rfl (by decide) (.slice pa np pc) np Vr rfl HRO.out ⟨w5.heap.size, 0, none⟩ 1 1 [.bool false, .slice a5 ln c5] rfl rfl HNC.out (fun u hu => by simp at hu; rcases hu with hu | hu <;> (subst hu; rfl)) (by decide) (by have := HNL1.out; unfold maxLen; omega) (by have := HNL1.out; omega) HCa.out.szB _ rfl ?_
            intro g6 c6 w6 hr hg hat hlt2
            obtain ⟨V7, S7, hs7⟩ := HC0.out.joinP (hx5.alloc (.cells #[.bool false, .slice a5 ln c5] 136)) (own_kept hr5 (Ex.of (S := fun _ => False) (be1 w5 _)) (fun _ _ e => e)) HL.out HVp.out HRG.out hr hg hat
            have HC7 := hide hs7
            have E6 := hide (Ex.ofGrown hg (S := fun k => (Value.slice pa np pc).ownBlock = some k) (fun _ z => z.symm))
            clear hr hg hat hlt2 hs7
            have hnm : Hid (¬ (Value.slice pa np pc).ownBlock = some m) := fun z => HCa.out.mn.mr 1 (by decide) (HSS.out _ z)
            have hnq : Hid (¬ (Value.slice pa np pc).ownBlock = some q) := fun z => (HCa.out.nS 1 (by decide)).1 (HSS.out _ z)
            have p3 : w6.cell? ⟨m, 3, none⟩ = some (.slice pa np pc) := E6.out.cell hnm.out (HCa.out.vp HVp.out)
            have pf : ∀ j, w6.frozen? ⟨m, j, none⟩ = false := fun j => (E6.out.frozen hnm.out HCa.out.mn.lt).trans (HCa.out.mn.fz j)
            have KS3 : Hid ((fun w' => w'.cell? ⟨q, 2, none⟩ = some (.slice la ln lc)) w6) := E6.out.cell hnq.out HCa.out.sc.q2
            have KS4 : Hid ((fun w' => w'.cell? ⟨q, 2, none⟩ = some (.slice la ln lc)) (w6.setCell ⟨m, 3, none⟩ (.slice (some ⟨g6, 0, none⟩) (np + 1) c6))) := HC7.out.sc.q2
            have v4n : (w6.setCell ⟨m, 3, none⟩ (.slice (some ⟨g6, 0, none⟩) (np + 1) c6)).cell? ⟨m, 3, none⟩ = some (.slice (some ⟨g6, 0, none⟩) (np + 1) c6) := World.cell?_setCell_same _ _ _ p3
            clear HRG HSS HRO HNC E6 hnm hnq
            refine hK.out _ _ ?_ (fun hHeld => ?_)
            · (first | with_reducible exact KS0.out | with_reducible exact KS1.out | with_reducible exact KS2.out | with_reducible exact KS3.out | with_reducible exact KS4.out)
            clear hK K
            try simp only [Act.put, List.getElem_toArray, List.getElem_cons_zero, List.getElem_cons_succ, List.setIfInBounds_toArray, List.set_cons_zero, List.set_cons_succ]
            refine wpAnyH_take (i := 11) (v := ?_) rfl (by kernel_rfl) (by kernel_rfl) (by kernel_rfl) (fun _ _ _ h => h) (Or.inl ⟨by rfl, ?_⟩) (by assumption) ?_
            rotate_left
            · (intro w hSw; (try dsimp only at hSw); go_simp; try (with_reducible rfl))
            try simp only [Act.put, List.getElem_toArray, List.getElem_cons_zero, List.getElem_cons_succ, List.setIfInBounds_toArray, List.set_cons_zero, List.set_cons_succ]
            refine wpAnyH_take (i := 12) (v := ?_) rfl (by kernel_rfl) (by kernel_rfl) (by kernel_rfl) (fun _ _ _ h => h) (Or.inl ⟨by rfl, ?_⟩) (by assumption) ?_
            rotate_left
            · (intro w hSw; (try dsimp only at hSw); go_simp; try (with_reducible rfl))
            try simp only [Act.put, List.getElem_toArray, List.getElem_cons_zero, List.getElem_cons_succ, List.setIfInBounds_toArray, List.set_cons_zero, List.set_cons_succ]
            refine wpAnyH_ready (rs := [13]) (by kernel_rfl) (by simp) ?_
            refine (AllReadyH.cons rfl (fun K hK => ?_) AllReadyH.nil)
            · go_simp
              refine hK.out _ _ ?_ (fun hHeld => ?_)
              · (first | with_reducible exact KS0.out | with_reducible exact KS1.out | with_reducible exact KS2.out | with_reducible exact KS3.out | with_reducible exact KS4.out)
              clear hK K
              try simp only [Act.put, List.getElem_toArray, List.getElem_cons_zero, List.getElem_cons_succ, List.setIfInBounds_toArray, List.set_cons_zero, List.set_cons_succ]
              refine wpAnyH_done (by kernel_rfl) ?_ _
              clear KS0 KS1 KS2 KS3 KS4
              clear HC0 HC5 HCa p3 pf HS1 hx5 hr5 oe
              try clear u4
              try clear u4b u4c
              generalize w6.setCell ⟨m, 3, none⟩ (.slice (some ⟨g6, 0, none⟩) (np + 1) c6) = Wp at *
              have o3 := HC7.out.sc.o3
              have hof := HC7.out.sc.of
              go_upto_region 151 with fail
              have HS201 := hide (HC7.out.on ((np : Int) + 1))
              clear HC7
              generalize Wp.setCell ⟨o, 3, none⟩ (.int .i64 ((np : Int) + 1)) = W201 at *
              clear o3 hof v4n
              obtain ⟨bo, hbo⟩ : ∃ x : Ob, ({ ({ (ob0 : Ob) with er := 0 } : Ob) with n := (np : Int) + 1 }) = x := ⟨_, rfl⟩
              have HSQ : Hid (s' = { (s : Mst) with P := s.P ++ [(false, L)] }) := (by show _ = _; rw [← HSE.out, HE.out, if_pos rfl])
              have HBQ : Hid (b' = bo) := by show _ = _; rw [← hbo]; exact (by rw [← HBE.out, HE.out, if_pos rfl] <;> rfl)
              rw [hbo] at HS201
              clear hbo HSE HBE
              have o0 := HS201.out.sc.o0
              have o1 := HS201.out.sc.o1
              have o2 := HS201.out.sc.o2
              have o3 := HS201.out.sc.o3
              have o4 := HS201.out.sc.o4
              have o5 := HS201.out.sc.o5
              have t0 := HS201.out.sc.t0
              have t1 := HS201.out.sc.t1
              have t2 := HS201.out.sc.t2
              have t3 := HS201.out.sc.t3
              have t4 := HS201.out.sc.t4
              have t5 := HS201.out.sc.t5
              have htf := HS201.out.sc.tf
              have hot : o ≠ t := fun z => HS201.out.ne.2.2.1 z.symm
              have HF := hide HS201.out.fin
              have HC := hide (fin_cells HS201.out.sc)
              clear HS201
              go_wp2_with (with_reducible refine bodyPost_ret (v := ?v) ?hr ?hd ?hp)
              case v => exact obV bo (.slice none 0 0)
              case hr =>
                change (results _ _).run _ (fin6 W201 t bo (.slice none 0 0)) = .ok _ (fin6 W201 t bo (.slice none 0 0))
                obtain ⟨y0, y1, y2, y3, y4, y5⟩ := HC.out
                clear HF HC
                generalize fin6 W201 t bo (.slice none 0 0) = WF at *
                simp [results, Tryz.results10, go_sem, y0, y1, y2, y3, y4, y5, obV]
              case hd => rfl
              case hp => rw [HSQ.out, HBQ.out]; exact HF.out
  · have HE0 := hide hE
    have heb : (E == 0) = false := by simp [hE]
    clear hE
    have oe : W1.cell? ⟨o, 0, none⟩ = some (.int .i64 (E)) := HS1.out.sc.o0
    have o3 := HS1.out.sc.o3
    have hof := HS1.out.sc.of
    have v4 := (HS1.out.vp HVp.out)
    go_upto_region 151 with fail
    have HS2 := hide (HS1.out.on ((np : Int)))
    clear HS1
    generalize W1.setCell ⟨o, 3, none⟩ (.int .i64 ((np : Int))) = W2 at *
    clear oe o3 hof heb v4
    obtain ⟨bo, hbo⟩ : ∃ x : Ob, ({ ({ (ob0 : Ob) with er := E } : Ob) with n := (np : Int) }) = x := ⟨_, rfl⟩
    have HSQ : Hid (s' = s) := (by show _ = _; rw [← HSE.out, HE.out, if_neg (by have := HE0.out; omega)])
    have HBQ : Hid (b' = bo) := by show _ = _; rw [← hbo]; exact (by rw [← HBE.out, HE.out, if_neg (by have := HE0.out; omega)] <;> rfl)
    rw [hbo] at HS2
    clear hbo HSE HBE
    have o0 := HS2.out.sc.o0
    have o1 := HS2.out.sc.o1
    have o2 := HS2.out.sc.o2
    have o3 := HS2.out.sc.o3
    have o4 := HS2.out.sc.o4
    have o5 := HS2.out.sc.o5
    have t0 := HS2.out.sc.t0
    have t1 := HS2.out.sc.t1
    have t2 := HS2.out.sc.t2
    have t3 := HS2.out.sc.t3
    have t4 := HS2.out.sc.t4
    have t5 := HS2.out.sc.t5
    have htf := HS2.out.sc.tf
    have hot : o ≠ t := fun z => HS2.out.ne.2.2.1 z.symm
    have HF := hide HS2.out.fin
    have HC := hide (fin_cells HS2.out.sc)
    clear HS2
    go_wp2_with (with_reducible refine bodyPost_ret (v := ?v) ?hr ?hd ?hp)
    case v => exact obV bo (.slice none 0 0)
    case hr =>
      change (results _ _).run _ (fin6 W2 t bo (.slice none 0 0)) = .ok _ (fin6 W2 t bo (.slice none 0 0))
      obtain ⟨y0, y1, y2, y3, y4, y5⟩ := HC.out
      clear HF HC
      generalize fin6 W2 t bo (.slice none 0 0) = WF at *
      simp [results, Tryz.results10, go_sem, y0, y1, y2, y3, y4, y5, obV]
    case hd => rfl
    case hp => rw [HSQ.out, HBQ.out]; exact HF.out
set_option linter.unusedSimpArgs false in
set_option maxRecDepth 100000 in
set_option maxHeartbeats 32000000 in
/-- cnflaw.modelBench.step: OpProofDelete -/
theorem mstep_17 (w : World) (B m z : Nat) (X : Nat → Prop) (V : Nat → Value) (S : Nat → Nat → Prop) (s : Mst) (h : MN w B m X V S (QM B s) s.nv s.sv) (hB : B ≤ w.heap.size) (hX : ∀ k, X k → k < w.heap.size) (hok : MsOk z s) (hz : z ≤ 65536) (v : OpV) (hk : v.kd = 17) (ha : -9223372036854775808 ≤ v.a ∧ v.a ≤ 9223372036854775807) (L : List Int) (hL : L.length = v.ln) (hIL : ∀ w', Ex (fun k => B ≤ k) w w' → IL w' v.la L) (hln : v.ln ≤ 65536) :
    Calls Tryz.prog 10 #[.pointer (some ⟨m, 0, none⟩), opZ v] w (MpPost w (fp m S) B m X (if ncE L = 0 then { s with P := s.P ++ [(true, L)] } else s) (if ncE L = 0 then { ob0 with n := (s.P.length : Int) + 1 } else { ob0 with er := ncE L, n := s.P.length })) := by
  have HS0 := hide (mw_new v h hB hX)
  have HRB : Hid (∀ k, fp m S k → B ≤ k) := fun k z => z.elim (fun z => by rw [z]; exact h.mB) (fun ⟨i, hi, y⟩ => (h.rg i hi k y).1)
  unfold opZ
  have HOK := hide hok
  have HZ := hide hz
  obtain ⟨s', hs'⟩ : ∃ x : Mst, (if ncE L = 0 then { s with P := s.P ++ [(true, L)] } else s) = x := ⟨_, rfl⟩
  obtain ⟨b', hb'⟩ : ∃ x : Ob, (if ncE L = 0 then { ob0 with n := (s.P.length : Int) + 1 } else { ob0 with er := ncE L, n := s.P.length }) = x := ⟨_, rfl⟩
  rw [hs', hb']
  obtain ⟨kd, va, la, ln, lc, VX, ta, tn, tc, VT⟩ := v
  dsimp only at hk HS0 ha hs' hb' ⊢
  subst hk
  have HSE := hide hs'
  have HBE := hide hb'
  dsimp only at hL hIL hln
  have HL := hide hL
  have HIL := hide hIL
  have hlnb := hln
  clear hL hIL hln
  clear h hok hz hB hX hs' hb'
  generalize fp m S = R at *
  go_enter Tryz.func10, Tryz.ntmps10
  go_upto_region 2 with fail
  generalize (((w.alloc (.cells #[.int .i64 17, .int .i64 va, .slice la ln lc, .slice ta tn tc] 37)).alloc (.cells #[.int .i64 0, .int .i64 0, .int .i64 0, .int .i64 0, .int .i64 0, .slice none 0 0] 43)).alloc (.cells #[.int .i64 0, .int .i64 0, .int .i64 0, .int .i64 0, .int .i64 0, .slice none 0 0] 43)) = W0 at *
  generalize w.heap.size + 1 + 1 = o at *
  generalize w.heap.size + 1 = t at *
  generalize w.heap.size = q at *
  have q0 : W0.cell? ⟨q, 0, none⟩ = some (.int .i64 17) := HS0.out.sc.q0
  obtain ⟨i1, hi0, hz0, hz1, hz2⟩ := info_of Tryz.info136
  have HI1 := hide (And.intro hi0 (And.intro hz0 (And.intro hz1 hz2)))
  clear hi0 hz0 hz1 hz2
  obtain ⟨pa, pc, hvp, hlp, hcp, hmp⟩ := HS0.out.p
  obtain ⟨np, hnp⟩ : ∃ z, s.P.length = z := ⟨_, rfl⟩
  rw [hnp] at hvp hcp
  have HVp := hide hvp
  have HOp := hide hlp
  have HNp := hide hnp
  have HCp := hide (And.intro hcp hmp)
  clear hvp hlp hcp hmp hnp
  have HNL1 : Hid (np ≤ 65536) := by have h1 := HOK.out.P.len; have h2 := HZ.out; rw [HNp.out] at h1; show _ ≤ _; omega
  rw [HNp.out] at HBE
  go_upto_region 87 with fail
  obtain ⟨E, hE⟩ : ∃ x, ncE L = x := ⟨_, rfl⟩
  have HE := hide hE
  clear hE
  have q2 : W0.cell? ⟨q, 2, none⟩ = some (.slice la ln lc) := HS0.out.sc.q2
  have cc : Hid (Calls Tryz.prog 74 #[.slice la ln lc] W0 fun e w' => e = .returned (.int .i64 E) ∧ w' = W0) := by have := checkLits_any W0 la lc L (HIL.out W0 (HS0.out.exB HRB.out)) (by rw [HL.out]; omega); rw [HL.out, HE.out] at this; exact this
  have HDI : Hid (E = 0 → ∀ x ∈ L, DI x ∧ x ≠ 0) := fun z => ncE_di (by rw [HE.out]; exact z)
  go_wp2_with fail
  refine cc.out.mono ?_
  rintro e wz ⟨rfl, hw⟩
  rw [hw]
  clear hw wz
  clear q0 q2 cc
  have o0 := HS0.out.sc.o0
  have hof := HS0.out.sc.of
  go_upto_region 88 with fail
  have HS1 := hide (HS0.out.er (E))
  clear HS0
  generalize W0.setCell ⟨o, 0, none⟩ (.int .i64 (E)) = W1 at *
  clear o0 hof
  by_cases hE : E = 0
  · have HE0 := hide hE
    subst hE
    have oe : W1.cell? ⟨o, 0, none⟩ = some (.int .i64 (0)) := HS1.out.sc.o0
    go_upto_region 89 with fail
    have HC0 := hide (HS1.out.low ((Below.refl _ _).drew))
    have KS0 : Hid ((fun w' => w'.cell? ⟨q, 2, none⟩ = some (.slice la ln lc)) W1.drew) := HC0.out.sc.q2
    refine wp_region_held_drew (S := fun w' => w'.cell? ⟨q, 2, none⟩ = some (.slice la ln lc)) (by kernel_rfl) KS0.out (fun hHeld => ?_)
    refine wpAnyH_take (i := 0) (v := ?_) rfl (by kernel_rfl) (by kernel_rfl) (by kernel_rfl) (fun _ _ _ h => h) (Or.inl ⟨by rfl, ?_⟩) (by assumption) ?_
    rotate_left
    · (intro w hSw; (try dsimp only at hSw); go_simp; try (with_reducible rfl))
    try simp only [Act.put, List.getElem_toArray, List.getElem_cons_zero, List.getElem_cons_succ, List.setIfInBounds_toArray, List.set_cons_zero, List.set_cons_succ]
    refine wpAnyH_take (i := 1) (v := ?_) rfl (by kernel_rfl) (by kernel_rfl) (by kernel_rfl) (fun _ _ _ h => h) (Or.inl ⟨by rfl, ?_⟩) (by assumption) ?_
    rotate_left
    · (intro w hSw; (try dsimp only at hSw); go_simp; try (with_reducible rfl))
    try simp only [Act.put, List.getElem_toArray, List.getElem_cons_zero, List.getElem_cons_succ, List.setIfInBounds_toArray, List.set_cons_zero, List.set_cons_succ]
    refine wpAnyH_take (i := 2) (v := ?_) rfl (by kernel_rfl) (by kernel_rfl) (by kernel_rfl) (fun _ _ _ h => h) (Or.inl ⟨by rfl, ?_⟩) (by assumption) ?_
    rotate_left
    · (intro w hSw; (try dsimp only at hSw); go_simp; try (with_reducible rfl))
    try simp only [Act.put, List.getElem_toArray, List.getElem_cons_zero, List.getElem_cons_succ, List.setIfInBounds_toArray, List.set_cons_zero, List.set_cons_succ]
    refine wpAnyH_take (i := 3) (v := ?_) rfl (by kernel_rfl) (by kernel_rfl) (by kernel_rfl) (fun _ _ _ h => h) (Or.inl ⟨by rfl, ?_⟩) (by assumption) ?_
    rotate_left
    · (intro w hSw; (try dsimp only at hSw); go_simp; try (with_reducible rfl))
    try simp only [Act.put, List.getElem_toArray, List.getElem_cons_zero, List.getElem_cons_succ, List.setIfInBounds_toArray, List.set_cons_zero, List.set_cons_succ]
    refine wpAnyH_take (i := 5) (v := ?_) rfl (by kernel_rfl) (by kernel_rfl) (by kernel_rfl) (fun _ _ _ h => h) (Or.inl ⟨by rfl, ?_⟩) (by assumption) ?_
    rotate_left
    · (intro w hSw; (try dsimp only at hSw); go_simp; try (with_reducible rfl))
    try simp only [Act.put, List.getElem_toArray, List.getElem_cons_zero, List.getElem_cons_succ, List.setIfInBounds_toArray, List.set_cons_zero, List.set_cons_succ]
    refine wpAnyH_take (i := 6) (v := ?_) rfl (by kernel_rfl) (by kernel_rfl) (by kernel_rfl) (fun _ _ _ h => h) (Or.inl ⟨by rfl, ?_⟩) (by assumption) ?_
    rotate_left
    · (intro w hSw; (try dsimp only at hSw); (have z0 := hSw); go_simp; try (with_reducible rfl))
    try simp only [Act.put, List.getElem_toArray, List.getElem_cons_zero, List.getElem_cons_succ, List.setIfInBounds_toArray, List.set_cons_zero, List.set_cons_succ]
    refine wpAnyH_ready (rs := [4, 7]) (by kernel_rfl) (by simp) ?_
    refine (AllReadyH.cons rfl (fun K hK => ?_) (AllReadyH.cons rfl (fun K hK => ?_) AllReadyH.nil))
    · have u4 := HC0.out.vp HVp.out
      first | (have u4b := HC5.out.vp HVp.out; have u4c := HCa.out.vp HVp.out) | skip
      go_simp
      refine hK.out _ _ ?_ (fun hHeld => ?_)
      · (first | with_reducible exact KS0.out | with_reducible exact KS1.out | with_reducible exact KS2.out | with_reducible exact KS3.out | with_reducible exact KS4.out)
      clear hK K
      try simp only [Act.put, List.getElem_toArray, List.getElem_cons_zero, List.getElem_cons_succ, List.setIfInBounds_toArray, List.set_cons_zero, List.set_cons_succ]
      refine wpAnyH_ready (rs := [7]) (by kernel_rfl) (by simp) ?_
      refine (AllReadyH.cons rfl (fun K hK => ?_) AllReadyH.nil)
      · have cc : Hid (Calls Tryz.prog 75 #[.slice la ln lc] W1.drew (MlPost W1.drew L)) := by have := copyM_any W1.drew la lc L ((HIL.out W1 (HS1.out.exB HRB.out)).keep ((Ex.refl (fun _ => False) _).drew) (fun _ _ _ z => z)) (by rw [HL.out]; omega); rw [HL.out] at this; exact this
        refine step_call rfl 75 #[.slice la ln lc] (by simp [go_sem]) cc.out ?_
        rintro e w5 ⟨a5, c5, rfl, hr5, hx5⟩
        clear cc
        rw [HL.out] at hr5 ⊢
        have HC5 := hide (HC0.out.lowE hx5)
        have HCa := hide (HC5.out.low (be1 w5 (.cells #[.bool true, .slice a5 ln c5] 136)))
        have KS1 : Hid ((fun w' => w'.cell? ⟨q, 2, none⟩ = some (.slice la ln lc)) w5) := HC5.out.sc.q2
        have KS2 : Hid ((fun w' => w'.cell? ⟨q, 2, none⟩ = some (.slice la ln lc)) (w5.alloc (.cells #[.bool true, .slice a5 ln c5] 136))) := HCa.out.sc.q2
        refine ⟨_, rfl, ?_⟩
        refine hK.out _ _ ?_ (fun hHeld => ?_)
        · (first | with_reducible exact KS0.out | with_reducible exact KS1.out | with_reducible exact KS2.out | with_reducible exact KS3.out | with_reducible exact KS4.out)
        clear hK K
        try simp only [Act.put, List.getElem_toArray, List.getElem_cons_zero, List.getElem_cons_succ, List.setIfInBounds_toArray, List.set_cons_zero, List.set_cons_succ]
        refine wpAnyH_take (i := 8) (v := ?_) rfl (by kernel_rfl) (by kernel_rfl) (by kernel_rfl) (fun _ _ _ h => h) (Or.inl ⟨by rfl, ?_⟩) (by assumption) ?_
        rotate_left
        · (intro w hSw; (try dsimp only at hSw); go_simp; try (with_reducible rfl))
        try simp only [Act.put, List.getElem_toArray, List.getElem_cons_zero, List.getElem_cons_succ, List.setIfInBounds_toArray, List.set_cons_zero, List.set_cons_succ]
        refine wpAnyH_ready (rs := [9]) (by kernel_rfl) (by simp) ?_
        refine (AllReadyH.cons rfl (fun K hK => ?_) AllReadyH.nil)
        · go_simp
          refine hK.out _ _ ?_ (fun hHeld => ?_)
          · (first | with_reducible exact KS0.out | with_reducible exact KS1.out | with_reducible exact KS2.out | with_reducible exact KS3.out | with_reducible exact KS4.out)
          clear hK K
          try simp only [Act.put, List.getElem_toArray, List.getElem_cons_zero, List.getElem_cons_succ, List.setIfInBounds_toArray, List.set_cons_zero, List.set_cons_succ]
          refine wpAnyH_ready (rs := [10]) (by kernel_rfl) (by simp) ?_
          refine (AllReadyH.cons rfl (fun K hK => ?_) AllReadyH.nil)
          · obtain ⟨Vr, hro, hrg, -, hSS⟩ := HCa.out.rowP HVp.out
            have HRG := hide hrg
            have HSS := hide hSS
            have HRO := hide hro
            clear hrg hSS hro
            have HNC : Hid (∀ (jq : Nat) (u : Value), [.bool true, .slice a5 ln c5][jq]? = some u → (w5.alloc (.cells #[.bool true, .slice a5 ln c5] 136)).cell? ((⟨w5.heap.size, 0, none⟩ : Addr).add jq) = some u) := fun jq u hj => new_cells w5 [.bool true, .slice a5 ln c5] 136 jq u hj
            refine step_append_lies _ rfl (.tmp 480) (.tmp 485) 31 rfl B 136 i1 _ 2 32 Tryz.underlying31 HI1.out.1 HI1.out.2.1 HI1.out.2.2.1 HI1.out.2.2.2 rfl (by decide) (.slice pa np pc) np Vr rfl HRO.out ⟨w5.heap.size, 0, none⟩ 1 1 [.bool true, .slice a5 ln c5] rfl rfl HNC.out (fun u hu => by simp at hu; rcases hu with hu | hu <;> (subst hu; rfl)) (by decide) (by have := HNL1.out; unfold maxLen; omega) (by have := HNL1.out; omega) HCa.out.szB _ rfl ?_
            intro g6 c6 w6 hr hg hat hlt2
            obtain ⟨V7, S7, hs7⟩ := HC0.out.joinP (hx5.alloc (.cells #[.bool true, .slice a5 ln c5] 136)) (own_kept hr5 (Ex.of (S := fun _ => False) (be1 w5 _)) (fun _ _ e => e)) HL.out HVp.out HRG.out hr hg hat
            have HC7 := hide hs7
            have E6 := hide (Ex.ofGrown hg (S := fun k => (Value.slice pa np pc).ownBlock = some k) (fun _ z => z.symm))
            clear hr hg hat hlt2 hs7
            have hnm : Hid (¬ (Value.slice pa np pc).ownBlock = some m) := fun z => HCa.out.mn.mr 1 (by decide) (HSS.out _ z)
            have hnq : Hid (¬ (Value.slice pa np pc).ownBlock = some q) := fun z => (HCa.out.nS 1 (by decide)).1 (HSS.out _ z)
            have p3 : w6.cell? ⟨m, 3, none⟩ = some (.slice pa np pc) := E6.out.cell hnm.out (HCa.out.vp HVp.out)
            have pf : ∀ j, w6.frozen? ⟨m, j, none⟩ = false := fun j => (E6.out.frozen hnm.out HCa.out.mn.lt).trans (HCa.out.mn.fz j)
            have KS3 : Hid ((fun w' => w'.cell? ⟨q, 2, none⟩ = some (.slice la ln lc)) w6) := E6.out.cell hnq.out HCa.out.sc.q2
            have KS4 : Hid ((fun w' => w'.cell? ⟨q, 2, none⟩ = some (.slice la ln lc)) (w6.setCell ⟨m, 3, none⟩ (.slice (some ⟨g6, 0, none⟩) (np + 1) c6))) := HC7.out.sc.q2
            have v4n : (w6.setCell ⟨m, 3, none⟩ (.slice (some ⟨g6, 0, none⟩) (np + 1) c6)).cell? ⟨m, 3, none⟩ = some (.slice (some ⟨g6, 0, none⟩) (np + 1) c6) := World.cell?_setCell_same _ _ _ p3
            clear HRG HSS HRO HNC E6 hnm hnq
            refine hK.out _ _ ?_ (fun hHeld => ?_)
            · (first | with_reducible exact KS0.out | with_reducible exact KS1.out | with_reducible exact KS2.out | with_reducible exact KS3.out | with_reducible exact KS4.out)
            clear hK K
            try simp only [Act.put, List.getElem_toArray, List.getElem_cons_zero, List.getElem_cons_succ, List.setIfInBounds_toArray, List.set_cons_zero, List.set_cons_succ]
            refine wpAnyH_take (i := 11) (v := ?_) rfl (by kernel_rfl) (by kernel_rfl) (by kernel_rfl) (fun _ _ _ h => h) (Or.inl ⟨by rfl, ?_⟩) (by assumption) ?_
            rotate_left
            · (intro w hSw; (try dsimp only at hSw); go_simp; try (with_reducible rfl))
            try simp only [Act.put, List.getElem_toArray, List.getElem_cons_zero, List.getElem_cons_succ, List.setIfInBounds_toArray, List.set_cons_zero, List.set_cons_succ]
            refine wpAnyH_take (i := 12) (v := ?_) rfl (by kernel_rfl) (by kernel_rfl) (by kernel_rfl) (fun _ _ _ h => h) (Or.inl ⟨by rfl, ?_⟩) (by assumption) ?_
            rotate_left
            · (intro w hSw; (try dsimp only at hSw); go_simp; try (with_reducible rfl))
            try simp only [Act.put, List.getElem_toArray, List.getElem_cons_zero, List.getElem_cons_succ, List.setIfInBounds_toArray, List.set_cons_zero, List.set_cons_succ]
            refine wpAnyH_ready (rs := [13]) (by kernel_rfl) (by simp) ?_
            refine (AllReadyH.cons rfl (fun K hK => ?_) AllReadyH.nil)
            · go_simp
              refine hK.out _ _ ?_ (fun hHeld => ?_)
              · (first | with_reducible exact KS0.out | with_reducible exact KS1.out | with_reducible exact KS2.out | with_reducible exact KS3.out | with_reducible exact KS4.out)
              clear hK K
              try simp only [Act.put, List.getElem_toArray, List.getElem_cons_zero, List.getElem_cons_succ, List.setIfInBounds_toArray, List.set_cons_zero, List.set_cons_succ]
              refine wpAnyH_done (by kernel_rfl) ?_ _
              clear KS0 KS1 KS2 KS3 KS4
              clear HC0 HC5 HCa p3 pf HS1 hx5 hr5 oe
              try clear u4
              try clear u4b u4c
              generalize w6.setCell ⟨m, 3, none⟩ (.slice (some ⟨g6, 0, none⟩) (np + 1) c6) = Wp at *
              have o3 := HC7.out.sc.o3
              have hof := HC7.out.sc.of
              go_upto_region 151 with fail
              have HS201 := hide (HC7.out.on ((np : Int) + 1))
              clear HC7
              generalize Wp.setCell ⟨o, 3, none⟩ (.int .i64 ((np : Int) + 1)) = W201 at *
              clear o3 hof v4n
              obtain ⟨bo, hbo⟩ : ∃ x : Ob, ({ ({ (ob0 : Ob) with er := 0 } : Ob) with n := (np : Int) + 1 }) = x := ⟨_, rfl⟩
              have HSQ : Hid (s' = { (s : Mst) with P := s.P ++ [(true, L)] }) := (by show _ = _; rw [← HSE.out, HE.out, if_pos rfl])
              have HBQ : Hid (b' = bo) := by show _ = _; rw [← hbo]; exact (by rw [← HBE.out, HE.out, if_pos rfl] <;> rfl)
              rw [hbo] at HS201
              clear hbo HSE HBE
              have o0 := HS201.out.sc.o0
              have o1 := HS201.out.sc.o1
              have o2 := HS201.out.sc.o2
              have o3 := HS201.out.sc.o3
              have o4 := HS201.out.sc.o4
              have o5 := HS201.out.sc.o5
              have t0 := HS201.out.sc.t0
              have t1 := HS201.out.sc.t1
              have t2 := HS201.out.sc.t2
              have t3 := HS201.out.sc.t3
              have t4 := HS201.out.sc.t4
              have t5 := HS201.out.sc.t5
              have htf := HS201.out.sc.tf
              have hot : o ≠ t := fun z => HS201.out.ne.2.2.1 z.symm
              have HF := hide HS201.out.fin
              have HC := hide (fin_cells HS201.out.sc)
              clear HS201
              go_wp2_with (with_reducible refine bodyPost_ret (v := ?v) ?hr ?hd ?hp)
              case v => exact obV bo (.slice none 0 0)
              case hr =>
                change (results _ _).run _ (fin6 W201 t bo (.slice none 0 0)) = .ok _ (fin6 W201 t bo (.slice none 0 0))
                obtain ⟨y0, y1, y2, y3, y4, y5⟩ := HC.out
                clear HF HC
                generalize fin6 W201 t bo (.slice none 0 0) = WF at *
                simp [results, Tryz.results10, go_sem, y0, y1, y2, y3, y4, y5, obV]
              case hd => rfl
              case hp => rw [HSQ.out, HBQ.out]; exact HF.out
    · have cc : Hid (Calls Tryz.prog 75 #[.slice la ln lc] W1.drew (MlPost W1.drew L)) := by have := copyM_any W1.drew la lc L ((HIL.out W1 (HS1.out.exB HRB.out)).keep ((Ex.refl (fun _ => False) _).drew) (fun _ _ _ z => z)) (by rw [HL.out]; omega); rw [HL.out] at this; exact this
      refine step_call rfl 75 #[.slice la ln lc] (by simp [go_sem]) cc.out ?_
      rintro e w5 ⟨a5, c5, rfl, hr5, hx5⟩
      clear cc
      rw [HL.out] at hr5 ⊢
      have HC5 := hide (HC0.out.lowE hx5)
      have HCa := hide (HC5.out.low (be1 w5 (.cells #[.bool true, .slice a5 ln c5] 136)))
      have KS1 : Hid ((fun w' => w'.cell? ⟨q, 2, none⟩ = some (.slice la ln lc)) w5) := HC5.out.sc.q2
      have KS2 : Hid ((fun w' => w'.cell? ⟨q, 2, none⟩ = some (.slice la ln lc)) (w5.alloc (.cells #[.bool true, .slice a5 ln c5] 136))) := HCa.out.sc.q2
      refine ⟨_, rfl, ?_⟩
      refine hK.out _ _ ?_ (fun hHeld => ?_)
      · (first | with_reducible exact KS0.out | with_reducible exact KS1.out | with_reducible exact KS2.out | with_reducible exact KS3.out | with_reducible exact KS4.out)
      clear hK K
      try simp only [Act.put, List.getElem_toArray, List.getElem_cons_zero, List.getElem_cons_succ, List.setIfInBounds_toArray, List.set_cons_zero, List.set_cons_succ]
      refine wpAnyH_take (i := 8) (v := ?_) rfl (by kernel_rfl) (by kernel_rfl) (by kernel_rfl) (fun _ _ _ h => h) (Or.inl ⟨by rfl, ?_⟩) (by assumption) ?_
      rotate_left
      · (intro w hSw; (try dsimp only at hSw); go_simp; try (with_reducible rfl))
      try simp only [Act.put, List.getElem_toArray, List.getElem_cons_zero, List.getElem_cons_succ, List.setIfInBounds_toArray, List.set_cons_zero, List.set_cons_succ]
      refine wpAnyH_ready (rs := [4, 9]) (by kernel_rfl) (by simp) ?_
      refine (AllReadyH.cons rfl (fun K hK => ?_) (AllReadyH.cons rfl (fun K hK => ?_) AllReadyH.nil))
      · have u4 := HC0.out.vp HVp.out
        first | (have u4b := HC5.out.vp HVp.out; have u4c := HCa.out.vp HVp.out) | skip
        go_simp
        refine hK.out _ _ ?_ (fun hHeld => ?_)
        · (first | with_reducible exact KS0.out | with_reducible exact KS1.out | with_reducible exact KS2.out | with_reducible exact KS3.out | with_reducible exact KS4.out)
        clear hK K
        try simp only [Act.put, List.getElem_toArray, List.getElem_cons_zero, List.getElem_cons_succ, List.setIfInBounds_toArray, List.set_cons_zero, List.set_cons_succ]
        refine wpAnyH_ready (rs := [9]) (by kernel_rfl) (by simp) ?_
        refine (AllReadyH.cons rfl (fun K hK => ?_) AllReadyH.nil)
        · go_simp
          refine hK.out _ _ ?_ (fun hHeld => ?_)
          · (first | with_reducible exact KS0.out | with_reducible exact KS1.out | with_reducible exact KS2.out | with_reducible exact KS3.out | with_reducible exact KS4.out)
          clear hK K
          try simp only [Act.put, List.getElem_toArray, List.getElem_cons_zero, List.getElem_cons_succ, List.setIfInBounds_toArray, List.set_cons_zero, List.set_cons_succ]
          refine wpAnyH_ready (rs := [10]) (by kernel_rfl) (by simp) ?_
          refine (AllReadyH.cons rfl (fun K hK => ?_) AllReadyH.nil)
          · obtain ⟨Vr, hro, hrg, -, hSS⟩ := HCa.out.rowP HVp.out
            have HRG := hide hrg
            have HSS := hide hSS
            have HRO := hide hro
            clear hrg hSS hro
            have HNC : Hid (∀ (jq : Nat) (u : Value), [.bool true, .slice a5 ln c5][jq]? = some u → (w5.alloc (.cells #[.bool true, .slice a5 ln c5] 136)).cell? ((⟨w5.heap.size, 0, none⟩ : Addr).add jq) = some u) := fun jq u hj => new_cells w5 [.bool true, .slice a5 ln c5] 136 jq u hj
            refine step_append_lies _ rfl (.tmp 480) (.tmp 485) 31 rfl B 136 i1 _ 2 32 Tryz.underlying31 HI1.out.1 HI1.out.2.1 HI1.out.2.2.1 HI1.out.2.2.2 rfl (by decide) (.slice pa np pc) np Vr rfl HRO.out ⟨w5.heap.size, 0, none⟩ 1 1 [.bool true, .slice a5 ln c5] rfl rfl HNC.out (fun u hu => by simp at hu; rcases hu with hu | hu <;> (subst hu; rfl)) (by decide) (by have := HNL1.out; unfold maxLen; omega) (by have := HNL1.out; omega) HCa.out.szB _ rfl ?_
            intro g6 c6 w6 hr hg hat hlt2
            obtain ⟨V7, S7, hs7⟩ := HC0.out.joinP (hx5.alloc (.cells #[.bool true, .slice a5 ln c5] 136)) (own_kept hr5 (Ex.of (S := fun _ => False) (be1 w5 _)) (fun _ _ e => e)) HL.out HVp.out HRG.out hr hg hat
            have HC7 := hide hs7
            have E6 := hide (Ex.ofGrown hg (S := fun k => (Value.slice pa np pc).ownBlock = some k) (fun _ z => z.symm))
            clear hr hg hat hlt2 hs7
            have hnm : Hid (¬ (Value.slice pa np pc).ownBlock = some m) := fun z => HCa.out.mn.mr 1 (by decide) (HSS.out _ z)
            have hnq : Hid (¬ (Value.slice pa np pc).ownBlock = some q) := fun z => (HCa.out.nS 1 (by decide)).1 (HSS.out _ z)
            have p3 : w6.cell? ⟨m, 3, none⟩ = some (.slice pa np pc) := E6.out.cell hnm.out (HCa.out.vp HVp.out)
            have pf : ∀ j, w6.frozen? ⟨m, j, none⟩ = false := fun j => (E6.out.frozen hnm.out HCa.out.mn.lt).trans (HCa.out.mn.fz j)
            have KS3 : Hid ((fun w' => w'.cell? ⟨q, 2, none⟩ = some (.slice la ln lc)) w6) := E6.out.cell hnq.out HCa.out.sc.q2
            have KS4 : Hid ((fun w' => w'.cell? ⟨q, 2, none⟩ = some (.slice la ln lc)) (w6.setCell ⟨m, 3, none⟩ (.slice (some ⟨g6, 0, none⟩) (np + 1) c6))) := HC7.out.sc.q2
            have v4n : (w6.setCell ⟨m, 3, none⟩ (.slice (some ⟨g6, 0, none⟩) (np + 1) c6)).cell? ⟨m, 3, none⟩ = some (.slice (some ⟨g6, 0, none⟩) (np + 1) c6) := World.cell?_setCell_same _ _ _ p3
            clear HRG HSS HRO HNC E6 hnm hnq
            refine hK.out _ _ ?_ (fun hHeld => ?_)
            · (first | with_reducible exact KS0.out | with_reducible exact KS1.out | with_reducible exact KS2.out | with_reducible exact KS3.out | with_reducible exact KS4.out)
            clear hK K
            try simp only [Act.put, List.getElem_toArray, List.getElem_cons_zero, List.getElem_cons_succ, List.setIfInBounds_toArray, List.set_cons_zero, List.set_cons_succ]
            refine wpAnyH_take (i := 11) (v := ?_) rfl (by kernel_rfl) (by kernel_rfl) (by kernel_rfl) (fun _ _ _ h => h) (Or.inl ⟨by rfl, ?_⟩) (by assumption) ?_
            rotate_left
            · (intro w hSw; (try dsimp only at hSw); go_simp; try (with_reducible rfl))
            try simp only [Act.put, List.getElem_toArray, List.getElem_cons_zero, List.getElem_cons_succ, List.setIfInBounds_toArray, List.set_cons_zero, List.set_cons_succ]
            refine wpAnyH_take (i := 12) (v := ?_) rfl (by kernel_rfl) (by kernel_rfl) (by kernel_rfl) (fun _ _ _ h => h) (Or.inl ⟨by rfl, ?_⟩) (by assumption) ?_
            rotate_left
            · (intro w hSw; (try dsimp only at hSw); go_simp; try (with_reducible rfl))
            try simp only [Act.put, List.getElem_toArray, List.getElem_cons_zero, List.getElem_cons_succ, List.setIfInBounds_toArray, List.set_cons_zero, List.set_cons_succ]
            refine wpAnyH_ready (rs := [13]) (by kernel_rfl) (by simp) ?_
            refine (AllReadyH.cons rfl (fun K hK => ?_) AllReadyH.nil)
            · go_simp
              refine hK.out _ _ ?_ (fun hHeld => ?_)
              · (first | with_reducible exact KS0.out | with_reducible exact KS1.out | with_reducible exact KS2.out | with_reducible exact KS3.out | with_reducible exact KS4.out)
              clear hK K
              try simp only [Act.put, List.getElem_toArray, List.getElem_cons_zero, List.getElem_cons_succ, List.setIfInBounds_toArray, List.set_cons_zero, List.set_cons_succ]
              refine wpAnyH_done (by kernel_rfl) ?_ _
              clear KS0 KS1 KS2 KS3 KS4
              clear HC0 HC5 HCa p3 pf HS1 hx5 hr5 oe
              try clear u4
              try clear u4b u4c
              generalize w6.setCell ⟨m, 3, none⟩ (.slice (some ⟨g6, 0, none⟩) (np + 1) c6) = Wp at *
              have o3 := HC7.out.sc.o3
              have hof := HC7.out.sc.of
              go_upto_region 151 with fail
              have HS201 := hide (HC7.out.on ((np : Int) + 1))
              clear HC7
              generalize Wp.setCell ⟨o, 3, none⟩ (.int .i64 ((np : Int) + 1)) = W201 at *
              clear o3 hof v4n
              obtain ⟨bo, hbo⟩ : ∃ x : Ob, ({ ({ (ob0 : Ob) with er := 0 } : Ob) with n := (np : Int) + 1 }) = x := ⟨_, rfl⟩
              have HSQ : Hid (s' = { (s : Mst) with P := s.P ++ [(true, L)] }) := (by show _ = _; rw [← HSE.out, HE.out, if_pos rfl])
              have HBQ : Hid (b' = bo) := by show _ = _; rw [← hbo]; exact (by rw [← HBE.out, HE.out, if_pos rfl] <;> rfl)
              rw [hbo] at HS201
              clear hbo HSE HBE
              have o0 := HS201.out.sc.o0
              have o1 := HS201.out.sc.o1
              have o2 := HS201.out.sc.o2
              have o3 := HS201.out.sc.o3
              have o4 := HS201.out.sc.o4
              have o5 := HS201.out.sc.o5
              have t0 := HS201.out.sc.t0
              have t1 := HS201.out.sc.t1
              have t2 := HS201.out.sc.t2
              have t3 := HS201.out.sc.t3
              have t4 := HS201.out.sc.t4
              have t5 := HS201.out.sc.t5
              have htf := HS201.out.sc.tf
              have hot : o ≠ t := fun z => HS201.out.ne.2.2.1 z.symm
              have HF := hide HS201.out.fin
              have HC := hide (fin_cells HS201.out.sc)
              clear HS201
              go_wp2_with (with_reducible refine bodyPost_ret (v := ?v) ?hr ?hd ?hp)
              case v => exact obV bo (.slice none 0 0)
              case hr =>
                change (results _ _).run _ (fin6 W201 t bo (.slice none 0 0)) = .ok _ (fin6 W201 t bo (.slice none 0 0))
                obtain ⟨y0, y1, y2, y3, y4, y5⟩ := HC.out
                clear HF HC
                generalize fin6 W201 t bo (.slice none 0 0) = WF at *
                simp [results, Tryz.results10, go_sem, y0, y1, y2, y3, y4, y5, obV]
              case hd => rfl
              case hp => rw [HSQ.out, HBQ.out]; exact HF.out
      · go_simp
        refine hK.out _ _ ?_ (fun hHeld => ?_)
        · (first | with_reducible exact KS0.out | with_reducible exact KS1.out | with_reducible exact KS2.out | with_reducible exact KS3.out | with_reducible exact KS4.out)
        clear hK K
        try simp only [Act.put, List.getElem_toArray, List.getElem_cons_zero, List.getElem_cons_succ, List.setIfInBounds_toArray, List.set_cons_zero, List.set_cons_succ]
        refine wpAnyH_ready (rs := [4]) (by kernel_rfl) (by simp) ?_
        refine (AllReadyH.cons rfl (fun K hK => ?_) AllReadyH.nil)
        · have u4 := HC0.out.vp HVp.out
          first | (have u4b := HC5.out.vp HVp.out; have u4c := HCa.out.vp HVp.out) | skip
          go_simp
          refine hK.out _ _ ?_ (fun hHeld => ?_)
          · (first | with_reducible exact KS0.out | with_reducible exact KS1.out | with_reducible exact KS2.out | with_reducible exact KS3.out | with_reducible exact KS4.out)
          clear hK K
          try simp only [Act.put, List.getElem_toArray, List.getElem_cons_zero, List.getElem_cons_succ, List.setIfInBounds_toArray, List.set_cons_zero, List.set_cons_succ]
          refine wpAnyH_ready (rs := [10]) (by kernel_rfl) (by simp) ?_
          refine (AllReadyH.cons rfl (fun K hK => ?_) AllReadyH.nil)
          · obtain ⟨Vr, hro, hrg, -, hSS⟩ := HCa.out.rowP HVp.out
            have HRG := hide hrg
            have HSS := hide hSS
            have HRO := hide hro
            clear hrg hSS hro
            have HNC : Hid (∀ (jq : Nat) (u : Value), [.bool true, .slice a5 ln c5][jq]? = some u → (w5.alloc (.cells #[.bool true, .slice a5 ln c5] 136)).cell? ((⟨w5.heap.size, 0, none⟩ : Addr).add jq) = some u) := fun jq u hj => new_cells w5 [.bool true, .slice a5 ln c5] 136 jq u hj
            refine step_append_lies _ rfl (.tmp 480) (.tmp 485) 31 rfl B 136 i1 _ 2 32 Tryz.underlying31 HI1.out.1 HI1.out.2.1 HI1.out.2.2.1 HI1.out.2.2.2 rfl (by decide) (.slice pa np pc) np Vr rfl HRO.out ⟨w5.heap.size, 0, none⟩ 1 1 [.bool true, .slice a5 ln c5] rfl rfl HNC.out (fun u hu => by simp at hu; rcases hu with hu | hu <;> (subst hu; rfl)) (by decide) (by have := HNL1.out; unfold maxLen; omega) (by have := HNL1.out; omega) HCa.out.szB _ rfl ?_
            intro g6 c6 w6 hr hg hat hlt2
            obtain ⟨V7, S7, hs7⟩ := HC0.out.joinP (hx5.alloc (.cells #[.bool true, .slice a5 ln c5] 136)) (own_kept hr5 (Ex.of (S := fun _ => False) (be1 w5 _)) (fun _ _ e => e)) HL.out HVp.out HRG.out hr hg hat
            have HC7 := hide hs7
            have E6 := hide (Ex.ofGrown hg (S := fun k => (Value.slice pa np pc).ownBlock = some k) (fun _ z => z.symm))
            clear hr hg hat hlt2 hs7
            have hnm : Hid (¬ (Value.slice pa np pc).ownBlock = some m) := fun z => HCa.out.mn.mr 1 (by decide) (HSS.out _ z)
            have hnq : Hid (¬ (Value.slice pa np pc).ownBlock = some q) := fun z => (HCa.out.nS 1 (by decide)).1 (HSS.out _ z)
            have p3 : w6.cell? ⟨m, 3, none⟩ = some (.slice pa np pc) := E6.out.cell hnm.out (HCa.out.vp HVp.out)
            have pf : ∀ j, w6.frozen? ⟨m, j, none⟩ = false := fun j => (E6.out.frozen hnm.out HCa.out.mn.lt).trans (HCa.out.mn.fz j)
            have KS3 : Hid ((fun w' => w'.cell? ⟨q, 2, none⟩ = some (.slice la ln lc)) w6) := E6.out.cell hnq.out HCa.out.sc.q2
            have KS4 : Hid ((fun w' => w'.cell? ⟨q, 2, none⟩ = some (.slice la ln lc)) (w6.setCell ⟨m, 3, none⟩ (.slice (some ⟨g6, 0, none⟩) (np + 1) c6))) := HC7.out.sc.q2
            have v4n : (w6.setCell ⟨m, 3, none⟩ (.slice (some ⟨g6, 0, none⟩) (np + 1) c6)).cell? ⟨m, 3, none⟩ = some (.slice (some ⟨g6, 0, none⟩) (np + 1) c6) := World.cell?_setCell_same _ _ _ p3
            clear HRG HSS HRO HNC E6 hnm hnq
            refine hK.out _ _ ?_ (fun hHeld => ?_)
            · (first | with_reducible exact KS0.out | with_reducible exact KS1.out | with_reducible exact KS2.out | with_reducible exact KS3.out | with_reducible exact KS4.out)
            clear hK K
            try simp only [Act.put, List.getElem_toArray, List.getElem_cons_zero, List.getElem_cons_succ, List.setIfInBounds_toArray, List.set_cons_zero, List.set_cons_succ]
            refine wpAnyH_take (i := 11) (v := ?_) rfl (by kernel_rfl) (by kernel_rfl) (by kernel_rfl) (fun _ _ _ h => h) (Or.inl ⟨by rfl, ?_⟩) (by assumption) ?_
            rotate_left
            · (intro w hSw; (try dsimp only at hSw); go_simp; try (with_reducible rfl))
            try simp only [Act.put, List.getElem_toArray, List.getElem_cons_zero, List.getElem_cons_succ, List.setIfInBounds_toArray, List.set_cons_zero, List.set_cons_succ]
            refine wpAnyH_take (i := 12) (v := ?_) rfl (by kernel_rfl) (by kernel_rfl) (by kernel_rfl) (fun _ _ _ h => h) (Or.inl ⟨by rfl, ?_⟩) (by assumption) ?_
            rotate_left
            · (intro w hSw; (try dsimp only at hSw); go_simp; try (with_reducible rfl))
            try simp only [Act.put, List.getElem_toArray, List.getElem_cons_zero, List.getElem_cons_succ, List.setIfInBounds_toArray, List.set_cons_zero, List.set_cons_succ]
            refine wpAnyH_ready (rs := [13]) (by kernel_rfl) (by simp) ?_
            refine (AllReadyH.cons rfl (fun K hK => ?_) AllReadyH.nil)
            · go_simp
              refine hK.out _ _ ?_ (fun hHeld => ?_)
              · (first | with_reducible exact KS0.out | with_reducible exact KS1.out | with_reducible exact KS2.out | with_reducible exact KS3.out | with_reducible exact KS4.out)
              clear hK K
              try simp only [Act.put, List.getElem_toArray, List.getElem_cons_zero, List.getElem_cons_succ, List.setIfInBounds_toArray, List.set_cons_zero, List.set_cons_succ]
              refine wpAnyH_done (by kernel_rfl) ?_ _
              clear KS0 KS1 KS2 KS3 KS4
              clear HC0 HC5 HCa p3 pf HS1 hx5 hr5 oe
              try clear u4
              try clear u4b u4c
              generalize w6.setCell ⟨m, 3, none⟩ (.slice (some ⟨g6, 0, none⟩) (np + 1) c6) = Wp at *
              have o3 := HC7.out.sc.o3
              have hof := HC7.out.sc.of
              go_upto_region 151 with fail
              have HS201 := hide (HC7.out.on ((np : Int) + 1))
              clear HC7
              generalize Wp.setCell ⟨o, 3, none⟩ (.int .i64 ((np : Int) + 1)) = W201 at *
              clear o3 hof v4n
              obtain ⟨bo, hbo⟩ : ∃ x : Ob, ({ ({ (ob0 : Ob) with er := 0 } : Ob) with n := (np : Int) + 1 }) = x := ⟨_, rfl⟩
              have HSQ : Hid (s' = { (s : Mst) with P := s.P ++ [(true, L)] }) := (by show _ = _; rw [← HSE.out, HE.out, if_pos rfl])
              have HBQ : Hid (b' = bo) := by show _ = _; rw [← hbo]; exact (by rw [← HBE.out, HE.out, if_pos rfl] <;> rfl)
              rw [hbo] at HS201
              clear hbo HSE HBE
              have o0 := HS201.out.sc.o0
              have o1 := HS201.out.sc.o1
              have o2 := HS201.out.sc.o2
              have o3 := HS201.out.sc.o3
              have o4 := HS201.out.sc.o4
              have o5 := HS201.out.sc.o5
              have t0 := HS201.out.sc.t0
              have t1 := HS201.out.sc.t1
              have t2 := HS201.out.sc.t2
              have t3 := HS201.out.sc.t3
              have t4 := HS201.out.sc.t4
              have t5 := HS201.out.sc.t5
              have htf := HS201.out.sc.tf
              have hot : o ≠ t := fun z => HS201.out.ne.2.2.1 z.symm
              have HF := hide HS201.out.fin
              have HC := hide (fin_cells HS201.out.sc)
              clear HS201
              go_wp2_with (with_reducible refine bodyPost_ret (v := ?v) ?hr ?hd ?hp)
              case v => exact obV bo (.slice none 0 0)
              case hr =>
                change (results _ _).run _ (fin6 W201 t bo (.slice none 0 0)) = .ok _ (fin6 W201 t bo (.slice none 0 0))
                obtain ⟨y0, y1, y2, y3, y4, y5⟩ := HC.out
                clear HF HC
                generalize fin6 W201 t bo (.slice none 0 0) = WF at *
                simp [results, Tryz.results10, go_sem, y0, y1, y2, y3, y4, y5, obV]
              case hd => rfl
              case hp => rw [HSQ.out, HBQ.out]; exact HF.out
  · have HE0 := hide hE
    have heb : (E == 0) = false := by simp [hE]
    clear hE
    have oe : W1.cell? ⟨o, 0, none⟩ = some (.int .i64 (E)) := HS1.out.sc.o0
    have o3 := HS1.out.sc.o3
    have hof := HS1.out.sc.of
    have v4 := (HS1.out.vp HVp.out)
    go_upto_region 151 with fail
    have HS2 := hide (HS1.out.on ((np : Int)))
    clear HS1
    generalize W1.setCell ⟨o, 3, none⟩ (.int .i64 ((np : Int))) = W2 at *
    clear oe o3 hof heb v4
    obtain ⟨bo, hbo⟩ : ∃ x : Ob, ({ ({ (ob0 : Ob) with er := E } : Ob) with n := (np : Int) }) = x := ⟨_, rfl⟩
    have HSQ : Hid (s' = s) := (by show _ = _; rw [← HSE.out, HE.out, if_neg (by have := HE0.out; omega)])
    have HBQ : Hid (b' = bo) := by show _ = _; rw [← hbo]; exact (by rw [← HBE.out, HE.out, if_neg (by have := HE0.out; omega)] <;> rfl)
    rw [hbo] at HS2
    clear hbo HSE HBE
    have o0 := HS2.out.sc.o0
    have o1 := HS2.out.sc.o1
    have o2 := HS2.out.sc.o2
    have o3 := HS2.out.sc.o3
    have o4 := HS2.out.sc.o4
    have o5 := HS2.out.sc.o5
    have t0 := HS2.out.sc.t0
    have t1 := HS2.out.sc.t1
    have t2 := HS2.out.sc.t2
    have t3 := HS2.out.sc.t3
    have t4 := HS2.out.sc.t4
    have t5 := HS2.out.sc.t5
    have htf := HS2.out.sc.tf
    have hot : o ≠ t := fun z => HS2.out.ne.2.2.1 z.symm
    have HF := hide HS2.out.fin
    have HC := hide (fin_cells HS2.out.sc)
    clear HS2
    go_wp2_with (with_reducible refine bodyPost_ret (v := ?v) ?hr ?hd ?hp)
    case v => exact obV bo (.slice none 0 0)
    case hr =>
      change (results _ _).run _ (fin6 W2 t bo (.slice none 0 0)) = .ok _ (fin6 W2 t bo (.slice none 0 0))
      obtain ⟨y0, y1, y2, y3, y4, y5⟩ := HC.out
      clear HF HC
      generalize fin6 W2 t bo (.slice none 0 0) = WF at *
      simp [results, Tryz.results10, go_sem, y0, y1, y2, y3, y4, y5, obV]
    case hd => rfl
    case hp => rw [HSQ.out, HBQ.out]; exact HF.out
end Go.Proofs.Qxb6500773aGreat
