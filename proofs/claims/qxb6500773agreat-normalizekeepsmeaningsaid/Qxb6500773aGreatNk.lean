import Derived.Test.Qxb6500773aGreatLt0
namespace Go.Proofs.Qxb6500773aGreat
open Go.RowKit

theorem any_take {C : List Int} (p : Int → Bool) {i : Nat} {x : Int} (h : C[i]? = some x) : (C.take (i + 1)).any p = ((C.take i).any p || p x) := by
  rw [List.take_add_one, h, List.any_append]
  simp
theorem asc_at {N : List Int} (h : N.Pairwise (· < ·)) {i : Nat} (hi : 1 ≤ i) (hl : i < N.length) : gt N (i - 1) < gt N i := by
  have := List.pairwise_iff_getElem.1 h (i - 1) i (by omega) hl (by omega)
  rw [gt_some (List.getElem?_eq_getElem (show i - 1 < N.length by omega)), gt_some (List.getElem?_eq_getElem hl)]
  exact this
set_option linter.unusedSimpArgs false in
set_option maxRecDepth 100000 in
set_option maxHeartbeats 32000000 in
/-- cnflaw.NormalizeKeepsMeaning -/
theorem normalizeKeepsMeaning_walk (w : World) (a : Option Addr) (len cap : Nat) (f : Nat → OpV) (hn : len ≤ 9223372036854775807) (hops : OpsAt w a len f) :
    Calls Tryz.prog 5 #[.slice a len cap] w fun e w' => e = .returned (.bool true) ∧ Below w.heap.size w w' := by
  have HO := hide hops
  have cs := hide (smallS_any w a len cap f hops hn)
  clear hops
  go_enter Tryz.func5, Tryz.ntmps5
  go_wp2_with fail
  refine cs.out.mono ?_
  rintro e w' ⟨bb, rfl, hw, hsm⟩
  rw [hw]
  clear hw w' cs
  cases bb
  · go_wp2
    go_ret
    exact ⟨rfl, Below.refl _ _⟩
  have HSM := hide (hsm rfl)
  clear hsm
  go_wp2_with fail
  refine (newBench_any w).mono ?_
  rintro e w1 ⟨r, rfl, hbx, hb1⟩
  have HB1 := hide hb1
  have HX1 := hide hbx
  clear hb1 hbx
  have hlen : len ≤ 65536 := by have := HSM.out; omega
  go_wp2_with fail
  go_loopw [5, 6, 7, 8, 9, 10, 11, 13, 15, 22] (fun _ _ _ _ _ _ _ _ _ s22 wx => ∃ (i : Nat) (s : St), s22 = .int .i64 i ∧ i ≤ len ∧ Hid (BX wx w.heap.size r s) ∧ Hid (StOk (i + sumP f i) s) ∧ Hid (Below w.heap.size w wx)) (fun _ _ _ _ _ _ _ _ _ s22 _ => len - (intOf s22).toNat)
  case atStart => exact ⟨0, st0, rfl, Nat.zero_le _, HX1, st0_ok, HB1⟩
  case round =>
    clear HX1 HB1
    obtain ⟨i, s, rfl, hi, HX, HK, HB⟩ := hrel
    have hw1 : wrap64 ((i : Int) + 1) = ((i + 1 : Nat) : Int) := by unfold wrap64; omega
    by_cases hlt : i < len
    · have hib : decide ((i : Int) < (len : Int)) = true := decide_eq_true (by omega)
      have hii : (i : Int) < (len : Int) := by omega
      obtain ⟨b, off, ea, hop⟩ := HO.out i hlt
      subst ea
      have HSZ : Hid (i + sumP f i ≤ 65536 ∧ (f i).ln ≤ 65536 ∧ (f i).tn ≤ 65536) := by
        have h1 := sumP_mono f (i := i + 1) (j := len) (by omega)
        have h2 := HSM.out
        rw [sumP] at h1
        show _ ∧ _ ∧ _
        omega
      have hop1 := hop.below HB.out
      have c0 := hop1.c0
      have c1 := hop1.c1
      have c2 := hop1.c2
      have c3 := hop1.c3
      have HNX : Hid (i + sumP f i + 1 + (litsO (f i)).length + (f i).tn = (i + 1) + sumP f (i + 1)) := by show _ = _; rw [sumP, litsO_len]; omega
      obtain ⟨P, S, hbn⟩ := HX.out
      have hcs := fun (wz : World) (hbx : BN wz w.heap.size r P S (QS w.heap.size s)) (hwz : Below w.heap.size w wz) => hide (step_all wz w.heap.size r (i + sumP f i) P S s hbx hwz.size HK.out HSZ.out.1 (f i) (by have := hop.ra; omega) (litsO (f i)) (litsO_len _) (fun w' hw' => op_il (hop.below (hwz.trans (bel_ex hw' hwz.size)))) (fun w' hw' => (hop.below (hwz.trans (bel_ex hw' hwz.size))).bt) HSZ.out.2.1 HSZ.out.2.2)
      have HOK2 := hide (fun s' b' (h : StR s (f i).a (litsO (f i)) (f i).T (f i).tn (f i).kd s' b') => str_ok h HK.out)
      have HIL := hide (fun w' (hw' : Below w.heap.size w w') => op_il (hop.below hw'))
      have HXL : Hid ((litsO (f i)).length = (f i).ln ∧ (f i).ln ≤ 65536) := ⟨litsO_len _, HSZ.out.2.1⟩
      unfold opZ at hcs
      generalize hXX : litsO (f i) = X at *
      clear hXX hop hop1
      generalize f i = v at *
      obtain ⟨kd, va, la, ln, lc, VX, ta, tn, tc, VT⟩ := v
      dsimp only at c0 c1 c2 c3 hcs HOK2 HNX HIL HXL HSZ
      have HBN := hide hbn
      clear hbn HX
      go_upto_region 7 with fail
      have HXa : Hid (BN (wr.alloc (.cells #[.int .i64 kd, .int .i64 va, .slice la ln lc, .slice ta tn tc] 37)) w.heap.size r P S (QS w.heap.size s)) := HBN.out.below (be1 wr _)
      have HBa : Hid (Below w.heap.size w (wr.alloc (.cells #[.int .i64 kd, .int .i64 va, .slice la ln lc, .slice ta tn tc] 37))) := HB.out.trans ((be1 wr _).mono HB.out.size)
      have d0 := new_cells wr [.int .i64 kd, .int .i64 va, .slice la ln lc, .slice ta tn tc] 37 0 _ rfl
      have d1 := new_cells wr [.int .i64 kd, .int .i64 va, .slice la ln lc, .slice ta tn tc] 37 1 _ rfl
      have d2 := new_cells wr [.int .i64 kd, .int .i64 va, .slice la ln lc, .slice ta tn tc] 37 2 _ rfl
      have d3 := new_cells wr [.int .i64 kd, .int .i64 va, .slice la ln lc, .slice ta tn tc] 37 3 _ rfl
      rw [Addr.add_mid, Nat.zero_add] at d0 d1 d2 d3
      have HQF : Hid (¬ fp r S wr.heap.size) := fun z => by
        rcases z with z | ⟨j, hj, z⟩
        · have := HBN.out.rlt; omega
        · have := (HBN.out.rg j hj _ z).2; omega
      generalize wr.alloc (.cells #[.int .i64 kd, .int .i64 va, .slice la ln lc, .slice ta tn tc] 37) = wa at *
      generalize wr.heap.size = q at *
      clear c0 c1 c2 c3 HBN
      go_wp2_with fail
      refine (hcs _ HXa.out HBa.out).out.mono ?_
      rintro e w5 ⟨s', b', hst, tv, rfl, hbx, htx, hex⟩
      have e2 := hex.cell HQF.out d2
      obtain ⟨P', S', hbn⟩ := hbx
      have HN5 := hide hbn
      have HB5 : Hid (Below w.heap.size w w5) := HBa.out.trans ((hex.mono (fun k (z : fp r S k) => show w.heap.size ≤ k from z.elim (fun z => by rw [z]; exact HXa.out.rB) (fun ⟨j, hj, z⟩ => (HXa.out.rg j hj k z).1))) |> fun h => bel_ex h HBa.out.size)
      have HK5 : Hid (StOk ((i + 1) + sumP f (i + 1)) s') := by
        have := HOK2.out s' b' hst
        rw [HNX.out] at this
        exact this
      clear hbn hex htx hst hcs HXa HBa HB HK HOK2 HNX d0 d1 d2 d3 HQF
      have cc := hide (newClause_any w5 la lc X (HIL.out _ HB5.out) (by have := HXL.out; omega))
      rw [HXL.out.1] at cc
      go_wp2_with fail
      refine cc.out.mono ?_
      rintro e w6 hp
      obtain ⟨a1, n1, c1, e1, he, hb1, hec, hcs⟩ : ∃ (a1 : Option Addr) (n1 c1 : Nat) (e1 : Int), e = .returned (.tuple #[.slice a1 n1 c1, .int .i64 e1]) ∧ Below w5.heap.size w5 w6 ∧ e1 = ncE X ∧ (e1 = 0 → n1 = X.length ∧ w6.ownsRow w5.heap.size 64 1 (.slice a1 n1 c1) n1 (row32 (X.map fun d => (fromP d).1))) := by
        obtain ⟨hb, ⟨hk, he⟩ | ⟨hk, a1, c1, he, hr⟩⟩ := hp
        · exact ⟨none, 0, 0, _, he, hb, rfl, fun z => absurd z hk⟩
        · exact ⟨a1, X.length, c1, 0, he, hb, hk.symm, fun _ => ⟨rfl, hr⟩⟩
      subst he
      have HB6 : Hid (Below w.heap.size w w6) := HB5.out.trans (hb1.mono HB5.out.size)
      have HN6 := hide (HN5.out.below hb1)
      clear hp hb1 cc e2 HN5
      by_cases her : e1 = 0
      · obtain ⟨hn1, hrow⟩ := hcs her
        have HLK := hide (ncE_zero (hec.symm.trans her))
        have hcl : n1 = (X.map fun d => (fromP d).1).length := by rw [List.length_map]; exact hn1
        have HCN : Hid ((X.map fun d => (fromP d).1).length ≤ 65536) := by have := HXL.out; show _ ≤ _; omega
        subst her
        generalize (X.map fun d => (fromP d).1) = CC at *
        have HCL := hide (row_cl hrow)
        rw [hcl]
        clear hcs hec hrow hn1 hcl n1 HIL
        have c15 := hide (cloneC_any w6 a1 c1 CC HCL.out (by have := HCN.out; omega))
        go_wp2_with fail
        refine c15.out.mono ?_
        rintro e w7 ⟨g, rfl, r7, e7⟩
        have HGE := hide (r7.lt g rfl)
        have HCL7 := hide (HCL.out.keep e7 (fun _ _ _ z => z))
        have HN7 := hide (HN6.out.keep e7 (fun z => z) (fun _ _ _ _ z => z))
        have HB7 : Hid (Below w.heap.size w w7) := HB6.out.trans ((e7.below (Nat.le_refl _) (fun _ _ z => z)).mono HB6.out.size)
        have HG6 : Hid (r < w6.heap.size ∧ ∀ j, j < 6 → ∀ k, S' j k → k < w6.heap.size) := ⟨HN6.out.rlt, fun j hj k hk => (HN6.out.rg j hj k hk).2⟩
        have HL7 : Hid (∀ g1 off, a1 = some ⟨g1, off, none⟩ → 0 < CC.length → g1 < w6.heap.size) := fun g1 off ea h0 => by
          obtain ⟨x, hx⟩ : ∃ x, CC[0]? = some x := ⟨_, List.getElem?_eq_getElem h0⟩
          obtain ⟨g2, o2, e2, hc2⟩ := HCL.out 0 x hx
          rw [ea] at e2
          injection e2 with e2
          injection e2 with e2 e3
          rw [e2]
          exact World.block_lt_of_cell? _ _ hc2
        have c16 := hide (normalizeZ_any w7 w6.heap.size _ _ CC r7 HLK.out (by have := HCN.out; omega))
        unfold NzPost at c16
        have HNA := hide (nf_asc CC)
        have HNM := hide (nf_mem CC)
        have HNT := hide (clash_iff CC)
        have HNE := hide (fun V (hr : ∀ x ∈ V, -1 ≤ x ∧ x ≤ 1) => tau_eval (V := V) (C := CC) hr)
        have HNN := hide (nf_nf CC)
        have HNL := hide (nf_lit HLK.out)
        have HNC := hide (nf_len CC)
        generalize hNF : nfP CC = NF at *
        have HNF := hide hNF
        clear hNF r7 e7 c15 HCL HN6
        obtain ⟨N, ta1⟩ := NF
        dsimp only at c16 HNA HNM HNT HNE HNN HNL HNC
        go_wp2_with fail
        refine c16.out.mono ?_
        rintro e y ⟨rfl, hcy, hey⟩
        have hgg : ∀ k, (Value.slice (some ⟨g, 0, none⟩) CC.length CC.length).ownBlock = some k → k = g := fun k z => (Option.some.inj z).symm
        have HCY := hide hcy
        have HCC : Hid (CL y a1 CC) := fun j x hx => by
          obtain ⟨g1, o1, ea, hc⟩ := HCL7.out j x hx
          refine ⟨g1, o1, ea, hey.cell (fun z => ?_) hc⟩
          have h1 := hgg g1 z
          have h2 := HL7.out g1 o1 ea (Nat.lt_of_le_of_lt (Nat.zero_le _) (List.getElem?_eq_some_iff.1 hx).1)
          have h3 := HGE.out
          omega
        have HNY := hide (HN7.out.keep hey (fun z => by have h1 := hgg r z; have h2 := HG6.out.1; have h3 := HGE.out; omega) (fun j hj k hk z => by have h1 := hgg k z; have h2 := HG6.out.2 j hj k hk; have h3 := HGE.out; omega))
        have HBY : Hid (Below w.heap.size w y) := HB7.out.trans (hey.below HB7.out.size (fun k hk z => by have h1 := hgg k z; have h3 := HGE.out; have h4 := HB6.out.size; omega))
        clear hcy hey hgg c16 HCL7 HL7 HGE HN7 HB7 HB6 HG6
        obtain ⟨av, aat, -⟩ : AOq w.heap.size s'.a y (P' 1) (S' 1) := HNY.out.ob 1 (by decide)
        have HAT := hide aat
        have p1 := HNY.out.ptr 1 (by decide)
        clear aat
        have HVR := hide HK5.out.a.rng
        -- the meaning is kept
        obtain ⟨ev, hev⟩ : ∃ x, evalP s'.a.V CC (-1) = x := ⟨_, rfl⟩
        have HEV := hide hev
        have HEN : Hid (evalP s'.a.V N (-1) = ev) := by show _ = _; rw [← hev]; exact eval_set _ HNM.out _
        clear hev
        have hne : (ev != ev) = false := by simp
        have HYD : Hid (Below y.heap.size y y.drew) := (Below.refl _ _).drew
        go_upto_region 11 with fail
        refine wp_region_held_drew (S := fun w' => w'.cell? ⟨r, 1, none⟩ = some (.pointer (some ⟨P' 1, 0, none⟩))) (by kernel_rfl) p1 (fun hHeld => ?_)
        refine wpAnyH_take (i := 0) (v := ?_) rfl (by kernel_rfl) (by kernel_rfl) (by kernel_rfl) (fun _ _ _ h => h) (Or.inl ⟨by rfl, ?_⟩) (by assumption) ?_
        rotate_left
        · (intro w hSw; (try dsimp only at hSw); go_simp; try (with_reducible rfl))
        try simp only [Act.put, List.getElem_toArray, List.getElem_cons_zero, List.getElem_cons_succ, List.setIfInBounds_toArray, List.set_cons_zero, List.set_cons_succ]
        refine wpAnyH_take (i := 1) (v := ?_) rfl (by kernel_rfl) (by kernel_rfl) (by kernel_rfl) (fun _ _ _ h => h) (Or.inl ⟨by rfl, ?_⟩) (by assumption) ?_
        rotate_left
        · (intro w hSw; (try dsimp only at hSw); go_simp; try (with_reducible rfl))
        try simp only [Act.put, List.getElem_toArray, List.getElem_cons_zero, List.getElem_cons_succ, List.setIfInBounds_toArray, List.set_cons_zero, List.set_cons_succ]
        refine wpAnyH_take (i := 2) (v := ?_) rfl (by kernel_rfl) (by kernel_rfl) (by kernel_rfl) (fun _ _ _ h => h) (Or.inl ⟨by rfl, ?_⟩) (by assumption) ?_
        rotate_left
        · (intro w hSw; (try dsimp only at hSw); go_simp; try (with_reducible rfl))
        try simp only [Act.put, List.getElem_toArray, List.getElem_cons_zero, List.getElem_cons_succ, List.setIfInBounds_toArray, List.set_cons_zero, List.set_cons_succ]
        refine wpAnyH_take (i := 3) (v := ?_) rfl (by kernel_rfl) (by kernel_rfl) (by kernel_rfl) (fun _ _ _ h => h) (Or.inl ⟨by rfl, ?_⟩) (by assumption) ?_
        rotate_left
        · (intro w hSw; (try dsimp only at hSw); go_simp; try (with_reducible rfl))
        try simp only [Act.put, List.getElem_toArray, List.getElem_cons_zero, List.getElem_cons_succ, List.setIfInBounds_toArray, List.set_cons_zero, List.set_cons_succ]
        refine wpAnyH_take (i := 4) (v := ?_) rfl (by kernel_rfl) (by kernel_rfl) (by kernel_rfl) (fun _ _ _ h => h) (Or.inl ⟨by rfl, ?_⟩) (by assumption) ?_
        rotate_left
        · (intro w hSw; (try dsimp only at hSw); go_simp; try (with_reducible rfl))
        try simp only [Act.put, List.getElem_toArray, List.getElem_cons_zero, List.getElem_cons_succ, List.setIfInBounds_toArray, List.set_cons_zero, List.set_cons_succ]
        refine wpAnyH_take (i := 6) (v := ?_) rfl (by kernel_rfl) (by kernel_rfl) (by kernel_rfl) (fun _ _ _ h => h) (Or.inl ⟨by rfl, ?_⟩) (by assumption) ?_
        rotate_left
        · (intro w hSw; (try dsimp only at hSw); go_simp; try (with_reducible rfl))
        try simp only [Act.put, List.getElem_toArray, List.getElem_cons_zero, List.getElem_cons_succ, List.setIfInBounds_toArray, List.set_cons_zero, List.set_cons_succ]
        refine wpAnyH_take (i := 7) (v := ?_) rfl (by kernel_rfl) (by kernel_rfl) (by kernel_rfl) (fun _ _ _ h => h) (Or.inl ⟨by rfl, ?_⟩) (by assumption) ?_
        rotate_left
        · (intro w hSw; (try dsimp only at hSw); go_simp; try (with_reducible rfl))
        try simp only [Act.put, List.getElem_toArray, List.getElem_cons_zero, List.getElem_cons_succ, List.setIfInBounds_toArray, List.set_cons_zero, List.set_cons_succ]
        refine wpAnyH_take (i := 8) (v := ?_) rfl (by kernel_rfl) (by kernel_rfl) (by kernel_rfl) (fun _ _ _ h => h) (Or.inl ⟨by rfl, ?_⟩) (by assumption) ?_
        rotate_left
        · (intro w hSw; (try dsimp only at hSw); go_simp; try (with_reducible rfl))
        try simp only [Act.put, List.getElem_toArray, List.getElem_cons_zero, List.getElem_cons_succ, List.setIfInBounds_toArray, List.set_cons_zero, List.set_cons_succ]
        refine wpAnyH_take (i := 9) (v := ?_) rfl (by kernel_rfl) (by kernel_rfl) (by kernel_rfl) (fun _ _ _ h => h) (Or.inl ⟨by rfl, ?_⟩) (by assumption) ?_
        rotate_left
        · (intro w hSw; (try dsimp only at hSw); go_simp; try (with_reducible rfl))
        try simp only [Act.put, List.getElem_toArray, List.getElem_cons_zero, List.getElem_cons_succ, List.setIfInBounds_toArray, List.set_cons_zero, List.set_cons_succ]
        refine wpAnyH_take (i := 10) (v := ?_) rfl (by kernel_rfl) (by kernel_rfl) (by kernel_rfl) (fun _ _ _ h => h) (Or.inl ⟨by rfl, ?_⟩) (by assumption) ?_
        rotate_left
        · (intro w hSw; (try dsimp only at hSw); go_simp; try (with_reducible rfl))
        try simp only [Act.put, List.getElem_toArray, List.getElem_cons_zero, List.getElem_cons_succ, List.setIfInBounds_toArray, List.set_cons_zero, List.set_cons_succ]
        refine wpAnyH_ready (rs := [5]) (by kernel_rfl) (by simp) ?_
        refine (AllReadyH.cons rfl (fun K hK => ?_) AllReadyH.nil)
        · have cc := hide (eval_any y.drew w.heap.size (P' 1) av s'.a.k s'.a.V (HAT.out.below HYD.out) HVR.out (some ⟨g, 0, none⟩) CC.length N (HCY.out.below HYD.out) HNL.out (by have := HCN.out; have := HNC.out; omega))
          rw [HEN.out] at cc
          refine step_call rfl 17 #[.slice (some ⟨g, 0, none⟩) N.length CC.length, .pointer (some ⟨P' 1, 0, none⟩)] (by simp [go_sem]) cc.out ?_
          rintro e w9 ⟨rfl, hw⟩
          rw [hw]
          clear hw w9 cc
          refine ⟨_, rfl, ?_⟩
          refine hK.out _ _ ?_ (fun hHeld => ?_)
          · first | exact p1' | exact p1
          clear hK K
          try simp only [Act.put, List.getElem_toArray, List.getElem_cons_zero, List.getElem_cons_succ, List.setIfInBounds_toArray, List.set_cons_zero, List.set_cons_succ]
          refine wpAnyH_ready (rs := [11]) (by kernel_rfl) (by simp) ?_
          refine (AllReadyH.cons rfl (fun K hK => ?_) AllReadyH.nil)
          · have cc := hide (eval_any y.drew w.heap.size (P' 1) av s'.a.k s'.a.V (HAT.out.below HYD.out) HVR.out a1 c1 CC (HCC.out.below HYD.out) HLK.out (by have := HCN.out; have := HNC.out; omega))
            rw [HEV.out] at cc
            refine step_call rfl 17 #[.slice a1 CC.length c1, .pointer (some ⟨P' 1, 0, none⟩)] (by simp [go_sem]) cc.out ?_
            rintro e w9 ⟨rfl, hw⟩
            rw [hw]
            clear hw w9 cc
            refine ⟨_, rfl, ?_⟩
            refine hK.out _ _ ?_ (fun hHeld => ?_)
            · first | exact p1' | exact p1
            clear hK K
            try simp only [Act.put, List.getElem_toArray, List.getElem_cons_zero, List.getElem_cons_succ, List.setIfInBounds_toArray, List.set_cons_zero, List.set_cons_succ]
            refine wpAnyH_take (i := 12) (v := ?_) rfl (by kernel_rfl) (by kernel_rfl) (by kernel_rfl) (fun _ _ _ h => h) (Or.inl ⟨by rfl, ?_⟩) (by assumption) ?_
            rotate_left
            · (intro w hSw; (try dsimp only at hSw); go_simp; try (with_reducible rfl))
            try simp only [Act.put, List.getElem_toArray, List.getElem_cons_zero, List.getElem_cons_succ, List.setIfInBounds_toArray, List.set_cons_zero, List.set_cons_succ]
            refine wpAnyH_take (i := 13) (v := ?_) rfl (by kernel_rfl) (by kernel_rfl) (by kernel_rfl) (fun _ _ _ h => h) (Or.inl ⟨by rfl, ?_⟩) (by assumption) ?_
            rotate_left
            · (intro w hSw; (try dsimp only at hSw); go_simp; try (with_reducible rfl))
            try simp only [Act.put, List.getElem_toArray, List.getElem_cons_zero, List.getElem_cons_succ, List.setIfInBounds_toArray, List.set_cons_zero, List.set_cons_succ]
            refine wpAnyH_take (i := 14) (v := ?_) rfl (by kernel_rfl) (by kernel_rfl) (by kernel_rfl) (fun _ _ _ h => h) (Or.inl ⟨by rfl, ?_⟩) (by assumption) ?_
            rotate_left
            · (intro w hSw; (try dsimp only at hSw); go_simp; try (with_reducible rfl))
            try simp only [Act.put, List.getElem_toArray, List.getElem_cons_zero, List.getElem_cons_succ, List.setIfInBounds_toArray, List.set_cons_zero, List.set_cons_succ]
            refine wpAnyH_take (i := 15) (v := ?_) rfl (by kernel_rfl) (by kernel_rfl) (by kernel_rfl) (fun _ _ _ h => h) (Or.inl ⟨by rfl, ?_⟩) (by assumption) ?_
            rotate_left
            · (intro w hSw; (try dsimp only at hSw); go_simp; try (with_reducible rfl))
            try simp only [Act.put, List.getElem_toArray, List.getElem_cons_zero, List.getElem_cons_succ, List.setIfInBounds_toArray, List.set_cons_zero, List.set_cons_succ]
            refine wpAnyH_ready (rs := [16]) (by kernel_rfl) (by simp) ?_
            refine (AllReadyH.cons rfl (fun K hK => ?_) AllReadyH.nil)
            · have cc := hide (sameSet_any y.drew a1 (some ⟨g, 0, none⟩) c1 CC.length CC N (HCC.out.below HYD.out) (HCY.out.below HYD.out) HLK.out HNL.out (by have := HCN.out; omega) (by have := HCN.out; have := HNC.out; omega))
              rw [HNF.out, HNN.out] at cc
              refine step_call_g (by rfl) 18 #[.slice a1 CC.length c1, .slice (some ⟨g, 0, none⟩) N.length CC.length] (by simp [go_sem]) cc.out ?_
              rintro e w9 ⟨rfl, hb9⟩
              have HB9 : Hid (Below y.heap.size y w9) := of_drew hb9
              have p1' := cellKeep HB9.out p1
              clear hb9 cc
              rw [show (N == N) = true by simp]
              refine ⟨_, rfl, ?_⟩
              refine hK.out _ _ ?_ (fun hHeld => ?_)
              · first | exact p1' | exact p1
              clear hK K
              try simp only [Act.put, List.getElem_toArray, List.getElem_cons_zero, List.getElem_cons_succ, List.setIfInBounds_toArray, List.set_cons_zero, List.set_cons_succ]
              refine wpAnyH_take (i := 17) (v := ?_) rfl (by kernel_rfl) (by kernel_rfl) (by kernel_rfl) (fun _ _ _ h => h) (Or.inl ⟨by rfl, ?_⟩) (by assumption) ?_
              rotate_left
              · (intro w hSw; (try dsimp only at hSw); go_simp; try (with_reducible rfl))
              try simp only [Act.put, List.getElem_toArray, List.getElem_cons_zero, List.getElem_cons_succ, List.setIfInBounds_toArray, List.set_cons_zero, List.set_cons_succ]
              refine wpAnyH_take (i := 18) (v := ?_) rfl (by kernel_rfl) (by kernel_rfl) (by kernel_rfl) (fun _ _ _ h => h) (Or.inl ⟨by rfl, ?_⟩) (by assumption) ?_
              rotate_left
              · (intro w hSw; (try dsimp only at hSw); go_simp; try (with_reducible rfl))
              try simp only [Act.put, List.getElem_toArray, List.getElem_cons_zero, List.getElem_cons_succ, List.setIfInBounds_toArray, List.set_cons_zero, List.set_cons_succ]
              refine wpAnyH_done (by kernel_rfl) ?_ _
              have HBX : Hid (Below w.heap.size w w9) := HBY.out.trans (HB9.out.mono HBY.out.size)
              have HCYx := hide (HCY.out.below HB9.out)
              have HCCx := hide (HCC.out.below HB9.out)
              have HNx := hide (HNY.out.below HB9.out)
              have HATx := hide (HAT.out.below HB9.out)
              clear p1 p1' HCY HCC HNY HAT HBY HB9 HYD HNN HNF HEN hne
              obtain ⟨nl, hnl⟩ : ∃ x, N.length = x := ⟨_, rfl⟩
              have HNLn := hide hnl
              rw [hnl]
              have HCNl : Hid (nl ≤ 65536) := by rw [← hnl]; have := HCN.out; have := HNC.out; show _ ≤ _; omega
              obtain ⟨cl, hcl⟩ : ∃ x, CC.length = x := ⟨_, rfl⟩
              have HCLn := hide hcl
              rw [hcl]
              have HCCl : Hid (cl ≤ 65536) := by rw [← hcl]; exact HCN.out
              clear hnl hcl
              go_wp2_with fail
              go_loopw [10] (fun s10 wx => ∃ (j : Nat) (m : Nat), s10 = .int .i64 j ∧ 1 ≤ j ∧ j ≤ nl + 1 ∧ Hid (wx = w9.drewN m)) (fun s10 _ => nl + 1 - (intOf s10).toNat)
              case atStart => exact ⟨1, 0, rfl, Nat.le_refl _, by omega, rfl⟩
              case round =>
                obtain ⟨j, m, rfl, hj1, hj2, HWR⟩ := hrel
                have HBr : Hid (Below w9.heap.size w9 wr) := by rw [HWR.out]; exact belN _ m
                have hcnl := HCNl.out
                by_cases hjl : j < nl
                · have hjb : decide ((j : Int) < (nl : Int)) = true := decide_eq_true (by omega)
                  have hjj : (j : Int) < (nl : Int) := by omega
                  have hjk : ((j - 1 : Nat) : Int) < (nl : Int) := by omega
                  have hjw : IntKind.i64.wrap ((j : Int) - 1) = ((j - 1 : Nat) : Int) := by rw [IntKind.wrap_i64]; omega
                  have hju : wrap64 ((j : Int) + 1) = ((j + 1 : Nat) : Int) := by unfold wrap64; omega
                  have hasc := asc_at HNA.out hj1 (by rw [HNLn.out]; exact hjl)
                  obtain ⟨g2, o2, ea, x0⟩ := (HCYx.out.below HBr.out) (j - 1) (gt N (j - 1)) (gt_at (by rw [HNLn.out]; omega))
                  injection ea with ea
                  injection ea with ea eo
                  subst ea eo
                  obtain ⟨g2, o2, ea, x1⟩ := (HCYx.out.below HBr.out) j (gt N j) (gt_at (by rw [HNLn.out]; omega))
                  injection ea with ea
                  injection ea with ea eo
                  subst ea eo
                  rw [Nat.zero_add] at x0 x1
                  have hgb : decide (gt N j ≤ gt N (j - 1)) = false := decide_eq_false (by omega)
                  clear hasc
                  generalize gt N (j - 1) = v0 at *
                  generalize gt N j = v1 at *
                  generalize j - 1 = jp at *
                  go_upto_region 16 with fail
                  go_quiet (fail)
                  rename_i nq
                  go_wp2
                  go_roundw
                  case rel => exact ⟨j + 1, m + nq, by go_num, by omega, by omega, (by show _ = _; rw [HWR.out, World.drewN_drewN])⟩
                  case measure => (simp [intOf]; try omega)
                · have hjb : decide ((j : Int) < (nl : Int)) = false := decide_eq_false (by omega)
                  have HCYr := hide (HCYx.out.below HBr.out)
                  have HCCr := hide (HCCx.out.below HBr.out)
                  have HNr := hide (HNx.out.below HBr.out)
                  have HATr := hide (HATx.out.below HBr.out)
                  have HBXr : Hid (Below w.heap.size w wr) := HBX.out.trans (HBr.out.mono HBX.out.size)
                  clear hj1 hj2 HWR HBr HCYx HCCx HNx HATx HBX
                  generalize hgw : wr = wl at *
                  clear hgw
                  have hccl := HCCl.out
                  go_wp2_with fail
                  go_loopw [11, 13, 80] (fun s11 _ s80 wx => ∃ (k : Nat) (bc : Bool), s80 = .int .i64 k ∧ s11 = .bool bc ∧ k ≤ cl ∧ Hid ((CC.take k).any (fun l => hasP CC (notP l)) = bc) ∧ wx = wl) (fun _ _ s80 _ => cl - (intOf s80).toNat)
                  case atStart => exact ⟨0, false, rfl, rfl, Nat.zero_le _, rfl, rfl⟩
                  case round =>
                    obtain ⟨k, bc, rfl, rfl, hk, HBC, hwq⟩ := hrel
                    subst hwq
                    have hku : wrap64 ((k : Int) + 1) = ((k + 1 : Nat) : Int) := by unfold wrap64; omega
                    by_cases hkl : k < cl
                    · have hkb : decide ((k : Int) < (cl : Int)) = true := decide_eq_true (by omega)
                      have hkk : (k : Int) < (cl : Int) := by omega
                      obtain ⟨x, hx⟩ : ∃ x, CC[k]? = some x := ⟨_, List.getElem?_eq_getElem (by rw [HCLn.out]; exact hkl)⟩
                      obtain ⟨g1, o1, ea, x0⟩ := HCCr.out k x hx
                      subst ea
                      have hxm : x ∈ CC := List.mem_of_getElem? hx
                      have hxl := HLK.out x hxm
                      have HAT2 := hide (any_take (C := CC) (fun l => hasP CC (notP l)) hx)
                      have c19 := hide (has_any wr (some ⟨g, 0, none⟩) cl N HCYr.out (by have := HCN.out; have := HNC.out; omega) x)
                      rw [(has_iff N x).2 ((HNM.out x).2 hxm), HNLn.out] at c19
                      unfold LitOk at hxl
                      have c20 := hide (not_any wr x (by omega))
                      have c19b := hide (has_any wr (some ⟨g1, o1, none⟩) c1 CC HCCr.out (by have := HCN.out; omega) (notP x))
                      rw [HCLn.out] at c19b
                      generalize notP x = nx at *
                      obtain ⟨hb, hhb⟩ : ∃ z, hasP CC nx = z := ⟨_, rfl⟩
                      rw [hhb] at c19b HAT2
                      rw [HBC.out] at HAT2
                      clear hx hxm hxl hhb HBC
                      go_wp2_with fail
                      refine c19.out.mono ?_
                      rintro e wz ⟨rfl, hw⟩
                      rw [hw]
                      clear hw wz c19
                      go_wp2_with fail
                      refine c20.out.mono ?_
                      rintro e wz ⟨rfl, hw⟩
                      rw [hw]
                      clear hw wz c20
                      go_wp2_with fail
                      refine c19b.out.mono ?_
                      rintro e wz ⟨rfl, hw⟩
                      rw [hw]
                      clear hw wz c19b
                      cases hb
                      · rw [Bool.or_false] at HAT2
                        go_wp2
                        go_roundw
                        case rel => exact ⟨k + 1, bc, by go_num, rfl, by omega, HAT2, trivial⟩
                        case measure => (simp [intOf]; try omega)
                      · rw [Bool.or_true] at HAT2
                        go_wp2
                        go_roundw
                        case rel => exact ⟨k + 1, true, by go_num, rfl, by omega, HAT2, trivial⟩
                        case measure => (simp [intOf]; try omega)
                    · have hkb : decide ((k : Int) < (cl : Int)) = false := decide_eq_false (by omega)
                      have HCLS : Hid (bc = ta1) := by
                        show _ = _
                        rw [← HBC.out, ← HNT.out, List.take_of_length_le (by rw [HCLn.out]; omega)]
                      clear HBC HNT hk
                      generalize hgw : wr = wl at *
                      clear hgw
                      go_wp2_with fail
                      go_loopw [15, 95] (fun _ s95 wx => ∃ (k : Nat), s95 = .int .i64 k ∧ k ≤ nl ∧ wx = wl) (fun _ s95 _ => nl - (intOf s95).toNat)
                      case atStart => exact ⟨0, rfl, Nat.zero_le _, rfl⟩
                      case round =>
                        clear hku
                        obtain ⟨k, rfl, hk, hwq⟩ := hrel
                        subst hwq
                        have hku : wrap64 ((k : Int) + 1) = ((k + 1 : Nat) : Int) := by unfold wrap64; omega
                        by_cases hkl : k < nl
                        · have hkb : decide ((k : Int) < (nl : Int)) = true := decide_eq_true (by omega)
                          have hkk : (k : Int) < (nl : Int) := by omega
                          obtain ⟨x, hx⟩ : ∃ x, N[k]? = some x := ⟨_, List.getElem?_eq_getElem (by rw [HNLn.out]; exact hkl)⟩
                          obtain ⟨g1, o1, ea, x0⟩ := HCYr.out k x hx
                          injection ea with ea
                          injection ea with ea eo
                          subst ea eo
                          rw [Nat.zero_add] at x0
                          have hxm : x ∈ N := List.mem_of_getElem? hx
                          have c19 := hide (has_any wr a1 c1 CC HCCr.out (by have := HCN.out; omega) x)
                          rw [(has_iff CC x).2 ((HNM.out x).1 hxm), HCLn.out] at c19
                          clear hx hxm
                          go_wp2_with fail
                          refine c19.out.mono ?_
                          rintro e wz ⟨rfl, hw⟩
                          rw [hw]
                          clear hw wz c19
                          go_wp2
                          go_roundw
                          case rel => exact ⟨k + 1, by go_num, by omega, trivial⟩
                          case measure => (simp [intOf]; try omega)
                        · have hkb : decide ((k : Int) < (nl : Int)) = false := decide_eq_false (by omega)
                          have hcq := HCLS.out
                          subst hcq
                          have p1 := HNr.out.ptr 1 (by decide)
                          have c17 := hide (eval_any wr w.heap.size (P' 1) av s'.a.k s'.a.V HATr.out HVR.out a1 c1 CC HCCr.out HLK.out (by have := HCN.out; omega))
                          rw [HEV.out, HCLn.out] at c17
                          have HFIN : Hid (BX wr w.heap.size r s') := ⟨P', S', HNr.out⟩
                          have hii2 : i + 1 ≤ len := by omega
                          have HEVN : Hid (bc = true → (ev == -1) = false) := fun z => by
                            have := HNE.out s'.a.V HVR.out z
                            rw [HEV.out] at this
                            simpa using this
                          clear HCLS
                          cases bc
                          · clear HEVN
                            go_wp2
                            go_roundw
                            case rel => exact ⟨i + 1, s', by go_num, hii2, HFIN, HK5, HBXr⟩
                            case measure => (simp [intOf]; try omega)
                          · have hev1 := HEVN.out rfl
                            go_wp2_with fail
                            refine c17.out.mono ?_
                            rintro e wz ⟨rfl, hw⟩
                            rw [hw]
                            clear hw wz c17 HEVN
                            go_wp2
                            go_roundw
                            case rel => exact ⟨i + 1, s', by go_num, hii2, HFIN, HK5, HBXr⟩
                            case measure => (simp [intOf]; try omega)
              
      · have heb : (e1 == 0) = false := by simpa using her
        have HFIN : Hid (BX w6 w.heap.size r s') := ⟨P', S', HN6.out⟩
        clear her hcs hec HN6
        go_wp2
        go_roundw
        case rel => exact ⟨i + 1, s', by go_num, by omega, HFIN, HK5, HB6⟩
        case measure => (simp [intOf]; try omega)
    · have hib : decide ((i : Int) < (len : Int)) = false := decide_eq_false (by omega)
      go_wp2
      go_ret
      exact ⟨rfl, HB.out⟩
end Go.Proofs.Qxb6500773aGreat
