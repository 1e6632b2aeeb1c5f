import Derived.Test.Qxb6500773aGreatTx
import Derived.Test.Qxb6500773aGreatLo5
namespace Go.Proofs.Qxb6500773aGreat
open Go.RowKit

set_option linter.unusedSimpArgs false in
set_option maxRecDepth 100000 in
set_option maxHeartbeats 32000000 in
/-- cnflaw.realBench.step: OpShowClause -/
theorem step_23 (w : World) (B r z : Nat) (P : Nat → Nat) (S : Nat → Nat → Prop) (s : St) (h : BN w B r P S (QS B s)) (hB : B ≤ w.heap.size) (hok : StOk z s) (hz : z ≤ 65536) (v : OpV) (hk : v.kd = 23) (ha : -9223372036854775808 ≤ v.a ∧ v.a ≤ 9223372036854775807) :
    Calls Tryz.prog 9 #[.pointer (some ⟨r, 0, none⟩), opZ v] w (SpPost w (fp r S) B r (s) ({ ob0 with n := if inP v.a s.f.E.length = true then 1 else 0, X := clT (clZ s.f.L s.f.E v.a) })) := by
  have HS0 := hide (sw_new v h hB)
  unfold opZ
  have HOK := hide hok
  have HZ := hide hz
  have hs' : s = s := rfl
  obtain ⟨b', hb'⟩ : ∃ x : Ob, ({ ob0 with n := if inP v.a s.f.E.length = true then 1 else 0, X := clT (clZ s.f.L s.f.E v.a) }) = x := ⟨_, rfl⟩
  rw [hb']
  obtain ⟨kd, va, la, ln, lc, VX, ta, tn, tc, VT⟩ := v
  dsimp only at hk HS0 ha hs' hb' ⊢
  subst hk
  have HSE := hide hs'
  have HBE := hide hb'
  clear h hok hz hB hs' hb'
  go_enter Tryz.func9, Tryz.ntmps9
  go_upto_region 2 with fail
  generalize (((w.alloc (.cells #[.int .i64 23, .int .i64 va, .slice la ln lc, .slice ta tn tc] 37)).alloc (.cells #[.int .i64 0, .int .i64 0, .int .i64 0, .int .i64 0, .int .i64 0, .slice none 0 0] 43)).alloc (.cells #[.int .i64 0, .int .i64 0, .int .i64 0, .int .i64 0, .int .i64 0, .slice none 0 0] 43)) = W0 at *
  generalize w.heap.size + 1 + 1 = o at *
  generalize w.heap.size + 1 = t at *
  generalize w.heap.size = q at *
  have q0 : W0.cell? ⟨q, 0, none⟩ = some (.int .i64 23) := HS0.out.sc.q0
  obtain ⟨bb, hbb⟩ : ∃ x, inP va s.f.E.length = x := ⟨_, rfl⟩
  have Hbb := hide hbb
  clear hbb
  obtain ⟨R, hR⟩ : ∃ x : Int, (if bb = true then 1 else 0) = x := ⟨_, rfl⟩
  have HR := hide hR
  clear hR
  obtain ⟨C, hC⟩ : ∃ x, clZ s.f.L s.f.E va = x := ⟨_, rfl⟩
  have HC := hide hC
  clear hC
  have HCO : Hid ((∀ x ∈ C, LitOk x) ∧ C.length ≤ 65536) := by
    rw [← HC.out]
    have := clZ_le s.f.L s.f.E va
    have := HOK.out.f.len
    have := HZ.out
    exact ⟨clZ_ok (fun x hx => (HOK.out.f.lit x hx).1) va, by omega⟩
  have HCQ := HC
  clear HC
  go_upto_region 109 with fail
  have HC0 := hide (HS0.out.low ((Below.refl _ _).drew))
  refine wp_region_held_drew (S := fun w' => PQ w' r q P ⟨23, va, la, ln, lc, VX, ta, tn, tc, VT⟩) (by kernel_rfl) HS0.out.pq (fun hHeld => ?_)
  refine wpAnyH_take (i := 0) (v := ?_) rfl (by kernel_rfl) (by kernel_rfl) (by kernel_rfl) (fun _ _ _ h => h) (Or.inl ⟨by rfl, ?_⟩) (by assumption) ?_
  rotate_left
  · (intro w hSw; (try dsimp only at hSw); go_simp; try (with_reducible rfl))
  try simp only [Act.put, List.getElem_toArray, List.getElem_cons_zero, List.getElem_cons_succ, List.setIfInBounds_toArray, List.set_cons_zero, List.set_cons_succ]
  refine wpAnyH_take (i := 1) (v := ?_) rfl (by kernel_rfl) (by kernel_rfl) (by kernel_rfl) (fun _ _ _ h => h) (Or.inl ⟨by rfl, ?_⟩) (by assumption) ?_
  rotate_left
  · (intro w hSw; (try dsimp only at hSw); go_simp; try (with_reducible rfl))
  try simp only [Act.put, List.getElem_toArray, List.getElem_cons_zero, List.getElem_cons_succ, List.setIfInBounds_toArray, List.set_cons_zero, List.set_cons_succ]
  refine wpAnyH_take (i := 2) (v := ?_) rfl (by kernel_rfl) (by kernel_rfl) (by kernel_rfl) (fun _ _ _ h => h) (Or.inl ⟨by rfl, ?_⟩) (by assumption) ?_
  rotate_left
  · (intro w hSw; (try dsimp only at hSw); go_simp; try (with_reducible rfl))
  try simp only [Act.put, List.getElem_toArray, List.getElem_cons_zero, List.getElem_cons_succ, List.setIfInBounds_toArray, List.set_cons_zero, List.set_cons_succ]
  refine wpAnyH_take (i := 3) (v := ?_) rfl (by kernel_rfl) (by kernel_rfl) (by kernel_rfl) (fun _ _ _ h => h) (Or.inl ⟨by rfl, ?_⟩) (by assumption) ?_
  rotate_left
  · (intro w hSw; (try dsimp only at hSw); (obtain ⟨zp, zq1, zq2⟩ := hSw; have zz := zp 0 (by decide)); go_simp; try (with_reducible rfl))
  try simp only [Act.put, List.getElem_toArray, List.getElem_cons_zero, List.getElem_cons_succ, List.setIfInBounds_toArray, List.set_cons_zero, List.set_cons_succ]
  refine wpAnyH_take (i := 4) (v := ?_) rfl (by kernel_rfl) (by kernel_rfl) (by kernel_rfl) (fun _ _ _ h => h) (Or.inl ⟨by rfl, ?_⟩) (by assumption) ?_
  rotate_left
  · (intro w hSw; (try dsimp only at hSw); go_simp; try (with_reducible rfl))
  try simp only [Act.put, List.getElem_toArray, List.getElem_cons_zero, List.getElem_cons_succ, List.setIfInBounds_toArray, List.set_cons_zero, List.set_cons_succ]
  refine wpAnyH_take (i := 5) (v := ?_) rfl (by kernel_rfl) (by kernel_rfl) (by kernel_rfl) (fun _ _ _ h => h) (Or.inl ⟨by rfl, ?_⟩) (by assumption) ?_
  rotate_left
  · (intro w hSw; (try dsimp only at hSw); (obtain ⟨zp, zq1, zq2⟩ := hSw; dsimp only at zq1 zq2); go_simp; try (with_reducible rfl))
  try simp only [Act.put, List.getElem_toArray, List.getElem_cons_zero, List.getElem_cons_succ, List.setIfInBounds_toArray, List.set_cons_zero, List.set_cons_succ]
  refine wpAnyH_ready (rs := [6]) (by kernel_rfl) (by simp) ?_
  refine (AllReadyH.cons rfl (fun K hK => ?_) AllReadyH.nil)
  · obtain ⟨fa, fe, fff, fs⟩ := HC0.out.f
    have cc := hide (fInRangeZ_any W0.drew B (P 0) fa fe s.f.L s.f.E va fff.ar)
    rw [Hbb.out] at cc
    clear fff fs
    refine step_call rfl 59 #[.pointer (some ⟨P 0, 0, none⟩), .int .i64 va] (by simp [go_sem]) (cc.out) ?_
    rintro e w1 ⟨rfl, hw⟩
    rw [hw]
    clear hw w1 cc
    generalize hWd : W0.drew = wd at *
    clear hWd
    refine ⟨_, rfl, ?_⟩
    refine hK.out _ _ ?_ (fun hHeld => ?_)
    · (first | exact HC1.out.pq | exact HC0.out.pq)
    clear hK K
    try simp only [Act.put, List.getElem_toArray, List.getElem_cons_zero, List.getElem_cons_succ, List.setIfInBounds_toArray, List.set_cons_zero, List.set_cons_succ]
    refine wpAnyH_ready (rs := [7]) (by kernel_rfl) (by simp) ?_
    refine (AllReadyH.cons rfl (fun K hK => ?_) AllReadyH.nil)
    · have cc := hide (truth_any wd bb)
      rw [HR.out] at cc
      refine step_call rfl 44 #[.bool bb] (by simp [go_sem]) (cc.out) ?_
      rintro e w1 ⟨rfl, hw⟩
      rw [hw]
      clear hw w1 cc
      have HC1 := hide (HC0.out.on R)
      have o3 := HC0.out.sc.o3
      have hof := HC0.out.sc.of
      refine ⟨_, rfl, ?_⟩
      refine hK.out _ _ ?_ (fun hHeld => ?_)
      · (first | exact HC1.out.pq | exact HC0.out.pq)
      clear hK K
      try simp only [Act.put, List.getElem_toArray, List.getElem_cons_zero, List.getElem_cons_succ, List.setIfInBounds_toArray, List.set_cons_zero, List.set_cons_succ]
      refine wpAnyH_take (i := 8) (v := ?_) rfl (by kernel_rfl) (by kernel_rfl) (by kernel_rfl) (fun _ _ _ h => h) (Or.inl ⟨by rfl, ?_⟩) (by assumption) ?_
      rotate_left
      · (intro w hSw; (try dsimp only at hSw); go_simp; try (with_reducible rfl))
      try simp only [Act.put, List.getElem_toArray, List.getElem_cons_zero, List.getElem_cons_succ, List.setIfInBounds_toArray, List.set_cons_zero, List.set_cons_succ]
      refine wpAnyH_ready (rs := [9]) (by kernel_rfl) (by simp) ?_
      refine (AllReadyH.cons rfl (fun K hK => ?_) AllReadyH.nil)
      · go_simp
        refine hK.out _ _ ?_ (fun hHeld => ?_)
        · (first | exact HC1.out.pq | exact HC0.out.pq)
        clear hK K
        try simp only [Act.put, List.getElem_toArray, List.getElem_cons_zero, List.getElem_cons_succ, List.setIfInBounds_toArray, List.set_cons_zero, List.set_cons_succ]
        refine wpAnyH_done (by kernel_rfl) ?_ _
        clear o3 hof HC0 HS0 q0
        generalize wd.setCell ⟨o, 3, none⟩ (.int .i64 R) = W1 at *
        have HD := HC1
        clear HC1
        go_upto_region 110 with fail
        have HC0 := hide (HD.out.low ((Below.refl _ _).drew))
        refine wp_region_held_drew (S := fun w' => PQ w' r q P ⟨23, va, la, ln, lc, VX, ta, tn, tc, VT⟩) (by kernel_rfl) HD.out.pq (fun hHeld => ?_)
        refine wpAnyH_take (i := 0) (v := ?_) rfl (by kernel_rfl) (by kernel_rfl) (by kernel_rfl) (fun _ _ _ h => h) (Or.inl ⟨by rfl, ?_⟩) (by assumption) ?_
        rotate_left
        · (intro w hSw; (try dsimp only at hSw); go_simp; try (with_reducible rfl))
        try simp only [Act.put, List.getElem_toArray, List.getElem_cons_zero, List.getElem_cons_succ, List.setIfInBounds_toArray, List.set_cons_zero, List.set_cons_succ]
        refine wpAnyH_take (i := 1) (v := ?_) rfl (by kernel_rfl) (by kernel_rfl) (by kernel_rfl) (fun _ _ _ h => h) (Or.inl ⟨by rfl, ?_⟩) (by assumption) ?_
        rotate_left
        · (intro w hSw; (try dsimp only at hSw); go_simp; try (with_reducible rfl))
        try simp only [Act.put, List.getElem_toArray, List.getElem_cons_zero, List.getElem_cons_succ, List.setIfInBounds_toArray, List.set_cons_zero, List.set_cons_succ]
        refine wpAnyH_take (i := 2) (v := ?_) rfl (by kernel_rfl) (by kernel_rfl) (by kernel_rfl) (fun _ _ _ h => h) (Or.inl ⟨by rfl, ?_⟩) (by assumption) ?_
        rotate_left
        · (intro w hSw; (try dsimp only at hSw); go_simp; try (with_reducible rfl))
        try simp only [Act.put, List.getElem_toArray, List.getElem_cons_zero, List.getElem_cons_succ, List.setIfInBounds_toArray, List.set_cons_zero, List.set_cons_succ]
        refine wpAnyH_take (i := 3) (v := ?_) rfl (by kernel_rfl) (by kernel_rfl) (by kernel_rfl) (fun _ _ _ h => h) (Or.inl ⟨by rfl, ?_⟩) (by assumption) ?_
        rotate_left
        · (intro w hSw; (try dsimp only at hSw); (obtain ⟨zp, zq1, zq2⟩ := hSw; have zz := zp 0 (by decide)); go_simp; try (with_reducible rfl))
        try simp only [Act.put, List.getElem_toArray, List.getElem_cons_zero, List.getElem_cons_succ, List.setIfInBounds_toArray, List.set_cons_zero, List.set_cons_succ]
        refine wpAnyH_take (i := 4) (v := ?_) rfl (by kernel_rfl) (by kernel_rfl) (by kernel_rfl) (fun _ _ _ h => h) (Or.inl ⟨by rfl, ?_⟩) (by assumption) ?_
        rotate_left
        · (intro w hSw; (try dsimp only at hSw); go_simp; try (with_reducible rfl))
        try simp only [Act.put, List.getElem_toArray, List.getElem_cons_zero, List.getElem_cons_succ, List.setIfInBounds_toArray, List.set_cons_zero, List.set_cons_succ]
        refine wpAnyH_take (i := 5) (v := ?_) rfl (by kernel_rfl) (by kernel_rfl) (by kernel_rfl) (fun _ _ _ h => h) (Or.inl ⟨by rfl, ?_⟩) (by assumption) ?_
        rotate_left
        · (intro w hSw; (try dsimp only at hSw); (obtain ⟨zp, zq1, zq2⟩ := hSw; dsimp only at zq1 zq2); go_simp; try (with_reducible rfl))
        try simp only [Act.put, List.getElem_toArray, List.getElem_cons_zero, List.getElem_cons_succ, List.setIfInBounds_toArray, List.set_cons_zero, List.set_cons_succ]
        refine wpAnyH_ready (rs := [6]) (by kernel_rfl) (by simp) ?_
        refine (AllReadyH.cons rfl (fun K hK => ?_) AllReadyH.nil)
        · obtain ⟨fa, fe, fff, fs⟩ := HC0.out.f
          have cc := hide (fClauseZ_any W1.drew B (P 0) fa fe s.f.L s.f.E fff.ar HOK.out.f.eok (by have := HOK.out.f.len; have := HZ.out; omega) va)
          rw [HCQ.out] at cc
          clear fff fs
          refine step_call rfl 61 #[.pointer (some ⟨P 0, 0, none⟩), .int .i64 va] (by simp [go_sem]) (cc.out) ?_
          rintro e w2 ⟨a1, c1, rfl, hcl, hga, hb1⟩
          have HC1 := hide (HC0.out.low hb1)
          have HCL := hide hcl
          clear hb1 cc hcl hga
          refine ⟨_, rfl, ?_⟩
          refine hK.out _ _ ?_ (fun hHeld => ?_)
          · (first | exact HC3.out.pq | exact HC2.out.pq | exact HC1.out.pq | exact HC0.out.pq)
          clear hK K
          try simp only [Act.put, List.getElem_toArray, List.getElem_cons_zero, List.getElem_cons_succ, List.setIfInBounds_toArray, List.set_cons_zero, List.set_cons_succ]
          refine wpAnyH_ready (rs := [7]) (by kernel_rfl) (by simp) ?_
          refine (AllReadyH.cons rfl (fun K hK => ?_) AllReadyH.nil)
          · have cc := hide (appendClause_any w2 w2.heap.size (.slice none 0 0) [] a1 c1 C (World.ownsRow_nil _ _ _ _) (Nat.le_refl _) HCL.out (fun _ _ _ z => by cases z) HCO.out.1 (by have := HCO.out; simp; omega))
            refine step_call rfl 47 #[.slice none 0 0, .slice a1 C.length c1] (by simp [go_sem]) (cc.out) ?_
            rintro e w3 ⟨tv, rfl, hbg⟩
            have hb2 : Below w2.heap.size w2 w3 := hbg.ex.below (Nat.le_refl _) (fun _ _ z => by cases z)
            have HTX := hide hbg.bb
            rw [List.nil_append] at HTX
            have HC2 := hide (HC1.out.low hb2)
            obtain ⟨ta1, tl1, tc1, htv⟩ : ∃ a l c, tv = .slice a l c := by obtain ⟨a, c, e⟩ := own_form HTX.out; exact ⟨a, _, c, e⟩
            subst htv
            have HC3 := hide (HC1.out.tx2 HC2.out HTX.out)
            have o5 := HC2.out.sc.o5
            have hof := HC2.out.sc.of
            clear hb2 cc hbg HCL
            refine ⟨_, rfl, ?_⟩
            refine hK.out _ _ ?_ (fun hHeld => ?_)
            · (first | exact HC3.out.pq | exact HC2.out.pq | exact HC1.out.pq | exact HC0.out.pq)
            clear hK K
            try simp only [Act.put, List.getElem_toArray, List.getElem_cons_zero, List.getElem_cons_succ, List.setIfInBounds_toArray, List.set_cons_zero, List.set_cons_succ]
            refine wpAnyH_take (i := 8) (v := ?_) rfl (by kernel_rfl) (by kernel_rfl) (by kernel_rfl) (fun _ _ _ h => h) (Or.inl ⟨by rfl, ?_⟩) (by assumption) ?_
            rotate_left
            · (intro w hSw; (try dsimp only at hSw); go_simp; try (with_reducible rfl))
            try simp only [Act.put, List.getElem_toArray, List.getElem_cons_zero, List.getElem_cons_succ, List.setIfInBounds_toArray, List.set_cons_zero, List.set_cons_succ]
            refine wpAnyH_ready (rs := [9]) (by kernel_rfl) (by simp) ?_
            refine (AllReadyH.cons rfl (fun K hK => ?_) AllReadyH.nil)
            · go_simp
              refine hK.out _ _ ?_ (fun hHeld => ?_)
              · (first | exact HC3.out.pq | exact HC2.out.pq | exact HC1.out.pq | exact HC0.out.pq)
              clear hK K
              try simp only [Act.put, List.getElem_toArray, List.getElem_cons_zero, List.getElem_cons_succ, List.setIfInBounds_toArray, List.set_cons_zero, List.set_cons_succ]
              refine wpAnyH_done (by kernel_rfl) ?_ _
              clear o5 hof HC0 HC1 HC2 HD HTX
              generalize w3.setCell ⟨o, 5, none⟩ (.slice ta1 tl1 tc1) = W2 at *
              obtain ⟨bo, hbo⟩ : ∃ x : Ob, ({ (ob0 : Ob) with n := R, X := clT C }) = x := ⟨_, rfl⟩
              have HSQ : Hid (s = s) := rfl
              have HBQ : Hid (b' = bo) := by show _ = _; rw [← hbo]; exact (by rw [← HBE.out, ← HR.out, ← Hbb.out, ← HCQ.out])
              rw [hbo] at HC3
              clear hbo HSE HBE
              have o0 := HC3.out.sc.o0
              have o1 := HC3.out.sc.o1
              have o2 := HC3.out.sc.o2
              have o3 := HC3.out.sc.o3
              have o4 := HC3.out.sc.o4
              have o5 := HC3.out.sc.o5
              have t0 := HC3.out.sc.t0
              have t1 := HC3.out.sc.t1
              have t2 := HC3.out.sc.t2
              have t3 := HC3.out.sc.t3
              have t4 := HC3.out.sc.t4
              have t5 := HC3.out.sc.t5
              have htf := HC3.out.sc.tf
              have hot : o ≠ t := fun z => HC3.out.ne.2.2.1 z.symm
              have HF := hide HC3.out.fin
              have HC := hide (fin_cells HC3.out.sc)
              clear HC3
              go_wp2_with (with_reducible refine bodyPost_ret (v := ?v) ?hr ?hd ?hp)
              case v => exact obV bo (.slice ta1 tl1 tc1)
              case hr =>
                change (results _ _).run _ (fin6 W2 t bo (.slice ta1 tl1 tc1)) = .ok _ (fin6 W2 t bo (.slice ta1 tl1 tc1))
                obtain ⟨y0, y1, y2, y3, y4, y5⟩ := HC.out
                clear HF HC
                generalize fin6 W2 t bo (.slice ta1 tl1 tc1) = WF at *
                simp [results, Tryz.results9, go_sem, y0, y1, y2, y3, y4, y5, obV]
              case hd => rfl
              case hp => rw [HBQ.out]; exact HF.out
set_option linter.unusedSimpArgs false in
set_option maxRecDepth 100000 in
set_option maxHeartbeats 32000000 in
/-- cnflaw.realBench.step: OpShowStep -/
theorem step_24 (w : World) (B r z : Nat) (P : Nat → Nat) (S : Nat → Nat → Prop) (s : St) (h : BN w B r P S (QS B s)) (hB : B ≤ w.heap.size) (hok : StOk z s) (hz : z ≤ 65536) (v : OpV) (hk : v.kd = 24) (ha : -9223372036854775808 ≤ v.a ∧ v.a ≤ 9223372036854775807) :
    Calls Tryz.prog 9 #[.pointer (some ⟨r, 0, none⟩), opZ v] w (SpPost w (fp r S) B r (s) ({ ob0 with n := if inP v.a s.p.E.length = true then 1 else 0, X := stT (dlZ s.p.E s.p.D v.a) (clZ s.p.L s.p.E v.a) })) := by
  have HS0 := hide (sw_new v h hB)
  unfold opZ
  have HOK := hide hok
  have HZ := hide hz
  have hs' : s = s := rfl
  obtain ⟨b', hb'⟩ : ∃ x : Ob, ({ ob0 with n := if inP v.a s.p.E.length = true then 1 else 0, X := stT (dlZ s.p.E s.p.D v.a) (clZ s.p.L s.p.E v.a) }) = x := ⟨_, rfl⟩
  rw [hb']
  obtain ⟨kd, va, la, ln, lc, VX, ta, tn, tc, VT⟩ := v
  dsimp only at hk HS0 ha hs' hb' ⊢
  subst hk
  have HSE := hide hs'
  have HBE := hide hb'
  clear h hok hz hB hs' hb'
  go_enter Tryz.func9, Tryz.ntmps9
  go_upto_region 2 with fail
  generalize (((w.alloc (.cells #[.int .i64 24, .int .i64 va, .slice la ln lc, .slice ta tn tc] 37)).alloc (.cells #[.int .i64 0, .int .i64 0, .int .i64 0, .int .i64 0, .int .i64 0, .slice none 0 0] 43)).alloc (.cells #[.int .i64 0, .int .i64 0, .int .i64 0, .int .i64 0, .int .i64 0, .slice none 0 0] 43)) = W0 at *
  generalize w.heap.size + 1 + 1 = o at *
  generalize w.heap.size + 1 = t at *
  generalize w.heap.size = q at *
  have q0 : W0.cell? ⟨q, 0, none⟩ = some (.int .i64 24) := HS0.out.sc.q0
  obtain ⟨bb, hbb⟩ : ∃ x, inP va s.p.E.length = x := ⟨_, rfl⟩
  have Hbb := hide hbb
  clear hbb
  obtain ⟨R, hR⟩ : ∃ x : Int, (if bb = true then 1 else 0) = x := ⟨_, rfl⟩
  have HR := hide hR
  clear hR
  obtain ⟨C, hC⟩ : ∃ x, clZ s.p.L s.p.E va = x := ⟨_, rfl⟩
  have HC := hide hC
  clear hC
  obtain ⟨dd, hdd⟩ : ∃ x, dlZ s.p.E s.p.D va = x := ⟨_, rfl⟩
  have Hdd := hide hdd
  clear hdd
  have HCO : Hid ((∀ x ∈ C, LitOk x) ∧ C.length ≤ 65536) := by
    rw [← HC.out]
    have := clZ_le s.p.L s.p.E va
    have := HOK.out.p.len
    have := HZ.out
    exact ⟨clZ_ok HOK.out.p.lit va, by omega⟩
  have HCQ := HC
  clear HC
  go_upto_region 112 with fail
  have HC0 := hide (HS0.out.low ((Below.refl _ _).drew))
  refine wp_region_held_drew (S := fun w' => PQ w' r q P ⟨24, va, la, ln, lc, VX, ta, tn, tc, VT⟩) (by kernel_rfl) HS0.out.pq (fun hHeld => ?_)
  refine wpAnyH_take (i := 0) (v := ?_) rfl (by kernel_rfl) (by kernel_rfl) (by kernel_rfl) (fun _ _ _ h => h) (Or.inl ⟨by rfl, ?_⟩) (by assumption) ?_
  rotate_left
  · (intro w hSw; (try dsimp only at hSw); go_simp; try (with_reducible rfl))
  try simp only [Act.put, List.getElem_toArray, List.getElem_cons_zero, List.getElem_cons_succ, List.setIfInBounds_toArray, List.set_cons_zero, List.set_cons_succ]
  refine wpAnyH_take (i := 1) (v := ?_) rfl (by kernel_rfl) (by kernel_rfl) (by kernel_rfl) (fun _ _ _ h => h) (Or.inl ⟨by rfl, ?_⟩) (by assumption) ?_
  rotate_left
  · (intro w hSw; (try dsimp only at hSw); go_simp; try (with_reducible rfl))
  try simp only [Act.put, List.getElem_toArray, List.getElem_cons_zero, List.getElem_cons_succ, List.setIfInBounds_toArray, List.set_cons_zero, List.set_cons_succ]
  refine wpAnyH_take (i := 2) (v := ?_) rfl (by kernel_rfl) (by kernel_rfl) (by kernel_rfl) (fun _ _ _ h => h) (Or.inl ⟨by rfl, ?_⟩) (by assumption) ?_
  rotate_left
  · (intro w hSw; (try dsimp only at hSw); go_simp; try (with_reducible rfl))
  try simp only [Act.put, List.getElem_toArray, List.getElem_cons_zero, List.getElem_cons_succ, List.setIfInBounds_toArray, List.set_cons_zero, List.set_cons_succ]
  refine wpAnyH_take (i := 3) (v := ?_) rfl (by kernel_rfl) (by kernel_rfl) (by kernel_rfl) (fun _ _ _ h => h) (Or.inl ⟨by rfl, ?_⟩) (by assumption) ?_
  rotate_left
  · (intro w hSw; (try dsimp only at hSw); (obtain ⟨zp, zq1, zq2⟩ := hSw; have zz := zp 2 (by decide)); go_simp; try (with_reducible rfl))
  try simp only [Act.put, List.getElem_toArray, List.getElem_cons_zero, List.getElem_cons_succ, List.setIfInBounds_toArray, List.set_cons_zero, List.set_cons_succ]
  refine wpAnyH_take (i := 4) (v := ?_) rfl (by kernel_rfl) (by kernel_rfl) (by kernel_rfl) (fun _ _ _ h => h) (Or.inl ⟨by rfl, ?_⟩) (by assumption) ?_
  rotate_left
  · (intro w hSw; (try dsimp only at hSw); go_simp; try (with_reducible rfl))
  try simp only [Act.put, List.getElem_toArray, List.getElem_cons_zero, List.getElem_cons_succ, List.setIfInBounds_toArray, List.set_cons_zero, List.set_cons_succ]
  refine wpAnyH_take (i := 5) (v := ?_) rfl (by kernel_rfl) (by kernel_rfl) (by kernel_rfl) (fun _ _ _ h => h) (Or.inl ⟨by rfl, ?_⟩) (by assumption) ?_
  rotate_left
  · (intro w hSw; (try dsimp only at hSw); (obtain ⟨zp, zq1, zq2⟩ := hSw; dsimp only at zq1 zq2); go_simp; try (with_reducible rfl))
  try simp only [Act.put, List.getElem_toArray, List.getElem_cons_zero, List.getElem_cons_succ, List.setIfInBounds_toArray, List.set_cons_zero, List.set_cons_succ]
  refine wpAnyH_ready (rs := [6]) (by kernel_rfl) (by simp) ?_
  refine (AllReadyH.cons rfl (fun K hK => ?_) AllReadyH.nil)
  · obtain ⟨pa, pe, pd, ppf, ps⟩ := HC0.out.p
    have cc := hide (stepZ_any W0.drew B (P 2) pa pe pd s.p.L s.p.E s.p.D ppf HOK.out.p.eok HOK.out.p.dl (by have := HOK.out.p.len; have := HZ.out; omega) va)
    rw [HCQ.out, Hdd.out] at cc
    refine step_call rfl 63 #[.pointer (some ⟨P 2, 0, none⟩), .int .i64 va] (by simp [go_sem]) (cc.out) ?_
    rintro e w1 ⟨a1, c1, rfl, hcl, hga, hb1⟩
    have HC1 := hide (HC0.out.low hb1)
    have HCL := hide hcl
    have HGA : Hid (∀ g off, a1 = some ⟨g, off, none⟩ → S 2 g) := fun g off z => (ps g).2 (.inr (.inl (hga g off z)))
    clear hb1 cc hcl hga ppf ps
    refine ⟨_, rfl, ?_⟩
    refine hK.out _ _ ?_ (fun hHeld => ?_)
    · (first | exact HC1.out.pq | exact HC0.out.pq)
    clear hK K
    try simp only [Act.put, List.getElem_toArray, List.getElem_cons_zero, List.getElem_cons_succ, List.setIfInBounds_toArray, List.set_cons_zero, List.set_cons_succ]
    refine wpAnyH_take (i := 7) (v := ?_) rfl (by kernel_rfl) (by kernel_rfl) (by kernel_rfl) (fun _ _ _ h => h) (Or.inl ⟨by rfl, ?_⟩) (by assumption) ?_
    rotate_left
    · (intro w hSw; (try dsimp only at hSw); go_simp; try (with_reducible rfl))
    try simp only [Act.put, List.getElem_toArray, List.getElem_cons_zero, List.getElem_cons_succ, List.setIfInBounds_toArray, List.set_cons_zero, List.set_cons_succ]
    refine wpAnyH_take (i := 8) (v := ?_) rfl (by kernel_rfl) (by kernel_rfl) (by kernel_rfl) (fun _ _ _ h => h) (Or.inl ⟨by rfl, ?_⟩) (by assumption) ?_
    rotate_left
    · (intro w hSw; (try dsimp only at hSw); go_simp; try (with_reducible rfl))
    try simp only [Act.put, List.getElem_toArray, List.getElem_cons_zero, List.getElem_cons_succ, List.setIfInBounds_toArray, List.set_cons_zero, List.set_cons_succ]
    refine wpAnyH_take (i := 9) (v := ?_) rfl (by kernel_rfl) (by kernel_rfl) (by kernel_rfl) (fun _ _ _ h => h) (Or.inl ⟨by rfl, ?_⟩) (by assumption) ?_
    rotate_left
    · (intro w hSw; (try dsimp only at hSw); go_simp; try (with_reducible rfl))
    try simp only [Act.put, List.getElem_toArray, List.getElem_cons_zero, List.getElem_cons_succ, List.setIfInBounds_toArray, List.set_cons_zero, List.set_cons_succ]
    refine wpAnyH_take (i := 10) (v := ?_) rfl (by kernel_rfl) (by kernel_rfl) (by kernel_rfl) (fun _ _ _ h => h) (Or.inl ⟨by rfl, ?_⟩) (by assumption) ?_
    rotate_left
    · (intro w hSw; (try dsimp only at hSw); go_simp; try (with_reducible rfl))
    try simp only [Act.put, List.getElem_toArray, List.getElem_cons_zero, List.getElem_cons_succ, List.setIfInBounds_toArray, List.set_cons_zero, List.set_cons_succ]
    refine wpAnyH_take (i := 11) (v := ?_) rfl (by kernel_rfl) (by kernel_rfl) (by kernel_rfl) (fun _ _ _ h => h) (Or.inl ⟨by rfl, ?_⟩) (by assumption) ?_
    rotate_left
    · (intro w hSw; (try dsimp only at hSw); go_simp; try (with_reducible rfl))
    try simp only [Act.put, List.getElem_toArray, List.getElem_cons_zero, List.getElem_cons_succ, List.setIfInBounds_toArray, List.set_cons_zero, List.set_cons_succ]
    refine wpAnyH_done (by kernel_rfl) ?_ _
    clear HC0 HS0 q0
    have HD := HC1
    clear HC1
    go_upto_region 113 with fail
    have HC0 := hide (HD.out.low ((Below.refl _ _).drew))
    refine wp_region_held_drew (S := fun w' => PQ w' r q P ⟨24, va, la, ln, lc, VX, ta, tn, tc, VT⟩) (by kernel_rfl) HD.out.pq (fun hHeld => ?_)
    refine wpAnyH_take (i := 0) (v := ?_) rfl (by kernel_rfl) (by kernel_rfl) (by kernel_rfl) (fun _ _ _ h => h) (Or.inl ⟨by rfl, ?_⟩) (by assumption) ?_
    rotate_left
    · (intro w hSw; (try dsimp only at hSw); go_simp; try (with_reducible rfl))
    try simp only [Act.put, List.getElem_toArray, List.getElem_cons_zero, List.getElem_cons_succ, List.setIfInBounds_toArray, List.set_cons_zero, List.set_cons_succ]
    refine wpAnyH_take (i := 1) (v := ?_) rfl (by kernel_rfl) (by kernel_rfl) (by kernel_rfl) (fun _ _ _ h => h) (Or.inl ⟨by rfl, ?_⟩) (by assumption) ?_
    rotate_left
    · (intro w hSw; (try dsimp only at hSw); go_simp; try (with_reducible rfl))
    try simp only [Act.put, List.getElem_toArray, List.getElem_cons_zero, List.getElem_cons_succ, List.setIfInBounds_toArray, List.set_cons_zero, List.set_cons_succ]
    refine wpAnyH_take (i := 2) (v := ?_) rfl (by kernel_rfl) (by kernel_rfl) (by kernel_rfl) (fun _ _ _ h => h) (Or.inl ⟨by rfl, ?_⟩) (by assumption) ?_
    rotate_left
    · (intro w hSw; (try dsimp only at hSw); go_simp; try (with_reducible rfl))
    try simp only [Act.put, List.getElem_toArray, List.getElem_cons_zero, List.getElem_cons_succ, List.setIfInBounds_toArray, List.set_cons_zero, List.set_cons_succ]
    refine wpAnyH_take (i := 3) (v := ?_) rfl (by kernel_rfl) (by kernel_rfl) (by kernel_rfl) (fun _ _ _ h => h) (Or.inl ⟨by rfl, ?_⟩) (by assumption) ?_
    rotate_left
    · (intro w hSw; (try dsimp only at hSw); (obtain ⟨zp, zq1, zq2⟩ := hSw; have zz := zp 2 (by decide)); go_simp; try (with_reducible rfl))
    try simp only [Act.put, List.getElem_toArray, List.getElem_cons_zero, List.getElem_cons_succ, List.setIfInBounds_toArray, List.set_cons_zero, List.set_cons_succ]
    refine wpAnyH_take (i := 4) (v := ?_) rfl (by kernel_rfl) (by kernel_rfl) (by kernel_rfl) (fun _ _ _ h => h) (Or.inl ⟨by rfl, ?_⟩) (by assumption) ?_
    rotate_left
    · (intro w hSw; (try dsimp only at hSw); go_simp; try (with_reducible rfl))
    try simp only [Act.put, List.getElem_toArray, List.getElem_cons_zero, List.getElem_cons_succ, List.setIfInBounds_toArray, List.set_cons_zero, List.set_cons_succ]
    refine wpAnyH_take (i := 5) (v := ?_) rfl (by kernel_rfl) (by kernel_rfl) (by kernel_rfl) (fun _ _ _ h => h) (Or.inl ⟨by rfl, ?_⟩) (by assumption) ?_
    rotate_left
    · (intro w hSw; (try dsimp only at hSw); (obtain ⟨zp, zq1, zq2⟩ := hSw; dsimp only at zq1 zq2); go_simp; try (with_reducible rfl))
    try simp only [Act.put, List.getElem_toArray, List.getElem_cons_zero, List.getElem_cons_succ, List.setIfInBounds_toArray, List.set_cons_zero, List.set_cons_succ]
    refine wpAnyH_ready (rs := [6]) (by kernel_rfl) (by simp) ?_
    refine (AllReadyH.cons rfl (fun K hK => ?_) AllReadyH.nil)
    · obtain ⟨pa, pe, pd, ppf, ps⟩ := HC0.out.p
      have cc := hide (pInRangeZ_any w1.drew B (P 2) pa pe s.p.L s.p.E va ppf.ar)
      rw [Hbb.out] at cc
      clear ppf ps
      refine step_call rfl 64 #[.pointer (some ⟨P 2, 0, none⟩), .int .i64 va] (by simp [go_sem]) (cc.out) ?_
      rintro e w2 ⟨rfl, hw⟩
      rw [hw]
      clear hw w2 cc
      have HCLd : Hid (CL w1.drew a1 C) := HCL.out.below ((Below.refl _ _).drew)
      generalize hWd : w1.drew = wd at *
      clear hWd HCL
      refine ⟨_, rfl, ?_⟩
      refine hK.out _ _ ?_ (fun hHeld => ?_)
      · (first | exact HC1.out.pq | exact HC0.out.pq)
      clear hK K
      try simp only [Act.put, List.getElem_toArray, List.getElem_cons_zero, List.getElem_cons_succ, List.setIfInBounds_toArray, List.set_cons_zero, List.set_cons_succ]
      refine wpAnyH_ready (rs := [7]) (by kernel_rfl) (by simp) ?_
      refine (AllReadyH.cons rfl (fun K hK => ?_) AllReadyH.nil)
      · have cc := hide (truth_any wd bb)
        rw [HR.out] at cc
        refine step_call rfl 44 #[.bool bb] (by simp [go_sem]) (cc.out) ?_
        rintro e w2 ⟨rfl, hw⟩
        rw [hw]
        clear hw w2 cc
        have HC1 := hide (HC0.out.on R)
        have o3 := HC0.out.sc.o3
        have hof := HC0.out.sc.of
        refine ⟨_, rfl, ?_⟩
        refine hK.out _ _ ?_ (fun hHeld => ?_)
        · (first | exact HC1.out.pq | exact HC0.out.pq)
        clear hK K
        try simp only [Act.put, List.getElem_toArray, List.getElem_cons_zero, List.getElem_cons_succ, List.setIfInBounds_toArray, List.set_cons_zero, List.set_cons_succ]
        refine wpAnyH_take (i := 8) (v := ?_) rfl (by kernel_rfl) (by kernel_rfl) (by kernel_rfl) (fun _ _ _ h => h) (Or.inl ⟨by rfl, ?_⟩) (by assumption) ?_
        rotate_left
        · (intro w hSw; (try dsimp only at hSw); go_simp; try (with_reducible rfl))
        try simp only [Act.put, List.getElem_toArray, List.getElem_cons_zero, List.getElem_cons_succ, List.setIfInBounds_toArray, List.set_cons_zero, List.set_cons_succ]
        refine wpAnyH_ready (rs := [9]) (by kernel_rfl) (by simp) ?_
        refine (AllReadyH.cons rfl (fun K hK => ?_) AllReadyH.nil)
        · go_simp
          refine hK.out _ _ ?_ (fun hHeld => ?_)
          · (first | exact HC1.out.pq | exact HC0.out.pq)
          clear hK K
          try simp only [Act.put, List.getElem_toArray, List.getElem_cons_zero, List.getElem_cons_succ, List.setIfInBounds_toArray, List.set_cons_zero, List.set_cons_succ]
          refine wpAnyH_done (by kernel_rfl) ?_ _
          have HCL2 : Hid (CL (wd.setCell ⟨o, 3, none⟩ (.int .i64 R)) a1 C) := HCLd.out.keep ((Ex.refl (fun k => k = o) wd).set (p := o) rfl _) (fun g off ea (y : g = o) => (HC0.out.nS 2 (by decide)).2.2 (by rw [← y]; exact HGA.out g off ea))
          clear o3 hof HC0 HD HCLd
          generalize wd.setCell ⟨o, 3, none⟩ (.int .i64 R) = W1 at *
          have HD := HC1
          clear HC1
          have cc := hide (appendStep_any W1 W1.heap.size (.slice none 0 0) [] a1 c1 C dd (World.ownsRow_nil _ _ _ _) (Nat.le_refl _) HCL2.out (fun _ _ _ z => by cases z) (fun g off ea => (HD.out.bn.rg 2 (by decide) g (HGA.out g off ea)).2) HCO.out.1 (by have := HCO.out; simp; omega))
          clear HCL2 HGA
          go_upto_region 114 with fail
          go_wp2_with fail
          refine cc.out.mono ?_
          rintro e wz ⟨tv, rfl, hbg⟩
          have HW1 := HD
          have hb2 : Below W1.heap.size W1 wz := hbg.ex.below (Nat.le_refl _) (fun _ _ z => by cases z)
          have HTX := hide hbg.bb
          rw [List.nil_append] at HTX
          have HS101 := hide (HD.out.low hb2)
          clear HD
          clear cc hbg hb2
          obtain ⟨ta1, tl1, tc1, htv⟩ : ∃ a l c, tv = .slice a l c := by obtain ⟨a, c, e⟩ := own_form HTX.out; exact ⟨a, _, c, e⟩
          subst htv
          have o5 := HS101.out.sc.o5
          have hof := HS101.out.sc.of
          go_upto_region 129 with fail
          have HS102 := hide (HW1.out.tx2 HS101.out HTX.out)
          clear HS101
          generalize wz.setCell ⟨o, 5, none⟩ (.slice ta1 tl1 tc1) = W102 at *
          clear o5 hof HW1 HTX
          obtain ⟨bo, hbo⟩ : ∃ x : Ob, ({ ({ (ob0 : Ob) with n := R } : Ob) with X := stT dd C }) = x := ⟨_, rfl⟩
          have HSQ : Hid (s = s) := rfl
          have HBQ : Hid (b' = bo) := by show _ = _; rw [← hbo]; exact (by rw [← HBE.out, ← HR.out, ← Hbb.out, ← HCQ.out, ← Hdd.out])
          rw [hbo] at HS102
          clear hbo HSE HBE
          have o0 := HS102.out.sc.o0
          have o1 := HS102.out.sc.o1
          have o2 := HS102.out.sc.o2
          have o3 := HS102.out.sc.o3
          have o4 := HS102.out.sc.o4
          have o5 := HS102.out.sc.o5
          have t0 := HS102.out.sc.t0
          have t1 := HS102.out.sc.t1
          have t2 := HS102.out.sc.t2
          have t3 := HS102.out.sc.t3
          have t4 := HS102.out.sc.t4
          have t5 := HS102.out.sc.t5
          have htf := HS102.out.sc.tf
          have hot : o ≠ t := fun z => HS102.out.ne.2.2.1 z.symm
          have HF := hide HS102.out.fin
          have HC := hide (fin_cells HS102.out.sc)
          clear HS102
          go_wp2_with (with_reducible refine bodyPost_ret (v := ?v) ?hr ?hd ?hp)
          case v => exact obV bo (.slice ta1 tl1 tc1)
          case hr =>
            change (results _ _).run _ (fin6 W102 t bo (.slice ta1 tl1 tc1)) = .ok _ (fin6 W102 t bo (.slice ta1 tl1 tc1))
            obtain ⟨y0, y1, y2, y3, y4, y5⟩ := HC.out
            clear HF HC
            generalize fin6 W102 t bo (.slice ta1 tl1 tc1) = WF at *
            simp [results, Tryz.results9, go_sem, y0, y1, y2, y3, y4, y5, obV]
          case hd => rfl
          case hp => rw [HBQ.out]; exact HF.out
set_option linter.unusedSimpArgs false in
set_option maxRecDepth 100000 in
set_option maxHeartbeats 32000000 in
/-- cnflaw.realBench.step: OpProofInfo -/
theorem step_25 (w : World) (B r z : Nat) (P : Nat → Nat) (S : Nat → Nat → Prop) (s : St) (h : BN w B r P S (QS B s)) (hB : B ≤ w.heap.size) (hok : StOk z s) (hz : z ≤ 65536) (v : OpV) (hk : v.kd = 25) (ha : -9223372036854775808 ≤ v.a ∧ v.a ≤ 9223372036854775807) :
    Calls Tryz.prog 9 #[.pointer (some ⟨r, 0, none⟩), opZ v] w (SpPost w (fp r S) B r (s) ({ ob0 with n := mxP s.p.L, m := if aeP s.p.L s.p.E s.p.D 0 s.p.E.length = true then 1 else 0 })) := by
  have HS0 := hide (sw_new v h hB)
  unfold opZ
  have HOK := hide hok
  have HZ := hide hz
  have hs' : s = s := rfl
  obtain ⟨b', hb'⟩ : ∃ x : Ob, ({ ob0 with n := mxP s.p.L, m := if aeP s.p.L s.p.E s.p.D 0 s.p.E.length = true then 1 else 0 }) = x := ⟨_, rfl⟩
  rw [hb']
  obtain ⟨kd, va, la, ln, lc, VX, ta, tn, tc, VT⟩ := v
  dsimp only at hk HS0 ha hs' hb' ⊢
  subst hk
  have HSE := hide hs'
  have HBE := hide hb'
  clear h hok hz hB hs' hb'
  go_enter Tryz.func9, Tryz.ntmps9
  go_upto_region 2 with fail
  generalize (((w.alloc (.cells #[.int .i64 25, .int .i64 va, .slice la ln lc, .slice ta tn tc] 37)).alloc (.cells #[.int .i64 0, .int .i64 0, .int .i64 0, .int .i64 0, .int .i64 0, .slice none 0 0] 43)).alloc (.cells #[.int .i64 0, .int .i64 0, .int .i64 0, .int .i64 0, .int .i64 0, .slice none 0 0] 43)) = W0 at *
  generalize w.heap.size + 1 + 1 = o at *
  generalize w.heap.size + 1 = t at *
  generalize w.heap.size = q at *
  have q0 : W0.cell? ⟨q, 0, none⟩ = some (.int .i64 25) := HS0.out.sc.q0
  obtain ⟨R, hR⟩ : ∃ x, mxP s.p.L = x := ⟨_, rfl⟩
  have HR := hide hR
  clear hR
  obtain ⟨bb, hbb⟩ : ∃ x, aeP s.p.L s.p.E s.p.D 0 s.p.E.length = x := ⟨_, rfl⟩
  have Hbb := hide hbb
  clear hbb
  obtain ⟨Q, hQ⟩ : ∃ x : Int, (if bb = true then 1 else 0) = x := ⟨_, rfl⟩
  have HQ := hide hQ
  clear hQ
  have hx1 : IntKind.i64.wrap R = R := by
    rw [← HR.out]
    have h1 : 0 ≤ mxP s.p.L := (mx_ge (C := s.p.L) (t := 0)).1
    have h2 : mxP s.p.L ≤ 16777215 := mx_le (by decide) (fun x hx => by have := HOK.out.p.lit x hx; unfold LitOk at this; omega)
    rw [IntKind.wrap_i64]; omega
  have p2 := HS0.out.bn.ptr 2 (by decide)
  obtain ⟨pa, pe, pd, ppf, ps⟩ := HS0.out.p
  have cc := hide (pMaxVar_any W0 B (P 2) pa pe pd s.p.L s.p.E s.p.D ppf HOK.out.p.lit (by have := HOK.out.p.len; have := HZ.out; omega))
  rw [HR.out] at cc
  go_upto_region 116 with fail
  go_wp2_with fail
  refine cc.out.mono ?_
  rintro e wz ⟨rfl, hw⟩
  rw [hw]
  clear hw wz
  clear q0 p2 ppf ps cc
  have o3 := HS0.out.sc.o3
  have hof := HS0.out.sc.of
  go_upto_region 117 with fail
  have HS1 := hide (HS0.out.on (R))
  clear HS0
  generalize W0.setCell ⟨o, 3, none⟩ (.int .i64 (R)) = W1 at *
  clear o3 hof hx1
  have p2 := HS1.out.bn.ptr 2 (by decide)
  obtain ⟨pa, pe, pd, ppf, ps⟩ := HS1.out.p
  have cc := hide (addsEmpty_any W1 B (P 2) pa pe pd s.p.L s.p.E s.p.D ppf HOK.out.p.eok HOK.out.p.dl (by have := HOK.out.p.len; have := HZ.out; omega))
  rw [Hbb.out] at cc
  go_wp2_with fail
  refine cc.out.mono ?_
  rintro e wz ⟨rfl, hb1⟩
  have HS2 := hide (HS1.out.low hb1)
  clear HS1
  clear p2 ppf ps cc hb1
  generalize hwz : wz = w5 at *
  clear hwz wz
  have cc := hide (truth_any w5 bb)
  rw [HQ.out] at cc
  go_wp2_with fail
  refine cc.out.mono ?_
  rintro e wz ⟨rfl, hw⟩
  rw [hw]
  clear hw wz
  clear cc
  have o4 := HS2.out.sc.o4
  have hof := HS2.out.sc.of
  go_upto_region 129 with fail
  have HS3 := hide (HS2.out.om (Q))
  clear HS2
  generalize w5.setCell ⟨o, 4, none⟩ (.int .i64 (Q)) = W3 at *
  clear o4 hof
  obtain ⟨bo, hbo⟩ : ∃ x : Ob, ({ ({ (ob0 : Ob) with n := R } : Ob) with m := Q }) = x := ⟨_, rfl⟩
  have HSQ : Hid (s = s) := rfl
  have HBQ : Hid (b' = bo) := by show _ = _; rw [← hbo]; exact (by rw [← HBE.out, ← HR.out, ← HQ.out, ← Hbb.out])
  rw [hbo] at HS3
  clear hbo HSE HBE
  have o0 := HS3.out.sc.o0
  have o1 := HS3.out.sc.o1
  have o2 := HS3.out.sc.o2
  have o3 := HS3.out.sc.o3
  have o4 := HS3.out.sc.o4
  have o5 := HS3.out.sc.o5
  have t0 := HS3.out.sc.t0
  have t1 := HS3.out.sc.t1
  have t2 := HS3.out.sc.t2
  have t3 := HS3.out.sc.t3
  have t4 := HS3.out.sc.t4
  have t5 := HS3.out.sc.t5
  have htf := HS3.out.sc.tf
  have hot : o ≠ t := fun z => HS3.out.ne.2.2.1 z.symm
  have HF := hide HS3.out.fin
  have HC := hide (fin_cells HS3.out.sc)
  clear HS3
  go_wp2_with (with_reducible refine bodyPost_ret (v := ?v) ?hr ?hd ?hp)
  case v => exact obV bo (.slice none 0 0)
  case hr =>
    change (results _ _).run _ (fin6 W3 t bo (.slice none 0 0)) = .ok _ (fin6 W3 t bo (.slice none 0 0))
    obtain ⟨y0, y1, y2, y3, y4, y5⟩ := HC.out
    clear HF HC
    generalize fin6 W3 t bo (.slice none 0 0) = WF at *
    simp [results, Tryz.results9, go_sem, y0, y1, y2, y3, y4, y5, obV]
  case hd => rfl
  case hp => rw [HBQ.out]; exact HF.out
set_option linter.unusedSimpArgs false in
set_option maxRecDepth 100000 in
set_option maxHeartbeats 32000000 in
/-- cnflaw.realBench.step: OpSave -/
theorem step_26 (w : World) (B r z : Nat) (P : Nat → Nat) (S : Nat → Nat → Prop) (s : St) (h : BN w B r P S (QS B s)) (hB : B ≤ w.heap.size) (hok : StOk z s) (hz : z ≤ 65536) (v : OpV) (hk : v.kd = 26) (ha : -9223372036854775808 ≤ v.a ∧ v.a ≤ 9223372036854775807) :
    Calls Tryz.prog 9 #[.pointer (some ⟨r, 0, none⟩), opZ v] w (SpPost w (fp r S) B r ({ s with sf := ⟨s.f.nv, s.f.L, s.f.E⟩, sa := ⟨s.a.k, s.a.V⟩, sp := ⟨s.p.L, s.p.E, s.p.D⟩ }) (ob0)) := by
  have HS0 := hide (sw_new v h hB)
  unfold opZ
  have HOK := hide hok
  have HZ := hide hz
  obtain ⟨s', hs'⟩ : ∃ x : St, ({ s with sf := ⟨s.f.nv, s.f.L, s.f.E⟩, sa := ⟨s.a.k, s.a.V⟩, sp := ⟨s.p.L, s.p.E, s.p.D⟩ }) = x := ⟨_, rfl⟩
  obtain ⟨b', hb'⟩ : ∃ x : Ob, (ob0) = x := ⟨_, rfl⟩
  rw [hs', hb']
  obtain ⟨kd, va, la, ln, lc, VX, ta, tn, tc, VT⟩ := v
  dsimp only at hk HS0 ha hs' hb' ⊢
  subst hk
  have HSE := hide hs'
  have HBE := hide hb'
  clear h hok hz hB hs' hb'
  go_enter Tryz.func9, Tryz.ntmps9
  go_upto_region 2 with fail
  generalize (((w.alloc (.cells #[.int .i64 26, .int .i64 va, .slice la ln lc, .slice ta tn tc] 37)).alloc (.cells #[.int .i64 0, .int .i64 0, .int .i64 0, .int .i64 0, .int .i64 0, .slice none 0 0] 43)).alloc (.cells #[.int .i64 0, .int .i64 0, .int .i64 0, .int .i64 0, .int .i64 0, .slice none 0 0] 43)) = W0 at *
  generalize w.heap.size + 1 + 1 = o at *
  generalize w.heap.size + 1 = t at *
  generalize w.heap.size = q at *
  have q0 : W0.cell? ⟨q, 0, none⟩ = some (.int .i64 26) := HS0.out.sc.q0
  go_upto_region 119 with fail
  have p0 := HS0.out.bn.ptr 0 (by decide)
  have p3 := HS0.out.bn.ptr 3 (by decide)
  obtain ⟨fa, fe, fff, fs⟩ := HS0.out.f
  have cc := hide (fClone_any W0 B (P 0) fa fe s.f.nv s.f.L s.f.E fff HS0.out.szB (by have := HOK.out.f.len; have := HZ.out; omega) (by have := HOK.out.f.len; have := HZ.out; omega))
  go_wp2_with fail
  refine cc.out.mono ?_
  rintro e wz hp
  obtain ⟨b9, he⟩ : ∃ b9, e = .returned (.pointer (some ⟨b9, 0, none⟩)) := by obtain ⟨b9, _, _, he, _⟩ := hp; exact ⟨b9, he⟩
  have zc := hp.kept.cell (fun z => z) p3
  have zf := fun j => (hp.kept.frozen (fun z => z) HS0.out.bn.rlt).trans (HS0.out.bn.fz j)
  subst he
  obtain ⟨P1, S1, hs1⟩ := HS0.out.nf2 (i := 3) (by decide) hp rfl (qs_sf B s _)
  have HS1 := hide hs1
  clear hs1 HS0
  clear q0 p0 p3 fff fs cc hp
  go_upto_region 120 with fail
  generalize wz.setCell ⟨r, 3, none⟩ (.pointer (some ⟨b9, 0, none⟩)) = W1 at *
  clear zc zf
  have p1 := HS1.out.bn.ptr 1 (by decide)
  have p4 := HS1.out.bn.ptr 4 (by decide)
  obtain ⟨av, aat, aso⟩ := HS1.out.a
  have cc := hide (cloneA_any W1 B (P1 1) av s.a.k s.a.V aat HS1.out.szB HOK.out.a.len)
  go_wp2_with fail
  refine cc.out.mono ?_
  rintro e wz hp
  obtain ⟨b8, he⟩ : ∃ b9, e = .returned (.pointer (some ⟨b9, 0, none⟩)) := by obtain ⟨b9, _, he, _⟩ := hp; exact ⟨b9, he⟩
  have zc := hp.kept.cell (fun z => z) p4
  have zf := fun j => (hp.kept.frozen (fun z => z) HS1.out.bn.rlt).trans (HS1.out.bn.fz j)
  subst he
  obtain ⟨P2, S2, hs2⟩ := HS1.out.na2 (i := 4) (by decide) hp rfl (qs_sa B _ _)
  have HS2 := hide hs2
  clear hs2 HS1
  clear p1 p4 aat aso cc hp
  go_upto_region 121 with fail
  generalize wz.setCell ⟨r, 4, none⟩ (.pointer (some ⟨b8, 0, none⟩)) = W2 at *
  clear zc zf
  have p2 := HS2.out.bn.ptr 2 (by decide)
  have p5 := HS2.out.bn.ptr 5 (by decide)
  obtain ⟨pa, pe, pd, ppf, ps⟩ := HS2.out.p
  have cc := hide (pClone_any W2 B (P2 2) pa pe pd s.p.L s.p.E s.p.D ppf HS2.out.szB (by have := HOK.out.p.len; have := HZ.out; omega) (by have := HOK.out.p.len; have := HZ.out; omega) (by have := HOK.out.p.len; have := HOK.out.p.dl; have := HZ.out; omega))
  go_wp2_with fail
  refine cc.out.mono ?_
  rintro e wz hp
  obtain ⟨b7, he⟩ : ∃ b9, e = .returned (.pointer (some ⟨b9, 0, none⟩)) := by obtain ⟨b9, _, _, _, he, _⟩ := hp; exact ⟨b9, he⟩
  have zc := hp.kept.cell (fun z => z) p5
  have zf := fun j => (hp.kept.frozen (fun z => z) HS2.out.bn.rlt).trans (HS2.out.bn.fz j)
  subst he
  obtain ⟨P3, S3, hs3⟩ := HS2.out.np2 (i := 5) (by decide) hp rfl (qs_sp B _ _)
  have HS3 := hide hs3
  clear hs3 HS2
  clear p2 p5 ppf ps cc hp
  go_upto_region 129 with fail
  generalize wz.setCell ⟨r, 5, none⟩ (.pointer (some ⟨b7, 0, none⟩)) = W3 at *
  clear zc zf
  obtain ⟨bo, hbo⟩ : ∃ x : Ob, (ob0) = x := ⟨_, rfl⟩
  have HSQ : Hid (s' = { s with sf := ⟨s.f.nv, s.f.L, s.f.E⟩, sa := ⟨s.a.k, s.a.V⟩, sp := ⟨s.p.L, s.p.E, s.p.D⟩ }) := HSE.out.symm
  have HBQ : Hid (b' = bo) := by show _ = _; rw [← hbo]; exact HBE.out.symm
  rw [hbo] at HS3
  clear hbo HSE HBE
  have o0 := HS3.out.sc.o0
  have o1 := HS3.out.sc.o1
  have o2 := HS3.out.sc.o2
  have o3 := HS3.out.sc.o3
  have o4 := HS3.out.sc.o4
  have o5 := HS3.out.sc.o5
  have t0 := HS3.out.sc.t0
  have t1 := HS3.out.sc.t1
  have t2 := HS3.out.sc.t2
  have t3 := HS3.out.sc.t3
  have t4 := HS3.out.sc.t4
  have t5 := HS3.out.sc.t5
  have htf := HS3.out.sc.tf
  have hot : o ≠ t := fun z => HS3.out.ne.2.2.1 z.symm
  have HF := hide HS3.out.fin
  have HC := hide (fin_cells HS3.out.sc)
  clear HS3
  go_wp2_with (with_reducible refine bodyPost_ret (v := ?v) ?hr ?hd ?hp)
  case v => exact obV bo (.slice none 0 0)
  case hr =>
    change (results _ _).run _ (fin6 W3 t bo (.slice none 0 0)) = .ok _ (fin6 W3 t bo (.slice none 0 0))
    obtain ⟨y0, y1, y2, y3, y4, y5⟩ := HC.out
    clear HF HC
    generalize fin6 W3 t bo (.slice none 0 0) = WF at *
    simp [results, Tryz.results9, go_sem, y0, y1, y2, y3, y4, y5, obV]
  case hd => rfl
  case hp => rw [HSQ.out, HBQ.out]; exact HF.out
set_option linter.unusedSimpArgs false in
set_option maxRecDepth 100000 in
set_option maxHeartbeats 32000000 in
/-- cnflaw.realBench.step: OpRestore -/
theorem step_27 (w : World) (B r z : Nat) (P : Nat → Nat) (S : Nat → Nat → Prop) (s : St) (h : BN w B r P S (QS B s)) (hB : B ≤ w.heap.size) (hok : StOk z s) (hz : z ≤ 65536) (v : OpV) (hk : v.kd = 27) (ha : -9223372036854775808 ≤ v.a ∧ v.a ≤ 9223372036854775807) :
    Calls Tryz.prog 9 #[.pointer (some ⟨r, 0, none⟩), opZ v] w (SpPost w (fp r S) B r ({ s with f := ⟨s.sf.nv, s.sf.L, s.sf.E⟩, a := ⟨s.sa.k, s.sa.V⟩, p := ⟨s.sp.L, s.sp.E, s.sp.D⟩ }) (ob0)) := by
  have HS0 := hide (sw_new v h hB)
  unfold opZ
  have HOK := hide hok
  have HZ := hide hz
  obtain ⟨s', hs'⟩ : ∃ x : St, ({ s with f := ⟨s.sf.nv, s.sf.L, s.sf.E⟩, a := ⟨s.sa.k, s.sa.V⟩, p := ⟨s.sp.L, s.sp.E, s.sp.D⟩ }) = x := ⟨_, rfl⟩
  obtain ⟨b', hb'⟩ : ∃ x : Ob, (ob0) = x := ⟨_, rfl⟩
  rw [hs', hb']
  obtain ⟨kd, va, la, ln, lc, VX, ta, tn, tc, VT⟩ := v
  dsimp only at hk HS0 ha hs' hb' ⊢
  subst hk
  have HSE := hide hs'
  have HBE := hide hb'
  clear h hok hz hB hs' hb'
  go_enter Tryz.func9, Tryz.ntmps9
  go_upto_region 2 with fail
  generalize (((w.alloc (.cells #[.int .i64 27, .int .i64 va, .slice la ln lc, .slice ta tn tc] 37)).alloc (.cells #[.int .i64 0, .int .i64 0, .int .i64 0, .int .i64 0, .int .i64 0, .slice none 0 0] 43)).alloc (.cells #[.int .i64 0, .int .i64 0, .int .i64 0, .int .i64 0, .int .i64 0, .slice none 0 0] 43)) = W0 at *
  generalize w.heap.size + 1 + 1 = o at *
  generalize w.heap.size + 1 = t at *
  generalize w.heap.size = q at *
  have q0 : W0.cell? ⟨q, 0, none⟩ = some (.int .i64 27) := HS0.out.sc.q0
  go_upto_region 123 with fail
  have p3 := HS0.out.bn.ptr 3 (by decide)
  have p0 := HS0.out.bn.ptr 0 (by decide)
  obtain ⟨fa, fe, fff, fs⟩ := HS0.out.sf
  have cc := hide (fClone_any W0 B (P 3) fa fe s.sf.nv s.sf.L s.sf.E fff HS0.out.szB (by have := HOK.out.sf.len; have := HZ.out; omega) (by have := HOK.out.sf.len; have := HZ.out; omega))
  go_wp2_with fail
  refine cc.out.mono ?_
  rintro e wz hp
  obtain ⟨b9, he⟩ : ∃ b9, e = .returned (.pointer (some ⟨b9, 0, none⟩)) := by obtain ⟨b9, _, _, he, _⟩ := hp; exact ⟨b9, he⟩
  have zc := hp.kept.cell (fun z => z) p0
  have zf := fun j => (hp.kept.frozen (fun z => z) HS0.out.bn.rlt).trans (HS0.out.bn.fz j)
  subst he
  obtain ⟨P1, S1, hs1⟩ := HS0.out.nf2 (i := 0) (by decide) hp rfl (qs_f B s _)
  have HS1 := hide hs1
  clear hs1 HS0
  clear q0 p3 p0 fff fs cc hp
  go_upto_region 124 with fail
  generalize wz.setCell ⟨r, 0, none⟩ (.pointer (some ⟨b9, 0, none⟩)) = W1 at *
  clear zc zf
  have p4 := HS1.out.bn.ptr 4 (by decide)
  have p1 := HS1.out.bn.ptr 1 (by decide)
  obtain ⟨av, aat, aso⟩ := HS1.out.sa
  have cc := hide (cloneA_any W1 B (P1 4) av s.sa.k s.sa.V aat HS1.out.szB HOK.out.sa.len)
  go_wp2_with fail
  refine cc.out.mono ?_
  rintro e wz hp
  obtain ⟨b8, he⟩ : ∃ b9, e = .returned (.pointer (some ⟨b9, 0, none⟩)) := by obtain ⟨b9, _, he, _⟩ := hp; exact ⟨b9, he⟩
  have zc := hp.kept.cell (fun z => z) p1
  have zf := fun j => (hp.kept.frozen (fun z => z) HS1.out.bn.rlt).trans (HS1.out.bn.fz j)
  subst he
  obtain ⟨P2, S2, hs2⟩ := HS1.out.na2 (i := 1) (by decide) hp rfl (qs_a B _ _)
  have HS2 := hide hs2
  clear hs2 HS1
  clear p4 p1 aat aso cc hp
  go_upto_region 125 with fail
  generalize wz.setCell ⟨r, 1, none⟩ (.pointer (some ⟨b8, 0, none⟩)) = W2 at *
  clear zc zf
  have p5 := HS2.out.bn.ptr 5 (by decide)
  have p2 := HS2.out.bn.ptr 2 (by decide)
  obtain ⟨pa, pe, pd, ppf, ps⟩ := HS2.out.sp
  have cc := hide (pClone_any W2 B (P2 5) pa pe pd s.sp.L s.sp.E s.sp.D ppf HS2.out.szB (by have := HOK.out.sp.len; have := HZ.out; omega) (by have := HOK.out.sp.len; have := HZ.out; omega) (by have := HOK.out.sp.len; have := HOK.out.sp.dl; have := HZ.out; omega))
  go_wp2_with fail
  refine cc.out.mono ?_
  rintro e wz hp
  obtain ⟨b7, he⟩ : ∃ b9, e = .returned (.pointer (some ⟨b9, 0, none⟩)) := by obtain ⟨b9, _, _, _, he, _⟩ := hp; exact ⟨b9, he⟩
  have zc := hp.kept.cell (fun z => z) p2
  have zf := fun j => (hp.kept.frozen (fun z => z) HS2.out.bn.rlt).trans (HS2.out.bn.fz j)
  subst he
  obtain ⟨P3, S3, hs3⟩ := HS2.out.np2 (i := 2) (by decide) hp rfl (qs_p B _ _)
  have HS3 := hide hs3
  clear hs3 HS2
  clear p5 p2 ppf ps cc hp
  go_upto_region 129 with fail
  generalize wz.setCell ⟨r, 2, none⟩ (.pointer (some ⟨b7, 0, none⟩)) = W3 at *
  clear zc zf
  obtain ⟨bo, hbo⟩ : ∃ x : Ob, (ob0) = x := ⟨_, rfl⟩
  have HSQ : Hid (s' = { s with f := ⟨s.sf.nv, s.sf.L, s.sf.E⟩, a := ⟨s.sa.k, s.sa.V⟩, p := ⟨s.sp.L, s.sp.E, s.sp.D⟩ }) := HSE.out.symm
  have HBQ : Hid (b' = bo) := by show _ = _; rw [← hbo]; exact HBE.out.symm
  rw [hbo] at HS3
  clear hbo HSE HBE
  have o0 := HS3.out.sc.o0
  have o1 := HS3.out.sc.o1
  have o2 := HS3.out.sc.o2
  have o3 := HS3.out.sc.o3
  have o4 := HS3.out.sc.o4
  have o5 := HS3.out.sc.o5
  have t0 := HS3.out.sc.t0
  have t1 := HS3.out.sc.t1
  have t2 := HS3.out.sc.t2
  have t3 := HS3.out.sc.t3
  have t4 := HS3.out.sc.t4
  have t5 := HS3.out.sc.t5
  have htf := HS3.out.sc.tf
  have hot : o ≠ t := fun z => HS3.out.ne.2.2.1 z.symm
  have HF := hide HS3.out.fin
  have HC := hide (fin_cells HS3.out.sc)
  clear HS3
  go_wp2_with (with_reducible refine bodyPost_ret (v := ?v) ?hr ?hd ?hp)
  case v => exact obV bo (.slice none 0 0)
  case hr =>
    change (results _ _).run _ (fin6 W3 t bo (.slice none 0 0)) = .ok _ (fin6 W3 t bo (.slice none 0 0))
    obtain ⟨y0, y1, y2, y3, y4, y5⟩ := HC.out
    clear HF HC
    generalize fin6 W3 t bo (.slice none 0 0) = WF at *
    simp [results, Tryz.results9, go_sem, y0, y1, y2, y3, y4, y5, obV]
  case hd => rfl
  case hp => rw [HSQ.out, HBQ.out]; exact HF.out
end Go.Proofs.Qxb6500773aGreat
