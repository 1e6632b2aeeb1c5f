import Derived.Test.Qxb6500773aGreatTx
import Derived.Test.Qxb6500773aGreatLo5
namespace Go.Proofs.Qxb6500773aGreat
open Go.RowKit

set_option linter.unusedSimpArgs false in
set_option maxRecDepth 100000 in
set_option maxHeartbeats 32000000 in
/-- cnflaw.realBench.step: OpEvalFormula -/
theorem step_10 (w : World) (B r z : Nat) (P : Nat → Nat) (S : Nat → Nat → Prop) (s : St) (h : BN w B r P S (QS B s)) (hB : B ≤ w.heap.size) (hok : StOk z s) (hz : z ≤ 65536) (v : OpV) (hk : v.kd = 10) (ha : -9223372036854775808 ≤ v.a ∧ v.a ≤ 9223372036854775807) :
    Calls Tryz.prog 9 #[.pointer (some ⟨r, 0, none⟩), opZ v] w (SpPost w (fp r S) B r (s) ({ ob0 with n := feP s.a.V s.f.L s.f.E 0 s.f.E.length 1, m := if decide (ffP (fun v => v != 1) s.a.V s.f.L s.f.E 0 s.f.E.length < 0) = true then 1 else 0 })) := by
  have HS0 := hide (sw_new v h hB)
  unfold opZ
  have HOK := hide hok
  have HZ := hide hz
  have hs' : s = s := rfl
  obtain ⟨b', hb'⟩ : ∃ x : Ob, ({ ob0 with n := feP s.a.V s.f.L s.f.E 0 s.f.E.length 1, m := if decide (ffP (fun v => v != 1) s.a.V s.f.L s.f.E 0 s.f.E.length < 0) = true then 1 else 0 }) = x := ⟨_, rfl⟩
  rw [hb']
  obtain ⟨kd, va, la, ln, lc, VX, ta, tn, tc, VT⟩ := v
  dsimp only at hk HS0 ha hs' hb' ⊢
  subst hk
  have HSE := hide hs'
  have HBE := hide hb'
  clear h hok hz hB hs' hb'
  go_enter Tryz.func9, Tryz.ntmps9
  go_upto_region 2 with fail
  generalize (((w.alloc (.cells #[.int .i64 10, .int .i64 va, .slice la ln lc, .slice ta tn tc] 37)).alloc (.cells #[.int .i64 0, .int .i64 0, .int .i64 0, .int .i64 0, .int .i64 0, .slice none 0 0] 43)).alloc (.cells #[.int .i64 0, .int .i64 0, .int .i64 0, .int .i64 0, .int .i64 0, .slice none 0 0] 43)) = W0 at *
  generalize w.heap.size + 1 + 1 = o at *
  generalize w.heap.size + 1 = t at *
  generalize w.heap.size = q at *
  have q0 : W0.cell? ⟨q, 0, none⟩ = some (.int .i64 10) := HS0.out.sc.q0
  obtain ⟨R, hR⟩ : ∃ x, feP s.a.V s.f.L s.f.E 0 s.f.E.length 1 = x := ⟨_, rfl⟩
  have HR := hide hR
  clear hR
  obtain ⟨bb, hbb⟩ : ∃ x, decide (ffP (fun v => v != 1) s.a.V s.f.L s.f.E 0 s.f.E.length < 0) = x := ⟨_, rfl⟩
  have Hbb := hide hbb
  clear hbb
  obtain ⟨Q, hQ⟩ : ∃ x : Int, (if bb = true then 1 else 0) = x := ⟨_, rfl⟩
  have HQ := hide hQ
  clear hQ
  have hx1 : IntKind.i64.wrap R = R := by
    rw [← HR.out]
    have := fe_rng s.a.V s.f.L s.f.E s.f.E.length 0 1 (by omega)
    rw [IntKind.wrap_i64]; omega
  go_upto_region 50 with fail
  have HC0 := hide (HS0.out.low ((Below.refl _ _).drew))
  refine wp_region_held_drew (S := fun w' => PQ w' r q P ⟨10, va, la, ln, lc, VX, ta, tn, tc, VT⟩) (by kernel_rfl) HS0.out.pq (fun hHeld => ?_)
  refine wpAnyH_take (i := 0) (v := ?_) rfl (by kernel_rfl) (by kernel_rfl) (by kernel_rfl) (fun _ _ _ h => h) (Or.inl ⟨by rfl, ?_⟩) (by assumption) ?_
  rotate_left
  · (intro w hSw; (try dsimp only at hSw); go_simp; try (with_reducible rfl))
  try simp only [Act.put, List.getElem_toArray, List.getElem_cons_zero, List.getElem_cons_succ, List.setIfInBounds_toArray, List.set_cons_zero, List.set_cons_succ]
  refine wpAnyH_take (i := 1) (v := ?_) rfl (by kernel_rfl) (by kernel_rfl) (by kernel_rfl) (fun _ _ _ h => h) (Or.inl ⟨by rfl, ?_⟩) (by assumption) ?_
  rotate_left
  · (intro w hSw; (try dsimp only at hSw); go_simp; try (with_reducible rfl))
  try simp only [Act.put, List.getElem_toArray, List.getElem_cons_zero, List.getElem_cons_succ, List.setIfInBounds_toArray, List.set_cons_zero, List.set_cons_succ]
  refine wpAnyH_take (i := 2) (v := ?_) rfl (by kernel_rfl) (by kernel_rfl) (by kernel_rfl) (fun _ _ _ h => h) (Or.inl ⟨by rfl, ?_⟩) (by assumption) ?_
  rotate_left
  · (intro w hSw; (try dsimp only at hSw); go_simp; try (with_reducible rfl))
  try simp only [Act.put, List.getElem_toArray, List.getElem_cons_zero, List.getElem_cons_succ, List.setIfInBounds_toArray, List.set_cons_zero, List.set_cons_succ]
  refine wpAnyH_take (i := 3) (v := ?_) rfl (by kernel_rfl) (by kernel_rfl) (by kernel_rfl) (fun _ _ _ h => h) (Or.inl ⟨by rfl, ?_⟩) (by assumption) ?_
  rotate_left
  · (intro w hSw; (try dsimp only at hSw); (obtain ⟨zp, zq1, zq2⟩ := hSw; have zz := zp 0 (by decide)); go_simp; try (with_reducible rfl))
  try simp only [Act.put, List.getElem_toArray, List.getElem_cons_zero, List.getElem_cons_succ, List.setIfInBounds_toArray, List.set_cons_zero, List.set_cons_succ]
  refine wpAnyH_take (i := 4) (v := ?_) rfl (by kernel_rfl) (by kernel_rfl) (by kernel_rfl) (fun _ _ _ h => h) (Or.inl ⟨by rfl, ?_⟩) (by assumption) ?_
  rotate_left
  · (intro w hSw; (try dsimp only at hSw); go_simp; try (with_reducible rfl))
  try simp only [Act.put, List.getElem_toArray, List.getElem_cons_zero, List.getElem_cons_succ, List.setIfInBounds_toArray, List.set_cons_zero, List.set_cons_succ]
  refine wpAnyH_take (i := 5) (v := ?_) rfl (by kernel_rfl) (by kernel_rfl) (by kernel_rfl) (fun _ _ _ h => h) (Or.inl ⟨by rfl, ?_⟩) (by assumption) ?_
  rotate_left
  · (intro w hSw; (try dsimp only at hSw); go_simp; try (with_reducible rfl))
  try simp only [Act.put, List.getElem_toArray, List.getElem_cons_zero, List.getElem_cons_succ, List.setIfInBounds_toArray, List.set_cons_zero, List.set_cons_succ]
  refine wpAnyH_take (i := 6) (v := ?_) rfl (by kernel_rfl) (by kernel_rfl) (by kernel_rfl) (fun _ _ _ h => h) (Or.inl ⟨by rfl, ?_⟩) (by assumption) ?_
  rotate_left
  · (intro w hSw; (try dsimp only at hSw); go_simp; try (with_reducible rfl))
  try simp only [Act.put, List.getElem_toArray, List.getElem_cons_zero, List.getElem_cons_succ, List.setIfInBounds_toArray, List.set_cons_zero, List.set_cons_succ]
  refine wpAnyH_take (i := 7) (v := ?_) rfl (by kernel_rfl) (by kernel_rfl) (by kernel_rfl) (fun _ _ _ h => h) (Or.inl ⟨by rfl, ?_⟩) (by assumption) ?_
  rotate_left
  · (intro w hSw; (try dsimp only at hSw); (obtain ⟨zp, zq1, zq2⟩ := hSw; have zz := zp 1 (by decide)); go_simp; try (with_reducible rfl))
  try simp only [Act.put, List.getElem_toArray, List.getElem_cons_zero, List.getElem_cons_succ, List.setIfInBounds_toArray, List.set_cons_zero, List.set_cons_succ]
  refine wpAnyH_ready (rs := [8]) (by kernel_rfl) (by simp) ?_
  refine (AllReadyH.cons rfl (fun K hK => ?_) AllReadyH.nil)
  · obtain ⟨fa, fe, fff, fs⟩ := HC0.out.f
    obtain ⟨av, aat, aso⟩ := HC0.out.a
    have cc := hide (fEvalZ_any W0.drew B (P 0) fa fe s.f.L s.f.E fff.ar HOK.out.f.eok (by have := HOK.out.f.len; have := HZ.out; omega) (by have := HOK.out.f.len; have := HZ.out; omega) (fun x hx => (HOK.out.f.lit x hx).1) B (P 1) av s.a.k s.a.V aat HOK.out.a.rng)
    rw [HR.out] at cc
    clear fff fs aat aso
    refine step_call rfl 43 #[.pointer (some ⟨P 0, 0, none⟩), .pointer (some ⟨P 1, 0, none⟩)] (by simp [go_sem]) (cc.out) ?_
    rintro e w1 ⟨rfl, hb1⟩
    have HC1 := hide (HC0.out.low hb1)
    have HC2 := hide (HC1.out.on R)
    have o3 := HC1.out.sc.o3
    have hof := HC1.out.sc.of
    clear hb1 cc
    refine ⟨_, rfl, ?_⟩
    refine hK.out _ _ ?_ (fun hHeld => ?_)
    · (first | exact HC2.out.pq | exact HC1.out.pq | exact HC0.out.pq)
    clear hK K
    try simp only [Act.put, List.getElem_toArray, List.getElem_cons_zero, List.getElem_cons_succ, List.setIfInBounds_toArray, List.set_cons_zero, List.set_cons_succ]
    refine wpAnyH_take (i := 9) (v := ?_) rfl (by kernel_rfl) (by kernel_rfl) (by kernel_rfl) (fun _ _ _ h => h) (Or.inl ⟨by rfl, ?_⟩) (by assumption) ?_
    rotate_left
    · (intro w hSw; (try dsimp only at hSw); go_simp; try (with_reducible rfl))
    try simp only [Act.put, List.getElem_toArray, List.getElem_cons_zero, List.getElem_cons_succ, List.setIfInBounds_toArray, List.set_cons_zero, List.set_cons_succ]
    refine wpAnyH_take (i := 10) (v := ?_) rfl (by kernel_rfl) (by kernel_rfl) (by kernel_rfl) (fun _ _ _ h => h) (Or.inl ⟨by rfl, ?_⟩) (by assumption) ?_
    rotate_left
    · (intro w hSw; (try dsimp only at hSw); go_simp; try (with_reducible rfl))
    try simp only [Act.put, List.getElem_toArray, List.getElem_cons_zero, List.getElem_cons_succ, List.setIfInBounds_toArray, List.set_cons_zero, List.set_cons_succ]
    refine wpAnyH_ready (rs := [11]) (by kernel_rfl) (by simp) ?_
    refine (AllReadyH.cons rfl (fun K hK => ?_) AllReadyH.nil)
    · go_simp
      refine hK.out _ _ ?_ (fun hHeld => ?_)
      · (first | exact HC2.out.pq | exact HC1.out.pq | exact HC0.out.pq)
      clear hK K
      try simp only [Act.put, List.getElem_toArray, List.getElem_cons_zero, List.getElem_cons_succ, List.setIfInBounds_toArray, List.set_cons_zero, List.set_cons_succ]
      refine wpAnyH_done (by kernel_rfl) ?_ _
      clear o3 hof HC0 HC1 HS0 q0
      generalize w1.setCell ⟨o, 3, none⟩ (.int .i64 R) = W1 at *
      have HD := HC2
      clear HC2
      go_upto_region 51 with fail
      have HC0 := hide (HD.out.low ((Below.refl _ _).drew))
      refine wp_region_held_drew (S := fun w' => PQ w' r q P ⟨10, va, la, ln, lc, VX, ta, tn, tc, VT⟩) (by kernel_rfl) HD.out.pq (fun hHeld => ?_)
      refine wpAnyH_take (i := 0) (v := ?_) rfl (by kernel_rfl) (by kernel_rfl) (by kernel_rfl) (fun _ _ _ h => h) (Or.inl ⟨by rfl, ?_⟩) (by assumption) ?_
      rotate_left
      · (intro w hSw; (try dsimp only at hSw); go_simp; try (with_reducible rfl))
      try simp only [Act.put, List.getElem_toArray, List.getElem_cons_zero, List.getElem_cons_succ, List.setIfInBounds_toArray, List.set_cons_zero, List.set_cons_succ]
      refine wpAnyH_take (i := 1) (v := ?_) rfl (by kernel_rfl) (by kernel_rfl) (by kernel_rfl) (fun _ _ _ h => h) (Or.inl ⟨by rfl, ?_⟩) (by assumption) ?_
      rotate_left
      · (intro w hSw; (try dsimp only at hSw); go_simp; try (with_reducible rfl))
      try simp only [Act.put, List.getElem_toArray, List.getElem_cons_zero, List.getElem_cons_succ, List.setIfInBounds_toArray, List.set_cons_zero, List.set_cons_succ]
      refine wpAnyH_take (i := 2) (v := ?_) rfl (by kernel_rfl) (by kernel_rfl) (by kernel_rfl) (fun _ _ _ h => h) (Or.inl ⟨by rfl, ?_⟩) (by assumption) ?_
      rotate_left
      · (intro w hSw; (try dsimp only at hSw); go_simp; try (with_reducible rfl))
      try simp only [Act.put, List.getElem_toArray, List.getElem_cons_zero, List.getElem_cons_succ, List.setIfInBounds_toArray, List.set_cons_zero, List.set_cons_succ]
      refine wpAnyH_take (i := 3) (v := ?_) rfl (by kernel_rfl) (by kernel_rfl) (by kernel_rfl) (fun _ _ _ h => h) (Or.inl ⟨by rfl, ?_⟩) (by assumption) ?_
      rotate_left
      · (intro w hSw; (try dsimp only at hSw); (obtain ⟨zp, zq1, zq2⟩ := hSw; have zz := zp 0 (by decide)); go_simp; try (with_reducible rfl))
      try simp only [Act.put, List.getElem_toArray, List.getElem_cons_zero, List.getElem_cons_succ, List.setIfInBounds_toArray, List.set_cons_zero, List.set_cons_succ]
      refine wpAnyH_take (i := 4) (v := ?_) rfl (by kernel_rfl) (by kernel_rfl) (by kernel_rfl) (fun _ _ _ h => h) (Or.inl ⟨by rfl, ?_⟩) (by assumption) ?_
      rotate_left
      · (intro w hSw; (try dsimp only at hSw); go_simp; try (with_reducible rfl))
      try simp only [Act.put, List.getElem_toArray, List.getElem_cons_zero, List.getElem_cons_succ, List.setIfInBounds_toArray, List.set_cons_zero, List.set_cons_succ]
      refine wpAnyH_take (i := 5) (v := ?_) rfl (by kernel_rfl) (by kernel_rfl) (by kernel_rfl) (fun _ _ _ h => h) (Or.inl ⟨by rfl, ?_⟩) (by assumption) ?_
      rotate_left
      · (intro w hSw; (try dsimp only at hSw); go_simp; try (with_reducible rfl))
      try simp only [Act.put, List.getElem_toArray, List.getElem_cons_zero, List.getElem_cons_succ, List.setIfInBounds_toArray, List.set_cons_zero, List.set_cons_succ]
      refine wpAnyH_take (i := 6) (v := ?_) rfl (by kernel_rfl) (by kernel_rfl) (by kernel_rfl) (fun _ _ _ h => h) (Or.inl ⟨by rfl, ?_⟩) (by assumption) ?_
      rotate_left
      · (intro w hSw; (try dsimp only at hSw); go_simp; try (with_reducible rfl))
      try simp only [Act.put, List.getElem_toArray, List.getElem_cons_zero, List.getElem_cons_succ, List.setIfInBounds_toArray, List.set_cons_zero, List.set_cons_succ]
      refine wpAnyH_take (i := 7) (v := ?_) rfl (by kernel_rfl) (by kernel_rfl) (by kernel_rfl) (fun _ _ _ h => h) (Or.inl ⟨by rfl, ?_⟩) (by assumption) ?_
      rotate_left
      · (intro w hSw; (try dsimp only at hSw); (obtain ⟨zp, zq1, zq2⟩ := hSw; have zz := zp 1 (by decide)); go_simp; try (with_reducible rfl))
      try simp only [Act.put, List.getElem_toArray, List.getElem_cons_zero, List.getElem_cons_succ, List.setIfInBounds_toArray, List.set_cons_zero, List.set_cons_succ]
      refine wpAnyH_ready (rs := [8]) (by kernel_rfl) (by simp) ?_
      refine (AllReadyH.cons rfl (fun K hK => ?_) AllReadyH.nil)
      · obtain ⟨fa, fe, fff, fs⟩ := HC0.out.f
        obtain ⟨av, aat, aso⟩ := HC0.out.a
        have cc := hide (satisfiedBy_any W1.drew B (P 0) fa fe s.f.L s.f.E fff.ar HOK.out.f.eok (by have := HOK.out.f.len; have := HZ.out; omega) (by have := HOK.out.f.len; have := HZ.out; omega) (fun x hx => (HOK.out.f.lit x hx).1) B (P 1) av s.a.k s.a.V aat HOK.out.a.rng)
        rw [Hbb.out] at cc
        clear fff fs aat aso
        refine step_call rfl 45 #[.pointer (some ⟨P 0, 0, none⟩), .pointer (some ⟨P 1, 0, none⟩)] (by simp [go_sem]) (cc.out) ?_
        rintro e w2 ⟨rfl, hb1⟩
        have HC1 := hide (HC0.out.low hb1)
        clear hb1 cc
        refine ⟨_, rfl, ?_⟩
        refine hK.out _ _ ?_ (fun hHeld => ?_)
        · (first | exact HC2.out.pq | exact HC1.out.pq | exact HC0.out.pq)
        clear hK K
        try simp only [Act.put, List.getElem_toArray, List.getElem_cons_zero, List.getElem_cons_succ, List.setIfInBounds_toArray, List.set_cons_zero, List.set_cons_succ]
        refine wpAnyH_ready (rs := [9]) (by kernel_rfl) (by simp) ?_
        refine (AllReadyH.cons rfl (fun K hK => ?_) AllReadyH.nil)
        · have cc := hide (truth_any w2 bb)
          rw [HQ.out] at cc
          refine step_call rfl 44 #[.bool bb] (by simp [go_sem]) (cc.out) ?_
          rintro e w3 ⟨rfl, hw⟩
          rw [hw]
          clear hw w3 cc
          have HC2 := hide (HC1.out.om Q)
          have o4 := HC1.out.sc.o4
          have hof := HC1.out.sc.of
          refine ⟨_, rfl, ?_⟩
          refine hK.out _ _ ?_ (fun hHeld => ?_)
          · (first | exact HC2.out.pq | exact HC1.out.pq | exact HC0.out.pq)
          clear hK K
          try simp only [Act.put, List.getElem_toArray, List.getElem_cons_zero, List.getElem_cons_succ, List.setIfInBounds_toArray, List.set_cons_zero, List.set_cons_succ]
          refine wpAnyH_take (i := 10) (v := ?_) rfl (by kernel_rfl) (by kernel_rfl) (by kernel_rfl) (fun _ _ _ h => h) (Or.inl ⟨by rfl, ?_⟩) (by assumption) ?_
          rotate_left
          · (intro w hSw; (try dsimp only at hSw); go_simp; try (with_reducible rfl))
          try simp only [Act.put, List.getElem_toArray, List.getElem_cons_zero, List.getElem_cons_succ, List.setIfInBounds_toArray, List.set_cons_zero, List.set_cons_succ]
          refine wpAnyH_ready (rs := [11]) (by kernel_rfl) (by simp) ?_
          refine (AllReadyH.cons rfl (fun K hK => ?_) AllReadyH.nil)
          · go_simp
            refine hK.out _ _ ?_ (fun hHeld => ?_)
            · (first | exact HC2.out.pq | exact HC1.out.pq | exact HC0.out.pq)
            clear hK K
            try simp only [Act.put, List.getElem_toArray, List.getElem_cons_zero, List.getElem_cons_succ, List.setIfInBounds_toArray, List.set_cons_zero, List.set_cons_succ]
            refine wpAnyH_done (by kernel_rfl) ?_ _
            clear o4 hof HC0 HC1 HD
            generalize w2.setCell ⟨o, 4, none⟩ (.int .i64 Q) = W2 at *
            obtain ⟨bo, hbo⟩ : ∃ x : Ob, ({ (ob0 : Ob) with n := R, m := Q }) = x := ⟨_, rfl⟩
            have HSQ : Hid (s = s) := rfl
            have HBQ : Hid (b' = bo) := by show _ = _; rw [← hbo]; exact (by rw [← HBE.out, ← HR.out, ← HQ.out, ← Hbb.out])
            rw [hbo] at HC2
            clear hbo HSE HBE
            have o0 := HC2.out.sc.o0
            have o1 := HC2.out.sc.o1
            have o2 := HC2.out.sc.o2
            have o3 := HC2.out.sc.o3
            have o4 := HC2.out.sc.o4
            have o5 := HC2.out.sc.o5
            have t0 := HC2.out.sc.t0
            have t1 := HC2.out.sc.t1
            have t2 := HC2.out.sc.t2
            have t3 := HC2.out.sc.t3
            have t4 := HC2.out.sc.t4
            have t5 := HC2.out.sc.t5
            have htf := HC2.out.sc.tf
            have hot : o ≠ t := fun z => HC2.out.ne.2.2.1 z.symm
            have HF := hide HC2.out.fin
            have HC := hide (fin_cells HC2.out.sc)
            clear HC2
            go_wp2_with (with_reducible refine bodyPost_ret (v := ?v) ?hr ?hd ?hp)
            case v => exact obV bo (.slice none 0 0)
            case hr =>
              change (results _ _).run _ (fin6 W2 t bo (.slice none 0 0)) = .ok _ (fin6 W2 t bo (.slice none 0 0))
              obtain ⟨y0, y1, y2, y3, y4, y5⟩ := HC.out
              clear HF HC
              generalize fin6 W2 t bo (.slice none 0 0) = WF at *
              simp [results, Tryz.results9, go_sem, y0, y1, y2, y3, y4, y5, obV]
            case hd => rfl
            case hp => rw [HBQ.out]; exact HF.out
set_option linter.unusedSimpArgs false in
set_option maxRecDepth 100000 in
set_option maxHeartbeats 32000000 in
/-- cnflaw.realBench.step: OpFirstFalsified -/
theorem step_11 (w : World) (B r z : Nat) (P : Nat → Nat) (S : Nat → Nat → Prop) (s : St) (h : BN w B r P S (QS B s)) (hB : B ≤ w.heap.size) (hok : StOk z s) (hz : z ≤ 65536) (v : OpV) (hk : v.kd = 11) (ha : -9223372036854775808 ≤ v.a ∧ v.a ≤ 9223372036854775807) :
    Calls Tryz.prog 9 #[.pointer (some ⟨r, 0, none⟩), opZ v] w (SpPost w (fp r S) B r (s) ({ ob0 with n := ffP (fun v => v == -1) s.a.V s.f.L s.f.E 0 s.f.E.length })) := by
  have HS0 := hide (sw_new v h hB)
  unfold opZ
  have HOK := hide hok
  have HZ := hide hz
  have hs' : s = s := rfl
  obtain ⟨b', hb'⟩ : ∃ x : Ob, ({ ob0 with n := ffP (fun v => v == -1) s.a.V s.f.L s.f.E 0 s.f.E.length }) = x := ⟨_, rfl⟩
  rw [hb']
  obtain ⟨kd, va, la, ln, lc, VX, ta, tn, tc, VT⟩ := v
  dsimp only at hk HS0 ha hs' hb' ⊢
  subst hk
  have HSE := hide hs'
  have HBE := hide hb'
  clear h hok hz hB hs' hb'
  go_enter Tryz.func9, Tryz.ntmps9
  go_upto_region 2 with fail
  generalize (((w.alloc (.cells #[.int .i64 11, .int .i64 va, .slice la ln lc, .slice ta tn tc] 37)).alloc (.cells #[.int .i64 0, .int .i64 0, .int .i64 0, .int .i64 0, .int .i64 0, .slice none 0 0] 43)).alloc (.cells #[.int .i64 0, .int .i64 0, .int .i64 0, .int .i64 0, .int .i64 0, .slice none 0 0] 43)) = W0 at *
  generalize w.heap.size + 1 + 1 = o at *
  generalize w.heap.size + 1 = t at *
  generalize w.heap.size = q at *
  have q0 : W0.cell? ⟨q, 0, none⟩ = some (.int .i64 11) := HS0.out.sc.q0
  obtain ⟨R, hR⟩ : ∃ R, ffP (fun v => v == -1) s.a.V s.f.L s.f.E 0 s.f.E.length = R := ⟨_, rfl⟩
  have HR := hide hR
  clear hR
  go_upto_region 53 with fail
  have HC0 := hide (HS0.out.low ((Below.refl _ _).drew))
  refine wp_region_held_drew (S := fun w' => PQ w' r q P ⟨11, va, la, ln, lc, VX, ta, tn, tc, VT⟩) (by kernel_rfl) HS0.out.pq (fun hHeld => ?_)
  refine wpAnyH_take (i := 0) (v := ?_) rfl (by kernel_rfl) (by kernel_rfl) (by kernel_rfl) (fun _ _ _ h => h) (Or.inl ⟨by rfl, ?_⟩) (by assumption) ?_
  rotate_left
  · (intro w hSw; (try dsimp only at hSw); go_simp; try (with_reducible rfl))
  try simp only [Act.put, List.getElem_toArray, List.getElem_cons_zero, List.getElem_cons_succ, List.setIfInBounds_toArray, List.set_cons_zero, List.set_cons_succ]
  refine wpAnyH_take (i := 1) (v := ?_) rfl (by kernel_rfl) (by kernel_rfl) (by kernel_rfl) (fun _ _ _ h => h) (Or.inl ⟨by rfl, ?_⟩) (by assumption) ?_
  rotate_left
  · (intro w hSw; (try dsimp only at hSw); go_simp; try (with_reducible rfl))
  try simp only [Act.put, List.getElem_toArray, List.getElem_cons_zero, List.getElem_cons_succ, List.setIfInBounds_toArray, List.set_cons_zero, List.set_cons_succ]
  refine wpAnyH_take (i := 2) (v := ?_) rfl (by kernel_rfl) (by kernel_rfl) (by kernel_rfl) (fun _ _ _ h => h) (Or.inl ⟨by rfl, ?_⟩) (by assumption) ?_
  rotate_left
  · (intro w hSw; (try dsimp only at hSw); go_simp; try (with_reducible rfl))
  try simp only [Act.put, List.getElem_toArray, List.getElem_cons_zero, List.getElem_cons_succ, List.setIfInBounds_toArray, List.set_cons_zero, List.set_cons_succ]
  refine wpAnyH_take (i := 3) (v := ?_) rfl (by kernel_rfl) (by kernel_rfl) (by kernel_rfl) (fun _ _ _ h => h) (Or.inl ⟨by rfl, ?_⟩) (by assumption) ?_
  rotate_left
  · (intro w hSw; (try dsimp only at hSw); (obtain ⟨zp, zq1, zq2⟩ := hSw; have zz := zp 0 (by decide)); go_simp; try (with_reducible rfl))
  try simp only [Act.put, List.getElem_toArray, List.getElem_cons_zero, List.getElem_cons_succ, List.setIfInBounds_toArray, List.set_cons_zero, List.set_cons_succ]
  refine wpAnyH_take (i := 4) (v := ?_) rfl (by kernel_rfl) (by kernel_rfl) (by kernel_rfl) (fun _ _ _ h => h) (Or.inl ⟨by rfl, ?_⟩) (by assumption) ?_
  rotate_left
  · (intro w hSw; (try dsimp only at hSw); go_simp; try (with_reducible rfl))
  try simp only [Act.put, List.getElem_toArray, List.getElem_cons_zero, List.getElem_cons_succ, List.setIfInBounds_toArray, List.set_cons_zero, List.set_cons_succ]
  refine wpAnyH_take (i := 5) (v := ?_) rfl (by kernel_rfl) (by kernel_rfl) (by kernel_rfl) (fun _ _ _ h => h) (Or.inl ⟨by rfl, ?_⟩) (by assumption) ?_
  rotate_left
  · (intro w hSw; (try dsimp only at hSw); go_simp; try (with_reducible rfl))
  try simp only [Act.put, List.getElem_toArray, List.getElem_cons_zero, List.getElem_cons_succ, List.setIfInBounds_toArray, List.set_cons_zero, List.set_cons_succ]
  refine wpAnyH_take (i := 6) (v := ?_) rfl (by kernel_rfl) (by kernel_rfl) (by kernel_rfl) (fun _ _ _ h => h) (Or.inl ⟨by rfl, ?_⟩) (by assumption) ?_
  rotate_left
  · (intro w hSw; (try dsimp only at hSw); go_simp; try (with_reducible rfl))
  try simp only [Act.put, List.getElem_toArray, List.getElem_cons_zero, List.getElem_cons_succ, List.setIfInBounds_toArray, List.set_cons_zero, List.set_cons_succ]
  refine wpAnyH_take (i := 7) (v := ?_) rfl (by kernel_rfl) (by kernel_rfl) (by kernel_rfl) (fun _ _ _ h => h) (Or.inl ⟨by rfl, ?_⟩) (by assumption) ?_
  rotate_left
  · (intro w hSw; (try dsimp only at hSw); (obtain ⟨zp, zq1, zq2⟩ := hSw; have zz := zp 1 (by decide)); go_simp; try (with_reducible rfl))
  try simp only [Act.put, List.getElem_toArray, List.getElem_cons_zero, List.getElem_cons_succ, List.setIfInBounds_toArray, List.set_cons_zero, List.set_cons_succ]
  refine wpAnyH_ready (rs := [8]) (by kernel_rfl) (by simp) ?_
  refine (AllReadyH.cons rfl (fun K hK => ?_) AllReadyH.nil)
  · obtain ⟨fa, fe, fff, fs⟩ := HC0.out.f
    obtain ⟨av, aat, aso⟩ := HC0.out.a
    have cc := hide (firstFals_any W0.drew B (P 0) fa fe s.f.L s.f.E fff.ar HOK.out.f.eok (by have := HOK.out.f.len; have := HZ.out; omega) (by have := HOK.out.f.len; have := HZ.out; omega) (fun x hx => (HOK.out.f.lit x hx).1) B (P 1) av s.a.k s.a.V aat HOK.out.a.rng)
    rw [HR.out] at cc
    clear fff fs aat aso
    refine step_call rfl 46 #[.pointer (some ⟨P 0, 0, none⟩), .pointer (some ⟨P 1, 0, none⟩)] (by simp [go_sem]) cc.out ?_
    rintro e w1 ⟨rfl, hb1⟩
    have HC1 := hide (HC0.out.low hb1)
    have HC2 := hide (HC1.out.on R)
    have o3 := HC1.out.sc.o3
    have hof := HC1.out.sc.of
    clear hb1 cc
    refine ⟨_, rfl, ?_⟩
    refine hK.out _ _ ?_ (fun hHeld => ?_)
    · (first | exact HC2.out.pq | exact HC1.out.pq | exact HC0.out.pq)
    clear hK K
    try simp only [Act.put, List.getElem_toArray, List.getElem_cons_zero, List.getElem_cons_succ, List.setIfInBounds_toArray, List.set_cons_zero, List.set_cons_succ]
    refine wpAnyH_take (i := 9) (v := ?_) rfl (by kernel_rfl) (by kernel_rfl) (by kernel_rfl) (fun _ _ _ h => h) (Or.inl ⟨by rfl, ?_⟩) (by assumption) ?_
    rotate_left
    · (intro w hSw; (try dsimp only at hSw); go_simp; try (with_reducible rfl))
    try simp only [Act.put, List.getElem_toArray, List.getElem_cons_zero, List.getElem_cons_succ, List.setIfInBounds_toArray, List.set_cons_zero, List.set_cons_succ]
    refine wpAnyH_ready (rs := [10]) (by kernel_rfl) (by simp) ?_
    refine (AllReadyH.cons rfl (fun K hK => ?_) AllReadyH.nil)
    · go_simp
      refine hK.out _ _ ?_ (fun hHeld => ?_)
      · (first | exact HC2.out.pq | exact HC1.out.pq | exact HC0.out.pq)
      clear hK K
      try simp only [Act.put, List.getElem_toArray, List.getElem_cons_zero, List.getElem_cons_succ, List.setIfInBounds_toArray, List.set_cons_zero, List.set_cons_succ]
      refine wpAnyH_done (by kernel_rfl) ?_ _
      clear o3 hof HC0 HC1 HS0 q0
      generalize w1.setCell ⟨o, 3, none⟩ (.int .i64 R) = W1 at *
      obtain ⟨bo, hbo⟩ : ∃ x : Ob, ({ (ob0 : Ob) with n := R }) = x := ⟨_, rfl⟩
      have HSQ : Hid (s = s) := rfl
      have HBQ : Hid (b' = bo) := by show _ = _; rw [← hbo]; exact (by rw [← HBE.out, ← HR.out])
      rw [hbo] at HC2
      clear hbo HSE HBE
      have o0 := HC2.out.sc.o0
      have o1 := HC2.out.sc.o1
      have o2 := HC2.out.sc.o2
      have o3 := HC2.out.sc.o3
      have o4 := HC2.out.sc.o4
      have o5 := HC2.out.sc.o5
      have t0 := HC2.out.sc.t0
      have t1 := HC2.out.sc.t1
      have t2 := HC2.out.sc.t2
      have t3 := HC2.out.sc.t3
      have t4 := HC2.out.sc.t4
      have t5 := HC2.out.sc.t5
      have htf := HC2.out.sc.tf
      have hot : o ≠ t := fun z => HC2.out.ne.2.2.1 z.symm
      have HF := hide HC2.out.fin
      have HC := hide (fin_cells HC2.out.sc)
      clear HC2
      go_wp2_with (with_reducible refine bodyPost_ret (v := ?v) ?hr ?hd ?hp)
      case v => exact obV bo (.slice none 0 0)
      case hr =>
        change (results _ _).run _ (fin6 W1 t bo (.slice none 0 0)) = .ok _ (fin6 W1 t bo (.slice none 0 0))
        obtain ⟨y0, y1, y2, y3, y4, y5⟩ := HC.out
        clear HF HC
        generalize fin6 W1 t bo (.slice none 0 0) = WF at *
        simp [results, Tryz.results9, go_sem, y0, y1, y2, y3, y4, y5, obV]
      case hd => rfl
      case hp => rw [HBQ.out]; exact HF.out
set_option linter.unusedSimpArgs false in
set_option maxRecDepth 100000 in
set_option maxHeartbeats 32000000 in
/-- cnflaw.realBench.step: OpNormalize -/
theorem step_12 (w : World) (B r z : Nat) (P : Nat → Nat) (S : Nat → Nat → Prop) (s : St) (h : BN w B r P S (QS B s)) (hB : B ≤ w.heap.size) (hok : StOk z s) (hz : z ≤ 65536) (v : OpV) (hk : v.kd = 12) (ha : -9223372036854775808 ≤ v.a ∧ v.a ≤ 9223372036854775807) (X : List Int) (hX : X.length = v.ln) (hIL : ∀ w', Ex (fun k => B ≤ k) w w' → IL w' v.la X) (hBT : ∀ w', Ex (fun k => B ≤ k) w w' → BT w' v.ta v.tn v.T) (hln : v.ln ≤ 65536) (htn : v.tn ≤ 65536) :
    Calls Tryz.prog 9 #[.pointer (some ⟨r, 0, none⟩), opZ v] w (SpPost w (fp r S) B r (s) (if ncE X = 0 then { ob0 with n := if (nfP (X.map fun d => (fromP d).1)).2 = true then 1 else 0, X := clT (nfP (X.map fun d => (fromP d).1)).1 } else { ob0 with er := ncE X })) := by
  have HS0 := hide (sw_new v h hB)
  unfold opZ
  have HOK := hide hok
  have HZ := hide hz
  have hs' : s = s := rfl
  obtain ⟨b', hb'⟩ : ∃ x : Ob, (if ncE X = 0 then { ob0 with n := if (nfP (X.map fun d => (fromP d).1)).2 = true then 1 else 0, X := clT (nfP (X.map fun d => (fromP d).1)).1 } else { ob0 with er := ncE X }) = x := ⟨_, rfl⟩
  rw [hb']
  obtain ⟨kd, va, la, ln, lc, VX, ta, tn, tc, VT⟩ := v
  dsimp only at hk HS0 ha hs' hb' ⊢
  subst hk
  dsimp only at hX hIL hBT hln htn
  have HSE := hide hs'
  have HBE := hide hb'
  have HX := hide (And.intro hX (And.intro hln htn))
  have HIL := hide hIL
  have HBT := hide hBT
  clear hX hIL hBT hln htn
  clear h hok hz hB hs' hb'
  go_enter Tryz.func9, Tryz.ntmps9
  go_upto_region 2 with fail
  generalize (((w.alloc (.cells #[.int .i64 12, .int .i64 va, .slice la ln lc, .slice ta tn tc] 37)).alloc (.cells #[.int .i64 0, .int .i64 0, .int .i64 0, .int .i64 0, .int .i64 0, .slice none 0 0] 43)).alloc (.cells #[.int .i64 0, .int .i64 0, .int .i64 0, .int .i64 0, .int .i64 0, .slice none 0 0] 43)) = W0 at *
  generalize w.heap.size + 1 + 1 = o at *
  generalize w.heap.size + 1 = t at *
  generalize w.heap.size = q at *
  have q0 : W0.cell? ⟨q, 0, none⟩ = some (.int .i64 12) := HS0.out.sc.q0
  have q2 : W0.cell? ⟨q, 2, none⟩ = some (.slice la ln lc) := HS0.out.sc.q2
  have cc := hide (newClause_any W0 la lc X (HIL.out _ HS0.out.exB) (by have := HX.out; omega))
  rw [HX.out.1] at cc
  go_upto_region 55 with fail
  go_wp2_with fail
  refine cc.out.mono ?_
  rintro e wz hp
  obtain ⟨a1, n1, c1, e1, he, hb1, hcs⟩ : ∃ (a1 : Option Addr) (n1 c1 : Nat) (e1 : Int), e = .returned (.tuple #[.slice a1 n1 c1, .int .i64 e1]) ∧ Below W0.heap.size W0 wz ∧ e1 = ncE X ∧ (e1 = 0 → n1 = X.length ∧ wz.ownsRow W0.heap.size 64 1 (.slice a1 n1 c1) n1 (row32 (X.map fun d => (fromP d).1))) := by
    obtain ⟨hb, ⟨hk, he⟩ | ⟨hk, a1, c1, he, hr⟩⟩ := hp
    · exact ⟨none, 0, 0, _, he, hb, rfl, fun z => absurd z hk⟩
    · exact ⟨a1, X.length, c1, 0, he, hb, hk.symm, fun _ => ⟨rfl, hr⟩⟩
  subst he
  have HP0 := HS0
  have HSZ : Hid (∀ i, i < 6 → ∀ j, S i j → j < W0.heap.size) := fun i hi j hj => (HS0.out.bn.rg i hi j hj).2
  have HOQ : Hid (o < W0.heap.size) := HS0.out.lt.2.2
  have HQQ : Hid (q < W0.heap.size) := HS0.out.lt.1
  have HTQ : Hid (t < W0.heap.size) := HS0.out.lt.2.1
  have HRQ : Hid (r < W0.heap.size) := HS0.out.bn.rlt
  have HBW := hide HS0.out.szB
  have HWX := hide HS0.out.ex.size
  have HS1 := hide (HS0.out.low hb1)
  clear HS0
  have HNC := hide hcs
  clear q0 q2 cc hp hb1 hcs HP0
  generalize hwz : wz = wn at *
  clear hwz wz
  have o0 := HS1.out.sc.o0
  have hof := HS1.out.sc.of
  go_upto_region 57 with fail
  have HS2 := hide (HS1.out.er (e1))
  clear HS1
  have HNC2 : Hid (e1 = 0 → n1 = X.length ∧ (wn.setCell ⟨o, 0, none⟩ (.int .i64 (e1))).ownsRow W0.heap.size 64 1 (.slice a1 n1 c1) n1 (row32 (X.map fun d => (fromP d).1))) := fun z => ⟨(HNC.out.2 z).1, own_kept (HNC.out.2 z).2 ((Ex.refl (fun k => k = o) wn).set (p := o) rfl _) (fun j hj (y : j = o) => by have := ((HNC.out.2 z).2.lt j hj).1; have := HOQ.out; omega)⟩
  generalize wn.setCell ⟨o, 0, none⟩ (.int .i64 (e1)) = W2 at *
  skip
  clear o0 hof
  have HE1 := hide HNC.out.1
  clear HNC
  by_cases her : e1 = 0
  · obtain ⟨hn1, hrow⟩ := HNC2.out her
    have HER : Hid (ncE X = 0) := by show _ = _; rw [← HE1.out]; exact her
    have HLK := hide (ncE_zero HER.out)
    have hcl : n1 = (X.map fun d => (fromP d).1).length := by rw [List.length_map]; exact hn1
    generalize hCC : (X.map fun d => (fromP d).1) = CC at *
    have HCC := hide hCC
    have HGE : Hid (∀ j, (Value.slice a1 CC.length c1).ownBlock = some j → W0.heap.size ≤ j) := fun j hj => by rw [hcl] at hrow; exact (hrow.lt j hj).1
    have HCN : Hid (CC.length ≤ 65536) := by have := HX.out; show _ ≤ _; omega
    have cc := hide (normalizeZ_any W2 _ a1 c1 CC (by rw [← hcl]; exact hrow) HLK.out (by have := HX.out; omega))
    rw [← hcl] at cc
    unfold NzPost at cc
    have HCL0 := hide hcl
    clear hn1 hrow hCC hcl
    subst her
    obtain ⟨N, hN⟩ : ∃ x, nfP CC = x := ⟨_, rfl⟩
    have HN := hide hN
    clear hN
    rw [HN.out] at cc
    have HNL : Hid (N.1.length ≤ 65536 ∧ ∀ x ∈ N.1, LitOk x) := by
      rw [← HN.out]
      have := nf_len CC
      have := HCN.out
      exact ⟨by omega, nf_lit HLK.out⟩
    obtain ⟨N1, N2⟩ := N
    dsimp only at cc HNL
    go_upto_region 58 with fail
    go_wp2_with fail
    refine cc.out.mono ?_
    rintro e wz ⟨rfl, hcl2, hex⟩
    have HSW := hide (HS2.out.keep hex (fun z => by have := HGE.out r z; have := HRQ.out; omega) (fun i hi j hj z => by have := HGE.out j z; have := HSZ.out i hi j hj; omega) ⟨fun z => by have := HGE.out q z; have := HQQ.out; omega, fun z => by have := HGE.out t z; have := HTQ.out; omega, fun z => by have := HGE.out o z; have := HOQ.out; omega⟩ (fun j hj => by cases hj) (fun j hj z => by have := HGE.out j z; have := HWX.out; omega))
    clear HS2
    have HCL := hide hcl2
    clear cc hex hcl2 HNC2
    generalize hwz : wz = wv at *
    clear hwz wz
    obtain ⟨Q, hQ⟩ : ∃ x : Int, (if N2 = true then 1 else 0) = x := ⟨_, rfl⟩
    have HQ := hide hQ
    clear hQ
    have cc := hide (truth_any wv N2)
    rw [HQ.out] at cc
    go_upto_region 59 with fail
    go_wp2_with fail
    refine cc.out.mono ?_
    rintro e wz ⟨rfl, hw⟩
    rw [hw]
    clear hw wz
    clear cc
    have o3 := HSW.out.sc.o3
    have hof := HSW.out.sc.of
    go_upto_region 60 with fail
    have HCLa : Hid (CL (wv.setCell ⟨o, 3, none⟩ (.int .i64 (Q))) a1 N1) := HCL.out.keep ((Ex.refl (fun k => k = o) wv).set (p := o) rfl _) (fun g off ea (y : g = o) => by have := HGE.out g (by rw [ea]; rfl); have := HOQ.out; omega)
    have HS3 := hide (HSW.out.on (Q))
    clear HSW
    generalize wv.setCell ⟨o, 3, none⟩ (.int .i64 (Q)) = W3 at *
    clear o3 hof HCL
    have cc := hide (appendClause_any W3 W3.heap.size (.slice none 0 0) [] a1 c1 N1 (World.ownsRow_nil _ _ _ _) (Nat.le_refl _) HCLa.out (fun _ _ _ z => by cases z) HNL.out.2 (by have := HNL.out; simp; omega))
    go_wp2_with fail
    refine cc.out.mono ?_
    rintro e wz ⟨tv, rfl, hbg⟩
    have HW1 := HS3
    have hb2 : Below W3.heap.size W3 wz := hbg.ex.below (Nat.le_refl _) (fun _ _ z => by cases z)
    have HTX := hide hbg.bb
    rw [List.nil_append] at HTX
    have HS4 := hide (HS3.out.low hb2)
    clear cc hbg hb2
    obtain ⟨ta1, tl1, tc1, htv⟩ : ∃ a l c, tv = .slice a l c := by obtain ⟨a, c, e⟩ := own_form HTX.out; exact ⟨a, _, c, e⟩
    subst htv
    have o5 := HS4.out.sc.o5
    have hof := HS4.out.sc.of
    go_upto_region 129 with fail
    have HS5 := hide (HW1.out.tx2 HS4.out HTX.out)
    clear HS4
    generalize wz.setCell ⟨o, 5, none⟩ (.slice ta1 tl1 tc1) = W5 at *
    clear o5 hof HW1 HTX
    obtain ⟨bo, hbo⟩ : ∃ x : Ob, ({ ({ ({ (ob0 : Ob) with er := 0 } : Ob) with n := Q } : Ob) with X := clT N1 }) = x := ⟨_, rfl⟩
    have HSQ : Hid (s = s) := rfl
    have HBQ : Hid (b' = bo) := by show _ = _; rw [← hbo]; exact (by rw [← HBE.out, if_pos HER.out, HN.out, ← HQ.out] <;> rfl)
    rw [hbo] at HS5
    clear hbo HSE HBE
    have o0 := HS5.out.sc.o0
    have o1 := HS5.out.sc.o1
    have o2 := HS5.out.sc.o2
    have o3 := HS5.out.sc.o3
    have o4 := HS5.out.sc.o4
    have o5 := HS5.out.sc.o5
    have t0 := HS5.out.sc.t0
    have t1 := HS5.out.sc.t1
    have t2 := HS5.out.sc.t2
    have t3 := HS5.out.sc.t3
    have t4 := HS5.out.sc.t4
    have t5 := HS5.out.sc.t5
    have htf := HS5.out.sc.tf
    have hot : o ≠ t := fun z => HS5.out.ne.2.2.1 z.symm
    have HF := hide HS5.out.fin
    have HC := hide (fin_cells HS5.out.sc)
    clear HS5
    go_wp2_with (with_reducible refine bodyPost_ret (v := ?v) ?hr ?hd ?hp)
    case v => exact obV bo (.slice ta1 tl1 tc1)
    case hr =>
      change (results _ _).run _ (fin6 W5 t bo (.slice ta1 tl1 tc1)) = .ok _ (fin6 W5 t bo (.slice ta1 tl1 tc1))
      obtain ⟨y0, y1, y2, y3, y4, y5⟩ := HC.out
      clear HF HC
      generalize fin6 W5 t bo (.slice ta1 tl1 tc1) = WF at *
      simp [results, Tryz.results9, go_sem, y0, y1, y2, y3, y4, y5, obV]
    case hd => rfl
    case hp => rw [HBQ.out]; exact HF.out
  · have heb : (e1 == 0) = false := by simpa using her
    have HER : Hid (¬ ncE X = 0) := by show ¬ _; rw [← HE1.out]; exact her
    clear her HNC2
    go_upto_region 129 with fail
    clear heb
    obtain ⟨bo, hbo⟩ : ∃ x : Ob, ({ (ob0 : Ob) with er := e1 }) = x := ⟨_, rfl⟩
    have HSQ : Hid (s = s) := rfl
    have HBQ : Hid (b' = bo) := by show _ = _; rw [← hbo]; exact (by rw [← HBE.out, if_neg HER.out, HE1.out] <;> rfl)
    rw [hbo] at HS2
    clear hbo HSE HBE
    have o0 := HS2.out.sc.o0
    have o1 := HS2.out.sc.o1
    have o2 := HS2.out.sc.o2
    have o3 := HS2.out.sc.o3
    have o4 := HS2.out.sc.o4
    have o5 := HS2.out.sc.o5
    have t0 := HS2.out.sc.t0
    have t1 := HS2.out.sc.t1
    have t2 := HS2.out.sc.t2
    have t3 := HS2.out.sc.t3
    have t4 := HS2.out.sc.t4
    have t5 := HS2.out.sc.t5
    have htf := HS2.out.sc.tf
    have hot : o ≠ t := fun z => HS2.out.ne.2.2.1 z.symm
    have HF := hide HS2.out.fin
    have HC := hide (fin_cells HS2.out.sc)
    clear HS2
    go_wp2_with (with_reducible refine bodyPost_ret (v := ?v) ?hr ?hd ?hp)
    case v => exact obV bo (.slice none 0 0)
    case hr =>
      change (results _ _).run _ (fin6 W2 t bo (.slice none 0 0)) = .ok _ (fin6 W2 t bo (.slice none 0 0))
      obtain ⟨y0, y1, y2, y3, y4, y5⟩ := HC.out
      clear HF HC
      generalize fin6 W2 t bo (.slice none 0 0) = WF at *
      simp [results, Tryz.results9, go_sem, y0, y1, y2, y3, y4, y5, obV]
    case hd => rfl
    case hp => rw [HBQ.out]; exact HF.out
set_option linter.unusedSimpArgs false in
set_option maxRecDepth 100000 in
set_option maxHeartbeats 32000000 in
/-- cnflaw.realBench.step: OpTrueLits -/
theorem step_13 (w : World) (B r z : Nat) (P : Nat → Nat) (S : Nat → Nat → Prop) (s : St) (h : BN w B r P S (QS B s)) (hB : B ≤ w.heap.size) (hok : StOk z s) (hz : z ≤ 65536) (v : OpV) (hk : v.kd = 13) (ha : -9223372036854775808 ≤ v.a ∧ v.a ≤ 9223372036854775807) :
    Calls Tryz.prog 9 #[.pointer (some ⟨r, 0, none⟩), opZ v] w (SpPost w (fp r S) B r (s) ({ ob0 with X := clT (trueP s.a.V (if s.a.V.length = 0 then 1 else s.a.V.length)) })) := by
  have HS0 := hide (sw_new v h hB)
  unfold opZ
  have HOK := hide hok
  have HZ := hide hz
  have hs' : s = s := rfl
  obtain ⟨b', hb'⟩ : ∃ x : Ob, ({ ob0 with X := clT (trueP s.a.V (if s.a.V.length = 0 then 1 else s.a.V.length)) }) = x := ⟨_, rfl⟩
  rw [hb']
  obtain ⟨kd, va, la, ln, lc, VX, ta, tn, tc, VT⟩ := v
  dsimp only at hk HS0 ha hs' hb' ⊢
  subst hk
  have HSE := hide hs'
  have HBE := hide hb'
  clear h hok hz hB hs' hb'
  go_enter Tryz.func9, Tryz.ntmps9
  go_upto_region 2 with fail
  generalize (((w.alloc (.cells #[.int .i64 13, .int .i64 va, .slice la ln lc, .slice ta tn tc] 37)).alloc (.cells #[.int .i64 0, .int .i64 0, .int .i64 0, .int .i64 0, .int .i64 0, .slice none 0 0] 43)).alloc (.cells #[.int .i64 0, .int .i64 0, .int .i64 0, .int .i64 0, .int .i64 0, .slice none 0 0] 43)) = W0 at *
  generalize w.heap.size + 1 + 1 = o at *
  generalize w.heap.size + 1 = t at *
  generalize w.heap.size = q at *
  have q0 : W0.cell? ⟨q, 0, none⟩ = some (.int .i64 13) := HS0.out.sc.q0
  obtain ⟨C, hC⟩ : ∃ x, trueP s.a.V (if s.a.V.length = 0 then 1 else s.a.V.length) = x := ⟨_, rfl⟩
  have HC := hide hC
  clear hC
  have HCO : Hid ((∀ x ∈ C, LitOk x) ∧ C.length ≤ 65536) := by
    rw [← HC.out]
    refine ⟨true_ok HOK.out.a _, ?_⟩
    have := true_le s.a.V (if s.a.V.length = 0 then 1 else s.a.V.length)
    have := HOK.out.a.cnt
    have := HOK.out.ak
    have := HZ.out
    omega
  have p1 := HS0.out.bn.ptr 1 (by decide)
  obtain ⟨av, aat, aso⟩ := HS0.out.a
  have cc := hide (trueLits_any W0 B (P 1) av s.a.k s.a.V aat HOK.out.a)
  rw [HC.out] at cc
  go_upto_region 62 with fail
  go_wp2_with fail
  refine cc.out.mono ?_
  rintro e wz ⟨a1, c1, rfl, hr, hx⟩
  have HCL := hide (row_cl hr)
  have HS1 := hide (HS0.out.lowE hx)
  clear HS0
  clear q0 p1 aat aso cc hr hx
  generalize hwz : wz = w5 at *
  clear hwz wz
  have cc := hide (appendClause_any w5 w5.heap.size (.slice none 0 0) [] a1 c1 C (World.ownsRow_nil _ _ _ _) (Nat.le_refl _) HCL.out (fun _ _ _ z => by cases z) HCO.out.1 (by have := HCO.out; simp; omega))
  clear HCL
  skip
  go_wp2_with fail
  refine cc.out.mono ?_
  rintro e wz ⟨tv, rfl, hbg⟩
  have HW1 := HS1
  have hb2 : Below w5.heap.size w5 wz := hbg.ex.below (Nat.le_refl _) (fun _ _ z => by cases z)
  have HTX := hide hbg.bb
  rw [List.nil_append] at HTX
  have HS2 := hide (HS1.out.low hb2)
  clear HS1
  clear cc hbg hb2
  obtain ⟨ta1, tl1, tc1, htv⟩ : ∃ a l c, tv = .slice a l c := by obtain ⟨a, c, e⟩ := own_form HTX.out; exact ⟨a, _, c, e⟩
  subst htv
  have o5 := HS2.out.sc.o5
  have hof := HS2.out.sc.of
  go_upto_region 129 with fail
  have HS3 := hide (HW1.out.tx2 HS2.out HTX.out)
  clear HS2
  generalize wz.setCell ⟨o, 5, none⟩ (.slice ta1 tl1 tc1) = W3 at *
  clear o5 hof HW1 HTX
  have HCQ := HC
  clear HC
  obtain ⟨bo, hbo⟩ : ∃ x : Ob, ({ (ob0 : Ob) with X := clT C }) = x := ⟨_, rfl⟩
  have HSQ : Hid (s = s) := rfl
  have HBQ : Hid (b' = bo) := by show _ = _; rw [← hbo]; exact (by rw [← HBE.out, ← HCQ.out])
  rw [hbo] at HS3
  clear hbo HSE HBE
  have o0 := HS3.out.sc.o0
  have o1 := HS3.out.sc.o1
  have o2 := HS3.out.sc.o2
  have o3 := HS3.out.sc.o3
  have o4 := HS3.out.sc.o4
  have o5 := HS3.out.sc.o5
  have t0 := HS3.out.sc.t0
  have t1 := HS3.out.sc.t1
  have t2 := HS3.out.sc.t2
  have t3 := HS3.out.sc.t3
  have t4 := HS3.out.sc.t4
  have t5 := HS3.out.sc.t5
  have htf := HS3.out.sc.tf
  have hot : o ≠ t := fun z => HS3.out.ne.2.2.1 z.symm
  have HF := hide HS3.out.fin
  have HC := hide (fin_cells HS3.out.sc)
  clear HS3
  go_wp2_with (with_reducible refine bodyPost_ret (v := ?v) ?hr ?hd ?hp)
  case v => exact obV bo (.slice ta1 tl1 tc1)
  case hr =>
    change (results _ _).run _ (fin6 W3 t bo (.slice ta1 tl1 tc1)) = .ok _ (fin6 W3 t bo (.slice ta1 tl1 tc1))
    obtain ⟨y0, y1, y2, y3, y4, y5⟩ := HC.out
    clear HF HC
    generalize fin6 W3 t bo (.slice ta1 tl1 tc1) = WF at *
    simp [results, Tryz.results9, go_sem, y0, y1, y2, y3, y4, y5, obV]
  case hd => rfl
  case hp => rw [HBQ.out]; exact HF.out
set_option linter.unusedSimpArgs false in
set_option maxRecDepth 100000 in
set_option maxHeartbeats 32000000 in
/-- cnflaw.realBench.step: OpParseDimacs -/
theorem step_14 (w : World) (B r z : Nat) (P : Nat → Nat) (S : Nat → Nat → Prop) (s : St) (h : BN w B r P S (QS B s)) (hB : B ≤ w.heap.size) (hok : StOk z s) (hz : z ≤ 65536) (v : OpV) (hk : v.kd = 14) (ha : -9223372036854775808 ≤ v.a ∧ v.a ≤ 9223372036854775807) (X : List Int) (hX : X.length = v.ln) (hIL : ∀ w', Ex (fun k => B ≤ k) w w' → IL w' v.la X) (hBT : ∀ w', Ex (fun k => B ≤ k) w w' → BT w' v.ta v.tn v.T) (hln : v.ln ≤ 65536) (htn : v.tn ≤ 65536) :
    Calls Tryz.prog 9 #[.pointer (some ⟨r, 0, none⟩), opZ v] w (fun e w' => ∃ s' b', DmR v.T v.tn s s' b' ∧ SpPost w (fp r S) B r s' b' e w') := by
  have HS0 := hide (sw_new v h hB)
  unfold opZ
  have HOK := hide hok
  have HZ := hide hz
  have hs' : True := trivial
  have hb' : True := trivial
  obtain ⟨kd, va, la, ln, lc, VX, ta, tn, tc, VT⟩ := v
  dsimp only at hk HS0 ha ⊢
  subst hk
  dsimp only at hX hIL hBT hln htn
  have HSE := hide hs'
  have HBE := hide hb'
  have HX := hide (And.intro hX (And.intro hln htn))
  have HIL := hide hIL
  have HBT := hide hBT
  clear hX hIL hBT hln htn
  clear h hok hz hB hs' hb'
  go_enter Tryz.func9, Tryz.ntmps9
  go_upto_region 2 with fail
  generalize (((w.alloc (.cells #[.int .i64 14, .int .i64 va, .slice la ln lc, .slice ta tn tc] 37)).alloc (.cells #[.int .i64 0, .int .i64 0, .int .i64 0, .int .i64 0, .int .i64 0, .slice none 0 0] 43)).alloc (.cells #[.int .i64 0, .int .i64 0, .int .i64 0, .int .i64 0, .int .i64 0, .slice none 0 0] 43)) = W0 at *
  generalize w.heap.size + 1 + 1 = o at *
  generalize w.heap.size + 1 = t at *
  generalize w.heap.size = q at *
  have q0 : W0.cell? ⟨q, 0, none⟩ = some (.int .i64 14) := HS0.out.sc.q0
  have q3 : W0.cell? ⟨q, 3, none⟩ = some (.slice ta tn tc) := HS0.out.sc.q3
  have cc := hide (parseDimacs_any W0 ta tn tc VT (HBT.out _ HS0.out.exB) (by have := HX.out; omega))
  go_upto_region 64 with fail
  go_wp2_with fail
  refine cc.out.mono ?_
  rintro e wz hp
  obtain ⟨hb1, ⟨er, lN, col, he, her, hwhy⟩ | ⟨hv, hc, p, st, b9, ga, ge, h1, h2, h3, h4, he, hff, hb9⟩⟩ := hp
  · subst he
    unfold faV
    have HWY := hide (And.intro her hwhy)
    clear hwhy
    have heb : (er == 0) = false := by simpa using her
    clear her
    have HS1 := hide (HS0.out.low hb1)
    clear HS0
    clear q0 q3 cc hb1
    go_upto_region 65 with fail
    have HOW : Hid (o < wz.heap.size) := HS1.out.lt.2.2
    have HS2 := hide (HS1.out.low (be1 wz (.cells #[.int .i64 er, .int .i64 lN, .int .i64 col] 41)))
    clear HS1
    have g0 : (wz.alloc (.cells #[.int .i64 er, .int .i64 lN, .int .i64 col] 41)).cell? ⟨wz.heap.size, 0, none⟩ = some (.int .i64 er) := new_cells wz [.int .i64 er, .int .i64 lN, .int .i64 col] 41 0 _ rfl
    have g1 : (wz.alloc (.cells #[.int .i64 er, .int .i64 lN, .int .i64 col] 41)).cell? ⟨wz.heap.size, 1, none⟩ = some (.int .i64 lN) := new_cells wz [.int .i64 er, .int .i64 lN, .int .i64 col] 41 1 _ rfl
    have g2 : (wz.alloc (.cells #[.int .i64 er, .int .i64 lN, .int .i64 col] 41)).cell? ⟨wz.heap.size, 2, none⟩ = some (.int .i64 col) := new_cells wz [.int .i64 er, .int .i64 lN, .int .i64 col] 41 2 _ rfl
    skip
    obtain ⟨fb, hfb⟩ : ∃ x, wz.heap.size = x := ⟨_, rfl⟩
    have hfo : fb ≠ o := by rw [← hfb]; have := HOW.out; omega
    rw [hfb] at g0 g1 g2 ⊢
    clear hfb
    generalize wz.alloc (.cells #[.int .i64 er, .int .i64 lN, .int .i64 col] 41) = wf at *
    have o0 := HS2.out.sc.o0
    have o1 := HS2.out.sc.o1
    have o2 := HS2.out.sc.o2
    have hof := HS2.out.sc.of
    go_upto_region 66 with fail
    have gz : (((wf.setCell ⟨o, 0, none⟩ (.int .i64 er)).setCell ⟨o, 1, none⟩ (.int .i64 lN)).setCell ⟨o, 2, none⟩ (.int .i64 col)).cell? ⟨fb, 0, none⟩ = some (.int .i64 er) := set_oth (set_oth (set_oth g0 (.inl hfo)) (.inl hfo)) (.inl hfo)
    have HS3 := hide (HS2.out.fa (er) (lN) (col))
    clear HS2
    generalize ((wf.setCell ⟨o, 0, none⟩ (.int .i64 (er))).setCell ⟨o, 1, none⟩ (.int .i64 (lN))).setCell ⟨o, 2, none⟩ (.int .i64 (col)) = W3 at *
    clear o0 o1 o2 hof g0 g1 g2
    go_upto_region 68 with fail
    clear gz heb
    have p0 := HS3.out.bn.ptr 0 (by decide)
    obtain ⟨fa, fe, fff, fs⟩ := HS3.out.f
    have cc := hide (numClauses_any W3 B (P 0) fa fe _ _ fff.ar)
    go_wp2_with fail
    refine cc.out.mono ?_
    rintro e wz ⟨rfl, hw⟩
    rw [hw]
    clear hw wz
    clear p0 fff fs cc
    have o3 := HS3.out.sc.o3
    have hof := HS3.out.sc.of
    go_upto_region 69 with fail
    obtain ⟨el, hel⟩ : ∃ x : Int, (s.f.E.length : Int) = x := ⟨_, rfl⟩
    try dsimp only
    rw [hel]
    have HEL := hide hel
    clear hel
    have HS4 := hide (HS3.out.on (el))
    clear HS3
    generalize W3.setCell ⟨o, 3, none⟩ (.int .i64 (el)) = W4 at *
    clear o3 hof
    have p0 := HS4.out.bn.ptr 0 (by decide)
    obtain ⟨fa, fe, fff, fs⟩ := HS4.out.f
    have cc := hide (numVars_any W4 B (P 0) fa fe _ _ _ fff)
    try dsimp only at cc
    go_wp2_with fail
    refine cc.out.mono ?_
    rintro e wz ⟨rfl, hw⟩
    rw [hw]
    clear hw wz
    clear p0 fff fs cc
    have o4 := HS4.out.sc.o4
    have hof := HS4.out.sc.of
    go_upto_region 129 with fail
    have HS5 := hide (HS4.out.om (s.f.nv))
    clear HS4
    generalize W4.setCell ⟨o, 4, none⟩ (.int .i64 (s.f.nv)) = W5 at *
    clear o4 hof
    obtain ⟨bo, hbo⟩ : ∃ x : Ob, ({ ({ ({ (ob0 : Ob) with er := er, ln := lN, col := col } : Ob) with n := el } : Ob) with m := s.f.nv }) = x := ⟨_, rfl⟩
    have HREL := hide ((show DmR VT tn s s ({ ({ ({ (ob0 : Ob) with er := er, ln := lN, col := col } : Ob) with n := el } : Ob) with m := s.f.nv }) from .inl ⟨er, lN, col, HWY.out.1, HWY.out.2, rfl, by rw [HEL.out] <;> rfl⟩))
    rw [hbo] at HREL
    rw [hbo] at HS5
    clear hbo HSE HBE
    have o0 := HS5.out.sc.o0
    have o1 := HS5.out.sc.o1
    have o2 := HS5.out.sc.o2
    have o3 := HS5.out.sc.o3
    have o4 := HS5.out.sc.o4
    have o5 := HS5.out.sc.o5
    have t0 := HS5.out.sc.t0
    have t1 := HS5.out.sc.t1
    have t2 := HS5.out.sc.t2
    have t3 := HS5.out.sc.t3
    have t4 := HS5.out.sc.t4
    have t5 := HS5.out.sc.t5
    have htf := HS5.out.sc.tf
    have hot : o ≠ t := fun z => HS5.out.ne.2.2.1 z.symm
    have HF := hide HS5.out.fin
    have HC := hide (fin_cells HS5.out.sc)
    clear HS5
    go_wp2_with (with_reducible refine bodyPost_ret (v := ?v) ?hr ?hd ?hp)
    case v => exact obV bo (.slice none 0 0)
    case hr =>
      change (results _ _).run _ (fin6 W5 t bo (.slice none 0 0)) = .ok _ (fin6 W5 t bo (.slice none 0 0))
      obtain ⟨y0, y1, y2, y3, y4, y5⟩ := HC.out
      clear HF HC
      generalize fin6 W5 t bo (.slice none 0 0) = WF at *
      simp [results, Tryz.results9, go_sem, y0, y1, y2, y3, y4, y5, obV]
    case hd => rfl
    case hp => exact ⟨_, _, HREL.out, HF.out⟩
  · subst he
    unfold faV
    have HWY := hide (And.intro h1 (And.intro h2 (And.intro h3 h4)))
    clear h1 h2 h3 h4
    have HFF := hide hff
    have HB9 := hide hb9
    have HEX1 := hide (Ex.of (S := fun _ => False) hb1)
    clear hff hb9
    have HSO := HS0
    have HMS : Hid (∀ i, i < 6 → ∀ j, S i j → j < W0.heap.size) := fun i hi j hj => (HS0.out.bn.rg i hi j hj).2
    have HMM : Hid (q < W0.heap.size ∧ t < W0.heap.size ∧ o < W0.heap.size ∧ r < W0.heap.size) := ⟨HS0.out.lt.1, HS0.out.lt.2.1, HS0.out.lt.2.2, HS0.out.bn.rlt⟩
    have HMB := hide HS0.out.szB
    have HMX := hide HS0.out.ex.size
    clear HSO
    have HS1 := hide (HS0.out.low hb1)
    clear HS0
    clear q0 q3 cc hb1
    go_upto_region 65 with fail
    have HOW : Hid (o < wz.heap.size) := HS1.out.lt.2.2
    have HS2 := hide (HS1.out.low (be1 wz (.cells #[.int .i64 0, .int .i64 0, .int .i64 0] 41)))
    clear HS1
    have g0 : (wz.alloc (.cells #[.int .i64 0, .int .i64 0, .int .i64 0] 41)).cell? ⟨wz.heap.size, 0, none⟩ = some (.int .i64 0) := new_cells wz [.int .i64 0, .int .i64 0, .int .i64 0] 41 0 _ rfl
    have g1 : (wz.alloc (.cells #[.int .i64 0, .int .i64 0, .int .i64 0] 41)).cell? ⟨wz.heap.size, 1, none⟩ = some (.int .i64 0) := new_cells wz [.int .i64 0, .int .i64 0, .int .i64 0] 41 1 _ rfl
    have g2 : (wz.alloc (.cells #[.int .i64 0, .int .i64 0, .int .i64 0] 41)).cell? ⟨wz.heap.size, 2, none⟩ = some (.int .i64 0) := new_cells wz [.int .i64 0, .int .i64 0, .int .i64 0] 41 2 _ rfl
    skip
    replace HFF := hide (HFF.out.below (be1 wz (.cells #[.int .i64 0, .int .i64 0, .int .i64 0] 41)))
    obtain ⟨fb, hfb⟩ : ∃ x, wz.heap.size = x := ⟨_, rfl⟩
    have hfo : fb ≠ o := by rw [← hfb]; have := HOW.out; omega
    rw [hfb] at g0 g1 g2 ⊢
    clear hfb
    generalize wz.alloc (.cells #[.int .i64 0, .int .i64 0, .int .i64 0] 41) = wf at *
    have o0 := HS2.out.sc.o0
    have o1 := HS2.out.sc.o1
    have o2 := HS2.out.sc.o2
    have hof := HS2.out.sc.of
    go_upto_region 66 with fail
    have gz : (((wf.setCell ⟨o, 0, none⟩ (.int .i64 0)).setCell ⟨o, 1, none⟩ (.int .i64 0)).setCell ⟨o, 2, none⟩ (.int .i64 0)).cell? ⟨fb, 0, none⟩ = some (.int .i64 0) := set_oth (set_oth (set_oth g0 (.inl hfo)) (.inl hfo)) (.inl hfo)
    have HEO : Hid (Ex (fun k => k = o) wf (((wf.setCell ⟨o, 0, none⟩ (.int .i64 0)).setCell ⟨o, 1, none⟩ (.int .i64 0)).setCell ⟨o, 2, none⟩ (.int .i64 0))) := (((Ex.refl (fun k => k = o) wf).set (p := o) rfl _).set (p := o) rfl _).set (p := o) rfl _
    replace HFF := hide (HFF.out.keepZ HEO.out (fun (z : b9 = o) => by have := HB9.out; have := HMM.out; omega) (fun k hk (z : k = o) => by have := (HFF.out.ar.r0.lt k hk).1; have := HMM.out; omega) (fun k hk (z : k = o) => by have := (HFF.out.ar.r1.lt k hk).1; have := HMM.out; omega))
    clear HEO
    have HS3 := hide (HS2.out.fa (0) (0) (0))
    clear HS2
    generalize ((wf.setCell ⟨o, 0, none⟩ (.int .i64 (0))).setCell ⟨o, 1, none⟩ (.int .i64 (0))).setCell ⟨o, 2, none⟩ (.int .i64 (0)) = W3 at *
    clear o0 o1 o2 hof g0 g1 g2
    have p0 := HS3.out.bn.ptr 0 (by decide)
    have hrz := HS3.out.bn.fz
    go_upto_region 68 with fail
    obtain ⟨P9, S9, hs4⟩ := HS3.out.putF HMS.out HMM.out HMB.out (i := 0) (by decide) (F := ⟨hv, st.L, st.E⟩) HFF.out HB9.out HMX.out (qs_f B s _)
    have HS4 := hide hs4
    clear hs4 HS3
    generalize W3.setCell ⟨r, 0, none⟩ (.pointer (some ⟨b9, 0, none⟩)) = W9 at *
    clear p0 hrz gz HFF HB9 HEX1
    have p0 := HS4.out.bn.ptr 0 (by decide)
    obtain ⟨fa, fe, fff, fs⟩ := HS4.out.f
    have cc := hide (numClauses_any W9 B (P9 0) fa fe _ _ fff.ar)
    go_wp2_with fail
    refine cc.out.mono ?_
    rintro e wz ⟨rfl, hw⟩
    rw [hw]
    clear hw wz
    clear p0 fff fs cc
    have o3 := HS4.out.sc.o3
    have hof := HS4.out.sc.of
    go_upto_region 69 with fail
    obtain ⟨el, hel⟩ : ∃ x : Int, (st.E.length : Int) = x := ⟨_, rfl⟩
    try dsimp only
    rw [hel]
    have HEL := hide hel
    clear hel
    have HS5 := hide (HS4.out.on (el))
    clear HS4
    generalize W9.setCell ⟨o, 3, none⟩ (.int .i64 (el)) = W5 at *
    clear o3 hof
    have p0 := HS5.out.bn.ptr 0 (by decide)
    obtain ⟨fa, fe, fff, fs⟩ := HS5.out.f
    have cc := hide (numVars_any W5 B (P9 0) fa fe _ _ _ fff)
    try dsimp only at cc
    go_wp2_with fail
    refine cc.out.mono ?_
    rintro e wz ⟨rfl, hw⟩
    rw [hw]
    clear hw wz
    clear p0 fff fs cc
    have o4 := HS5.out.sc.o4
    have hof := HS5.out.sc.of
    go_upto_region 129 with fail
    have HS6 := hide (HS5.out.om (hv))
    clear HS5
    generalize W5.setCell ⟨o, 4, none⟩ (.int .i64 (hv)) = W6 at *
    clear o4 hof
    obtain ⟨bo, hbo⟩ : ∃ x : Ob, ({ ({ ({ (ob0 : Ob) with er := 0, ln := 0, col := 0 } : Ob) with n := el } : Ob) with m := hv }) = x := ⟨_, rfl⟩
    have HREL := hide ((show DmR VT tn s ({ s with f := ⟨hv, st.L, st.E⟩ }) ({ ({ ({ (ob0 : Ob) with er := 0, ln := 0, col := 0 } : Ob) with n := el } : Ob) with m := hv }) from .inr ⟨hv, hc, p, st, HWY.out.1, HWY.out.2.1, HWY.out.2.2.1, HWY.out.2.2.2, rfl, by rw [HEL.out] <;> rfl⟩))
    rw [hbo] at HREL
    rw [hbo] at HS6
    clear hbo HSE HBE
    have o0 := HS6.out.sc.o0
    have o1 := HS6.out.sc.o1
    have o2 := HS6.out.sc.o2
    have o3 := HS6.out.sc.o3
    have o4 := HS6.out.sc.o4
    have o5 := HS6.out.sc.o5
    have t0 := HS6.out.sc.t0
    have t1 := HS6.out.sc.t1
    have t2 := HS6.out.sc.t2
    have t3 := HS6.out.sc.t3
    have t4 := HS6.out.sc.t4
    have t5 := HS6.out.sc.t5
    have htf := HS6.out.sc.tf
    have hot : o ≠ t := fun z => HS6.out.ne.2.2.1 z.symm
    have HF := hide HS6.out.fin
    have HC := hide (fin_cells HS6.out.sc)
    clear HS6
    go_wp2_with (with_reducible refine bodyPost_ret (v := ?v) ?hr ?hd ?hp)
    case v => exact obV bo (.slice none 0 0)
    case hr =>
      change (results _ _).run _ (fin6 W6 t bo (.slice none 0 0)) = .ok _ (fin6 W6 t bo (.slice none 0 0))
      obtain ⟨y0, y1, y2, y3, y4, y5⟩ := HC.out
      clear HF HC
      generalize fin6 W6 t bo (.slice none 0 0) = WF at *
      simp [results, Tryz.results9, go_sem, y0, y1, y2, y3, y4, y5, obV]
    case hd => rfl
    case hp => exact ⟨_, _, HREL.out, HF.out⟩
end Go.Proofs.Qxb6500773aGreat
