import Derived.Test.Qxb6500773aGreatTx
import Derived.Test.Qxb6500773aGreatLo5
namespace Go.Proofs.Qxb6500773aGreat
open Go.RowKit

set_option linter.unusedSimpArgs false in
set_option maxRecDepth 100000 in
set_option maxHeartbeats 32000000 in
/-- cnflaw.realBench.step: OpReset -/
theorem step_0 (w : World) (B r z : Nat) (P : Nat → Nat) (S : Nat → Nat → Prop) (s : St) (h : BN w B r P S (QS B s)) (hB : B ≤ w.heap.size) (hok : StOk z s) (hz : z ≤ 65536) (v : OpV) (hk : v.kd = 0) (ha : -9223372036854775808 ≤ v.a ∧ v.a ≤ 9223372036854775807) :
    Calls Tryz.prog 9 #[.pointer (some ⟨r, 0, none⟩), opZ v] w (SpPost w (fp r S) B r ({ ({ ({ (s : St) with f := ⟨0, [], []⟩ } : St) with a := ⟨if s.a.k = 0 then s.a.k else 0, if s.a.k = 0 then s.a.V else List.replicate s.a.V.length 0⟩ } : St) with p := ⟨[], [], []⟩ }) (ob0)) := by
  have HS0 := hide (sw_new v h hB)
  unfold opZ
  have HOK := hide hok
  have HZ := hide hz
  obtain ⟨s', hs'⟩ : ∃ x : St, ({ ({ ({ (s : St) with f := ⟨0, [], []⟩ } : St) with a := ⟨if s.a.k = 0 then s.a.k else 0, if s.a.k = 0 then s.a.V else List.replicate s.a.V.length 0⟩ } : St) with p := ⟨[], [], []⟩ }) = x := ⟨_, rfl⟩
  obtain ⟨b', hb'⟩ : ∃ x : Ob, (ob0) = x := ⟨_, rfl⟩
  rw [hs', hb']
  obtain ⟨kd, va, la, ln, lc, VX, ta, tn, tc, VT⟩ := v
  dsimp only at hk HS0 ha hs' hb' ⊢
  subst hk
  have HSE := hide hs'
  have HBE := hide hb'
  clear h hok hz hB hs' hb'
  go_enter Tryz.func9, Tryz.ntmps9
  go_upto_region 2 with fail
  generalize (((w.alloc (.cells #[.int .i64 0, .int .i64 va, .slice la ln lc, .slice ta tn tc] 37)).alloc (.cells #[.int .i64 0, .int .i64 0, .int .i64 0, .int .i64 0, .int .i64 0, .slice none 0 0] 43)).alloc (.cells #[.int .i64 0, .int .i64 0, .int .i64 0, .int .i64 0, .int .i64 0, .slice none 0 0] 43)) = W0 at *
  generalize w.heap.size + 1 + 1 = o at *
  generalize w.heap.size + 1 = t at *
  generalize w.heap.size = q at *
  have q0 : W0.cell? ⟨q, 0, none⟩ = some (.int .i64 0) := HS0.out.sc.q0
  go_upto_region 4 with fail
  have p0 := HS0.out.bn.ptr 0 (by decide)
  obtain ⟨fa, fe, fff, fs⟩ := HS0.out.f
  have cc := hide (fReset_any W0 B (P 0) fa fe s.f.nv s.f.L s.f.E fff)
  go_wp2_with fail
  refine cc.out.mono ?_
  rintro e wz ⟨rfl, hp⟩
  obtain ⟨S1, hs1⟩ := HS0.out.ft fs hp
  have HS1 := hide hs1
  clear hs1 HS0
  clear q0 p0 fff fs cc hp
  generalize hwz : wz = w1 at *
  clear hwz wz
  have p1 := HS1.out.bn.ptr 1 (by decide)
  obtain ⟨av, aat, aso⟩ := HS1.out.a
  have cc := hide (clear_any w1 B (P 1) av s.a.k s.a.V aat HOK.out.a)
  go_upto_region 5 with fail
  go_wp2_with fail
  refine cc.out.mono ?_
  rintro e wz hp
  have he := hp.1
  subst he
  obtain ⟨S2, hs2⟩ := HS1.out.ag aso hp
  have HS2 := hide hs2
  clear hs2 HS1
  clear p1 aat aso cc hp
  generalize hwz : wz = w2 at *
  clear hwz wz
  have p2 := HS2.out.bn.ptr 2 (by decide)
  obtain ⟨pa, pe, pd, ppf, ps⟩ := HS2.out.p
  have cc := hide (pReset_any w2 B (P 2) pa pe pd s.p.L s.p.E s.p.D ppf)
  go_upto_region 6 with fail
  go_wp2_with fail
  refine cc.out.mono ?_
  rintro e wz ⟨rfl, hp⟩
  obtain ⟨S3, hs3⟩ := HS2.out.pt ps hp
  have HS3 := hide hs3
  clear hs3 HS2
  clear p2 ppf ps cc hp
  obtain ⟨bo, hbo⟩ : ∃ x : Ob, (ob0) = x := ⟨_, rfl⟩
  have HSQ : Hid (s' = { ({ ({ (s : St) with f := ⟨0, [], []⟩ } : St) with a := ⟨if s.a.k = 0 then s.a.k else 0, if s.a.k = 0 then s.a.V else List.replicate s.a.V.length 0⟩ } : St) with p := ⟨[], [], []⟩ }) := HSE.out.symm
  have HBQ : Hid (b' = bo) := by show _ = _; rw [← hbo]; exact HBE.out.symm
  rw [hbo] at HS3
  clear hbo HSE HBE
  have o0 := HS3.out.sc.o0
  have o1 := HS3.out.sc.o1
  have o2 := HS3.out.sc.o2
  have o3 := HS3.out.sc.o3
  have o4 := HS3.out.sc.o4
  have o5 := HS3.out.sc.o5
  have t0 := HS3.out.sc.t0
  have t1 := HS3.out.sc.t1
  have t2 := HS3.out.sc.t2
  have t3 := HS3.out.sc.t3
  have t4 := HS3.out.sc.t4
  have t5 := HS3.out.sc.t5
  have htf := HS3.out.sc.tf
  have hot : o ≠ t := fun z => HS3.out.ne.2.2.1 z.symm
  have HF := hide HS3.out.fin
  have HC := hide (fin_cells HS3.out.sc)
  clear HS3
  go_wp2_with (with_reducible refine bodyPost_ret (v := ?v) ?hr ?hd ?hp)
  case v => exact obV bo (.slice none 0 0)
  case hr =>
    change (results _ _).run _ (fin6 wz t bo (.slice none 0 0)) = .ok _ (fin6 wz t bo (.slice none 0 0))
    obtain ⟨y0, y1, y2, y3, y4, y5⟩ := HC.out
    clear HF HC
    generalize fin6 wz t bo (.slice none 0 0) = WF at *
    simp [results, Tryz.results9, go_sem, y0, y1, y2, y3, y4, y5, obV]
  case hd => rfl
  case hp => rw [HSQ.out, HBQ.out]; exact HF.out
set_option linter.unusedSimpArgs false in
set_option maxRecDepth 100000 in
set_option maxHeartbeats 32000000 in
/-- cnflaw.realBench.step: OpEnsureVars -/
theorem step_1 (w : World) (B r z : Nat) (P : Nat → Nat) (S : Nat → Nat → Prop) (s : St) (h : BN w B r P S (QS B s)) (hB : B ≤ w.heap.size) (hok : StOk z s) (hz : z ≤ 65536) (v : OpV) (hk : v.kd = 1) (ha : -9223372036854775808 ≤ v.a ∧ v.a ≤ 9223372036854775807) :
    Calls Tryz.prog 9 #[.pointer (some ⟨r, 0, none⟩), opZ v] w (SpPost w (fp r S) B r ({ s with f := ⟨(if 0 ≤ v.a ∧ v.a ≤ 16777215 ∧ s.f.nv < v.a then v.a else s.f.nv), s.f.L, s.f.E⟩, a := ⟨s.a.k, growP s.a.V v.a⟩ }) ({ ob0 with er := (if 0 ≤ v.a ∧ v.a ≤ 16777215 then 0 else 3), n := (if 0 ≤ v.a ∧ v.a ≤ 16777215 ∧ s.f.nv < v.a then v.a else s.f.nv) })) := by
  have HS0 := hide (sw_new v h hB)
  unfold opZ
  have HOK := hide hok
  have HZ := hide hz
  obtain ⟨s', hs'⟩ : ∃ x : St, ({ s with f := ⟨(if 0 ≤ v.a ∧ v.a ≤ 16777215 ∧ s.f.nv < v.a then v.a else s.f.nv), s.f.L, s.f.E⟩, a := ⟨s.a.k, growP s.a.V v.a⟩ }) = x := ⟨_, rfl⟩
  obtain ⟨b', hb'⟩ : ∃ x : Ob, ({ ob0 with er := (if 0 ≤ v.a ∧ v.a ≤ 16777215 then 0 else 3), n := (if 0 ≤ v.a ∧ v.a ≤ 16777215 ∧ s.f.nv < v.a then v.a else s.f.nv) }) = x := ⟨_, rfl⟩
  rw [hs', hb']
  obtain ⟨kd, va, la, ln, lc, VX, ta, tn, tc, VT⟩ := v
  dsimp only at hk HS0 ha hs' hb' ⊢
  subst hk
  have HSE := hide hs'
  have HBE := hide hb'
  clear h hok hz hB hs' hb'
  go_enter Tryz.func9, Tryz.ntmps9
  go_upto_region 2 with fail
  generalize (((w.alloc (.cells #[.int .i64 1, .int .i64 va, .slice la ln lc, .slice ta tn tc] 37)).alloc (.cells #[.int .i64 0, .int .i64 0, .int .i64 0, .int .i64 0, .int .i64 0, .slice none 0 0] 43)).alloc (.cells #[.int .i64 0, .int .i64 0, .int .i64 0, .int .i64 0, .int .i64 0, .slice none 0 0] 43)) = W0 at *
  generalize w.heap.size + 1 + 1 = o at *
  generalize w.heap.size + 1 = t at *
  generalize w.heap.size = q at *
  have q0 : W0.cell? ⟨q, 0, none⟩ = some (.int .i64 1) := HS0.out.sc.q0
  obtain ⟨nn, hnn⟩ : ∃ x, (if 0 ≤ va ∧ va ≤ 16777215 ∧ s.f.nv < va then va else s.f.nv) = x := ⟨_, rfl⟩
  have Hnn := hide hnn
  clear hnn
  obtain ⟨ee, hee⟩ : ∃ x : Int, (if 0 ≤ va ∧ va ≤ 16777215 then 0 else 3) = x := ⟨_, rfl⟩
  have Hee := hide hee
  clear hee
  go_upto_region 8 with fail
  have HC0 := hide (HS0.out.low ((Below.refl _ _).drew))
  refine wp_region_held_drew (S := fun w' => PQ w' r q P ⟨1, va, la, ln, lc, VX, ta, tn, tc, VT⟩) (by kernel_rfl) HS0.out.pq (fun hHeld => ?_)
  refine wpAnyH_take (i := 0) (v := ?_) rfl (by kernel_rfl) (by kernel_rfl) (by kernel_rfl) (fun _ _ _ h => h) (Or.inl ⟨by rfl, ?_⟩) (by assumption) ?_
  rotate_left
  · (intro w hSw; (try dsimp only at hSw); go_simp; try (with_reducible rfl))
  try simp only [Act.put, List.getElem_toArray, List.getElem_cons_zero, List.getElem_cons_succ, List.setIfInBounds_toArray, List.set_cons_zero, List.set_cons_succ]
  refine wpAnyH_take (i := 1) (v := ?_) rfl (by kernel_rfl) (by kernel_rfl) (by kernel_rfl) (fun _ _ _ h => h) (Or.inl ⟨by rfl, ?_⟩) (by assumption) ?_
  rotate_left
  · (intro w hSw; (try dsimp only at hSw); go_simp; try (with_reducible rfl))
  try simp only [Act.put, List.getElem_toArray, List.getElem_cons_zero, List.getElem_cons_succ, List.setIfInBounds_toArray, List.set_cons_zero, List.set_cons_succ]
  refine wpAnyH_take (i := 2) (v := ?_) rfl (by kernel_rfl) (by kernel_rfl) (by kernel_rfl) (fun _ _ _ h => h) (Or.inl ⟨by rfl, ?_⟩) (by assumption) ?_
  rotate_left
  · (intro w hSw; (try dsimp only at hSw); go_simp; try (with_reducible rfl))
  try simp only [Act.put, List.getElem_toArray, List.getElem_cons_zero, List.getElem_cons_succ, List.setIfInBounds_toArray, List.set_cons_zero, List.set_cons_succ]
  refine wpAnyH_take (i := 3) (v := ?_) rfl (by kernel_rfl) (by kernel_rfl) (by kernel_rfl) (fun _ _ _ h => h) (Or.inl ⟨by rfl, ?_⟩) (by assumption) ?_
  rotate_left
  · (intro w hSw; (try dsimp only at hSw); (obtain ⟨zp, zq1, zq2⟩ := hSw; have zz := zp 0 (by decide)); go_simp; try (with_reducible rfl))
  try simp only [Act.put, List.getElem_toArray, List.getElem_cons_zero, List.getElem_cons_succ, List.setIfInBounds_toArray, List.set_cons_zero, List.set_cons_succ]
  refine wpAnyH_take (i := 4) (v := ?_) rfl (by kernel_rfl) (by kernel_rfl) (by kernel_rfl) (fun _ _ _ h => h) (Or.inl ⟨by rfl, ?_⟩) (by assumption) ?_
  rotate_left
  · (intro w hSw; (try dsimp only at hSw); go_simp; try (with_reducible rfl))
  try simp only [Act.put, List.getElem_toArray, List.getElem_cons_zero, List.getElem_cons_succ, List.setIfInBounds_toArray, List.set_cons_zero, List.set_cons_succ]
  refine wpAnyH_take (i := 5) (v := ?_) rfl (by kernel_rfl) (by kernel_rfl) (by kernel_rfl) (fun _ _ _ h => h) (Or.inl ⟨by rfl, ?_⟩) (by assumption) ?_
  rotate_left
  · (intro w hSw; (try dsimp only at hSw); (obtain ⟨zp, zq1, zq2⟩ := hSw; dsimp only at zq1 zq2); go_simp; try (with_reducible rfl))
  try simp only [Act.put, List.getElem_toArray, List.getElem_cons_zero, List.getElem_cons_succ, List.setIfInBounds_toArray, List.set_cons_zero, List.set_cons_succ]
  refine wpAnyH_ready (rs := [6]) (by kernel_rfl) (by simp) ?_
  refine (AllReadyH.cons rfl (fun K hK => ?_) AllReadyH.nil)
  · obtain ⟨fa, fe, fff, fs⟩ := HC0.out.f
    have cc := hide (ensureVars_any W0.drew B (P 0) fa fe s.f.nv s.f.L s.f.E fff va)
    rw [Hnn.out, Hee.out] at cc
    clear fff
    refine step_call rfl 28 #[.pointer (some ⟨P 0, 0, none⟩), .int .i64 va] (by simp [go_sem]) (cc.out) ?_
    rintro e w1 ⟨rfl, hp, hx⟩
    obtain ⟨S1, hs1⟩ := HC0.out.ft fs (F := ⟨nn, s.f.L, s.f.E⟩) ⟨hx.mono (fun k z => .inl z), fa, fe, hp, fun k z => .inl z, fun k z => .inl z⟩
    have HC1 := hide hs1
    have HC2 := hide (hs1.er ee)
    have o0 := hs1.sc.o0
    have hof := hs1.sc.of
    clear hs1 hp hx fs cc
    refine ⟨_, rfl, ?_⟩
    refine hK.out _ _ ?_ (fun hHeld => ?_)
    · (first | exact HC2.out.pq | exact HC1.out.pq | exact HC0.out.pq)
    clear hK K
    try simp only [Act.put, List.getElem_toArray, List.getElem_cons_zero, List.getElem_cons_succ, List.setIfInBounds_toArray, List.set_cons_zero, List.set_cons_succ]
    refine wpAnyH_take (i := 7) (v := ?_) rfl (by kernel_rfl) (by kernel_rfl) (by kernel_rfl) (fun _ _ _ h => h) (Or.inl ⟨by rfl, ?_⟩) (by assumption) ?_
    rotate_left
    · (intro w hSw; (try dsimp only at hSw); go_simp; try (with_reducible rfl))
    try simp only [Act.put, List.getElem_toArray, List.getElem_cons_zero, List.getElem_cons_succ, List.setIfInBounds_toArray, List.set_cons_zero, List.set_cons_succ]
    refine wpAnyH_take (i := 8) (v := ?_) rfl (by kernel_rfl) (by kernel_rfl) (by kernel_rfl) (fun _ _ _ h => h) (Or.inl ⟨by rfl, ?_⟩) (by assumption) ?_
    rotate_left
    · (intro w hSw; (try dsimp only at hSw); go_simp; try (with_reducible rfl))
    try simp only [Act.put, List.getElem_toArray, List.getElem_cons_zero, List.getElem_cons_succ, List.setIfInBounds_toArray, List.set_cons_zero, List.set_cons_succ]
    refine wpAnyH_ready (rs := [9]) (by kernel_rfl) (by simp) ?_
    refine (AllReadyH.cons rfl (fun K hK => ?_) AllReadyH.nil)
    · go_simp
      refine hK.out _ _ ?_ (fun hHeld => ?_)
      · (first | exact HC2.out.pq | exact HC1.out.pq | exact HC0.out.pq)
      clear hK K
      try simp only [Act.put, List.getElem_toArray, List.getElem_cons_zero, List.getElem_cons_succ, List.setIfInBounds_toArray, List.set_cons_zero, List.set_cons_succ]
      refine wpAnyH_done (by kernel_rfl) ?_ _
      clear o0 hof HC0 HC1 HS0 q0
      generalize w1.setCell ⟨o, 0, none⟩ (.int .i64 ee) = W1 at *
      have HD := HC2
      clear HC2
      have p0 := HD.out.bn.ptr 0 (by decide)
      obtain ⟨fa, fe, fff, fs⟩ := HD.out.f
      have cc := hide (numVars_any W1 B (P 0) fa fe _ _ _ fff)
      go_upto_region 9 with fail
      go_wp2_with fail
      refine cc.out.mono ?_
      rintro e wz ⟨rfl, hw⟩
      rw [hw]
      clear hw wz
      clear p0 fff fs cc
      have o3 := HD.out.sc.o3
      have hof := HD.out.sc.of
      go_upto_region 10 with fail
      have HS101 := hide (HD.out.on (nn))
      clear HD
      generalize W1.setCell ⟨o, 3, none⟩ (.int .i64 (nn)) = W101 at *
      clear o3 hof
      have HD2 := HS101
      clear HS101
      go_upto_region 10 with fail
      have HC0 := hide (HD2.out.low ((Below.refl _ _).drew))
      refine wp_region_held_drew (S := fun w' => PQ w' r q P ⟨1, va, la, ln, lc, VX, ta, tn, tc, VT⟩) (by kernel_rfl) HD2.out.pq (fun hHeld => ?_)
      refine wpAnyH_take (i := 0) (v := ?_) rfl (by kernel_rfl) (by kernel_rfl) (by kernel_rfl) (fun _ _ _ h => h) (Or.inl ⟨by rfl, ?_⟩) (by assumption) ?_
      rotate_left
      · (intro w hSw; (try dsimp only at hSw); go_simp; try (with_reducible rfl))
      try simp only [Act.put, List.getElem_toArray, List.getElem_cons_zero, List.getElem_cons_succ, List.setIfInBounds_toArray, List.set_cons_zero, List.set_cons_succ]
      refine wpAnyH_take (i := 1) (v := ?_) rfl (by kernel_rfl) (by kernel_rfl) (by kernel_rfl) (fun _ _ _ h => h) (Or.inl ⟨by rfl, ?_⟩) (by assumption) ?_
      rotate_left
      · (intro w hSw; (try dsimp only at hSw); go_simp; try (with_reducible rfl))
      try simp only [Act.put, List.getElem_toArray, List.getElem_cons_zero, List.getElem_cons_succ, List.setIfInBounds_toArray, List.set_cons_zero, List.set_cons_succ]
      refine wpAnyH_take (i := 2) (v := ?_) rfl (by kernel_rfl) (by kernel_rfl) (by kernel_rfl) (fun _ _ _ h => h) (Or.inl ⟨by rfl, ?_⟩) (by assumption) ?_
      rotate_left
      · (intro w hSw; (try dsimp only at hSw); go_simp; try (with_reducible rfl))
      try simp only [Act.put, List.getElem_toArray, List.getElem_cons_zero, List.getElem_cons_succ, List.setIfInBounds_toArray, List.set_cons_zero, List.set_cons_succ]
      refine wpAnyH_take (i := 3) (v := ?_) rfl (by kernel_rfl) (by kernel_rfl) (by kernel_rfl) (fun _ _ _ h => h) (Or.inl ⟨by rfl, ?_⟩) (by assumption) ?_
      rotate_left
      · (intro w hSw; (try dsimp only at hSw); (obtain ⟨zp, zq1, zq2⟩ := hSw; have zz := zp 1 (by decide)); go_simp; try (with_reducible rfl))
      try simp only [Act.put, List.getElem_toArray, List.getElem_cons_zero, List.getElem_cons_succ, List.setIfInBounds_toArray, List.set_cons_zero, List.set_cons_succ]
      refine wpAnyH_take (i := 4) (v := ?_) rfl (by kernel_rfl) (by kernel_rfl) (by kernel_rfl) (fun _ _ _ h => h) (Or.inl ⟨by rfl, ?_⟩) (by assumption) ?_
      rotate_left
      · (intro w hSw; (try dsimp only at hSw); go_simp; try (with_reducible rfl))
      try simp only [Act.put, List.getElem_toArray, List.getElem_cons_zero, List.getElem_cons_succ, List.setIfInBounds_toArray, List.set_cons_zero, List.set_cons_succ]
      refine wpAnyH_take (i := 5) (v := ?_) rfl (by kernel_rfl) (by kernel_rfl) (by kernel_rfl) (fun _ _ _ h => h) (Or.inl ⟨by rfl, ?_⟩) (by assumption) ?_
      rotate_left
      · (intro w hSw; (try dsimp only at hSw); (obtain ⟨zp, zq1, zq2⟩ := hSw; dsimp only at zq1 zq2); go_simp; try (with_reducible rfl))
      try simp only [Act.put, List.getElem_toArray, List.getElem_cons_zero, List.getElem_cons_succ, List.setIfInBounds_toArray, List.set_cons_zero, List.set_cons_succ]
      refine wpAnyH_ready (rs := [6]) (by kernel_rfl) (by simp) ?_
      refine (AllReadyH.cons rfl (fun K hK => ?_) AllReadyH.nil)
      · obtain ⟨av, aat, aso⟩ := HC0.out.a
        have cc := hide (growA_any W101.drew B (P 1) av s.a.k s.a.V aat HC0.out.szB HOK.out.a.len va ha)
        clear aat
        refine step_call rfl 30 #[.pointer (some ⟨P 1, 0, none⟩), .int .i64 va] (by simp [go_sem]) (cc.out) ?_
        rintro e w4 hp
        have he := hp.1
        subst he
        obtain ⟨S2, hs2⟩ := HC0.out.ag aso hp
        have HC1 := hide hs2
        clear hs2 hp aso cc
        refine ⟨_, rfl, ?_⟩
        refine hK.out _ _ ?_ (fun hHeld => ?_)
        · (first | exact HC1.out.pq | exact HC0.out.pq)
        clear hK K
        try simp only [Act.put, List.getElem_toArray, List.getElem_cons_zero, List.getElem_cons_succ, List.setIfInBounds_toArray, List.set_cons_zero, List.set_cons_succ]
        refine wpAnyH_done (by kernel_rfl) ?_ _
        clear HC0 HD2
        obtain ⟨bo, hbo⟩ : ∃ x : Ob, ({ ({ (ob0 : Ob) with er := ee } : Ob) with n := nn }) = x := ⟨_, rfl⟩
        have HSQ : Hid (s' = { s with f := ⟨nn, s.f.L, s.f.E⟩, a := ⟨s.a.k, growP s.a.V va⟩ }) := (by show _ = _; rw [← HSE.out, ← Hnn.out])
        have HBQ : Hid (b' = bo) := by show _ = _; rw [← hbo]; exact (by rw [← HBE.out, ← Hnn.out, ← Hee.out])
        rw [hbo] at HC1
        clear hbo HSE HBE
        have o0 := HC1.out.sc.o0
        have o1 := HC1.out.sc.o1
        have o2 := HC1.out.sc.o2
        have o3 := HC1.out.sc.o3
        have o4 := HC1.out.sc.o4
        have o5 := HC1.out.sc.o5
        have t0 := HC1.out.sc.t0
        have t1 := HC1.out.sc.t1
        have t2 := HC1.out.sc.t2
        have t3 := HC1.out.sc.t3
        have t4 := HC1.out.sc.t4
        have t5 := HC1.out.sc.t5
        have htf := HC1.out.sc.tf
        have hot : o ≠ t := fun z => HC1.out.ne.2.2.1 z.symm
        have HF := hide HC1.out.fin
        have HC := hide (fin_cells HC1.out.sc)
        clear HC1
        go_wp2_with (with_reducible refine bodyPost_ret (v := ?v) ?hr ?hd ?hp)
        case v => exact obV bo (.slice none 0 0)
        case hr =>
          change (results _ _).run _ (fin6 w4 t bo (.slice none 0 0)) = .ok _ (fin6 w4 t bo (.slice none 0 0))
          obtain ⟨y0, y1, y2, y3, y4, y5⟩ := HC.out
          clear HF HC
          generalize fin6 w4 t bo (.slice none 0 0) = WF at *
          simp [results, Tryz.results9, go_sem, y0, y1, y2, y3, y4, y5, obV]
        case hd => rfl
        case hp => rw [HSQ.out, HBQ.out]; exact HF.out
set_option linter.unusedSimpArgs false in
set_option maxRecDepth 100000 in
set_option maxHeartbeats 32000000 in
/-- cnflaw.realBench.step: OpNewVar -/
theorem step_2 (w : World) (B r z : Nat) (P : Nat → Nat) (S : Nat → Nat → Prop) (s : St) (h : BN w B r P S (QS B s)) (hB : B ≤ w.heap.size) (hok : StOk z s) (hz : z ≤ 65536) (v : OpV) (hk : v.kd = 2) (ha : -9223372036854775808 ≤ v.a ∧ v.a ≤ 9223372036854775807) :
    Calls Tryz.prog 9 #[.pointer (some ⟨r, 0, none⟩), opZ v] w (SpPost w (fp r S) B r ({ (s : St) with f := ⟨if s.f.nv < 16777215 then s.f.nv + 1 else s.f.nv, s.f.L, s.f.E⟩ }) ({ ob0 with er := if s.f.nv < 16777215 then 0 else 3, n := if s.f.nv < 16777215 then s.f.nv + 1 else 0 })) := by
  have HS0 := hide (sw_new v h hB)
  unfold opZ
  have HOK := hide hok
  have HZ := hide hz
  obtain ⟨s', hs'⟩ : ∃ x : St, ({ (s : St) with f := ⟨if s.f.nv < 16777215 then s.f.nv + 1 else s.f.nv, s.f.L, s.f.E⟩ }) = x := ⟨_, rfl⟩
  obtain ⟨b', hb'⟩ : ∃ x : Ob, ({ ob0 with er := if s.f.nv < 16777215 then 0 else 3, n := if s.f.nv < 16777215 then s.f.nv + 1 else 0 }) = x := ⟨_, rfl⟩
  rw [hs', hb']
  obtain ⟨kd, va, la, ln, lc, VX, ta, tn, tc, VT⟩ := v
  dsimp only at hk HS0 ha hs' hb' ⊢
  subst hk
  have HSE := hide hs'
  have HBE := hide hb'
  clear h hok hz hB hs' hb'
  go_enter Tryz.func9, Tryz.ntmps9
  go_upto_region 2 with fail
  generalize (((w.alloc (.cells #[.int .i64 2, .int .i64 va, .slice la ln lc, .slice ta tn tc] 37)).alloc (.cells #[.int .i64 0, .int .i64 0, .int .i64 0, .int .i64 0, .int .i64 0, .slice none 0 0] 43)).alloc (.cells #[.int .i64 0, .int .i64 0, .int .i64 0, .int .i64 0, .int .i64 0, .slice none 0 0] 43)) = W0 at *
  generalize w.heap.size + 1 + 1 = o at *
  generalize w.heap.size + 1 = t at *
  generalize w.heap.size = q at *
  have q0 : W0.cell? ⟨q, 0, none⟩ = some (.int .i64 2) := HS0.out.sc.q0
  go_upto_region 12 with fail
  have p0 := HS0.out.bn.ptr 0 (by decide)
  obtain ⟨fa, fe, fff, fs⟩ := HS0.out.f
  have cc := hide (newVar_any W0 B (P 0) fa fe s.f.nv s.f.L s.f.E fff HOK.out.f.nv)
  have hx1 : IntKind.i64.wrap (if s.f.nv < 16777215 then s.f.nv + 1 else 0) = if s.f.nv < 16777215 then s.f.nv + 1 else 0 := by have := HOK.out.f.nv; rw [IntKind.wrap_i64]; split <;> omega
  obtain ⟨x1, hx⟩ : ∃ x, (if s.f.nv < 16777215 then s.f.nv + 1 else 0) = x := ⟨_, rfl⟩
  obtain ⟨x2, hy⟩ : ∃ x : Int, (if s.f.nv < 16777215 then 0 else 3) = x := ⟨_, rfl⟩
  rw [hx] at cc hx1
  rw [hy] at cc
  have HX1 := hide hx
  have HY1 := hide hy
  clear hx hy
  go_wp2_with fail
  refine cc.out.mono ?_
  rintro e wz ⟨rfl, hp, hx⟩
  obtain ⟨S1, hs1⟩ := HS0.out.ft fs (F := ⟨if s.f.nv < 16777215 then s.f.nv + 1 else s.f.nv, s.f.L, s.f.E⟩) ⟨hx.mono (fun k z => .inl z), fa, fe, hp, fun k z => .inl z, fun k z => .inl z⟩
  have HS1 := hide hs1
  clear hs1 HS0
  clear q0 p0 fff fs cc hp hx
  have o0 := HS1.out.sc.o0
  have hof := HS1.out.sc.of
  go_upto_region 14 with fail
  have HS2 := hide (HS1.out.er (x2))
  clear HS1
  generalize wz.setCell ⟨o, 0, none⟩ (.int .i64 (x2)) = W2 at *
  clear o0 hof
  have o3 := HS2.out.sc.o3
  have hof := HS2.out.sc.of
  go_upto_region 129 with fail
  have HS3 := hide (HS2.out.on (x1))
  clear HS2
  generalize W2.setCell ⟨o, 3, none⟩ (.int .i64 (x1)) = W3 at *
  clear o3 hof
  obtain ⟨bo, hbo⟩ : ∃ x : Ob, ({ ({ (ob0 : Ob) with er := x2 } : Ob) with n := x1 }) = x := ⟨_, rfl⟩
  have HSQ : Hid (s' = { (s : St) with f := ⟨if s.f.nv < 16777215 then s.f.nv + 1 else s.f.nv, s.f.L, s.f.E⟩ }) := HSE.out.symm
  have HBQ : Hid (b' = bo) := by show _ = _; rw [← hbo]; exact (by rw [← HBE.out, ← HX1.out, ← HY1.out])
  rw [hbo] at HS3
  clear hbo HSE HBE
  have o0 := HS3.out.sc.o0
  have o1 := HS3.out.sc.o1
  have o2 := HS3.out.sc.o2
  have o3 := HS3.out.sc.o3
  have o4 := HS3.out.sc.o4
  have o5 := HS3.out.sc.o5
  have t0 := HS3.out.sc.t0
  have t1 := HS3.out.sc.t1
  have t2 := HS3.out.sc.t2
  have t3 := HS3.out.sc.t3
  have t4 := HS3.out.sc.t4
  have t5 := HS3.out.sc.t5
  have htf := HS3.out.sc.tf
  have hot : o ≠ t := fun z => HS3.out.ne.2.2.1 z.symm
  have HF := hide HS3.out.fin
  have HC := hide (fin_cells HS3.out.sc)
  clear HS3
  go_wp2_with (with_reducible refine bodyPost_ret (v := ?v) ?hr ?hd ?hp)
  case v => exact obV bo (.slice none 0 0)
  case hr =>
    change (results _ _).run _ (fin6 W3 t bo (.slice none 0 0)) = .ok _ (fin6 W3 t bo (.slice none 0 0))
    obtain ⟨y0, y1, y2, y3, y4, y5⟩ := HC.out
    clear HF HC
    generalize fin6 W3 t bo (.slice none 0 0) = WF at *
    simp [results, Tryz.results9, go_sem, y0, y1, y2, y3, y4, y5, obV]
  case hd => rfl
  case hp => rw [HSQ.out, HBQ.out]; exact HF.out
set_option linter.unusedSimpArgs false in
set_option maxRecDepth 100000 in
set_option maxHeartbeats 32000000 in
/-- cnflaw.realBench.step: OpAddClause -/
theorem step_3 (w : World) (B r z : Nat) (P : Nat → Nat) (S : Nat → Nat → Prop) (s : St) (h : BN w B r P S (QS B s)) (hB : B ≤ w.heap.size) (hok : StOk z s) (hz : z ≤ 65536) (v : OpV) (hk : v.kd = 3) (ha : -9223372036854775808 ≤ v.a ∧ v.a ≤ 9223372036854775807) (X : List Int) (hX : X.length = v.ln) (hIL : ∀ w', Ex (fun k => B ≤ k) w w' → IL w' v.la X) (hBT : ∀ w', Ex (fun k => B ≤ k) w w' → BT w' v.ta v.tn v.T) (hln : v.ln ≤ 65536) (htn : v.tn ≤ 65536) :
    Calls Tryz.prog 9 #[.pointer (some ⟨r, 0, none⟩), opZ v] w (SpPost w (fp r S) B r (if ncE X = 0 then { s with f := ⟨mxV s.f.nv (mxP (X.map fun d => (fromP d).1)), s.f.L ++ (X.map fun d => (fromP d).1), s.f.E ++ [((s.f.L ++ (X.map fun d => (fromP d).1)).length : Int)]⟩ } else s) (if ncE X = 0 then { ob0 with n := s.f.E.length, m := mxV s.f.nv (mxP (X.map fun d => (fromP d).1)) } else { ob0 with er := ncE X, n := -1, m := s.f.nv })) := by
  have HS0 := hide (sw_new v h hB)
  unfold opZ
  have HOK := hide hok
  have HZ := hide hz
  obtain ⟨s', hs'⟩ : ∃ x : St, (if ncE X = 0 then { s with f := ⟨mxV s.f.nv (mxP (X.map fun d => (fromP d).1)), s.f.L ++ (X.map fun d => (fromP d).1), s.f.E ++ [((s.f.L ++ (X.map fun d => (fromP d).1)).length : Int)]⟩ } else s) = x := ⟨_, rfl⟩
  obtain ⟨b', hb'⟩ : ∃ x : Ob, (if ncE X = 0 then { ob0 with n := s.f.E.length, m := mxV s.f.nv (mxP (X.map fun d => (fromP d).1)) } else { ob0 with er := ncE X, n := -1, m := s.f.nv }) = x := ⟨_, rfl⟩
  rw [hs', hb']
  obtain ⟨kd, va, la, ln, lc, VX, ta, tn, tc, VT⟩ := v
  dsimp only at hk HS0 ha hs' hb' ⊢
  subst hk
  dsimp only at hX hIL hBT hln htn
  have HSE := hide hs'
  have HBE := hide hb'
  have HX := hide (And.intro hX (And.intro hln htn))
  have HIL := hide hIL
  have HBT := hide hBT
  clear hX hIL hBT hln htn
  clear h hok hz hB hs' hb'
  go_enter Tryz.func9, Tryz.ntmps9
  go_upto_region 2 with fail
  generalize (((w.alloc (.cells #[.int .i64 3, .int .i64 va, .slice la ln lc, .slice ta tn tc] 37)).alloc (.cells #[.int .i64 0, .int .i64 0, .int .i64 0, .int .i64 0, .int .i64 0, .slice none 0 0] 43)).alloc (.cells #[.int .i64 0, .int .i64 0, .int .i64 0, .int .i64 0, .int .i64 0, .slice none 0 0] 43)) = W0 at *
  generalize w.heap.size + 1 + 1 = o at *
  generalize w.heap.size + 1 = t at *
  generalize w.heap.size = q at *
  have q0 : W0.cell? ⟨q, 0, none⟩ = some (.int .i64 3) := HS0.out.sc.q0
  go_upto_region 16 with fail
  have HC0 := hide (HS0.out.low ((Below.refl _ _).drew))
  refine wp_region_held_drew (S := fun w' => PQ w' r q P ⟨3, va, la, ln, lc, VX, ta, tn, tc, VT⟩) (by kernel_rfl) HS0.out.pq (fun hHeld => ?_)
  refine wpAnyH_take (i := 0) (v := ?_) rfl (by kernel_rfl) (by kernel_rfl) (by kernel_rfl) (fun _ _ _ h => h) (Or.inl ⟨by rfl, ?_⟩) (by assumption) ?_
  rotate_left
  · (intro w hSw; (try dsimp only at hSw); go_simp; try (with_reducible rfl))
  try simp only [Act.put, List.getElem_toArray, List.getElem_cons_zero, List.getElem_cons_succ, List.setIfInBounds_toArray, List.set_cons_zero, List.set_cons_succ]
  refine wpAnyH_take (i := 1) (v := ?_) rfl (by kernel_rfl) (by kernel_rfl) (by kernel_rfl) (fun _ _ _ h => h) (Or.inl ⟨by rfl, ?_⟩) (by assumption) ?_
  rotate_left
  · (intro w hSw; (try dsimp only at hSw); go_simp; try (with_reducible rfl))
  try simp only [Act.put, List.getElem_toArray, List.getElem_cons_zero, List.getElem_cons_succ, List.setIfInBounds_toArray, List.set_cons_zero, List.set_cons_succ]
  refine wpAnyH_take (i := 2) (v := ?_) rfl (by kernel_rfl) (by kernel_rfl) (by kernel_rfl) (fun _ _ _ h => h) (Or.inl ⟨by rfl, ?_⟩) (by assumption) ?_
  rotate_left
  · (intro w hSw; (try dsimp only at hSw); go_simp; try (with_reducible rfl))
  try simp only [Act.put, List.getElem_toArray, List.getElem_cons_zero, List.getElem_cons_succ, List.setIfInBounds_toArray, List.set_cons_zero, List.set_cons_succ]
  refine wpAnyH_take (i := 3) (v := ?_) rfl (by kernel_rfl) (by kernel_rfl) (by kernel_rfl) (fun _ _ _ h => h) (Or.inl ⟨by rfl, ?_⟩) (by assumption) ?_
  rotate_left
  · (intro w hSw; (try dsimp only at hSw); (obtain ⟨zp, zq1, zq2⟩ := hSw; have zz := zp 0 (by decide)); go_simp; try (with_reducible rfl))
  try simp only [Act.put, List.getElem_toArray, List.getElem_cons_zero, List.getElem_cons_succ, List.setIfInBounds_toArray, List.set_cons_zero, List.set_cons_succ]
  refine wpAnyH_take (i := 4) (v := ?_) rfl (by kernel_rfl) (by kernel_rfl) (by kernel_rfl) (fun _ _ _ h => h) (Or.inl ⟨by rfl, ?_⟩) (by assumption) ?_
  rotate_left
  · (intro w hSw; (try dsimp only at hSw); go_simp; try (with_reducible rfl))
  try simp only [Act.put, List.getElem_toArray, List.getElem_cons_zero, List.getElem_cons_succ, List.setIfInBounds_toArray, List.set_cons_zero, List.set_cons_succ]
  refine wpAnyH_take (i := 5) (v := ?_) rfl (by kernel_rfl) (by kernel_rfl) (by kernel_rfl) (fun _ _ _ h => h) (Or.inl ⟨by rfl, ?_⟩) (by assumption) ?_
  rotate_left
  · (intro w hSw; (try dsimp only at hSw); (obtain ⟨zp, zq1, zq2⟩ := hSw; dsimp only at zq1 zq2); go_simp; try (with_reducible rfl))
  try simp only [Act.put, List.getElem_toArray, List.getElem_cons_zero, List.getElem_cons_succ, List.setIfInBounds_toArray, List.set_cons_zero, List.set_cons_succ]
  refine wpAnyH_ready (rs := [6]) (by kernel_rfl) (by simp) ?_
  refine (AllReadyH.cons rfl (fun K hK => ?_) AllReadyH.nil)
  · obtain ⟨fa, fe, fff, fs⟩ := HC0.out.f
    have cc := hide (addDimacsZ_any W0.drew B (P 0) fa fe s.f.nv s.f.L s.f.E la lc X fff HC0.out.szB (by have := HOK.out.f.len; have := HZ.out; have := HX.out; omega) (by have := HOK.out.f.len; have := HZ.out; omega) (HIL.out _ HC0.out.exB))
    rw [HX.out.1] at cc
    clear fff
    refine step_call rfl 32 #[.pointer (some ⟨P 0, 0, none⟩), .slice la ln lc] (by simp [go_sem]) (cc.out) ?_
    rintro e w1 hp
    obtain ⟨n1, e1, he, hcs⟩ : ∃ n1 e1 : Int, e = .returned (.tuple #[.int .i64 n1, .int .i64 e1]) ∧ ((ncE X ≠ 0 ∧ n1 = -1 ∧ e1 = ncE X ∧ Below W0.drew.heap.size W0.drew w1) ∨ (ncE X = 0 ∧ n1 = s.f.E.length ∧ e1 = 0 ∧ FT W0.drew w1 B (P 0) fa fe ⟨mxV s.f.nv (mxP (X.map fun d => (fromP d).1)), s.f.L ++ (X.map fun d => (fromP d).1), s.f.E ++ [((s.f.L ++ (X.map fun d => (fromP d).1)).length : Int)]⟩)) := by
      rcases hp with ⟨hk, he, hb⟩ | ⟨hk, he, hx, hr⟩
      · exact ⟨_, _, he, .inl ⟨hk, rfl, rfl, hb⟩⟩
      · exact ⟨_, _, he, .inr ⟨hk, rfl, rfl, hx, hr⟩⟩
    subst he
    have HHC : Hid (∃ S1 s1 nv1, (s1 : St).f.nv = nv1 ∧ SW w w1 (fp r S) B r q t o P S1 s1 ⟨3, va, la, ln, lc, VX, ta, tn, tc, VT⟩ ob0 (.slice none 0 0) ∧ s' = s1 ∧ b' = { ob0 with er := e1, n := n1, m := nv1 }) := by
      rcases hcs with ⟨hk, rfl, rfl, hb⟩ | ⟨hk, rfl, rfl, hft⟩
      · exact ⟨S, s, s.f.nv, rfl, HC0.out.low hb, by rw [← HSE.out, if_neg hk], by rw [← HBE.out, if_neg hk]⟩
      · obtain ⟨S1, hs1⟩ := HC0.out.ft fs hft
        exact ⟨S1, _, _, rfl, hs1, by rw [← HSE.out, if_pos hk], by rw [← HBE.out, if_pos hk] <;> rfl⟩
    obtain ⟨S1, s1, nv1, hnv, hs1, hss, hbb⟩ := HHC.out
    have HC1 := hide hs1
    have HNV := hide hnv
    replace HSE := hide hss.symm
    replace HBE := hide hbb.symm
    clear hs1 hp fs cc hcs HHC hnv hss hbb
    refine ⟨_, rfl, ?_⟩
    refine hK.out _ _ ?_ (fun hHeld => ?_)
    · (first | exact HC1.out.pq | exact HC0.out.pq)
    clear hK K
    try simp only [Act.put, List.getElem_toArray, List.getElem_cons_zero, List.getElem_cons_succ, List.setIfInBounds_toArray, List.set_cons_zero, List.set_cons_succ]
    refine wpAnyH_take (i := 7) (v := ?_) rfl (by kernel_rfl) (by kernel_rfl) (by kernel_rfl) (fun _ _ _ h => h) (Or.inl ⟨by rfl, ?_⟩) (by assumption) ?_
    rotate_left
    · (intro w hSw; (try dsimp only at hSw); go_simp; try (with_reducible rfl))
    try simp only [Act.put, List.getElem_toArray, List.getElem_cons_zero, List.getElem_cons_succ, List.setIfInBounds_toArray, List.set_cons_zero, List.set_cons_succ]
    refine wpAnyH_take (i := 8) (v := ?_) rfl (by kernel_rfl) (by kernel_rfl) (by kernel_rfl) (fun _ _ _ h => h) (Or.inl ⟨by rfl, ?_⟩) (by assumption) ?_
    rotate_left
    · (intro w hSw; (try dsimp only at hSw); go_simp; try (with_reducible rfl))
    try simp only [Act.put, List.getElem_toArray, List.getElem_cons_zero, List.getElem_cons_succ, List.setIfInBounds_toArray, List.set_cons_zero, List.set_cons_succ]
    refine wpAnyH_take (i := 9) (v := ?_) rfl (by kernel_rfl) (by kernel_rfl) (by kernel_rfl) (fun _ _ _ h => h) (Or.inl ⟨by rfl, ?_⟩) (by assumption) ?_
    rotate_left
    · (intro w hSw; (try dsimp only at hSw); go_simp; try (with_reducible rfl))
    try simp only [Act.put, List.getElem_toArray, List.getElem_cons_zero, List.getElem_cons_succ, List.setIfInBounds_toArray, List.set_cons_zero, List.set_cons_succ]
    refine wpAnyH_take (i := 10) (v := ?_) rfl (by kernel_rfl) (by kernel_rfl) (by kernel_rfl) (fun _ _ _ h => h) (Or.inl ⟨by rfl, ?_⟩) (by assumption) ?_
    rotate_left
    · (intro w hSw; (try dsimp only at hSw); go_simp; try (with_reducible rfl))
    try simp only [Act.put, List.getElem_toArray, List.getElem_cons_zero, List.getElem_cons_succ, List.setIfInBounds_toArray, List.set_cons_zero, List.set_cons_succ]
    refine wpAnyH_take (i := 11) (v := ?_) rfl (by kernel_rfl) (by kernel_rfl) (by kernel_rfl) (fun _ _ _ h => h) (Or.inl ⟨by rfl, ?_⟩) (by assumption) ?_
    rotate_left
    · (intro w hSw; (try dsimp only at hSw); go_simp; try (with_reducible rfl))
    try simp only [Act.put, List.getElem_toArray, List.getElem_cons_zero, List.getElem_cons_succ, List.setIfInBounds_toArray, List.set_cons_zero, List.set_cons_succ]
    refine wpAnyH_done (by kernel_rfl) ?_ _
    clear HC0 HS0 q0
    have o0 := HC1.out.sc.o0
    have hof := HC1.out.sc.of
    go_upto_region 18 with fail
    have HS101 := hide (HC1.out.er (e1))
    clear HC1
    generalize w1.setCell ⟨o, 0, none⟩ (.int .i64 (e1)) = W101 at *
    clear o0 hof
    have o3 := HS101.out.sc.o3
    have hof := HS101.out.sc.of
    go_upto_region 19 with fail
    have HS102 := hide (HS101.out.on (n1))
    clear HS101
    generalize W101.setCell ⟨o, 3, none⟩ (.int .i64 (n1)) = W102 at *
    clear o3 hof
    have p0 := HS102.out.bn.ptr 0 (by decide)
    obtain ⟨fa, fe, fff, fs⟩ := HS102.out.f
    have cc := hide (numVars_any W102 B (P 0) fa fe _ _ _ fff)
    rw [HNV.out] at cc
    go_wp2_with fail
    refine cc.out.mono ?_
    rintro e wz ⟨rfl, hw⟩
    rw [hw]
    clear hw wz
    clear p0 fff fs cc
    have o4 := HS102.out.sc.o4
    have hof := HS102.out.sc.of
    go_upto_region 129 with fail
    have HS103 := hide (HS102.out.om (nv1))
    clear HS102
    generalize W102.setCell ⟨o, 4, none⟩ (.int .i64 (nv1)) = W103 at *
    clear o4 hof
    obtain ⟨bo, hbo⟩ : ∃ x : Ob, ({ ({ ({ (ob0 : Ob) with er := e1 } : Ob) with n := n1 } : Ob) with m := nv1 }) = x := ⟨_, rfl⟩
    have HSQ : Hid (s' = s1) := HSE.out.symm
    have HBQ : Hid (b' = bo) := by show _ = _; rw [← hbo]; exact HBE.out.symm
    rw [hbo] at HS103
    clear hbo HSE HBE
    have o0 := HS103.out.sc.o0
    have o1 := HS103.out.sc.o1
    have o2 := HS103.out.sc.o2
    have o3 := HS103.out.sc.o3
    have o4 := HS103.out.sc.o4
    have o5 := HS103.out.sc.o5
    have t0 := HS103.out.sc.t0
    have t1 := HS103.out.sc.t1
    have t2 := HS103.out.sc.t2
    have t3 := HS103.out.sc.t3
    have t4 := HS103.out.sc.t4
    have t5 := HS103.out.sc.t5
    have htf := HS103.out.sc.tf
    have hot : o ≠ t := fun z => HS103.out.ne.2.2.1 z.symm
    have HF := hide HS103.out.fin
    have HC := hide (fin_cells HS103.out.sc)
    clear HS103
    go_wp2_with (with_reducible refine bodyPost_ret (v := ?v) ?hr ?hd ?hp)
    case v => exact obV bo (.slice none 0 0)
    case hr =>
      change (results _ _).run _ (fin6 W103 t bo (.slice none 0 0)) = .ok _ (fin6 W103 t bo (.slice none 0 0))
      obtain ⟨y0, y1, y2, y3, y4, y5⟩ := HC.out
      clear HF HC
      generalize fin6 W103 t bo (.slice none 0 0) = WF at *
      simp [results, Tryz.results9, go_sem, y0, y1, y2, y3, y4, y5, obV]
    case hd => rfl
    case hp => rw [HSQ.out, HBQ.out]; exact HF.out
set_option linter.unusedSimpArgs false in
set_option maxRecDepth 100000 in
set_option maxHeartbeats 32000000 in
/-- cnflaw.realBench.step: OpAssign -/
theorem step_4 (w : World) (B r z : Nat) (P : Nat → Nat) (S : Nat → Nat → Prop) (s : St) (h : BN w B r P S (QS B s)) (hB : B ≤ w.heap.size) (hok : StOk z s) (hz : z ≤ 65536) (v : OpV) (hk : v.kd = 4) (ha : -9223372036854775808 ≤ v.a ∧ v.a ≤ 9223372036854775807) :
    Calls Tryz.prog 9 #[.pointer (some ⟨r, 0, none⟩), opZ v] w (SpPost w (fp r S) B r (if (fromP v.a).2 = 0 then { s with a := ⟨setN s.a.V s.a.k (fromP v.a).1, setP s.a.V (fromP v.a).1⟩ } else s) (if (fromP v.a).2 = 0 then { ob0 with er := (fromP v.a).2, n := setN s.a.V s.a.k (fromP v.a).1 } else { ob0 with er := (fromP v.a).2, n := s.a.k })) := by
  have HS0 := hide (sw_new v h hB)
  unfold opZ
  have HOK := hide hok
  have HZ := hide hz
  obtain ⟨s', hs'⟩ : ∃ x : St, (if (fromP v.a).2 = 0 then { s with a := ⟨setN s.a.V s.a.k (fromP v.a).1, setP s.a.V (fromP v.a).1⟩ } else s) = x := ⟨_, rfl⟩
  obtain ⟨b', hb'⟩ : ∃ x : Ob, (if (fromP v.a).2 = 0 then { ob0 with er := (fromP v.a).2, n := setN s.a.V s.a.k (fromP v.a).1 } else { ob0 with er := (fromP v.a).2, n := s.a.k }) = x := ⟨_, rfl⟩
  rw [hs', hb']
  obtain ⟨kd, va, la, ln, lc, VX, ta, tn, tc, VT⟩ := v
  dsimp only at hk HS0 ha hs' hb' ⊢
  subst hk
  have HSE := hide hs'
  have HBE := hide hb'
  clear h hok hz hB hs' hb'
  go_enter Tryz.func9, Tryz.ntmps9
  go_upto_region 2 with fail
  generalize (((w.alloc (.cells #[.int .i64 4, .int .i64 va, .slice la ln lc, .slice ta tn tc] 37)).alloc (.cells #[.int .i64 0, .int .i64 0, .int .i64 0, .int .i64 0, .int .i64 0, .slice none 0 0] 43)).alloc (.cells #[.int .i64 0, .int .i64 0, .int .i64 0, .int .i64 0, .int .i64 0, .slice none 0 0] 43)) = W0 at *
  generalize w.heap.size + 1 + 1 = o at *
  generalize w.heap.size + 1 = t at *
  generalize w.heap.size = q at *
  have q0 : W0.cell? ⟨q, 0, none⟩ = some (.int .i64 4) := HS0.out.sc.q0
  go_upto_region 21 with fail
  obtain ⟨R, hR⟩ : ∃ x, fromP va = x := ⟨_, rfl⟩
  have HR := hide hR
  clear hR
  have q1 : W0.cell? ⟨q, 1, none⟩ = some (.int .i64 va) := HS0.out.sc.q1
  have cc := hide (fromDimacs_any W0 va)
  rw [HR.out] at cc
  have HLT : Hid (R.2 = 0 → LitOk R.1) := fun z => by rw [← HR.out] at z ⊢; exact (fromP_ok z).1
  obtain ⟨l, er⟩ := R
  dsimp only at HLT cc
  go_wp2_with fail
  refine cc.out.mono ?_
  rintro e wz ⟨rfl, hw⟩
  rw [hw]
  clear hw wz
  clear q0 q1 cc
  have o0 := HS0.out.sc.o0
  have hof := HS0.out.sc.of
  go_upto_region 23 with fail
  have HS1 := hide (HS0.out.er (er))
  clear HS0
  generalize W0.setCell ⟨o, 0, none⟩ (.int .i64 (er)) = W1 at *
  clear o0 hof
  by_cases her : er = 0
  · have HER := hide her
    have HL := hide (HLT.out her)
    subst her
    go_upto_region 24 with fail
    have p1 := HS1.out.bn.ptr 1 (by decide)
    obtain ⟨av, aat, aso⟩ := HS1.out.a
    have cc := hide (setA_any W1 B (P 1) av s.a.k s.a.V aat HOK.out.a HS1.out.szB l HL.out)
    go_wp2_with fail
    refine cc.out.mono ?_
    rintro e wz hp
    have he := hp.1
    subst he
    obtain ⟨S9, hs2⟩ := HS1.out.ag aso hp
    have HS2 := hide hs2
    clear hs2 HS1
    clear p1 aat aso cc hp
    generalize hwz : wz = w9 at *
    clear hwz wz
    obtain ⟨kk, hkk⟩ : ∃ x, setN s.a.V s.a.k l = x := ⟨_, rfl⟩
    have Hkk := hide hkk
    clear hkk
    rw [Hkk.out] at HS2
    have p1 := HS2.out.bn.ptr 1 (by decide)
    obtain ⟨av, aat, aso⟩ := HS2.out.a
    have cc := hide (assignedA_any w9 B (P 1) av _ _ aat)
    go_upto_region 25 with fail
    go_wp2_with fail
    refine cc.out.mono ?_
    rintro e wz ⟨rfl, hw⟩
    rw [hw]
    clear hw wz
    clear p1 aat aso cc
    have o3 := HS2.out.sc.o3
    have hof := HS2.out.sc.of
    go_upto_region 129 with fail
    have HS3 := hide (HS2.out.on (kk))
    clear HS2
    generalize w9.setCell ⟨o, 3, none⟩ (.int .i64 (kk)) = W3 at *
    clear o3 hof
    obtain ⟨bo, hbo⟩ : ∃ x : Ob, ({ ({ (ob0 : Ob) with er := 0 } : Ob) with n := kk }) = x := ⟨_, rfl⟩
    have HSQ : Hid (s' = { (s : St) with a := ⟨kk, setP s.a.V l⟩ }) := (by show _ = _; rw [← HSE.out, HR.out, if_pos rfl, ← Hkk.out] <;> rfl)
    have HBQ : Hid (b' = bo) := by show _ = _; rw [← hbo]; exact (by rw [← HBE.out, HR.out, if_pos rfl, ← Hkk.out] <;> rfl)
    rw [hbo] at HS3
    clear hbo HSE HBE
    have o0 := HS3.out.sc.o0
    have o1 := HS3.out.sc.o1
    have o2 := HS3.out.sc.o2
    have o3 := HS3.out.sc.o3
    have o4 := HS3.out.sc.o4
    have o5 := HS3.out.sc.o5
    have t0 := HS3.out.sc.t0
    have t1 := HS3.out.sc.t1
    have t2 := HS3.out.sc.t2
    have t3 := HS3.out.sc.t3
    have t4 := HS3.out.sc.t4
    have t5 := HS3.out.sc.t5
    have htf := HS3.out.sc.tf
    have hot : o ≠ t := fun z => HS3.out.ne.2.2.1 z.symm
    have HF := hide HS3.out.fin
    have HC := hide (fin_cells HS3.out.sc)
    clear HS3
    go_wp2_with (with_reducible refine bodyPost_ret (v := ?v) ?hr ?hd ?hp)
    case v => exact obV bo (.slice none 0 0)
    case hr =>
      change (results _ _).run _ (fin6 W3 t bo (.slice none 0 0)) = .ok _ (fin6 W3 t bo (.slice none 0 0))
      obtain ⟨y0, y1, y2, y3, y4, y5⟩ := HC.out
      clear HF HC
      generalize fin6 W3 t bo (.slice none 0 0) = WF at *
      simp [results, Tryz.results9, go_sem, y0, y1, y2, y3, y4, y5, obV]
    case hd => rfl
    case hp => rw [HSQ.out, HBQ.out]; exact HF.out
  · have HER := hide her
    have heb : (er == 0) = false := by simpa using her
    clear her
    have p1 := HS1.out.bn.ptr 1 (by decide)
    obtain ⟨av, aat, aso⟩ := HS1.out.a
    have cc := hide (assignedA_any W1 B (P 1) av _ _ aat)
    go_upto_region 25 with fail
    go_wp2_with fail
    refine cc.out.mono ?_
    rintro e wz ⟨rfl, hw⟩
    rw [hw]
    clear hw wz
    clear p1 aat aso cc
    have o3 := HS1.out.sc.o3
    have hof := HS1.out.sc.of
    go_upto_region 129 with fail
    have HS2 := hide (HS1.out.on (s.a.k))
    clear HS1
    generalize W1.setCell ⟨o, 3, none⟩ (.int .i64 (s.a.k)) = W2 at *
    clear o3 hof heb
    obtain ⟨bo, hbo⟩ : ∃ x : Ob, ({ ({ (ob0 : Ob) with er := er } : Ob) with n := s.a.k }) = x := ⟨_, rfl⟩
    have HSQ : Hid (s' = s) := (by show _ = _; rw [← HSE.out, HR.out, if_neg HER.out])
    have HBQ : Hid (b' = bo) := by show _ = _; rw [← hbo]; exact (by rw [← HBE.out, HR.out, if_neg HER.out] <;> rfl)
    rw [hbo] at HS2
    clear hbo HSE HBE
    have o0 := HS2.out.sc.o0
    have o1 := HS2.out.sc.o1
    have o2 := HS2.out.sc.o2
    have o3 := HS2.out.sc.o3
    have o4 := HS2.out.sc.o4
    have o5 := HS2.out.sc.o5
    have t0 := HS2.out.sc.t0
    have t1 := HS2.out.sc.t1
    have t2 := HS2.out.sc.t2
    have t3 := HS2.out.sc.t3
    have t4 := HS2.out.sc.t4
    have t5 := HS2.out.sc.t5
    have htf := HS2.out.sc.tf
    have hot : o ≠ t := fun z => HS2.out.ne.2.2.1 z.symm
    have HF := hide HS2.out.fin
    have HC := hide (fin_cells HS2.out.sc)
    clear HS2
    go_wp2_with (with_reducible refine bodyPost_ret (v := ?v) ?hr ?hd ?hp)
    case v => exact obV bo (.slice none 0 0)
    case hr =>
      change (results _ _).run _ (fin6 W2 t bo (.slice none 0 0)) = .ok _ (fin6 W2 t bo (.slice none 0 0))
      obtain ⟨y0, y1, y2, y3, y4, y5⟩ := HC.out
      clear HF HC
      generalize fin6 W2 t bo (.slice none 0 0) = WF at *
      simp [results, Tryz.results9, go_sem, y0, y1, y2, y3, y4, y5, obV]
    case hd => rfl
    case hp => rw [HSQ.out, HBQ.out]; exact HF.out
set_option linter.unusedSimpArgs false in
set_option maxRecDepth 100000 in
set_option maxHeartbeats 32000000 in
/-- cnflaw.realBench.step: OpUnassign -/
theorem step_5 (w : World) (B r z : Nat) (P : Nat → Nat) (S : Nat → Nat → Prop) (s : St) (h : BN w B r P S (QS B s)) (hB : B ≤ w.heap.size) (hok : StOk z s) (hz : z ≤ 65536) (v : OpV) (hk : v.kd = 5) (ha : -9223372036854775808 ≤ v.a ∧ v.a ≤ 9223372036854775807) :
    Calls Tryz.prog 9 #[.pointer (some ⟨r, 0, none⟩), opZ v] w (SpPost w (fp r S) B r (if (1 ≤ v.a ∧ v.a ≤ 16777215) then { s with a := ⟨if varP s.a.V v.a = 0 then s.a.k else s.a.k - 1, if varP s.a.V v.a = 0 then s.a.V else s.a.V.set v.a.toNat 0⟩ } else s) (if (1 ≤ v.a ∧ v.a ≤ 16777215) then { ob0 with n := if varP s.a.V v.a = 0 then s.a.k else s.a.k - 1 } else { ob0 with er := 3, n := s.a.k })) := by
  have HS0 := hide (sw_new v h hB)
  unfold opZ
  have HOK := hide hok
  have HZ := hide hz
  obtain ⟨s', hs'⟩ : ∃ x : St, (if (1 ≤ v.a ∧ v.a ≤ 16777215) then { s with a := ⟨if varP s.a.V v.a = 0 then s.a.k else s.a.k - 1, if varP s.a.V v.a = 0 then s.a.V else s.a.V.set v.a.toNat 0⟩ } else s) = x := ⟨_, rfl⟩
  obtain ⟨b', hb'⟩ : ∃ x : Ob, (if (1 ≤ v.a ∧ v.a ≤ 16777215) then { ob0 with n := if varP s.a.V v.a = 0 then s.a.k else s.a.k - 1 } else { ob0 with er := 3, n := s.a.k }) = x := ⟨_, rfl⟩
  rw [hs', hb']
  obtain ⟨kd, va, la, ln, lc, VX, ta, tn, tc, VT⟩ := v
  dsimp only at hk HS0 ha hs' hb' ⊢
  subst hk
  have HSE := hide hs'
  have HBE := hide hb'
  clear h hok hz hB hs' hb'
  go_enter Tryz.func9, Tryz.ntmps9
  go_upto_region 2 with fail
  generalize (((w.alloc (.cells #[.int .i64 5, .int .i64 va, .slice la ln lc, .slice ta tn tc] 37)).alloc (.cells #[.int .i64 0, .int .i64 0, .int .i64 0, .int .i64 0, .int .i64 0, .slice none 0 0] 43)).alloc (.cells #[.int .i64 0, .int .i64 0, .int .i64 0, .int .i64 0, .int .i64 0, .slice none 0 0] 43)) = W0 at *
  generalize w.heap.size + 1 + 1 = o at *
  generalize w.heap.size + 1 = t at *
  generalize w.heap.size = q at *
  have q0 : W0.cell? ⟨q, 0, none⟩ = some (.int .i64 5) := HS0.out.sc.q0
  go_upto_region 27 with fail
  have q1 : W0.cell? ⟨q, 1, none⟩ = some (.int .i64 va) := HS0.out.sc.q1
  have cc := hide (toVar_any W0 va)
  by_cases hin : 1 ≤ va ∧ va ≤ 16777215
  · have HIN := hide hin
    rw [if_pos hin, if_pos hin] at cc
    clear hin
    go_wp2_with fail
    refine cc.out.mono ?_
    rintro e wz ⟨rfl, hw⟩
    rw [hw]
    clear hw wz
    clear q0 q1 cc
    have o0 := HS0.out.sc.o0
    have hof := HS0.out.sc.of
    go_upto_region 29 with fail
    have HS1 := hide (HS0.out.er (0))
    clear HS0
    generalize W0.setCell ⟨o, 0, none⟩ (.int .i64 (0)) = W1 at *
    clear o0 hof
    go_upto_region 30 with fail
    have p1 := HS1.out.bn.ptr 1 (by decide)
    obtain ⟨av, aat, aso⟩ := HS1.out.a
    have cc := hide (unset_any W1 B (P 1) av s.a.k s.a.V aat HOK.out.a va (by have := HIN.out; omega))
    go_wp2_with fail
    refine cc.out.mono ?_
    rintro e wz hp
    have he := hp.1
    subst he
    obtain ⟨S9, hs2⟩ := HS1.out.ag aso hp
    have HS2 := hide hs2
    clear hs2 HS1
    clear p1 aat aso cc hp
    generalize hwz : wz = w9 at *
    clear hwz wz
    obtain ⟨kk, hkk⟩ : ∃ x, (if varP s.a.V va = 0 then s.a.k else s.a.k - 1) = x := ⟨_, rfl⟩
    have Hkk := hide hkk
    clear hkk
    rw [Hkk.out] at HS2
    obtain ⟨VV, hVV⟩ : ∃ x, (if varP s.a.V va = 0 then s.a.V else s.a.V.set va.toNat 0) = x := ⟨_, rfl⟩
    have HVV := hide hVV
    clear hVV
    rw [HVV.out] at HS2
    have p1 := HS2.out.bn.ptr 1 (by decide)
    obtain ⟨av, aat, aso⟩ := HS2.out.a
    have cc := hide (assignedA_any w9 B (P 1) av _ _ aat)
    go_upto_region 31 with fail
    go_wp2_with fail
    refine cc.out.mono ?_
    rintro e wz ⟨rfl, hw⟩
    rw [hw]
    clear hw wz
    clear p1 aat aso cc
    have o3 := HS2.out.sc.o3
    have hof := HS2.out.sc.of
    go_upto_region 129 with fail
    have HS3 := hide (HS2.out.on (kk))
    clear HS2
    generalize w9.setCell ⟨o, 3, none⟩ (.int .i64 (kk)) = W3 at *
    clear o3 hof
    obtain ⟨bo, hbo⟩ : ∃ x : Ob, ({ ({ (ob0 : Ob) with er := 0 } : Ob) with n := kk }) = x := ⟨_, rfl⟩
    have HSQ : Hid (s' = { (s : St) with a := ⟨kk, VV⟩ }) := (by show _ = _; rw [← HSE.out, if_pos HIN.out, ← Hkk.out, ← HVV.out])
    have HBQ : Hid (b' = bo) := by show _ = _; rw [← hbo]; exact (by rw [← HBE.out, if_pos HIN.out, ← Hkk.out] <;> rfl)
    rw [hbo] at HS3
    clear hbo HSE HBE
    have o0 := HS3.out.sc.o0
    have o1 := HS3.out.sc.o1
    have o2 := HS3.out.sc.o2
    have o3 := HS3.out.sc.o3
    have o4 := HS3.out.sc.o4
    have o5 := HS3.out.sc.o5
    have t0 := HS3.out.sc.t0
    have t1 := HS3.out.sc.t1
    have t2 := HS3.out.sc.t2
    have t3 := HS3.out.sc.t3
    have t4 := HS3.out.sc.t4
    have t5 := HS3.out.sc.t5
    have htf := HS3.out.sc.tf
    have hot : o ≠ t := fun z => HS3.out.ne.2.2.1 z.symm
    have HF := hide HS3.out.fin
    have HC := hide (fin_cells HS3.out.sc)
    clear HS3
    go_wp2_with (with_reducible refine bodyPost_ret (v := ?v) ?hr ?hd ?hp)
    case v => exact obV bo (.slice none 0 0)
    case hr =>
      change (results _ _).run _ (fin6 W3 t bo (.slice none 0 0)) = .ok _ (fin6 W3 t bo (.slice none 0 0))
      obtain ⟨y0, y1, y2, y3, y4, y5⟩ := HC.out
      clear HF HC
      generalize fin6 W3 t bo (.slice none 0 0) = WF at *
      simp [results, Tryz.results9, go_sem, y0, y1, y2, y3, y4, y5, obV]
    case hd => rfl
    case hp => rw [HSQ.out, HBQ.out]; exact HF.out
  · have HIN := hide hin
    rw [if_neg hin, if_neg hin] at cc
    clear hin
    go_wp2_with fail
    refine cc.out.mono ?_
    rintro e wz ⟨rfl, hw⟩
    rw [hw]
    clear hw wz
    clear q0 q1 cc
    have o0 := HS0.out.sc.o0
    have hof := HS0.out.sc.of
    go_upto_region 29 with fail
    have HS1 := hide (HS0.out.er (3))
    clear HS0
    generalize W0.setCell ⟨o, 0, none⟩ (.int .i64 (3)) = W1 at *
    clear o0 hof
    have p1 := HS1.out.bn.ptr 1 (by decide)
    obtain ⟨av, aat, aso⟩ := HS1.out.a
    have cc := hide (assignedA_any W1 B (P 1) av _ _ aat)
    go_upto_region 31 with fail
    go_wp2_with fail
    refine cc.out.mono ?_
    rintro e wz ⟨rfl, hw⟩
    rw [hw]
    clear hw wz
    clear p1 aat aso cc
    have o3 := HS1.out.sc.o3
    have hof := HS1.out.sc.of
    go_upto_region 129 with fail
    have HS2 := hide (HS1.out.on (s.a.k))
    clear HS1
    generalize W1.setCell ⟨o, 3, none⟩ (.int .i64 (s.a.k)) = W2 at *
    clear o3 hof
    obtain ⟨bo, hbo⟩ : ∃ x : Ob, ({ ({ (ob0 : Ob) with er := 3 } : Ob) with n := s.a.k }) = x := ⟨_, rfl⟩
    have HSQ : Hid (s' = s) := (by show _ = _; rw [← HSE.out, if_neg HIN.out])
    have HBQ : Hid (b' = bo) := by show _ = _; rw [← hbo]; exact (by rw [← HBE.out, if_neg HIN.out])
    rw [hbo] at HS2
    clear hbo HSE HBE
    have o0 := HS2.out.sc.o0
    have o1 := HS2.out.sc.o1
    have o2 := HS2.out.sc.o2
    have o3 := HS2.out.sc.o3
    have o4 := HS2.out.sc.o4
    have o5 := HS2.out.sc.o5
    have t0 := HS2.out.sc.t0
    have t1 := HS2.out.sc.t1
    have t2 := HS2.out.sc.t2
    have t3 := HS2.out.sc.t3
    have t4 := HS2.out.sc.t4
    have t5 := HS2.out.sc.t5
    have htf := HS2.out.sc.tf
    have hot : o ≠ t := fun z => HS2.out.ne.2.2.1 z.symm
    have HF := hide HS2.out.fin
    have HC := hide (fin_cells HS2.out.sc)
    clear HS2
    go_wp2_with (with_reducible refine bodyPost_ret (v := ?v) ?hr ?hd ?hp)
    case v => exact obV bo (.slice none 0 0)
    case hr =>
      change (results _ _).run _ (fin6 W2 t bo (.slice none 0 0)) = .ok _ (fin6 W2 t bo (.slice none 0 0))
      obtain ⟨y0, y1, y2, y3, y4, y5⟩ := HC.out
      clear HF HC
      generalize fin6 W2 t bo (.slice none 0 0) = WF at *
      simp [results, Tryz.results9, go_sem, y0, y1, y2, y3, y4, y5, obV]
    case hd => rfl
    case hp => rw [HSQ.out, HBQ.out]; exact HF.out
end Go.Proofs.Qxb6500773aGreat
