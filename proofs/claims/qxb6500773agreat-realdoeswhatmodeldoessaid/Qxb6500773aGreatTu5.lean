import Derived.Test.Qxb6500773aGreatTx
import Derived.Test.Qxb6500773aGreatLo5
namespace Go.Proofs.Qxb6500773aGreat
open Go.RowKit

set_option linter.unusedSimpArgs false in
set_option maxRecDepth 100000 in
set_option maxHeartbeats 32000000 in
/-- cnflaw.realBench.step: OpCompare -/
theorem step_22 (w : World) (B r z : Nat) (P : Nat → Nat) (S : Nat → Nat → Prop) (s : St) (h : BN w B r P S (QS B s)) (hB : B ≤ w.heap.size) (hok : StOk z s) (hz : z ≤ 65536) (v : OpV) (hk : v.kd = 22) (ha : -9223372036854775808 ≤ v.a ∧ v.a ≤ 9223372036854775807) (X : List Int) (hX : X.length = v.ln) (hIL : ∀ w', Ex (fun k => B ≤ k) w w' → IL w' v.la X) (hBT : ∀ w', Ex (fun k => B ≤ k) w w' → BT w' v.ta v.tn v.T) (hln : v.ln ≤ 65536) (htn : v.tn ≤ 65536) :
    Calls Tryz.prog 9 #[.pointer (some ⟨r, 0, none⟩), opZ v] w (SpPost w (fp r S) B r (s) (if ncE X = 0 then (if inP v.a s.f.E.length = true then { ob0 with n := cmpP (X.map fun d => (fromP d).1) (clZ s.f.L s.f.E v.a), m := if ((X.map fun d => (fromP d).1) == clZ s.f.L s.f.E v.a) = true then 1 else 0 } else { ob0 with er := 4 }) else { ob0 with er := ncE X })) := by
  have HS0 := hide (sw_new v h hB)
  unfold opZ
  have HOK := hide hok
  have HZ := hide hz
  have hs' : s = s := rfl
  obtain ⟨b', hb'⟩ : ∃ x : Ob, (if ncE X = 0 then (if inP v.a s.f.E.length = true then { ob0 with n := cmpP (X.map fun d => (fromP d).1) (clZ s.f.L s.f.E v.a), m := if ((X.map fun d => (fromP d).1) == clZ s.f.L s.f.E v.a) = true then 1 else 0 } else { ob0 with er := 4 }) else { ob0 with er := ncE X }) = x := ⟨_, rfl⟩
  rw [hb']
  obtain ⟨kd, va, la, ln, lc, VX, ta, tn, tc, VT⟩ := v
  dsimp only at hk HS0 ha hs' hb' ⊢
  subst hk
  dsimp only at hX hIL hBT hln htn
  have HSE := hide hs'
  have HBE := hide hb'
  have HX := hide (And.intro hX (And.intro hln htn))
  have HIL := hide hIL
  have HBT := hide hBT
  clear hX hIL hBT hln htn
  clear h hok hz hB hs' hb'
  go_enter Tryz.func9, Tryz.ntmps9
  go_upto_region 2 with fail
  generalize (((w.alloc (.cells #[.int .i64 22, .int .i64 va, .slice la ln lc, .slice ta tn tc] 37)).alloc (.cells #[.int .i64 0, .int .i64 0, .int .i64 0, .int .i64 0, .int .i64 0, .slice none 0 0] 43)).alloc (.cells #[.int .i64 0, .int .i64 0, .int .i64 0, .int .i64 0, .int .i64 0, .slice none 0 0] 43)) = W0 at *
  generalize w.heap.size + 1 + 1 = o at *
  generalize w.heap.size + 1 = t at *
  generalize w.heap.size = q at *
  have q0 : W0.cell? ⟨q, 0, none⟩ = some (.int .i64 22) := HS0.out.sc.q0
  have q2 : W0.cell? ⟨q, 2, none⟩ = some (.slice la ln lc) := HS0.out.sc.q2
  have cc := hide (newClause_any W0 la lc X (HIL.out _ HS0.out.exB) (by have := HX.out; omega))
  rw [HX.out.1] at cc
  go_upto_region 101 with fail
  go_wp2_with fail
  refine cc.out.mono ?_
  rintro e wz hp
  obtain ⟨a1, n1, c1, e1, he, hb1, hcs⟩ : ∃ (a1 : Option Addr) (n1 c1 : Nat) (e1 : Int), e = .returned (.tuple #[.slice a1 n1 c1, .int .i64 e1]) ∧ Below W0.heap.size W0 wz ∧ e1 = ncE X ∧ (e1 = 0 → n1 = X.length ∧ wz.ownsRow W0.heap.size 64 1 (.slice a1 n1 c1) n1 (row32 (X.map fun d => (fromP d).1))) := by
    obtain ⟨hb, ⟨hk, he⟩ | ⟨hk, a1, c1, he, hr⟩⟩ := hp
    · exact ⟨none, 0, 0, _, he, hb, rfl, fun z => absurd z hk⟩
    · exact ⟨a1, X.length, c1, 0, he, hb, hk.symm, fun _ => ⟨rfl, hr⟩⟩
  subst he
  have HP0 := HS0
  have HSZ : Hid (∀ i, i < 6 → ∀ j, S i j → j < W0.heap.size) := fun i hi j hj => (HS0.out.bn.rg i hi j hj).2
  have HOQ : Hid (o < W0.heap.size) := HS0.out.lt.2.2
  have HBW := hide HS0.out.szB
  have HWX := hide HS0.out.ex.size
  have HS1 := hide (HS0.out.low hb1)
  clear HS0
  have HNC := hide hcs
  clear q0 q2 cc hp hb1 hcs HP0
  generalize hwz : wz = wn at *
  clear hwz wz
  obtain ⟨bb, hbb⟩ : ∃ x, inP va s.f.E.length = x := ⟨_, rfl⟩
  have Hbb := hide hbb
  clear hbb
  have HE1 := hide HNC.out.1
  by_cases her : e1 = 0
  · obtain ⟨hn1, hrow⟩ := HNC.out.2 her
    have HER : Hid (ncE X = 0) := by show _ = _; rw [← HE1.out]; exact her
    have HLK := hide (ncE_zero HER.out)
    have hcl : n1 = (X.map fun d => (fromP d).1).length := by rw [List.length_map]; exact hn1
    generalize hCC : (X.map fun d => (fromP d).1) = CC at *
    have HCL := hide (row_cl hrow)
    have HGE : Hid (∀ g off, a1 = some ⟨g, off, none⟩ → W0.heap.size ≤ g) := fun g off ea => (hrow.lt g (by rw [ea]; rfl)).1
    have HCN : Hid (CC.length ≤ 65536) := by have := HX.out; show _ ≤ _; omega
    rw [hcl]
    clear hn1 hrow hCC hcl HNC n1
    subst her
    have HD := HS1
    clear HS1
    go_upto_region 102 with fail
    have HC0 := hide (HD.out.low ((Below.refl _ _).drew))
    refine wp_region_held_drew (S := fun w' => PQ w' r q P ⟨22, va, la, ln, lc, VX, ta, tn, tc, VT⟩) (by kernel_rfl) HD.out.pq (fun hHeld => ?_)
    refine wpAnyH_take (i := 0) (v := ?_) rfl (by kernel_rfl) (by kernel_rfl) (by kernel_rfl) (fun _ _ _ h => h) (Or.inl ⟨by rfl, ?_⟩) (by assumption) ?_
    rotate_left
    · (intro w hSw; (try dsimp only at hSw); go_simp; try (with_reducible rfl))
    try simp only [Act.put, List.getElem_toArray, List.getElem_cons_zero, List.getElem_cons_succ, List.setIfInBounds_toArray, List.set_cons_zero, List.set_cons_succ]
    refine wpAnyH_take (i := 1) (v := ?_) rfl (by kernel_rfl) (by kernel_rfl) (by kernel_rfl) (fun _ _ _ h => h) (Or.inl ⟨by rfl, ?_⟩) (by assumption) ?_
    rotate_left
    · (intro w hSw; (try dsimp only at hSw); go_simp; try (with_reducible rfl))
    try simp only [Act.put, List.getElem_toArray, List.getElem_cons_zero, List.getElem_cons_succ, List.setIfInBounds_toArray, List.set_cons_zero, List.set_cons_succ]
    refine wpAnyH_take (i := 2) (v := ?_) rfl (by kernel_rfl) (by kernel_rfl) (by kernel_rfl) (fun _ _ _ h => h) (Or.inl ⟨by rfl, ?_⟩) (by assumption) ?_
    rotate_left
    · (intro w hSw; (try dsimp only at hSw); go_simp; try (with_reducible rfl))
    try simp only [Act.put, List.getElem_toArray, List.getElem_cons_zero, List.getElem_cons_succ, List.setIfInBounds_toArray, List.set_cons_zero, List.set_cons_succ]
    refine wpAnyH_take (i := 3) (v := ?_) rfl (by kernel_rfl) (by kernel_rfl) (by kernel_rfl) (fun _ _ _ h => h) (Or.inl ⟨by rfl, ?_⟩) (by assumption) ?_
    rotate_left
    · (intro w hSw; (try dsimp only at hSw); go_simp; try (with_reducible rfl))
    try simp only [Act.put, List.getElem_toArray, List.getElem_cons_zero, List.getElem_cons_succ, List.setIfInBounds_toArray, List.set_cons_zero, List.set_cons_succ]
    refine wpAnyH_take (i := 4) (v := ?_) rfl (by kernel_rfl) (by kernel_rfl) (by kernel_rfl) (fun _ _ _ h => h) (Or.inl ⟨by rfl, ?_⟩) (by assumption) ?_
    rotate_left
    · (intro w hSw; (try dsimp only at hSw); go_simp; try (with_reducible rfl))
    try simp only [Act.put, List.getElem_toArray, List.getElem_cons_zero, List.getElem_cons_succ, List.setIfInBounds_toArray, List.set_cons_zero, List.set_cons_succ]
    refine wpAnyH_take (i := 5) (v := ?_) rfl (by kernel_rfl) (by kernel_rfl) (by kernel_rfl) (fun _ _ _ h => h) (Or.inl ⟨by rfl, ?_⟩) (by assumption) ?_
    rotate_left
    · (intro w hSw; (try dsimp only at hSw); go_simp; try (with_reducible rfl))
    try simp only [Act.put, List.getElem_toArray, List.getElem_cons_zero, List.getElem_cons_succ, List.setIfInBounds_toArray, List.set_cons_zero, List.set_cons_succ]
    refine wpAnyH_take (i := 6) (v := ?_) rfl (by kernel_rfl) (by kernel_rfl) (by kernel_rfl) (fun _ _ _ h => h) (Or.inl ⟨by rfl, ?_⟩) (by assumption) ?_
    rotate_left
    · (intro w hSw; (try dsimp only at hSw); (obtain ⟨zp, zq1, zq2⟩ := hSw; have zz := zp 0 (by decide)); go_simp; try (with_reducible rfl))
    try simp only [Act.put, List.getElem_toArray, List.getElem_cons_zero, List.getElem_cons_succ, List.setIfInBounds_toArray, List.set_cons_zero, List.set_cons_succ]
    refine wpAnyH_take (i := 7) (v := ?_) rfl (by kernel_rfl) (by kernel_rfl) (by kernel_rfl) (fun _ _ _ h => h) (Or.inl ⟨by rfl, ?_⟩) (by assumption) ?_
    rotate_left
    · (intro w hSw; (try dsimp only at hSw); go_simp; try (with_reducible rfl))
    try simp only [Act.put, List.getElem_toArray, List.getElem_cons_zero, List.getElem_cons_succ, List.setIfInBounds_toArray, List.set_cons_zero, List.set_cons_succ]
    refine wpAnyH_take (i := 8) (v := ?_) rfl (by kernel_rfl) (by kernel_rfl) (by kernel_rfl) (fun _ _ _ h => h) (Or.inl ⟨by rfl, ?_⟩) (by assumption) ?_
    rotate_left
    · (intro w hSw; (try dsimp only at hSw); (obtain ⟨zp, zq1, zq2⟩ := hSw; dsimp only at zq1 zq2); go_simp; try (with_reducible rfl))
    try simp only [Act.put, List.getElem_toArray, List.getElem_cons_zero, List.getElem_cons_succ, List.setIfInBounds_toArray, List.set_cons_zero, List.set_cons_succ]
    refine wpAnyH_ready (rs := [9]) (by kernel_rfl) (by simp) ?_
    refine (AllReadyH.cons rfl (fun K hK => ?_) AllReadyH.nil)
    · obtain ⟨fa, fe, fff, fs⟩ := HC0.out.f
      have cc := hide (fInRangeZ_any wn.drew B (P 0) fa fe s.f.L s.f.E va fff.ar)
      rw [Hbb.out] at cc
      clear fff fs
      refine step_call_g (by rfl) 59 #[.pointer (some ⟨P 0, 0, none⟩), .int .i64 va] (by simp [go_sem]) (cc.out) ?_
      rintro e w2 ⟨rfl, hw⟩
      rw [hw]
      clear hw w2 cc
      have HCLd : Hid (CL wn.drew a1 CC) := HCL.out.below ((Below.refl _ _).drew)
      generalize hWd : wn.drew = wd at *
      clear hWd HCL
      refine ⟨_, rfl, ?_⟩
      refine hK.out _ _ ?_ (fun hHeld => ?_)
      · (first | exact HC0.out.pq)
      clear hK K
      try simp only [Act.put, List.getElem_toArray, List.getElem_cons_zero, List.getElem_cons_succ, List.setIfInBounds_toArray, List.set_cons_zero, List.set_cons_succ]
      refine wpAnyH_take (i := 10) (v := ?_) rfl (by kernel_rfl) (by kernel_rfl) (by kernel_rfl) (fun _ _ _ h => h) (Or.inl ⟨by rfl, ?_⟩) (by assumption) ?_
      rotate_left
      · (intro w hSw; (try dsimp only at hSw); go_simp; try (with_reducible rfl))
      try simp only [Act.put, List.getElem_toArray, List.getElem_cons_zero, List.getElem_cons_succ, List.setIfInBounds_toArray, List.set_cons_zero, List.set_cons_succ]
      refine wpAnyH_take (i := 11) (v := ?_) rfl (by kernel_rfl) (by kernel_rfl) (by kernel_rfl) (fun _ _ _ h => h) (Or.inl ⟨by rfl, ?_⟩) (by assumption) ?_
      rotate_left
      · (intro w hSw; (try dsimp only at hSw); go_simp; try (with_reducible rfl))
      try simp only [Act.put, List.getElem_toArray, List.getElem_cons_zero, List.getElem_cons_succ, List.setIfInBounds_toArray, List.set_cons_zero, List.set_cons_succ]
      refine wpAnyH_done (by kernel_rfl) ?_ _
      clear HD
      have HD := HC0
      clear HC0
      cases bb
      · clear HCLd
        have o0 := HD.out.sc.o0
        have hof := HD.out.sc.of
        go_upto_region 105 with fail
        have HS101 := hide (HD.out.er (4))
        clear HD
        generalize wd.setCell ⟨o, 0, none⟩ (.int .i64 (4)) = W101 at *
        clear o0 hof
        go_upto_region 129 with fail
        obtain ⟨bo, hbo⟩ : ∃ x : Ob, ({ (ob0 : Ob) with er := 4 }) = x := ⟨_, rfl⟩
        have HSQ : Hid (s = s) := rfl
        have HBQ : Hid (b' = bo) := by show _ = _; rw [← hbo]; exact (by rw [← HBE.out, if_pos HER.out, if_neg (by rw [Hbb.out]; decide)] <;> rfl)
        rw [hbo] at HS101
        clear hbo HSE HBE
        have o0 := HS101.out.sc.o0
        have o1 := HS101.out.sc.o1
        have o2 := HS101.out.sc.o2
        have o3 := HS101.out.sc.o3
        have o4 := HS101.out.sc.o4
        have o5 := HS101.out.sc.o5
        have t0 := HS101.out.sc.t0
        have t1 := HS101.out.sc.t1
        have t2 := HS101.out.sc.t2
        have t3 := HS101.out.sc.t3
        have t4 := HS101.out.sc.t4
        have t5 := HS101.out.sc.t5
        have htf := HS101.out.sc.tf
        have hot : o ≠ t := fun z => HS101.out.ne.2.2.1 z.symm
        have HF := hide HS101.out.fin
        have HC := hide (fin_cells HS101.out.sc)
        clear HS101
        go_wp2_with (with_reducible refine bodyPost_ret (v := ?v) ?hr ?hd ?hp)
        case v => exact obV bo (.slice none 0 0)
        case hr =>
          change (results _ _).run _ (fin6 W101 t bo (.slice none 0 0)) = .ok _ (fin6 W101 t bo (.slice none 0 0))
          obtain ⟨y0, y1, y2, y3, y4, y5⟩ := HC.out
          clear HF HC
          generalize fin6 W101 t bo (.slice none 0 0) = WF at *
          simp [results, Tryz.results9, go_sem, y0, y1, y2, y3, y4, y5, obV]
        case hd => rfl
        case hp => rw [HBQ.out]; exact HF.out
      · skip
        have o0 := HD.out.sc.o0
        have hof := HD.out.sc.of
        go_upto_region 105 with fail
        have HCL2 : Hid (CL (wd.setCell ⟨o, 0, none⟩ (.int .i64 (0))) a1 CC) := HCLd.out.keep ((Ex.refl (fun k => k = o) wd).set (p := o) rfl _) (fun g off ea (y : g = o) => by have := HGE.out g off ea; have := HOQ.out; omega)
        have HS101 := hide (HD.out.er (0))
        clear HD
        generalize wd.setCell ⟨o, 0, none⟩ (.int .i64 (0)) = W101 at *
        clear o0 hof HCLd
        have HD := HS101
        clear HS101
        obtain ⟨Cq, hCq⟩ : ∃ x, clZ s.f.L s.f.E va = x := ⟨_, rfl⟩
        have HCq := hide hCq
        clear hCq
        have HQN : Hid (Cq.length ≤ 65536) := by
          rw [← HCq.out]
          have := clZ_le s.f.L s.f.E va
          have := HOK.out.f.len
          have := HZ.out
          show _ ≤ _
          omega
        obtain ⟨cm, hcm⟩ : ∃ x, cmpP CC Cq = x := ⟨_, rfl⟩
        have Hcm := hide hcm
        clear hcm
        obtain ⟨be, hbe⟩ : ∃ x, (CC == Cq) = x := ⟨_, rfl⟩
        have Hbe := hide hbe
        clear hbe
        obtain ⟨Q, hQ⟩ : ∃ x : Int, (if be = true then 1 else 0) = x := ⟨_, rfl⟩
        have HQ := hide hQ
        clear hQ
        go_upto_region 106 with fail
        have HC0 := hide (HD.out.low ((Below.refl _ _).drew))
        refine wp_region_held_drew (S := fun w' => PQ w' r q P ⟨22, va, la, ln, lc, VX, ta, tn, tc, VT⟩) (by kernel_rfl) HD.out.pq (fun hHeld => ?_)
        refine wpAnyH_take (i := 0) (v := ?_) rfl (by kernel_rfl) (by kernel_rfl) (by kernel_rfl) (fun _ _ _ h => h) (Or.inl ⟨by rfl, ?_⟩) (by assumption) ?_
        rotate_left
        · (intro w hSw; (try dsimp only at hSw); go_simp; try (with_reducible rfl))
        try simp only [Act.put, List.getElem_toArray, List.getElem_cons_zero, List.getElem_cons_succ, List.setIfInBounds_toArray, List.set_cons_zero, List.set_cons_succ]
        refine wpAnyH_take (i := 1) (v := ?_) rfl (by kernel_rfl) (by kernel_rfl) (by kernel_rfl) (fun _ _ _ h => h) (Or.inl ⟨by rfl, ?_⟩) (by assumption) ?_
        rotate_left
        · (intro w hSw; (try dsimp only at hSw); go_simp; try (with_reducible rfl))
        try simp only [Act.put, List.getElem_toArray, List.getElem_cons_zero, List.getElem_cons_succ, List.setIfInBounds_toArray, List.set_cons_zero, List.set_cons_succ]
        refine wpAnyH_take (i := 2) (v := ?_) rfl (by kernel_rfl) (by kernel_rfl) (by kernel_rfl) (fun _ _ _ h => h) (Or.inl ⟨by rfl, ?_⟩) (by assumption) ?_
        rotate_left
        · (intro w hSw; (try dsimp only at hSw); go_simp; try (with_reducible rfl))
        try simp only [Act.put, List.getElem_toArray, List.getElem_cons_zero, List.getElem_cons_succ, List.setIfInBounds_toArray, List.set_cons_zero, List.set_cons_succ]
        refine wpAnyH_take (i := 3) (v := ?_) rfl (by kernel_rfl) (by kernel_rfl) (by kernel_rfl) (fun _ _ _ h => h) (Or.inl ⟨by rfl, ?_⟩) (by assumption) ?_
        rotate_left
        · (intro w hSw; (try dsimp only at hSw); go_simp; try (with_reducible rfl))
        try simp only [Act.put, List.getElem_toArray, List.getElem_cons_zero, List.getElem_cons_succ, List.setIfInBounds_toArray, List.set_cons_zero, List.set_cons_succ]
        refine wpAnyH_take (i := 4) (v := ?_) rfl (by kernel_rfl) (by kernel_rfl) (by kernel_rfl) (fun _ _ _ h => h) (Or.inl ⟨by rfl, ?_⟩) (by assumption) ?_
        rotate_left
        · (intro w hSw; (try dsimp only at hSw); (obtain ⟨zp, zq1, zq2⟩ := hSw; have zz := zp 0 (by decide)); go_simp; try (with_reducible rfl))
        try simp only [Act.put, List.getElem_toArray, List.getElem_cons_zero, List.getElem_cons_succ, List.setIfInBounds_toArray, List.set_cons_zero, List.set_cons_succ]
        refine wpAnyH_take (i := 5) (v := ?_) rfl (by kernel_rfl) (by kernel_rfl) (by kernel_rfl) (fun _ _ _ h => h) (Or.inl ⟨by rfl, ?_⟩) (by assumption) ?_
        rotate_left
        · (intro w hSw; (try dsimp only at hSw); go_simp; try (with_reducible rfl))
        try simp only [Act.put, List.getElem_toArray, List.getElem_cons_zero, List.getElem_cons_succ, List.setIfInBounds_toArray, List.set_cons_zero, List.set_cons_succ]
        refine wpAnyH_take (i := 6) (v := ?_) rfl (by kernel_rfl) (by kernel_rfl) (by kernel_rfl) (fun _ _ _ h => h) (Or.inl ⟨by rfl, ?_⟩) (by assumption) ?_
        rotate_left
        · (intro w hSw; (try dsimp only at hSw); (obtain ⟨zp, zq1, zq2⟩ := hSw; dsimp only at zq1 zq2); go_simp; try (with_reducible rfl))
        try simp only [Act.put, List.getElem_toArray, List.getElem_cons_zero, List.getElem_cons_succ, List.setIfInBounds_toArray, List.set_cons_zero, List.set_cons_succ]
        refine wpAnyH_ready (rs := [7]) (by kernel_rfl) (by simp) ?_
        refine (AllReadyH.cons rfl (fun K hK => ?_) AllReadyH.nil)
        · obtain ⟨fa, fe, fff, fs⟩ := HC0.out.f
          have cc := hide (fClauseZ_any W101.drew B (P 0) fa fe s.f.L s.f.E fff.ar HOK.out.f.eok (by have := HOK.out.f.len; have := HZ.out; omega) va)
          rw [HCq.out] at cc
          clear fff fs
          refine step_call rfl 61 #[.pointer (some ⟨P 0, 0, none⟩), .int .i64 va] (by simp [go_sem]) (cc.out) ?_
          rintro e w4 ⟨a4, c4, rfl, hcl, hga, hb1⟩
          have HC1 := hide (HC0.out.low hb1)
          have HCL3 : Hid (CL w4 a1 CC) := (HCL2.out.below ((Below.refl _ _).drew)).below hb1
          have HCL4 := hide hcl
          clear hb1 cc hcl hga
          refine ⟨_, rfl, ?_⟩
          refine hK.out _ _ ?_ (fun hHeld => ?_)
          · (first | exact HC2.out.pq | exact HC1.out.pq | exact HC0.out.pq)
          clear hK K
          try simp only [Act.put, List.getElem_toArray, List.getElem_cons_zero, List.getElem_cons_succ, List.setIfInBounds_toArray, List.set_cons_zero, List.set_cons_succ]
          refine wpAnyH_ready (rs := [8]) (by kernel_rfl) (by simp) ?_
          refine (AllReadyH.cons rfl (fun K hK => ?_) AllReadyH.nil)
          · have cc := hide (compare_any w4 a1 a4 c1 c4 CC Cq HCL3.out HCL4.out (by have := HCN.out; omega) (by have := HQN.out; omega))
            rw [Hcm.out] at cc
            refine step_call rfl 60 #[.slice a1 CC.length c1, .slice a4 Cq.length c4] (by simp [go_sem]) (cc.out) ?_
            rintro e w5 ⟨rfl, hw⟩
            rw [hw]
            clear hw w5 cc
            have HC2 := hide (HC1.out.on cm)
            have o3 := HC1.out.sc.o3
            have hof := HC1.out.sc.of
            have HCL5 : Hid (CL (w4.setCell ⟨o, 3, none⟩ (.int .i64 cm)) a1 CC) := HCL3.out.keep ((Ex.refl (fun k => k = o) w4).set (p := o) rfl _) (fun g off ea (y : g = o) => by have := HGE.out g off ea; have := HOQ.out; omega)
            clear HCL3 HCL4
            refine ⟨_, rfl, ?_⟩
            refine hK.out _ _ ?_ (fun hHeld => ?_)
            · (first | exact HC2.out.pq | exact HC1.out.pq | exact HC0.out.pq)
            clear hK K
            try simp only [Act.put, List.getElem_toArray, List.getElem_cons_zero, List.getElem_cons_succ, List.setIfInBounds_toArray, List.set_cons_zero, List.set_cons_succ]
            refine wpAnyH_take (i := 9) (v := ?_) rfl (by kernel_rfl) (by kernel_rfl) (by kernel_rfl) (fun _ _ _ h => h) (Or.inl ⟨by rfl, ?_⟩) (by assumption) ?_
            rotate_left
            · (intro w hSw; (try dsimp only at hSw); go_simp; try (with_reducible rfl))
            try simp only [Act.put, List.getElem_toArray, List.getElem_cons_zero, List.getElem_cons_succ, List.setIfInBounds_toArray, List.set_cons_zero, List.set_cons_succ]
            refine wpAnyH_ready (rs := [10]) (by kernel_rfl) (by simp) ?_
            refine (AllReadyH.cons rfl (fun K hK => ?_) AllReadyH.nil)
            · go_simp
              refine hK.out _ _ ?_ (fun hHeld => ?_)
              · (first | exact HC2.out.pq | exact HC1.out.pq | exact HC0.out.pq)
              clear hK K
              try simp only [Act.put, List.getElem_toArray, List.getElem_cons_zero, List.getElem_cons_succ, List.setIfInBounds_toArray, List.set_cons_zero, List.set_cons_succ]
              refine wpAnyH_done (by kernel_rfl) ?_ _
              clear o3 hof HC0 HC1 HD HCL2
              generalize w4.setCell ⟨o, 3, none⟩ (.int .i64 cm) = W6 at *
              have HD := HC2
              have HCL2 := HCL5
              clear HC2 HCL5
              go_upto_region 107 with fail
              have HC0 := hide (HD.out.low ((Below.refl _ _).drew))
              refine wp_region_held_drew (S := fun w' => PQ w' r q P ⟨22, va, la, ln, lc, VX, ta, tn, tc, VT⟩) (by kernel_rfl) HD.out.pq (fun hHeld => ?_)
              refine wpAnyH_take (i := 0) (v := ?_) rfl (by kernel_rfl) (by kernel_rfl) (by kernel_rfl) (fun _ _ _ h => h) (Or.inl ⟨by rfl, ?_⟩) (by assumption) ?_
              rotate_left
              · (intro w hSw; (try dsimp only at hSw); go_simp; try (with_reducible rfl))
              try simp only [Act.put, List.getElem_toArray, List.getElem_cons_zero, List.getElem_cons_succ, List.setIfInBounds_toArray, List.set_cons_zero, List.set_cons_succ]
              refine wpAnyH_take (i := 1) (v := ?_) rfl (by kernel_rfl) (by kernel_rfl) (by kernel_rfl) (fun _ _ _ h => h) (Or.inl ⟨by rfl, ?_⟩) (by assumption) ?_
              rotate_left
              · (intro w hSw; (try dsimp only at hSw); go_simp; try (with_reducible rfl))
              try simp only [Act.put, List.getElem_toArray, List.getElem_cons_zero, List.getElem_cons_succ, List.setIfInBounds_toArray, List.set_cons_zero, List.set_cons_succ]
              refine wpAnyH_take (i := 2) (v := ?_) rfl (by kernel_rfl) (by kernel_rfl) (by kernel_rfl) (fun _ _ _ h => h) (Or.inl ⟨by rfl, ?_⟩) (by assumption) ?_
              rotate_left
              · (intro w hSw; (try dsimp only at hSw); go_simp; try (with_reducible rfl))
              try simp only [Act.put, List.getElem_toArray, List.getElem_cons_zero, List.getElem_cons_succ, List.setIfInBounds_toArray, List.set_cons_zero, List.set_cons_succ]
              refine wpAnyH_take (i := 3) (v := ?_) rfl (by kernel_rfl) (by kernel_rfl) (by kernel_rfl) (fun _ _ _ h => h) (Or.inl ⟨by rfl, ?_⟩) (by assumption) ?_
              rotate_left
              · (intro w hSw; (try dsimp only at hSw); go_simp; try (with_reducible rfl))
              try simp only [Act.put, List.getElem_toArray, List.getElem_cons_zero, List.getElem_cons_succ, List.setIfInBounds_toArray, List.set_cons_zero, List.set_cons_succ]
              refine wpAnyH_take (i := 4) (v := ?_) rfl (by kernel_rfl) (by kernel_rfl) (by kernel_rfl) (fun _ _ _ h => h) (Or.inl ⟨by rfl, ?_⟩) (by assumption) ?_
              rotate_left
              · (intro w hSw; (try dsimp only at hSw); (obtain ⟨zp, zq1, zq2⟩ := hSw; have zz := zp 0 (by decide)); go_simp; try (with_reducible rfl))
              try simp only [Act.put, List.getElem_toArray, List.getElem_cons_zero, List.getElem_cons_succ, List.setIfInBounds_toArray, List.set_cons_zero, List.set_cons_succ]
              refine wpAnyH_take (i := 5) (v := ?_) rfl (by kernel_rfl) (by kernel_rfl) (by kernel_rfl) (fun _ _ _ h => h) (Or.inl ⟨by rfl, ?_⟩) (by assumption) ?_
              rotate_left
              · (intro w hSw; (try dsimp only at hSw); go_simp; try (with_reducible rfl))
              try simp only [Act.put, List.getElem_toArray, List.getElem_cons_zero, List.getElem_cons_succ, List.setIfInBounds_toArray, List.set_cons_zero, List.set_cons_succ]
              refine wpAnyH_take (i := 6) (v := ?_) rfl (by kernel_rfl) (by kernel_rfl) (by kernel_rfl) (fun _ _ _ h => h) (Or.inl ⟨by rfl, ?_⟩) (by assumption) ?_
              rotate_left
              · (intro w hSw; (try dsimp only at hSw); (obtain ⟨zp, zq1, zq2⟩ := hSw; dsimp only at zq1 zq2); go_simp; try (with_reducible rfl))
              try simp only [Act.put, List.getElem_toArray, List.getElem_cons_zero, List.getElem_cons_succ, List.setIfInBounds_toArray, List.set_cons_zero, List.set_cons_succ]
              refine wpAnyH_ready (rs := [7]) (by kernel_rfl) (by simp) ?_
              refine (AllReadyH.cons rfl (fun K hK => ?_) AllReadyH.nil)
              · obtain ⟨fa, fe, fff, fs⟩ := HC0.out.f
                have cc := hide (fClauseZ_any W6.drew B (P 0) fa fe s.f.L s.f.E fff.ar HOK.out.f.eok (by have := HOK.out.f.len; have := HZ.out; omega) va)
                rw [HCq.out] at cc
                clear fff fs
                refine step_call rfl 61 #[.pointer (some ⟨P 0, 0, none⟩), .int .i64 va] (by simp [go_sem]) (cc.out) ?_
                rintro e w4 ⟨a4, c4, rfl, hcl, hga, hb1⟩
                have HC1 := hide (HC0.out.low hb1)
                have HCL3 : Hid (CL w4 a1 CC) := (HCL2.out.below ((Below.refl _ _).drew)).below hb1
                have HCL4 := hide hcl
                clear hb1 cc hcl hga
                refine ⟨_, rfl, ?_⟩
                refine hK.out _ _ ?_ (fun hHeld => ?_)
                · (first | exact HC2.out.pq | exact HC1.out.pq | exact HC0.out.pq)
                clear hK K
                try simp only [Act.put, List.getElem_toArray, List.getElem_cons_zero, List.getElem_cons_succ, List.setIfInBounds_toArray, List.set_cons_zero, List.set_cons_succ]
                refine wpAnyH_ready (rs := [8]) (by kernel_rfl) (by simp) ?_
                refine (AllReadyH.cons rfl (fun K hK => ?_) AllReadyH.nil)
                · have cc := hide (equalC_any w4 a1 a4 c1 c4 CC Cq HCL3.out HCL4.out (by have := HCN.out; omega) (by have := HQN.out; omega))
                  rw [Hbe.out] at cc
                  refine step_call rfl 62 #[.slice a1 CC.length c1, .slice a4 Cq.length c4] (by simp [go_sem]) (cc.out) ?_
                  rintro e w5 ⟨rfl, hw⟩
                  rw [hw]
                  clear hw w5 cc
                  clear HCL3 HCL4
                  refine ⟨_, rfl, ?_⟩
                  refine hK.out _ _ ?_ (fun hHeld => ?_)
                  · (first | exact HC2.out.pq | exact HC1.out.pq | exact HC0.out.pq)
                  clear hK K
                  try simp only [Act.put, List.getElem_toArray, List.getElem_cons_zero, List.getElem_cons_succ, List.setIfInBounds_toArray, List.set_cons_zero, List.set_cons_succ]
                  refine wpAnyH_ready (rs := [9]) (by kernel_rfl) (by simp) ?_
                  refine (AllReadyH.cons rfl (fun K hK => ?_) AllReadyH.nil)
                  · have cc := hide (truth_any w4 be)
                    rw [HQ.out] at cc
                    refine step_call rfl 44 #[.bool be] (by simp [go_sem]) (cc.out) ?_
                    rintro e w5 ⟨rfl, hw⟩
                    rw [hw]
                    clear hw w5 cc
                    have HC2 := hide (HC1.out.om Q)
                    have o4 := HC1.out.sc.o4
                    have hof := HC1.out.sc.of
                    refine ⟨_, rfl, ?_⟩
                    refine hK.out _ _ ?_ (fun hHeld => ?_)
                    · (first | exact HC2.out.pq | exact HC1.out.pq | exact HC0.out.pq)
                    clear hK K
                    try simp only [Act.put, List.getElem_toArray, List.getElem_cons_zero, List.getElem_cons_succ, List.setIfInBounds_toArray, List.set_cons_zero, List.set_cons_succ]
                    refine wpAnyH_take (i := 10) (v := ?_) rfl (by kernel_rfl) (by kernel_rfl) (by kernel_rfl) (fun _ _ _ h => h) (Or.inl ⟨by rfl, ?_⟩) (by assumption) ?_
                    rotate_left
                    · (intro w hSw; (try dsimp only at hSw); go_simp; try (with_reducible rfl))
                    try simp only [Act.put, List.getElem_toArray, List.getElem_cons_zero, List.getElem_cons_succ, List.setIfInBounds_toArray, List.set_cons_zero, List.set_cons_succ]
                    refine wpAnyH_ready (rs := [11]) (by kernel_rfl) (by simp) ?_
                    refine (AllReadyH.cons rfl (fun K hK => ?_) AllReadyH.nil)
                    · go_simp
                      refine hK.out _ _ ?_ (fun hHeld => ?_)
                      · (first | exact HC2.out.pq | exact HC1.out.pq | exact HC0.out.pq)
                      clear hK K
                      try simp only [Act.put, List.getElem_toArray, List.getElem_cons_zero, List.getElem_cons_succ, List.setIfInBounds_toArray, List.set_cons_zero, List.set_cons_succ]
                      refine wpAnyH_done (by kernel_rfl) ?_ _
                      clear o4 hof HC0 HC1 HD HCL2
                      generalize w4.setCell ⟨o, 4, none⟩ (.int .i64 Q) = W7 at *
                      obtain ⟨bo, hbo⟩ : ∃ x : Ob, ({ (ob0 : Ob) with er := 0, n := cm, m := Q }) = x := ⟨_, rfl⟩
                      have HSQ : Hid (s = s) := rfl
                      have HBQ : Hid (b' = bo) := by show _ = _; rw [← hbo]; exact (by rw [← HBE.out, if_pos HER.out, if_pos (by rw [Hbb.out]), HCq.out, Hcm.out, Hbe.out, HQ.out] <;> rfl)
                      rw [hbo] at HC2
                      clear hbo HSE HBE
                      have o0 := HC2.out.sc.o0
                      have o1 := HC2.out.sc.o1
                      have o2 := HC2.out.sc.o2
                      have o3 := HC2.out.sc.o3
                      have o4 := HC2.out.sc.o4
                      have o5 := HC2.out.sc.o5
                      have t0 := HC2.out.sc.t0
                      have t1 := HC2.out.sc.t1
                      have t2 := HC2.out.sc.t2
                      have t3 := HC2.out.sc.t3
                      have t4 := HC2.out.sc.t4
                      have t5 := HC2.out.sc.t5
                      have htf := HC2.out.sc.tf
                      have hot : o ≠ t := fun z => HC2.out.ne.2.2.1 z.symm
                      have HF := hide HC2.out.fin
                      have HC := hide (fin_cells HC2.out.sc)
                      clear HC2
                      go_wp2_with (with_reducible refine bodyPost_ret (v := ?v) ?hr ?hd ?hp)
                      case v => exact obV bo (.slice none 0 0)
                      case hr =>
                        change (results _ _).run _ (fin6 W7 t bo (.slice none 0 0)) = .ok _ (fin6 W7 t bo (.slice none 0 0))
                        obtain ⟨y0, y1, y2, y3, y4, y5⟩ := HC.out
                        clear HF HC
                        generalize fin6 W7 t bo (.slice none 0 0) = WF at *
                        simp [results, Tryz.results9, go_sem, y0, y1, y2, y3, y4, y5, obV]
                      case hd => rfl
                      case hp => rw [HBQ.out]; exact HF.out
  · have heb : (e1 == 0) = false := by simpa using her
    have HER : Hid (¬ ncE X = 0) := by show ¬ _; rw [← HE1.out]; exact her
    clear her HNC
    have HD := HS1
    clear HS1
    go_upto_region 102 with fail
    have HC0 := hide (HD.out.low ((Below.refl _ _).drew))
    refine wp_region_held_drew (S := fun w' => PQ w' r q P ⟨22, va, la, ln, lc, VX, ta, tn, tc, VT⟩) (by kernel_rfl) HD.out.pq (fun hHeld => ?_)
    refine wpAnyH_take (i := 0) (v := ?_) rfl (by kernel_rfl) (by kernel_rfl) (by kernel_rfl) (fun _ _ _ h => h) (Or.inl ⟨by rfl, ?_⟩) (by assumption) ?_
    rotate_left
    · (intro w hSw; (try dsimp only at hSw); go_simp; try (with_reducible rfl))
    try simp only [Act.put, List.getElem_toArray, List.getElem_cons_zero, List.getElem_cons_succ, List.setIfInBounds_toArray, List.set_cons_zero, List.set_cons_succ]
    refine wpAnyH_take (i := 1) (v := ?_) rfl (by kernel_rfl) (by kernel_rfl) (by kernel_rfl) (fun _ _ _ h => h) (Or.inl ⟨by rfl, ?_⟩) (by assumption) ?_
    rotate_left
    · (intro w hSw; (try dsimp only at hSw); go_simp; try (with_reducible rfl))
    try simp only [Act.put, List.getElem_toArray, List.getElem_cons_zero, List.getElem_cons_succ, List.setIfInBounds_toArray, List.set_cons_zero, List.set_cons_succ]
    refine wpAnyH_take (i := 2) (v := ?_) rfl (by kernel_rfl) (by kernel_rfl) (by kernel_rfl) (fun _ _ _ h => h) (Or.inl ⟨by rfl, ?_⟩) (by assumption) ?_
    rotate_left
    · (intro w hSw; (try dsimp only at hSw); go_simp; try (with_reducible rfl))
    try simp only [Act.put, List.getElem_toArray, List.getElem_cons_zero, List.getElem_cons_succ, List.setIfInBounds_toArray, List.set_cons_zero, List.set_cons_succ]
    refine wpAnyH_take (i := 3) (v := undef) rfl (by kernel_rfl) (by kernel_rfl) (by kernel_rfl) (fun _ _ _ h => h) (Or.inr ⟨by rfl, rfl⟩) (by assumption) ?_
    try simp only [Act.put, List.getElem_toArray, List.getElem_cons_zero, List.getElem_cons_succ, List.setIfInBounds_toArray, List.set_cons_zero, List.set_cons_succ]
    refine wpAnyH_take (i := 4) (v := undef) rfl (by kernel_rfl) (by kernel_rfl) (by kernel_rfl) (fun _ _ _ h => h) (Or.inr ⟨by rfl, rfl⟩) (by assumption) ?_
    try simp only [Act.put, List.getElem_toArray, List.getElem_cons_zero, List.getElem_cons_succ, List.setIfInBounds_toArray, List.set_cons_zero, List.set_cons_succ]
    refine wpAnyH_take (i := 5) (v := undef) rfl (by kernel_rfl) (by kernel_rfl) (by kernel_rfl) (fun _ _ _ h => h) (Or.inr ⟨by rfl, rfl⟩) (by assumption) ?_
    try simp only [Act.put, List.getElem_toArray, List.getElem_cons_zero, List.getElem_cons_succ, List.setIfInBounds_toArray, List.set_cons_zero, List.set_cons_succ]
    refine wpAnyH_take (i := 6) (v := undef) rfl (by kernel_rfl) (by kernel_rfl) (by kernel_rfl) (fun _ _ _ h => h) (Or.inr ⟨by rfl, rfl⟩) (by assumption) ?_
    try simp only [Act.put, List.getElem_toArray, List.getElem_cons_zero, List.getElem_cons_succ, List.setIfInBounds_toArray, List.set_cons_zero, List.set_cons_succ]
    refine wpAnyH_take (i := 7) (v := undef) rfl (by kernel_rfl) (by kernel_rfl) (by kernel_rfl) (fun _ _ _ h => h) (Or.inr ⟨by rfl, rfl⟩) (by assumption) ?_
    try simp only [Act.put, List.getElem_toArray, List.getElem_cons_zero, List.getElem_cons_succ, List.setIfInBounds_toArray, List.set_cons_zero, List.set_cons_succ]
    refine wpAnyH_take (i := 8) (v := undef) rfl (by kernel_rfl) (by kernel_rfl) (by kernel_rfl) (fun _ _ _ h => h) (Or.inr ⟨by rfl, rfl⟩) (by assumption) ?_
    try simp only [Act.put, List.getElem_toArray, List.getElem_cons_zero, List.getElem_cons_succ, List.setIfInBounds_toArray, List.set_cons_zero, List.set_cons_succ]
    refine wpAnyH_take (i := 9) (v := undef) rfl (by kernel_rfl) (by kernel_rfl) (by kernel_rfl) (fun _ _ _ h => h) (Or.inr ⟨by rfl, rfl⟩) (by assumption) ?_
    try simp only [Act.put, List.getElem_toArray, List.getElem_cons_zero, List.getElem_cons_succ, List.setIfInBounds_toArray, List.set_cons_zero, List.set_cons_succ]
    refine wpAnyH_take (i := 10) (v := undef) rfl (by kernel_rfl) (by kernel_rfl) (by kernel_rfl) (fun _ _ _ h => h) (Or.inr ⟨by rfl, rfl⟩) (by assumption) ?_
    try simp only [Act.put, List.getElem_toArray, List.getElem_cons_zero, List.getElem_cons_succ, List.setIfInBounds_toArray, List.set_cons_zero, List.set_cons_succ]
    refine wpAnyH_take (i := 11) (v := ?_) rfl (by kernel_rfl) (by kernel_rfl) (by kernel_rfl) (fun _ _ _ h => h) (Or.inl ⟨by rfl, ?_⟩) (by assumption) ?_
    rotate_left
    · (intro w hSw; (try dsimp only at hSw); go_simp; try (with_reducible rfl))
    try simp only [Act.put, List.getElem_toArray, List.getElem_cons_zero, List.getElem_cons_succ, List.setIfInBounds_toArray, List.set_cons_zero, List.set_cons_succ]
    refine wpAnyH_done (by kernel_rfl) ?_ _
    clear HD
    have HD := HC0
    clear HC0
    generalize hWd : wn.drew = wd at *
    clear hWd
    have o0 := HD.out.sc.o0
    have hof := HD.out.sc.of
    go_upto_region 105 with fail
    have HS101 := hide (HD.out.er (e1))
    clear HD
    generalize wd.setCell ⟨o, 0, none⟩ (.int .i64 (e1)) = W101 at *
    clear o0 hof
    go_upto_region 129 with fail
    clear heb
    obtain ⟨bo, hbo⟩ : ∃ x : Ob, ({ (ob0 : Ob) with er := e1 }) = x := ⟨_, rfl⟩
    have HSQ : Hid (s = s) := rfl
    have HBQ : Hid (b' = bo) := by show _ = _; rw [← hbo]; exact (by rw [← HBE.out, if_neg HER.out, HE1.out] <;> rfl)
    rw [hbo] at HS101
    clear hbo HSE HBE
    have o0 := HS101.out.sc.o0
    have o1 := HS101.out.sc.o1
    have o2 := HS101.out.sc.o2
    have o3 := HS101.out.sc.o3
    have o4 := HS101.out.sc.o4
    have o5 := HS101.out.sc.o5
    have t0 := HS101.out.sc.t0
    have t1 := HS101.out.sc.t1
    have t2 := HS101.out.sc.t2
    have t3 := HS101.out.sc.t3
    have t4 := HS101.out.sc.t4
    have t5 := HS101.out.sc.t5
    have htf := HS101.out.sc.tf
    have hot : o ≠ t := fun z => HS101.out.ne.2.2.1 z.symm
    have HF := hide HS101.out.fin
    have HC := hide (fin_cells HS101.out.sc)
    clear HS101
    go_wp2_with (with_reducible refine bodyPost_ret (v := ?v) ?hr ?hd ?hp)
    case v => exact obV bo (.slice none 0 0)
    case hr =>
      change (results _ _).run _ (fin6 W101 t bo (.slice none 0 0)) = .ok _ (fin6 W101 t bo (.slice none 0 0))
      obtain ⟨y0, y1, y2, y3, y4, y5⟩ := HC.out
      clear HF HC
      generalize fin6 W101 t bo (.slice none 0 0) = WF at *
      simp [results, Tryz.results9, go_sem, y0, y1, y2, y3, y4, y5, obV]
    case hd => rfl
    case hp => rw [HBQ.out]; exact HF.out
end Go.Proofs.Qxb6500773aGreat
