import Derived.Test.Qxb6500773aGreatOz
namespace Go.Proofs.Qxb6500773aGreat
open Go.RowKit

set_option linter.unusedSimpArgs false in
set_option maxRecDepth 100000 in
set_option maxHeartbeats 32000000 in
/-- cnflaw.modelBench.step: OpEvalClause -/
theorem mstep_8 (w : World) (B m z : Nat) (X : Nat → Prop) (V : Nat → Value) (S : Nat → Nat → Prop) (s : Mst) (h : MN w B m X V S (QM B s) s.nv s.sv) (hB : B ≤ w.heap.size) (hX : ∀ k, X k → k < w.heap.size) (hok : MsOk z s) (hz : z ≤ 65536) (v : OpV) (hk : v.kd = 8) (ha : -9223372036854775808 ≤ v.a ∧ v.a ≤ 9223372036854775807) :
    Calls Tryz.prog 10 #[.pointer (some ⟨m, 0, none⟩), opZ v] w (MpPost w (fp m S) B m X (s) (if (0 ≤ v.a ∧ v.a < s.F.length) then { ob0 with n := emP (s.F.getD v.a.toNat []) s.A } else { ob0 with er := 4 })) := by
  have HS0 := hide (mw_new v h hB hX)
  have HRB : Hid (∀ k, fp m S k → B ≤ k) := fun k z => z.elim (fun z => by rw [z]; exact h.mB) (fun ⟨i, hi, y⟩ => (h.rg i hi k y).1)
  unfold opZ
  have HOK := hide hok
  have HZ := hide hz
  have hs' : s = s := rfl
  obtain ⟨b', hb'⟩ : ∃ x : Ob, (if (0 ≤ v.a ∧ v.a < s.F.length) then { ob0 with n := emP (s.F.getD v.a.toNat []) s.A } else { ob0 with er := 4 }) = x := ⟨_, rfl⟩
  rw [hb']
  obtain ⟨kd, va, la, ln, lc, VX, ta, tn, tc, VT⟩ := v
  dsimp only at hk HS0 ha hs' hb' ⊢
  subst hk
  have HSE := hide hs'
  have HBE := hide hb'
  clear h hok hz hB hX hs' hb'
  generalize fp m S = R at *
  go_enter Tryz.func10, Tryz.ntmps10
  go_upto_region 2 with fail
  generalize (((w.alloc (.cells #[.int .i64 8, .int .i64 va, .slice la ln lc, .slice ta tn tc] 37)).alloc (.cells #[.int .i64 0, .int .i64 0, .int .i64 0, .int .i64 0, .int .i64 0, .slice none 0 0] 43)).alloc (.cells #[.int .i64 0, .int .i64 0, .int .i64 0, .int .i64 0, .int .i64 0, .slice none 0 0] 43)) = W0 at *
  generalize w.heap.size + 1 + 1 = o at *
  generalize w.heap.size + 1 = t at *
  generalize w.heap.size = q at *
  have q0 : W0.cell? ⟨q, 0, none⟩ = some (.int .i64 8) := HS0.out.sc.q0
  obtain ⟨fa, fc, hvf, hlf, hcf, hmf⟩ := HS0.out.f
  obtain ⟨nf, hnf⟩ : ∃ z, s.F.length = z := ⟨_, rfl⟩
  rw [hnf] at hvf hcf
  have HVf := hide hvf
  have HOf := hide hlf
  have HNf := hide hnf
  have HCf := hide (And.intro hcf hmf)
  clear hvf hlf hcf hmf hnf
  obtain ⟨aa, ac, hva, hla, hca, hma⟩ := HS0.out.a
  obtain ⟨na, hna⟩ : ∃ z, s.A.length = z := ⟨_, rfl⟩
  rw [hna] at hva hca
  have HVa := hide hva
  have HOa := hide hla
  have HNa := hide hna
  have HCa := hide (And.intro hca hma)
  clear hva hla hca hma hna
  have q1 : W0.cell? ⟨q, 1, none⟩ = some (.int .i64 va) := HS0.out.sc.q1
  have vf := (HS0.out.vf HVf.out)
  rw [HNf.out] at HBE
  by_cases hin : 0 ≤ va ∧ va < (nf : Int)
  · have HIN := hide hin
    obtain ⟨j, hj⟩ : ∃ j : Nat, va = (j : Int) := ⟨va.toNat, by omega⟩
    subst hj
    have hjn : j < nf := by omega
    have hji : (j : Int) < (nf : Int) := by omega
    have h1 : decide ((j : Int) < 0) = false := decide_eq_false (by omega)
    have h1i : ¬ (j : Int) < 0 := by omega
    have h2 : decide ((nf : Int) ≤ (j : Int)) = false := decide_eq_false (by omega)
    have h2i : ¬ (nf : Int) ≤ (j : Int) := by omega
    obtain ⟨C, hC⟩ : ∃ C, s.F[j]? = some C := ⟨_, List.getElem?_eq_getElem (by rw [HNf.out]; exact hjn)⟩
    have HC := hide hC
    clear hC
    clear hin
    go_upto_region 51 with fail
    go_quiet (fail)
    rename_i nq
    have HS1 := hide (HS0.out.low (belN _ nq))
    clear HS0
    generalize World.drewN W0 nq = W1 at *
    clear q0 q1 vf h1 h2 h1i h2i
    obtain ⟨g, a1, c1, eg, x0, hil, hcc, hcm, hgo, -⟩ := HS1.out.elem HVf.out HC.out
    subst eg
    obtain ⟨lc1, hlc1⟩ : ∃ z, C.length = z := ⟨_, rfl⟩
    rw [hlc1] at x0 hcc
    have HLC := hide hlc1
    have HIL1 := hide hil
    have HCC1 := hide (And.intro hcc hcm)
    have HGO := hide hgo
    clear hil hcc hcm hgo hlc1
    have HOb : Hid (IL W1 aa s.A) := by obtain ⟨a', c', hv, hl, _⟩ := HS1.out.a; rw [HVa.out] at hv; injection hv with hv _ _; rw [hv]; exact hl
    have y0 := x0
    obtain ⟨vv, hvv⟩ : ∃ x, emP C s.A = x := ⟨_, rfl⟩
    have Hvv := hide hvv
    clear hvv
    have hx1 : IntKind.i64.wrap vv = vv := by rw [← Hvv.out]; have := em_rng C s.A; rw [IntKind.wrap_i64]; omega
    go_upto_region 53 with fail
    have HC0 := hide (HS1.out.low ((Below.refl _ _).drew))
    have KS0 : Hid ((fun w' => w'.cell? ⟨m, 1, none⟩ = some (.slice (some ⟨g, 0, none⟩) nf fc) ∧ w'.cell? ⟨q, 1, none⟩ = some (.int .i64 (j : Int)) ∧ w'.cell? ⟨g, j, none⟩ = some (.slice a1 lc1 c1) ∧ w'.cell? ⟨m, 2, none⟩ = some (.slice aa na ac)) W1.drew) := ⟨HC0.out.vf HVf.out, HC0.out.sc.q1, x0, HC0.out.va HVa.out⟩
    refine wp_region_held_drew (S := fun w' => w'.cell? ⟨m, 1, none⟩ = some (.slice (some ⟨g, 0, none⟩) nf fc) ∧ w'.cell? ⟨q, 1, none⟩ = some (.int .i64 (j : Int)) ∧ w'.cell? ⟨g, j, none⟩ = some (.slice a1 lc1 c1) ∧ w'.cell? ⟨m, 2, none⟩ = some (.slice aa na ac)) (by kernel_rfl) KS0.out (fun hHeld => ?_)
    refine wpAnyH_take (i := 0) (v := ?_) rfl (by kernel_rfl) (by kernel_rfl) (by kernel_rfl) (fun _ _ _ h => h) (Or.inl ⟨by rfl, ?_⟩) (by assumption) ?_
    rotate_left
    · (intro w hSw; (try dsimp only at hSw); go_simp; try (with_reducible rfl))
    try simp only [Act.put, List.getElem_toArray, List.getElem_cons_zero, List.getElem_cons_succ, List.setIfInBounds_toArray, List.set_cons_zero, List.set_cons_succ]
    refine wpAnyH_take (i := 1) (v := ?_) rfl (by kernel_rfl) (by kernel_rfl) (by kernel_rfl) (fun _ _ _ h => h) (Or.inl ⟨by rfl, ?_⟩) (by assumption) ?_
    rotate_left
    · (intro w hSw; (try dsimp only at hSw); go_simp; try (with_reducible rfl))
    try simp only [Act.put, List.getElem_toArray, List.getElem_cons_zero, List.getElem_cons_succ, List.setIfInBounds_toArray, List.set_cons_zero, List.set_cons_succ]
    refine wpAnyH_take (i := 2) (v := ?_) rfl (by kernel_rfl) (by kernel_rfl) (by kernel_rfl) (fun _ _ _ h => h) (Or.inl ⟨by rfl, ?_⟩) (by assumption) ?_
    rotate_left
    · (intro w hSw; (try dsimp only at hSw); go_simp; try (with_reducible rfl))
    try simp only [Act.put, List.getElem_toArray, List.getElem_cons_zero, List.getElem_cons_succ, List.setIfInBounds_toArray, List.set_cons_zero, List.set_cons_succ]
    refine wpAnyH_take (i := 3) (v := ?_) rfl (by kernel_rfl) (by kernel_rfl) (by kernel_rfl) (fun _ _ _ h => h) (Or.inl ⟨by rfl, ?_⟩) (by assumption) ?_
    rotate_left
    · (intro w hSw; (try dsimp only at hSw); go_simp; try (with_reducible rfl))
    try simp only [Act.put, List.getElem_toArray, List.getElem_cons_zero, List.getElem_cons_succ, List.setIfInBounds_toArray, List.set_cons_zero, List.set_cons_succ]
    refine wpAnyH_take (i := 4) (v := ?_) rfl (by kernel_rfl) (by kernel_rfl) (by kernel_rfl) (fun _ _ _ h => h) (Or.inl ⟨by rfl, ?_⟩) (by assumption) ?_
    rotate_left
    · (intro w hSw; (try dsimp only at hSw); (obtain ⟨z0, z1, z2, z3⟩ := hSw); go_simp; try (with_reducible rfl))
    try simp only [Act.put, List.getElem_toArray, List.getElem_cons_zero, List.getElem_cons_succ, List.setIfInBounds_toArray, List.set_cons_zero, List.set_cons_succ]
    refine wpAnyH_take (i := 5) (v := ?_) rfl (by kernel_rfl) (by kernel_rfl) (by kernel_rfl) (fun _ _ _ h => h) (Or.inl ⟨by rfl, ?_⟩) (by assumption) ?_
    rotate_left
    · (intro w hSw; (try dsimp only at hSw); go_simp; try (with_reducible rfl))
    try simp only [Act.put, List.getElem_toArray, List.getElem_cons_zero, List.getElem_cons_succ, List.setIfInBounds_toArray, List.set_cons_zero, List.set_cons_succ]
    refine wpAnyH_take (i := 6) (v := ?_) rfl (by kernel_rfl) (by kernel_rfl) (by kernel_rfl) (fun _ _ _ h => h) (Or.inl ⟨by rfl, ?_⟩) (by assumption) ?_
    rotate_left
    · (intro w hSw; (try dsimp only at hSw); (obtain ⟨z0, z1, z2, z3⟩ := hSw); go_simp; try (with_reducible rfl))
    try simp only [Act.put, List.getElem_toArray, List.getElem_cons_zero, List.getElem_cons_succ, List.setIfInBounds_toArray, List.set_cons_zero, List.set_cons_succ]
    refine wpAnyH_take (i := 7) (v := ?_) rfl (by kernel_rfl) (by kernel_rfl) (by kernel_rfl) (fun _ _ _ h => h) (Or.inl ⟨by rfl, ?_⟩) (by assumption) ?_
    rotate_left
    · (intro w hSw; (try dsimp only at hSw); go_simp; try (with_reducible rfl))
    try simp only [Act.put, List.getElem_toArray, List.getElem_cons_zero, List.getElem_cons_succ, List.setIfInBounds_toArray, List.set_cons_zero, List.set_cons_succ]
    refine wpAnyH_take (i := 8) (v := ?_) rfl (by kernel_rfl) (by kernel_rfl) (by kernel_rfl) (fun _ _ _ h => h) (Or.inl ⟨by rfl, ?_⟩) (by assumption) ?_
    rotate_left
    · (intro w hSw; (try dsimp only at hSw); (obtain ⟨z0, z1, z2, z3⟩ := hSw); go_simp; try (with_reducible rfl))
    try simp only [Act.put, List.getElem_toArray, List.getElem_cons_zero, List.getElem_cons_succ, List.setIfInBounds_toArray, List.set_cons_zero, List.set_cons_succ]
    refine wpAnyH_take (i := 9) (v := ?_) rfl (by kernel_rfl) (by kernel_rfl) (by kernel_rfl) (fun _ _ _ h => h) (Or.inl ⟨by rfl, ?_⟩) (by assumption) ?_
    rotate_left
    · (intro w hSw; (try dsimp only at hSw); go_simp; try (with_reducible rfl))
    try simp only [Act.put, List.getElem_toArray, List.getElem_cons_zero, List.getElem_cons_succ, List.setIfInBounds_toArray, List.set_cons_zero, List.set_cons_succ]
    refine wpAnyH_take (i := 10) (v := ?_) rfl (by kernel_rfl) (by kernel_rfl) (by kernel_rfl) (fun _ _ _ h => h) (Or.inl ⟨by rfl, ?_⟩) (by assumption) ?_
    rotate_left
    · (intro w hSw; (try dsimp only at hSw); go_simp; try (with_reducible rfl))
    try simp only [Act.put, List.getElem_toArray, List.getElem_cons_zero, List.getElem_cons_succ, List.setIfInBounds_toArray, List.set_cons_zero, List.set_cons_succ]
    refine wpAnyH_take (i := 11) (v := ?_) rfl (by kernel_rfl) (by kernel_rfl) (by kernel_rfl) (fun _ _ _ h => h) (Or.inl ⟨by rfl, ?_⟩) (by assumption) ?_
    rotate_left
    · (intro w hSw; (try dsimp only at hSw); go_simp; try (with_reducible rfl))
    try simp only [Act.put, List.getElem_toArray, List.getElem_cons_zero, List.getElem_cons_succ, List.setIfInBounds_toArray, List.set_cons_zero, List.set_cons_succ]
    refine wpAnyH_take (i := 12) (v := ?_) rfl (by kernel_rfl) (by kernel_rfl) (by kernel_rfl) (fun _ _ _ h => h) (Or.inl ⟨by rfl, ?_⟩) (by assumption) ?_
    rotate_left
    · (intro w hSw; (try dsimp only at hSw); (obtain ⟨z0, z1, z2, z3⟩ := hSw); go_simp; try (with_reducible rfl))
    try simp only [Act.put, List.getElem_toArray, List.getElem_cons_zero, List.getElem_cons_succ, List.setIfInBounds_toArray, List.set_cons_zero, List.set_cons_succ]
    refine wpAnyH_ready (rs := [13]) (by kernel_rfl) (by simp) ?_
    refine (AllReadyH.cons rfl (fun K hK => ?_) AllReadyH.nil)
    · have cc : Hid (Calls Tryz.prog 81 #[.slice a1 lc1 c1, .slice aa na ac] W1.drew fun e w' => e = .returned (.int .i8 vv) ∧ w' = W1.drew) := by have := evalM_any W1.drew a1 c1 C aa ac s.A (HIL1.out.keep ((Ex.refl (fun _ => False) _).drew) (fun _ _ _ z => z)) (HOb.out.keep ((Ex.refl (fun _ => False) _).drew) (fun _ _ _ z => z)) (by have := (HOK.out.F.mem C (List.mem_of_getElem? HC.out)).1; have := HZ.out; omega) (by have := HOK.out.A.len; have := HZ.out; omega) (fun x hx => di_64 ((HOK.out.F.mem C (List.mem_of_getElem? HC.out)).2 x hx).1); rw [HLC.out, HNa.out, Hvv.out] at this; exact this
      refine step_call rfl 81 #[.slice a1 lc1 c1, .slice aa na ac] (by simp [go_sem]) cc.out ?_
      rintro e w1 ⟨rfl, hw⟩
      rw [hw]
      clear cc hw w1
      have y1 : W1.drew.cell? ⟨g, j, none⟩ = some (.slice a1 lc1 c1) := x0
      generalize W1.drew = wd at *
      have KS1 : Hid ((fun w' => w'.cell? ⟨m, 1, none⟩ = some (.slice (some ⟨g, 0, none⟩) nf fc) ∧ w'.cell? ⟨q, 1, none⟩ = some (.int .i64 (j : Int)) ∧ w'.cell? ⟨g, j, none⟩ = some (.slice a1 lc1 c1) ∧ w'.cell? ⟨m, 2, none⟩ = some (.slice aa na ac)) wd) := ⟨HC0.out.vf HVf.out, HC0.out.sc.q1, y1, HC0.out.va HVa.out⟩
      have HC2 := hide (HC0.out.on (vv))
      have KS2 : Hid ((fun w' => w'.cell? ⟨m, 1, none⟩ = some (.slice (some ⟨g, 0, none⟩) nf fc) ∧ w'.cell? ⟨q, 1, none⟩ = some (.int .i64 (j : Int)) ∧ w'.cell? ⟨g, j, none⟩ = some (.slice a1 lc1 c1) ∧ w'.cell? ⟨m, 2, none⟩ = some (.slice aa na ac)) (wd.setCell ⟨o, 3, none⟩ (.int .i64 (vv)))) := ⟨HC2.out.vf HVf.out, HC2.out.sc.q1, set_oth y1 (.inl HGO.out), HC2.out.va HVa.out⟩
      have o3 := HC0.out.sc.o3
      have hof := HC0.out.sc.of
      refine ⟨_, rfl, ?_⟩
      refine hK.out _ _ ?_ (fun hHeld => ?_)
      · (first | with_reducible exact KS0.out | with_reducible exact KS1.out | with_reducible exact KS2.out)
      clear hK K
      try simp only [Act.put, List.getElem_toArray, List.getElem_cons_zero, List.getElem_cons_succ, List.setIfInBounds_toArray, List.set_cons_zero, List.set_cons_succ]
      refine wpAnyH_take (i := 14) (v := ?_) rfl (by kernel_rfl) (by kernel_rfl) (by kernel_rfl) (fun _ _ _ h => h) (Or.inl ⟨by rfl, ?_⟩) (by assumption) ?_
      rotate_left
      · (intro w hSw; (try dsimp only at hSw); go_simp; try (with_reducible rfl))
      try simp only [Act.put, List.getElem_toArray, List.getElem_cons_zero, List.getElem_cons_succ, List.setIfInBounds_toArray, List.set_cons_zero, List.set_cons_succ]
      refine wpAnyH_take (i := 15) (v := ?_) rfl (by kernel_rfl) (by kernel_rfl) (by kernel_rfl) (fun _ _ _ h => h) (Or.inl ⟨by rfl, ?_⟩) (by assumption) ?_
      rotate_left
      · (intro w hSw; (try dsimp only at hSw); go_simp; try (with_reducible rfl))
      try simp only [Act.put, List.getElem_toArray, List.getElem_cons_zero, List.getElem_cons_succ, List.setIfInBounds_toArray, List.set_cons_zero, List.set_cons_succ]
      refine wpAnyH_ready (rs := [16]) (by kernel_rfl) (by simp) ?_
      refine (AllReadyH.cons rfl (fun K hK => ?_) AllReadyH.nil)
      · go_simp
        refine hK.out _ _ ?_ (fun hHeld => ?_)
        · (first | with_reducible exact KS0.out | with_reducible exact KS1.out | with_reducible exact KS2.out)
        clear hK K
        try simp only [Act.put, List.getElem_toArray, List.getElem_cons_zero, List.getElem_cons_succ, List.setIfInBounds_toArray, List.set_cons_zero, List.set_cons_succ]
        refine wpAnyH_done (by kernel_rfl) ?_ _
        clear KS0 KS1 KS2
        clear HC0 o3 hof HS1 hx1
        generalize wd.setCell ⟨o, 3, none⟩ (.int .i64 (vv)) = We at *
        obtain ⟨bo, hbo⟩ : ∃ x : Ob, ({ (ob0 : Ob) with n := vv }) = x := ⟨_, rfl⟩
        have HSQ : Hid (s = s) := rfl
        have HBQ : Hid (b' = bo) := by show _ = _; rw [← hbo]; exact (by rw [← HBE.out, if_pos ⟨by omega, by omega⟩, Int.toNat_natCast, List.getD_eq_getElem?_getD, HC.out, Option.getD_some, Hvv.out])
        rw [hbo] at HC2
        clear hbo HSE HBE
        have o0 := HC2.out.sc.o0
        have o1 := HC2.out.sc.o1
        have o2 := HC2.out.sc.o2
        have o3 := HC2.out.sc.o3
        have o4 := HC2.out.sc.o4
        have o5 := HC2.out.sc.o5
        have t0 := HC2.out.sc.t0
        have t1 := HC2.out.sc.t1
        have t2 := HC2.out.sc.t2
        have t3 := HC2.out.sc.t3
        have t4 := HC2.out.sc.t4
        have t5 := HC2.out.sc.t5
        have htf := HC2.out.sc.tf
        have hot : o ≠ t := fun z => HC2.out.ne.2.2.1 z.symm
        have HF := hide HC2.out.fin
        have HC := hide (fin_cells HC2.out.sc)
        clear HC2
        go_wp2_with (with_reducible refine bodyPost_ret (v := ?v) ?hr ?hd ?hp)
        case v => exact obV bo (.slice none 0 0)
        case hr =>
          change (results _ _).run _ (fin6 We t bo (.slice none 0 0)) = .ok _ (fin6 We t bo (.slice none 0 0))
          obtain ⟨y0, y1, y2, y3, y4, y5⟩ := HC.out
          clear HF HC
          generalize fin6 We t bo (.slice none 0 0) = WF at *
          simp [results, Tryz.results10, go_sem, y0, y1, y2, y3, y4, y5, obV]
        case hd => rfl
        case hp => rw [HBQ.out]; exact HF.out
  · have HIN := hide hin
    rcases (show va < 0 ∨ (0 ≤ va ∧ (nf : Int) ≤ va) by omega) with hlo | ⟨hlo, hhi⟩
    · clear hin
      have h1 : decide (va < 0) = true := decide_eq_true hlo
      have h1i := hlo
      go_upto_region 51 with fail
      go_quiet (fail)
      rename_i nq
      have HS1 := hide (HS0.out.low (belN _ nq))
      clear HS0
      generalize World.drewN W0 nq = W1 at *
      clear q0 q1 vf h1 h1i hlo
      have o0 := HS1.out.sc.o0
      have hof := HS1.out.sc.of
      go_upto_region 151 with fail
      have HS2 := hide (HS1.out.er (4))
      clear HS1
      generalize W1.setCell ⟨o, 0, none⟩ (.int .i64 (4)) = W2 at *
      clear o0 hof
      obtain ⟨bo, hbo⟩ : ∃ x : Ob, ({ (ob0 : Ob) with er := 4 }) = x := ⟨_, rfl⟩
      have HSQ : Hid (s = s) := rfl
      have HBQ : Hid (b' = bo) := by show _ = _; rw [← hbo]; exact (by rw [← HBE.out, if_neg (fun z => by have := HIN.out; omega)] <;> rfl)
      rw [hbo] at HS2
      clear hbo HSE HBE
      have o0 := HS2.out.sc.o0
      have o1 := HS2.out.sc.o1
      have o2 := HS2.out.sc.o2
      have o3 := HS2.out.sc.o3
      have o4 := HS2.out.sc.o4
      have o5 := HS2.out.sc.o5
      have t0 := HS2.out.sc.t0
      have t1 := HS2.out.sc.t1
      have t2 := HS2.out.sc.t2
      have t3 := HS2.out.sc.t3
      have t4 := HS2.out.sc.t4
      have t5 := HS2.out.sc.t5
      have htf := HS2.out.sc.tf
      have hot : o ≠ t := fun z => HS2.out.ne.2.2.1 z.symm
      have HF := hide HS2.out.fin
      have HC := hide (fin_cells HS2.out.sc)
      clear HS2
      go_wp2_with (with_reducible refine bodyPost_ret (v := ?v) ?hr ?hd ?hp)
      case v => exact obV bo (.slice none 0 0)
      case hr =>
        change (results _ _).run _ (fin6 W2 t bo (.slice none 0 0)) = .ok _ (fin6 W2 t bo (.slice none 0 0))
        obtain ⟨y0, y1, y2, y3, y4, y5⟩ := HC.out
        clear HF HC
        generalize fin6 W2 t bo (.slice none 0 0) = WF at *
        simp [results, Tryz.results10, go_sem, y0, y1, y2, y3, y4, y5, obV]
      case hd => rfl
      case hp => rw [HBQ.out]; exact HF.out
    · clear hin
      have h1 : decide (va < 0) = false := decide_eq_false (by omega)
      have h1i : ¬ va < 0 := by omega
      have h2 : decide ((nf : Int) ≤ va) = true := decide_eq_true hhi
      go_upto_region 51 with fail
      go_quiet (fail)
      rename_i nq
      have HS1 := hide (HS0.out.low (belN _ nq))
      clear HS0
      generalize World.drewN W0 nq = W1 at *
      clear q0 q1 vf h1 h1i hlo hhi h2
      have o0 := HS1.out.sc.o0
      have hof := HS1.out.sc.of
      go_upto_region 151 with fail
      have HS2 := hide (HS1.out.er (4))
      clear HS1
      generalize W1.setCell ⟨o, 0, none⟩ (.int .i64 (4)) = W2 at *
      clear o0 hof
      obtain ⟨bo, hbo⟩ : ∃ x : Ob, ({ (ob0 : Ob) with er := 4 }) = x := ⟨_, rfl⟩
      have HSQ : Hid (s = s) := rfl
      have HBQ : Hid (b' = bo) := by show _ = _; rw [← hbo]; exact (by rw [← HBE.out, if_neg (fun z => by have := HIN.out; omega)] <;> rfl)
      rw [hbo] at HS2
      clear hbo HSE HBE
      have o0 := HS2.out.sc.o0
      have o1 := HS2.out.sc.o1
      have o2 := HS2.out.sc.o2
      have o3 := HS2.out.sc.o3
      have o4 := HS2.out.sc.o4
      have o5 := HS2.out.sc.o5
      have t0 := HS2.out.sc.t0
      have t1 := HS2.out.sc.t1
      have t2 := HS2.out.sc.t2
      have t3 := HS2.out.sc.t3
      have t4 := HS2.out.sc.t4
      have t5 := HS2.out.sc.t5
      have htf := HS2.out.sc.tf
      have hot : o ≠ t := fun z => HS2.out.ne.2.2.1 z.symm
      have HF := hide HS2.out.fin
      have HC := hide (fin_cells HS2.out.sc)
      clear HS2
      go_wp2_with (with_reducible refine bodyPost_ret (v := ?v) ?hr ?hd ?hp)
      case v => exact obV bo (.slice none 0 0)
      case hr =>
        change (results _ _).run _ (fin6 W2 t bo (.slice none 0 0)) = .ok _ (fin6 W2 t bo (.slice none 0 0))
        obtain ⟨y0, y1, y2, y3, y4, y5⟩ := HC.out
        clear HF HC
        generalize fin6 W2 t bo (.slice none 0 0) = WF at *
        simp [results, Tryz.results10, go_sem, y0, y1, y2, y3, y4, y5, obV]
      case hd => rfl
      case hp => rw [HBQ.out]; exact HF.out
set_option linter.unusedSimpArgs false in
set_option maxRecDepth 100000 in
set_option maxHeartbeats 32000000 in
/-- cnflaw.modelBench.step: OpStatus -/
theorem mstep_9 (w : World) (B m z : Nat) (X : Nat → Prop) (V : Nat → Value) (S : Nat → Nat → Prop) (s : Mst) (h : MN w B m X V S (QM B s) s.nv s.sv) (hB : B ≤ w.heap.size) (hX : ∀ k, X k → k < w.heap.size) (hok : MsOk z s) (hz : z ≤ 65536) (v : OpV) (hk : v.kd = 9) (ha : -9223372036854775808 ≤ v.a ∧ v.a ≤ 9223372036854775807) :
    Calls Tryz.prog 10 #[.pointer (some ⟨m, 0, none⟩), opZ v] w (MpPost w (fp m S) B m X (s) (if (0 ≤ v.a ∧ v.a < s.F.length) then { ob0 with n := (msP (s.F.getD v.a.toNat []) s.A).1, m := (msP (s.F.getD v.a.toNat []) s.A).2 } else { ob0 with er := 4 })) := by
  have HS0 := hide (mw_new v h hB hX)
  have HRB : Hid (∀ k, fp m S k → B ≤ k) := fun k z => z.elim (fun z => by rw [z]; exact h.mB) (fun ⟨i, hi, y⟩ => (h.rg i hi k y).1)
  unfold opZ
  have HOK := hide hok
  have HZ := hide hz
  have hs' : s = s := rfl
  obtain ⟨b', hb'⟩ : ∃ x : Ob, (if (0 ≤ v.a ∧ v.a < s.F.length) then { ob0 with n := (msP (s.F.getD v.a.toNat []) s.A).1, m := (msP (s.F.getD v.a.toNat []) s.A).2 } else { ob0 with er := 4 }) = x := ⟨_, rfl⟩
  rw [hb']
  obtain ⟨kd, va, la, ln, lc, VX, ta, tn, tc, VT⟩ := v
  dsimp only at hk HS0 ha hs' hb' ⊢
  subst hk
  have HSE := hide hs'
  have HBE := hide hb'
  clear h hok hz hB hX hs' hb'
  generalize fp m S = R at *
  go_enter Tryz.func10, Tryz.ntmps10
  go_upto_region 2 with fail
  generalize (((w.alloc (.cells #[.int .i64 9, .int .i64 va, .slice la ln lc, .slice ta tn tc] 37)).alloc (.cells #[.int .i64 0, .int .i64 0, .int .i64 0, .int .i64 0, .int .i64 0, .slice none 0 0] 43)).alloc (.cells #[.int .i64 0, .int .i64 0, .int .i64 0, .int .i64 0, .int .i64 0, .slice none 0 0] 43)) = W0 at *
  generalize w.heap.size + 1 + 1 = o at *
  generalize w.heap.size + 1 = t at *
  generalize w.heap.size = q at *
  have q0 : W0.cell? ⟨q, 0, none⟩ = some (.int .i64 9) := HS0.out.sc.q0
  obtain ⟨fa, fc, hvf, hlf, hcf, hmf⟩ := HS0.out.f
  obtain ⟨nf, hnf⟩ : ∃ z, s.F.length = z := ⟨_, rfl⟩
  rw [hnf] at hvf hcf
  have HVf := hide hvf
  have HOf := hide hlf
  have HNf := hide hnf
  have HCf := hide (And.intro hcf hmf)
  clear hvf hlf hcf hmf hnf
  obtain ⟨aa, ac, hva, hla, hca, hma⟩ := HS0.out.a
  obtain ⟨na, hna⟩ : ∃ z, s.A.length = z := ⟨_, rfl⟩
  rw [hna] at hva hca
  have HVa := hide hva
  have HOa := hide hla
  have HNa := hide hna
  have HCa := hide (And.intro hca hma)
  clear hva hla hca hma hna
  have q1 : W0.cell? ⟨q, 1, none⟩ = some (.int .i64 va) := HS0.out.sc.q1
  have vf := (HS0.out.vf HVf.out)
  rw [HNf.out] at HBE
  by_cases hin : 0 ≤ va ∧ va < (nf : Int)
  · have HIN := hide hin
    obtain ⟨j, hj⟩ : ∃ j : Nat, va = (j : Int) := ⟨va.toNat, by omega⟩
    subst hj
    have hjn : j < nf := by omega
    have hji : (j : Int) < (nf : Int) := by omega
    have h1 : decide ((j : Int) < 0) = false := decide_eq_false (by omega)
    have h1i : ¬ (j : Int) < 0 := by omega
    have h2 : decide ((nf : Int) ≤ (j : Int)) = false := decide_eq_false (by omega)
    have h2i : ¬ (nf : Int) ≤ (j : Int) := by omega
    obtain ⟨C, hC⟩ : ∃ C, s.F[j]? = some C := ⟨_, List.getElem?_eq_getElem (by rw [HNf.out]; exact hjn)⟩
    have HC := hide hC
    clear hC
    clear hin
    go_upto_region 55 with fail
    go_quiet (fail)
    rename_i nq
    have HS1 := hide (HS0.out.low (belN _ nq))
    clear HS0
    generalize World.drewN W0 nq = W1 at *
    clear q0 q1 vf h1 h2 h1i h2i
    obtain ⟨g, a1, c1, eg, x0, hil, hcc, hcm, hgo, -⟩ := HS1.out.elem HVf.out HC.out
    subst eg
    obtain ⟨lc1, hlc1⟩ : ∃ z, C.length = z := ⟨_, rfl⟩
    rw [hlc1] at x0 hcc
    have HLC := hide hlc1
    have HIL1 := hide hil
    have HCC1 := hide (And.intro hcc hcm)
    have HGO := hide hgo
    clear hil hcc hcm hgo hlc1
    have HOb : Hid (IL W1 aa s.A) := by obtain ⟨a', c', hv, hl, _⟩ := HS1.out.a; rw [HVa.out] at hv; injection hv with hv _ _; rw [hv]; exact hl
    have y0 := x0
    obtain ⟨MR, hMR⟩ : ∃ x, msP C s.A = x := ⟨_, rfl⟩
    have HMR := hide hMR
    clear hMR
    obtain ⟨m1, m2⟩ := MR
    go_upto_region 57 with fail
    have HC0 := hide (HS1.out.low ((Below.refl _ _).drew))
    have KS0 : Hid ((fun w' => w'.cell? ⟨m, 1, none⟩ = some (.slice (some ⟨g, 0, none⟩) nf fc) ∧ w'.cell? ⟨q, 1, none⟩ = some (.int .i64 (j : Int)) ∧ w'.cell? ⟨g, j, none⟩ = some (.slice a1 lc1 c1) ∧ w'.cell? ⟨m, 2, none⟩ = some (.slice aa na ac)) W1.drew) := ⟨HC0.out.vf HVf.out, HC0.out.sc.q1, x0, HC0.out.va HVa.out⟩
    refine wp_region_held_drew (S := fun w' => w'.cell? ⟨m, 1, none⟩ = some (.slice (some ⟨g, 0, none⟩) nf fc) ∧ w'.cell? ⟨q, 1, none⟩ = some (.int .i64 (j : Int)) ∧ w'.cell? ⟨g, j, none⟩ = some (.slice a1 lc1 c1) ∧ w'.cell? ⟨m, 2, none⟩ = some (.slice aa na ac)) (by kernel_rfl) KS0.out (fun hHeld => ?_)
    refine wpAnyH_take (i := 0) (v := ?_) rfl (by kernel_rfl) (by kernel_rfl) (by kernel_rfl) (fun _ _ _ h => h) (Or.inl ⟨by rfl, ?_⟩) (by assumption) ?_
    rotate_left
    · (intro w hSw; (try dsimp only at hSw); go_simp; try (with_reducible rfl))
    try simp only [Act.put, List.getElem_toArray, List.getElem_cons_zero, List.getElem_cons_succ, List.setIfInBounds_toArray, List.set_cons_zero, List.set_cons_succ]
    refine wpAnyH_take (i := 1) (v := ?_) rfl (by kernel_rfl) (by kernel_rfl) (by kernel_rfl) (fun _ _ _ h => h) (Or.inl ⟨by rfl, ?_⟩) (by assumption) ?_
    rotate_left
    · (intro w hSw; (try dsimp only at hSw); go_simp; try (with_reducible rfl))
    try simp only [Act.put, List.getElem_toArray, List.getElem_cons_zero, List.getElem_cons_succ, List.setIfInBounds_toArray, List.set_cons_zero, List.set_cons_succ]
    refine wpAnyH_take (i := 2) (v := ?_) rfl (by kernel_rfl) (by kernel_rfl) (by kernel_rfl) (fun _ _ _ h => h) (Or.inl ⟨by rfl, ?_⟩) (by assumption) ?_
    rotate_left
    · (intro w hSw; (try dsimp only at hSw); go_simp; try (with_reducible rfl))
    try simp only [Act.put, List.getElem_toArray, List.getElem_cons_zero, List.getElem_cons_succ, List.setIfInBounds_toArray, List.set_cons_zero, List.set_cons_succ]
    refine wpAnyH_take (i := 3) (v := ?_) rfl (by kernel_rfl) (by kernel_rfl) (by kernel_rfl) (fun _ _ _ h => h) (Or.inl ⟨by rfl, ?_⟩) (by assumption) ?_
    rotate_left
    · (intro w hSw; (try dsimp only at hSw); go_simp; try (with_reducible rfl))
    try simp only [Act.put, List.getElem_toArray, List.getElem_cons_zero, List.getElem_cons_succ, List.setIfInBounds_toArray, List.set_cons_zero, List.set_cons_succ]
    refine wpAnyH_take (i := 4) (v := ?_) rfl (by kernel_rfl) (by kernel_rfl) (by kernel_rfl) (fun _ _ _ h => h) (Or.inl ⟨by rfl, ?_⟩) (by assumption) ?_
    rotate_left
    · (intro w hSw; (try dsimp only at hSw); (obtain ⟨z0, z1, z2, z3⟩ := hSw); go_simp; try (with_reducible rfl))
    try simp only [Act.put, List.getElem_toArray, List.getElem_cons_zero, List.getElem_cons_succ, List.setIfInBounds_toArray, List.set_cons_zero, List.set_cons_succ]
    refine wpAnyH_take (i := 5) (v := ?_) rfl (by kernel_rfl) (by kernel_rfl) (by kernel_rfl) (fun _ _ _ h => h) (Or.inl ⟨by rfl, ?_⟩) (by assumption) ?_
    rotate_left
    · (intro w hSw; (try dsimp only at hSw); go_simp; try (with_reducible rfl))
    try simp only [Act.put, List.getElem_toArray, List.getElem_cons_zero, List.getElem_cons_succ, List.setIfInBounds_toArray, List.set_cons_zero, List.set_cons_succ]
    refine wpAnyH_take (i := 6) (v := ?_) rfl (by kernel_rfl) (by kernel_rfl) (by kernel_rfl) (fun _ _ _ h => h) (Or.inl ⟨by rfl, ?_⟩) (by assumption) ?_
    rotate_left
    · (intro w hSw; (try dsimp only at hSw); (obtain ⟨z0, z1, z2, z3⟩ := hSw); go_simp; try (with_reducible rfl))
    try simp only [Act.put, List.getElem_toArray, List.getElem_cons_zero, List.getElem_cons_succ, List.setIfInBounds_toArray, List.set_cons_zero, List.set_cons_succ]
    refine wpAnyH_take (i := 7) (v := ?_) rfl (by kernel_rfl) (by kernel_rfl) (by kernel_rfl) (fun _ _ _ h => h) (Or.inl ⟨by rfl, ?_⟩) (by assumption) ?_
    rotate_left
    · (intro w hSw; (try dsimp only at hSw); go_simp; try (with_reducible rfl))
    try simp only [Act.put, List.getElem_toArray, List.getElem_cons_zero, List.getElem_cons_succ, List.setIfInBounds_toArray, List.set_cons_zero, List.set_cons_succ]
    refine wpAnyH_take (i := 8) (v := ?_) rfl (by kernel_rfl) (by kernel_rfl) (by kernel_rfl) (fun _ _ _ h => h) (Or.inl ⟨by rfl, ?_⟩) (by assumption) ?_
    rotate_left
    · (intro w hSw; (try dsimp only at hSw); (obtain ⟨z0, z1, z2, z3⟩ := hSw); go_simp; try (with_reducible rfl))
    try simp only [Act.put, List.getElem_toArray, List.getElem_cons_zero, List.getElem_cons_succ, List.setIfInBounds_toArray, List.set_cons_zero, List.set_cons_succ]
    refine wpAnyH_take (i := 9) (v := ?_) rfl (by kernel_rfl) (by kernel_rfl) (by kernel_rfl) (fun _ _ _ h => h) (Or.inl ⟨by rfl, ?_⟩) (by assumption) ?_
    rotate_left
    · (intro w hSw; (try dsimp only at hSw); go_simp; try (with_reducible rfl))
    try simp only [Act.put, List.getElem_toArray, List.getElem_cons_zero, List.getElem_cons_succ, List.setIfInBounds_toArray, List.set_cons_zero, List.set_cons_succ]
    refine wpAnyH_take (i := 10) (v := ?_) rfl (by kernel_rfl) (by kernel_rfl) (by kernel_rfl) (fun _ _ _ h => h) (Or.inl ⟨by rfl, ?_⟩) (by assumption) ?_
    rotate_left
    · (intro w hSw; (try dsimp only at hSw); go_simp; try (with_reducible rfl))
    try simp only [Act.put, List.getElem_toArray, List.getElem_cons_zero, List.getElem_cons_succ, List.setIfInBounds_toArray, List.set_cons_zero, List.set_cons_succ]
    refine wpAnyH_take (i := 11) (v := ?_) rfl (by kernel_rfl) (by kernel_rfl) (by kernel_rfl) (fun _ _ _ h => h) (Or.inl ⟨by rfl, ?_⟩) (by assumption) ?_
    rotate_left
    · (intro w hSw; (try dsimp only at hSw); go_simp; try (with_reducible rfl))
    try simp only [Act.put, List.getElem_toArray, List.getElem_cons_zero, List.getElem_cons_succ, List.setIfInBounds_toArray, List.set_cons_zero, List.set_cons_succ]
    refine wpAnyH_take (i := 12) (v := ?_) rfl (by kernel_rfl) (by kernel_rfl) (by kernel_rfl) (fun _ _ _ h => h) (Or.inl ⟨by rfl, ?_⟩) (by assumption) ?_
    rotate_left
    · (intro w hSw; (try dsimp only at hSw); (obtain ⟨z0, z1, z2, z3⟩ := hSw); go_simp; try (with_reducible rfl))
    try simp only [Act.put, List.getElem_toArray, List.getElem_cons_zero, List.getElem_cons_succ, List.setIfInBounds_toArray, List.set_cons_zero, List.set_cons_succ]
    refine wpAnyH_ready (rs := [13]) (by kernel_rfl) (by simp) ?_
    refine (AllReadyH.cons rfl (fun K hK => ?_) AllReadyH.nil)
    · have cc : Hid (Calls Tryz.prog 82 #[.slice a1 lc1 c1, .slice aa na ac] W1.drew (MsPost W1.drew (m1, m2))) := by have := statusM_any W1.drew a1 c1 C aa ac s.A (HIL1.out.keep ((Ex.refl (fun _ => False) _).drew) (fun _ _ _ z => z)) (HOb.out.keep ((Ex.refl (fun _ => False) _).drew) (fun _ _ _ z => z)) (by have := (HOK.out.F.mem C (List.mem_of_getElem? HC.out)).1; have := HZ.out; omega) (by have := HOK.out.A.len; have := HZ.out; omega) (fun x hx => di_64 ((HOK.out.F.mem C (List.mem_of_getElem? HC.out)).2 x hx).1); rw [HLC.out, HNa.out, HMR.out] at this; exact this
      refine step_call rfl 82 #[.slice a1 lc1 c1, .slice aa na ac] (by simp [go_sem]) cc.out ?_
      rintro e w1 ⟨rfl, hx⟩
      clear cc
      have HC1 := hide (HC0.out.lowE hx)
      have KS1 : Hid ((fun w' => w'.cell? ⟨m, 1, none⟩ = some (.slice (some ⟨g, 0, none⟩) nf fc) ∧ w'.cell? ⟨q, 1, none⟩ = some (.int .i64 (j : Int)) ∧ w'.cell? ⟨g, j, none⟩ = some (.slice a1 lc1 c1) ∧ w'.cell? ⟨m, 2, none⟩ = some (.slice aa na ac)) w1) := ⟨HC1.out.vf HVf.out, HC1.out.sc.q1, hx.cell (fun z => z) x0, HC1.out.va HVa.out⟩
      refine ⟨_, rfl, ?_⟩
      refine hK.out _ _ ?_ (fun hHeld => ?_)
      · (first | with_reducible exact KS0.out | with_reducible exact KS1.out)
      clear hK K
      try simp only [Act.put, List.getElem_toArray, List.getElem_cons_zero, List.getElem_cons_succ, List.setIfInBounds_toArray, List.set_cons_zero, List.set_cons_succ]
      refine wpAnyH_take (i := 14) (v := ?_) rfl (by kernel_rfl) (by kernel_rfl) (by kernel_rfl) (fun _ _ _ h => h) (Or.inl ⟨by rfl, ?_⟩) (by assumption) ?_
      rotate_left
      · (intro w hSw; (try dsimp only at hSw); go_simp; try (with_reducible rfl))
      try simp only [Act.put, List.getElem_toArray, List.getElem_cons_zero, List.getElem_cons_succ, List.setIfInBounds_toArray, List.set_cons_zero, List.set_cons_succ]
      refine wpAnyH_take (i := 15) (v := ?_) rfl (by kernel_rfl) (by kernel_rfl) (by kernel_rfl) (fun _ _ _ h => h) (Or.inl ⟨by rfl, ?_⟩) (by assumption) ?_
      rotate_left
      · (intro w hSw; (try dsimp only at hSw); go_simp; try (with_reducible rfl))
      try simp only [Act.put, List.getElem_toArray, List.getElem_cons_zero, List.getElem_cons_succ, List.setIfInBounds_toArray, List.set_cons_zero, List.set_cons_succ]
      refine wpAnyH_take (i := 16) (v := ?_) rfl (by kernel_rfl) (by kernel_rfl) (by kernel_rfl) (fun _ _ _ h => h) (Or.inl ⟨by rfl, ?_⟩) (by assumption) ?_
      rotate_left
      · (intro w hSw; (try dsimp only at hSw); go_simp; try (with_reducible rfl))
      try simp only [Act.put, List.getElem_toArray, List.getElem_cons_zero, List.getElem_cons_succ, List.setIfInBounds_toArray, List.set_cons_zero, List.set_cons_succ]
      refine wpAnyH_take (i := 17) (v := ?_) rfl (by kernel_rfl) (by kernel_rfl) (by kernel_rfl) (fun _ _ _ h => h) (Or.inl ⟨by rfl, ?_⟩) (by assumption) ?_
      rotate_left
      · (intro w hSw; (try dsimp only at hSw); go_simp; try (with_reducible rfl))
      try simp only [Act.put, List.getElem_toArray, List.getElem_cons_zero, List.getElem_cons_succ, List.setIfInBounds_toArray, List.set_cons_zero, List.set_cons_succ]
      refine wpAnyH_take (i := 18) (v := ?_) rfl (by kernel_rfl) (by kernel_rfl) (by kernel_rfl) (fun _ _ _ h => h) (Or.inl ⟨by rfl, ?_⟩) (by assumption) ?_
      rotate_left
      · (intro w hSw; (try dsimp only at hSw); go_simp; try (with_reducible rfl))
      try simp only [Act.put, List.getElem_toArray, List.getElem_cons_zero, List.getElem_cons_succ, List.setIfInBounds_toArray, List.set_cons_zero, List.set_cons_succ]
      refine wpAnyH_done (by kernel_rfl) ?_ _
      clear KS0 KS1
      clear HC0 HS1 hx x0 y0
      have o3 := HC1.out.sc.o3
      have hof := HC1.out.sc.of
      go_upto_region 59 with fail
      have HS101 := hide (HC1.out.on (m1))
      clear HC1
      generalize w1.setCell ⟨o, 3, none⟩ (.int .i64 (m1)) = W101 at *
      clear o3 hof
      have o4 := HS101.out.sc.o4
      have hof := HS101.out.sc.of
      go_upto_region 151 with fail
      have HS102 := hide (HS101.out.om (m2))
      clear HS101
      generalize W101.setCell ⟨o, 4, none⟩ (.int .i64 (m2)) = W102 at *
      clear o4 hof
      obtain ⟨bo, hbo⟩ : ∃ x : Ob, ({ ({ (ob0 : Ob) with n := m1 } : Ob) with m := m2 }) = x := ⟨_, rfl⟩
      have HSQ : Hid (s = s) := rfl
      have HBQ : Hid (b' = bo) := by show _ = _; rw [← hbo]; exact (by rw [← HBE.out, if_pos ⟨by omega, by omega⟩, Int.toNat_natCast, List.getD_eq_getElem?_getD, HC.out, Option.getD_some, HMR.out] <;> rfl)
      rw [hbo] at HS102
      clear hbo HSE HBE
      have o0 := HS102.out.sc.o0
      have o1 := HS102.out.sc.o1
      have o2 := HS102.out.sc.o2
      have o3 := HS102.out.sc.o3
      have o4 := HS102.out.sc.o4
      have o5 := HS102.out.sc.o5
      have t0 := HS102.out.sc.t0
      have t1 := HS102.out.sc.t1
      have t2 := HS102.out.sc.t2
      have t3 := HS102.out.sc.t3
      have t4 := HS102.out.sc.t4
      have t5 := HS102.out.sc.t5
      have htf := HS102.out.sc.tf
      have hot : o ≠ t := fun z => HS102.out.ne.2.2.1 z.symm
      have HF := hide HS102.out.fin
      have HC := hide (fin_cells HS102.out.sc)
      clear HS102
      go_wp2_with (with_reducible refine bodyPost_ret (v := ?v) ?hr ?hd ?hp)
      case v => exact obV bo (.slice none 0 0)
      case hr =>
        change (results _ _).run _ (fin6 W102 t bo (.slice none 0 0)) = .ok _ (fin6 W102 t bo (.slice none 0 0))
        obtain ⟨y0, y1, y2, y3, y4, y5⟩ := HC.out
        clear HF HC
        generalize fin6 W102 t bo (.slice none 0 0) = WF at *
        simp [results, Tryz.results10, go_sem, y0, y1, y2, y3, y4, y5, obV]
      case hd => rfl
      case hp => rw [HBQ.out]; exact HF.out
  · have HIN := hide hin
    rcases (show va < 0 ∨ (0 ≤ va ∧ (nf : Int) ≤ va) by omega) with hlo | ⟨hlo, hhi⟩
    · clear hin
      have h1 : decide (va < 0) = true := decide_eq_true hlo
      have h1i := hlo
      go_upto_region 55 with fail
      go_quiet (fail)
      rename_i nq
      have HS1 := hide (HS0.out.low (belN _ nq))
      clear HS0
      generalize World.drewN W0 nq = W1 at *
      clear q0 q1 vf h1 h1i hlo
      have o0 := HS1.out.sc.o0
      have hof := HS1.out.sc.of
      go_upto_region 151 with fail
      have HS2 := hide (HS1.out.er (4))
      clear HS1
      generalize W1.setCell ⟨o, 0, none⟩ (.int .i64 (4)) = W2 at *
      clear o0 hof
      obtain ⟨bo, hbo⟩ : ∃ x : Ob, ({ (ob0 : Ob) with er := 4 }) = x := ⟨_, rfl⟩
      have HSQ : Hid (s = s) := rfl
      have HBQ : Hid (b' = bo) := by show _ = _; rw [← hbo]; exact (by rw [← HBE.out, if_neg (fun z => by have := HIN.out; omega)] <;> rfl)
      rw [hbo] at HS2
      clear hbo HSE HBE
      have o0 := HS2.out.sc.o0
      have o1 := HS2.out.sc.o1
      have o2 := HS2.out.sc.o2
      have o3 := HS2.out.sc.o3
      have o4 := HS2.out.sc.o4
      have o5 := HS2.out.sc.o5
      have t0 := HS2.out.sc.t0
      have t1 := HS2.out.sc.t1
      have t2 := HS2.out.sc.t2
      have t3 := HS2.out.sc.t3
      have t4 := HS2.out.sc.t4
      have t5 := HS2.out.sc.t5
      have htf := HS2.out.sc.tf
      have hot : o ≠ t := fun z => HS2.out.ne.2.2.1 z.symm
      have HF := hide HS2.out.fin
      have HC := hide (fin_cells HS2.out.sc)
      clear HS2
      go_wp2_with (with_reducible refine bodyPost_ret (v := ?v) ?hr ?hd ?hp)
      case v => exact obV bo (.slice none 0 0)
      case hr =>
        change (results _ _).run _ (fin6 W2 t bo (.slice none 0 0)) = .ok _ (fin6 W2 t bo (.slice none 0 0))
        obtain ⟨y0, y1, y2, y3, y4, y5⟩ := HC.out
        clear HF HC
        generalize fin6 W2 t bo (.slice none 0 0) = WF at *
        simp [results, Tryz.results10, go_sem, y0, y1, y2, y3, y4, y5, obV]
      case hd => rfl
      case hp => rw [HBQ.out]; exact HF.out
    · clear hin
      have h1 : decide (va < 0) = false := decide_eq_false (by omega)
      have h1i : ¬ va < 0 := by omega
      have h2 : decide ((nf : Int) ≤ va) = true := decide_eq_true hhi
      go_upto_region 55 with fail
      go_quiet (fail)
      rename_i nq
      have HS1 := hide (HS0.out.low (belN _ nq))
      clear HS0
      generalize World.drewN W0 nq = W1 at *
      clear q0 q1 vf h1 h1i hlo hhi h2
      have o0 := HS1.out.sc.o0
      have hof := HS1.out.sc.of
      go_upto_region 151 with fail
      have HS2 := hide (HS1.out.er (4))
      clear HS1
      generalize W1.setCell ⟨o, 0, none⟩ (.int .i64 (4)) = W2 at *
      clear o0 hof
      obtain ⟨bo, hbo⟩ : ∃ x : Ob, ({ (ob0 : Ob) with er := 4 }) = x := ⟨_, rfl⟩
      have HSQ : Hid (s = s) := rfl
      have HBQ : Hid (b' = bo) := by show _ = _; rw [← hbo]; exact (by rw [← HBE.out, if_neg (fun z => by have := HIN.out; omega)] <;> rfl)
      rw [hbo] at HS2
      clear hbo HSE HBE
      have o0 := HS2.out.sc.o0
      have o1 := HS2.out.sc.o1
      have o2 := HS2.out.sc.o2
      have o3 := HS2.out.sc.o3
      have o4 := HS2.out.sc.o4
      have o5 := HS2.out.sc.o5
      have t0 := HS2.out.sc.t0
      have t1 := HS2.out.sc.t1
      have t2 := HS2.out.sc.t2
      have t3 := HS2.out.sc.t3
      have t4 := HS2.out.sc.t4
      have t5 := HS2.out.sc.t5
      have htf := HS2.out.sc.tf
      have hot : o ≠ t := fun z => HS2.out.ne.2.2.1 z.symm
      have HF := hide HS2.out.fin
      have HC := hide (fin_cells HS2.out.sc)
      clear HS2
      go_wp2_with (with_reducible refine bodyPost_ret (v := ?v) ?hr ?hd ?hp)
      case v => exact obV bo (.slice none 0 0)
      case hr =>
        change (results _ _).run _ (fin6 W2 t bo (.slice none 0 0)) = .ok _ (fin6 W2 t bo (.slice none 0 0))
        obtain ⟨y0, y1, y2, y3, y4, y5⟩ := HC.out
        clear HF HC
        generalize fin6 W2 t bo (.slice none 0 0) = WF at *
        simp [results, Tryz.results10, go_sem, y0, y1, y2, y3, y4, y5, obV]
      case hd => rfl
      case hp => rw [HBQ.out]; exact HF.out
set_option linter.unusedSimpArgs false in
set_option maxRecDepth 100000 in
set_option maxHeartbeats 32000000 in
/-- cnflaw.modelBench.step: OpEvalFormula -/
theorem mstep_10 (w : World) (B m z : Nat) (X : Nat → Prop) (V : Nat → Value) (S : Nat → Nat → Prop) (s : Mst) (h : MN w B m X V S (QM B s) s.nv s.sv) (hB : B ≤ w.heap.size) (hX : ∀ k, X k → k < w.heap.size) (hok : MsOk z s) (hz : z ≤ 65536) (v : OpV) (hk : v.kd = 10) (ha : -9223372036854775808 ≤ v.a ∧ v.a ≤ 9223372036854775807) :
    Calls Tryz.prog 10 #[.pointer (some ⟨m, 0, none⟩), opZ v] w (MpPost w (fp m S) B m X (s) ({ ob0 with n := mefP s.F s.A, m := if mefP s.F s.A = 1 then 1 else 0 })) := by
  have HS0 := hide (mw_new v h hB hX)
  have HRB : Hid (∀ k, fp m S k → B ≤ k) := fun k z => z.elim (fun z => by rw [z]; exact h.mB) (fun ⟨i, hi, y⟩ => (h.rg i hi k y).1)
  unfold opZ
  have HOK := hide hok
  have HZ := hide hz
  have hs' : s = s := rfl
  obtain ⟨b', hb'⟩ : ∃ x : Ob, ({ ob0 with n := mefP s.F s.A, m := if mefP s.F s.A = 1 then 1 else 0 }) = x := ⟨_, rfl⟩
  rw [hb']
  obtain ⟨kd, va, la, ln, lc, VX, ta, tn, tc, VT⟩ := v
  dsimp only at hk HS0 ha hs' hb' ⊢
  subst hk
  have HSE := hide hs'
  have HBE := hide hb'
  clear h hok hz hB hX hs' hb'
  generalize fp m S = R at *
  go_enter Tryz.func10, Tryz.ntmps10
  go_upto_region 2 with fail
  generalize (((w.alloc (.cells #[.int .i64 10, .int .i64 va, .slice la ln lc, .slice ta tn tc] 37)).alloc (.cells #[.int .i64 0, .int .i64 0, .int .i64 0, .int .i64 0, .int .i64 0, .slice none 0 0] 43)).alloc (.cells #[.int .i64 0, .int .i64 0, .int .i64 0, .int .i64 0, .int .i64 0, .slice none 0 0] 43)) = W0 at *
  generalize w.heap.size + 1 + 1 = o at *
  generalize w.heap.size + 1 = t at *
  generalize w.heap.size = q at *
  have q0 : W0.cell? ⟨q, 0, none⟩ = some (.int .i64 10) := HS0.out.sc.q0
  obtain ⟨fa, fc, hvf, hlf, hcf, hmf⟩ := HS0.out.f
  obtain ⟨nf, hnf⟩ : ∃ z, s.F.length = z := ⟨_, rfl⟩
  rw [hnf] at hvf hcf
  have HVf := hide hvf
  have HOf := hide hlf
  have HNf := hide hnf
  have HCf := hide (And.intro hcf hmf)
  clear hvf hlf hcf hmf hnf
  obtain ⟨aa, ac, hva, hla, hca, hma⟩ := HS0.out.a
  obtain ⟨na, hna⟩ : ∃ z, s.A.length = z := ⟨_, rfl⟩
  rw [hna] at hva hca
  have HVa := hide hva
  have HOa := hide hla
  have HNa := hide hna
  have HCa := hide (And.intro hca hma)
  clear hva hla hca hma hna
  obtain ⟨R, hR⟩ : ∃ x, mefP s.F s.A = x := ⟨_, rfl⟩
  have HR := hide hR
  clear hR
  have hx1 : IntKind.i64.wrap R = R := by rw [← HR.out]; have := mef_rng s.F s.A; rw [IntKind.wrap_i64]; omega
  have HEXW0 : Hid (Ex (fun _ => False) W0 W0) := Ex.refl _ _
  go_upto_region 61 with fail
  have HC0 := hide (HS0.out.low ((Below.refl _ _).drew))
  have KS0 : Hid ((fun w' => w'.cell? ⟨m, 0, none⟩ = some (.int .i64 s.nv) ∧ w'.cell? ⟨m, 1, none⟩ = some (.slice fa nf fc) ∧ w'.cell? ⟨m, 2, none⟩ = some (.slice aa na ac)) W0.drew) := ⟨HC0.out.mn.c0, HC0.out.vf HVf.out, HC0.out.va HVa.out⟩
  refine wp_region_held_drew (S := fun w' => w'.cell? ⟨m, 0, none⟩ = some (.int .i64 s.nv) ∧ w'.cell? ⟨m, 1, none⟩ = some (.slice fa nf fc) ∧ w'.cell? ⟨m, 2, none⟩ = some (.slice aa na ac)) (by kernel_rfl) KS0.out (fun hHeld => ?_)
  refine wpAnyH_take (i := 0) (v := ?_) rfl (by kernel_rfl) (by kernel_rfl) (by kernel_rfl) (fun _ _ _ h => h) (Or.inl ⟨by rfl, ?_⟩) (by assumption) ?_
  rotate_left
  · (intro w hSw; (try dsimp only at hSw); go_simp; try (with_reducible rfl))
  try simp only [Act.put, List.getElem_toArray, List.getElem_cons_zero, List.getElem_cons_succ, List.setIfInBounds_toArray, List.set_cons_zero, List.set_cons_succ]
  refine wpAnyH_take (i := 1) (v := ?_) rfl (by kernel_rfl) (by kernel_rfl) (by kernel_rfl) (fun _ _ _ h => h) (Or.inl ⟨by rfl, ?_⟩) (by assumption) ?_
  rotate_left
  · (intro w hSw; (try dsimp only at hSw); go_simp; try (with_reducible rfl))
  try simp only [Act.put, List.getElem_toArray, List.getElem_cons_zero, List.getElem_cons_succ, List.setIfInBounds_toArray, List.set_cons_zero, List.set_cons_succ]
  refine wpAnyH_take (i := 2) (v := ?_) rfl (by kernel_rfl) (by kernel_rfl) (by kernel_rfl) (fun _ _ _ h => h) (Or.inl ⟨by rfl, ?_⟩) (by assumption) ?_
  rotate_left
  · (intro w hSw; (try dsimp only at hSw); go_simp; try (with_reducible rfl))
  try simp only [Act.put, List.getElem_toArray, List.getElem_cons_zero, List.getElem_cons_succ, List.setIfInBounds_toArray, List.set_cons_zero, List.set_cons_succ]
  refine wpAnyH_take (i := 3) (v := ?_) rfl (by kernel_rfl) (by kernel_rfl) (by kernel_rfl) (fun _ _ _ h => h) (Or.inl ⟨by rfl, ?_⟩) (by assumption) ?_
  rotate_left
  · (intro w hSw; (try dsimp only at hSw); (obtain ⟨z0, z1, z2⟩ := hSw); go_simp; try (with_reducible rfl))
  try simp only [Act.put, List.getElem_toArray, List.getElem_cons_zero, List.getElem_cons_succ, List.setIfInBounds_toArray, List.set_cons_zero, List.set_cons_succ]
  refine wpAnyH_take (i := 4) (v := ?_) rfl (by kernel_rfl) (by kernel_rfl) (by kernel_rfl) (fun _ _ _ h => h) (Or.inl ⟨by rfl, ?_⟩) (by assumption) ?_
  rotate_left
  · (intro w hSw; (try dsimp only at hSw); go_simp; try (with_reducible rfl))
  try simp only [Act.put, List.getElem_toArray, List.getElem_cons_zero, List.getElem_cons_succ, List.setIfInBounds_toArray, List.set_cons_zero, List.set_cons_succ]
  refine wpAnyH_take (i := 5) (v := ?_) rfl (by kernel_rfl) (by kernel_rfl) (by kernel_rfl) (fun _ _ _ h => h) (Or.inl ⟨by rfl, ?_⟩) (by assumption) ?_
  rotate_left
  · (intro w hSw; (try dsimp only at hSw); go_simp; try (with_reducible rfl))
  try simp only [Act.put, List.getElem_toArray, List.getElem_cons_zero, List.getElem_cons_succ, List.setIfInBounds_toArray, List.set_cons_zero, List.set_cons_succ]
  refine wpAnyH_take (i := 6) (v := ?_) rfl (by kernel_rfl) (by kernel_rfl) (by kernel_rfl) (fun _ _ _ h => h) (Or.inl ⟨by rfl, ?_⟩) (by assumption) ?_
  rotate_left
  · (intro w hSw; (try dsimp only at hSw); go_simp; try (with_reducible rfl))
  try simp only [Act.put, List.getElem_toArray, List.getElem_cons_zero, List.getElem_cons_succ, List.setIfInBounds_toArray, List.set_cons_zero, List.set_cons_succ]
  refine wpAnyH_take (i := 7) (v := ?_) rfl (by kernel_rfl) (by kernel_rfl) (by kernel_rfl) (fun _ _ _ h => h) (Or.inl ⟨by rfl, ?_⟩) (by assumption) ?_
  rotate_left
  · (intro w hSw; (try dsimp only at hSw); (obtain ⟨z0, z1, z2⟩ := hSw); go_simp; try (with_reducible rfl))
  try simp only [Act.put, List.getElem_toArray, List.getElem_cons_zero, List.getElem_cons_succ, List.setIfInBounds_toArray, List.set_cons_zero, List.set_cons_succ]
  refine wpAnyH_ready (rs := [8]) (by kernel_rfl) (by simp) ?_
  refine (AllReadyH.cons rfl (fun K hK => ?_) AllReadyH.nil)
  · have cc : Hid (Calls Tryz.prog 83 #[.agg #[.int .i64 s.nv, .slice fa nf fc], .slice aa na ac] W0.drew (ExPost W0.drew (.int .i8 R))) := by have := evalFM_any W0.drew s.nv fa fc s.F aa ac s.A (HOf.out.keep (HEXW0.out.drew)) (HOa.out.keep (HEXW0.out.drew) (fun _ _ _ z => z)) (by have := HOK.out.F.len; have := HZ.out; omega) (by have := HOK.out.A.len; have := HZ.out; omega) (HOK.out.F.fb (by have := HZ.out; omega)); rw [HNf.out, HNa.out, HR.out] at this; exact this
    refine step_call rfl 83 #[.agg #[.int .i64 s.nv, .slice fa nf fc], .slice aa na ac] (by simp [go_sem]) cc.out ?_
    rintro e w1 ⟨rfl, hx⟩
    clear cc
    have HC1 := hide (HC0.out.lowE hx)
    have KS1 : Hid ((fun w' => w'.cell? ⟨m, 0, none⟩ = some (.int .i64 s.nv) ∧ w'.cell? ⟨m, 1, none⟩ = some (.slice fa nf fc) ∧ w'.cell? ⟨m, 2, none⟩ = some (.slice aa na ac)) w1) := ⟨HC1.out.mn.c0, HC1.out.vf HVf.out, HC1.out.va HVa.out⟩
    have HC2 := hide (HC1.out.on (R))
    have KS2 : Hid ((fun w' => w'.cell? ⟨m, 0, none⟩ = some (.int .i64 s.nv) ∧ w'.cell? ⟨m, 1, none⟩ = some (.slice fa nf fc) ∧ w'.cell? ⟨m, 2, none⟩ = some (.slice aa na ac)) (w1.setCell ⟨o, 3, none⟩ (.int .i64 (R)))) := ⟨HC2.out.mn.c0, HC2.out.vf HVf.out, HC2.out.va HVa.out⟩
    have o3 := HC1.out.sc.o3
    have hof := HC1.out.sc.of
    have HX1 : Hid (Ex (fun _ => False) W0 w1) := ((Ex.refl (fun _ => False) W0).drew).trans hx
    refine ⟨_, rfl, ?_⟩
    refine hK.out _ _ ?_ (fun hHeld => ?_)
    · (first | with_reducible exact KS0.out | with_reducible exact KS1.out | with_reducible exact KS2.out)
    clear hK K
    try simp only [Act.put, List.getElem_toArray, List.getElem_cons_zero, List.getElem_cons_succ, List.setIfInBounds_toArray, List.set_cons_zero, List.set_cons_succ]
    refine wpAnyH_take (i := 9) (v := ?_) rfl (by kernel_rfl) (by kernel_rfl) (by kernel_rfl) (fun _ _ _ h => h) (Or.inl ⟨by rfl, ?_⟩) (by assumption) ?_
    rotate_left
    · (intro w hSw; (try dsimp only at hSw); go_simp; try (with_reducible rfl))
    try simp only [Act.put, List.getElem_toArray, List.getElem_cons_zero, List.getElem_cons_succ, List.setIfInBounds_toArray, List.set_cons_zero, List.set_cons_succ]
    refine wpAnyH_take (i := 10) (v := ?_) rfl (by kernel_rfl) (by kernel_rfl) (by kernel_rfl) (fun _ _ _ h => h) (Or.inl ⟨by rfl, ?_⟩) (by assumption) ?_
    rotate_left
    · (intro w hSw; (try dsimp only at hSw); go_simp; try (with_reducible rfl))
    try simp only [Act.put, List.getElem_toArray, List.getElem_cons_zero, List.getElem_cons_succ, List.setIfInBounds_toArray, List.set_cons_zero, List.set_cons_succ]
    refine wpAnyH_ready (rs := [11]) (by kernel_rfl) (by simp) ?_
    refine (AllReadyH.cons rfl (fun K hK => ?_) AllReadyH.nil)
    · go_simp
      refine hK.out _ _ ?_ (fun hHeld => ?_)
      · (first | with_reducible exact KS0.out | with_reducible exact KS1.out | with_reducible exact KS2.out)
      clear hK K
      try simp only [Act.put, List.getElem_toArray, List.getElem_cons_zero, List.getElem_cons_succ, List.setIfInBounds_toArray, List.set_cons_zero, List.set_cons_succ]
      refine wpAnyH_done (by kernel_rfl) ?_ _
      clear KS0 KS1 KS2
      clear HC0 HC1 o3 hof HS0
      generalize w1.setCell ⟨o, 3, none⟩ (.int .i64 (R)) = Wd at *
      clear HOf HOa HEXW0 HX1 hx q0 hx1
      have HOf : Hid (FL Wd fa s.F) := by obtain ⟨a', c', hv, hl, _⟩ := HC2.out.f; rw [HVf.out] at hv; injection hv with hv _ _; rw [hv]; exact hl
      have HOa : Hid (IL Wd aa s.A) := by obtain ⟨a', c', hv, hl, _⟩ := HC2.out.a; rw [HVa.out] at hv; injection hv with hv _ _; rw [hv]; exact hl
      have HEXWd : Hid (Ex (fun _ => False) Wd Wd) := Ex.refl _ _
      obtain ⟨Q, hQ⟩ : ∃ x : Int, (if R = 1 then 1 else 0) = x := ⟨_, rfl⟩
      have HQ := hide hQ
      clear hQ
      have HD := HC2
      clear HC2
      go_upto_region 62 with fail
      have HC0 := hide (HD.out.low ((Below.refl _ _).drew))
      have KS0 : Hid ((fun w' => w'.cell? ⟨m, 0, none⟩ = some (.int .i64 s.nv) ∧ w'.cell? ⟨m, 1, none⟩ = some (.slice fa nf fc) ∧ w'.cell? ⟨m, 2, none⟩ = some (.slice aa na ac)) Wd.drew) := ⟨HC0.out.mn.c0, HC0.out.vf HVf.out, HC0.out.va HVa.out⟩
      refine wp_region_held_drew (S := fun w' => w'.cell? ⟨m, 0, none⟩ = some (.int .i64 s.nv) ∧ w'.cell? ⟨m, 1, none⟩ = some (.slice fa nf fc) ∧ w'.cell? ⟨m, 2, none⟩ = some (.slice aa na ac)) (by kernel_rfl) KS0.out (fun hHeld => ?_)
      refine wpAnyH_take (i := 0) (v := ?_) rfl (by kernel_rfl) (by kernel_rfl) (by kernel_rfl) (fun _ _ _ h => h) (Or.inl ⟨by rfl, ?_⟩) (by assumption) ?_
      rotate_left
      · (intro w hSw; (try dsimp only at hSw); go_simp; try (with_reducible rfl))
      try simp only [Act.put, List.getElem_toArray, List.getElem_cons_zero, List.getElem_cons_succ, List.setIfInBounds_toArray, List.set_cons_zero, List.set_cons_succ]
      refine wpAnyH_take (i := 1) (v := ?_) rfl (by kernel_rfl) (by kernel_rfl) (by kernel_rfl) (fun _ _ _ h => h) (Or.inl ⟨by rfl, ?_⟩) (by assumption) ?_
      rotate_left
      · (intro w hSw; (try dsimp only at hSw); go_simp; try (with_reducible rfl))
      try simp only [Act.put, List.getElem_toArray, List.getElem_cons_zero, List.getElem_cons_succ, List.setIfInBounds_toArray, List.set_cons_zero, List.set_cons_succ]
      refine wpAnyH_take (i := 2) (v := ?_) rfl (by kernel_rfl) (by kernel_rfl) (by kernel_rfl) (fun _ _ _ h => h) (Or.inl ⟨by rfl, ?_⟩) (by assumption) ?_
      rotate_left
      · (intro w hSw; (try dsimp only at hSw); go_simp; try (with_reducible rfl))
      try simp only [Act.put, List.getElem_toArray, List.getElem_cons_zero, List.getElem_cons_succ, List.setIfInBounds_toArray, List.set_cons_zero, List.set_cons_succ]
      refine wpAnyH_take (i := 3) (v := ?_) rfl (by kernel_rfl) (by kernel_rfl) (by kernel_rfl) (fun _ _ _ h => h) (Or.inl ⟨by rfl, ?_⟩) (by assumption) ?_
      rotate_left
      · (intro w hSw; (try dsimp only at hSw); (obtain ⟨z0, z1, z2⟩ := hSw); go_simp; try (with_reducible rfl))
      try simp only [Act.put, List.getElem_toArray, List.getElem_cons_zero, List.getElem_cons_succ, List.setIfInBounds_toArray, List.set_cons_zero, List.set_cons_succ]
      refine wpAnyH_take (i := 4) (v := ?_) rfl (by kernel_rfl) (by kernel_rfl) (by kernel_rfl) (fun _ _ _ h => h) (Or.inl ⟨by rfl, ?_⟩) (by assumption) ?_
      rotate_left
      · (intro w hSw; (try dsimp only at hSw); go_simp; try (with_reducible rfl))
      try simp only [Act.put, List.getElem_toArray, List.getElem_cons_zero, List.getElem_cons_succ, List.setIfInBounds_toArray, List.set_cons_zero, List.set_cons_succ]
      refine wpAnyH_take (i := 5) (v := ?_) rfl (by kernel_rfl) (by kernel_rfl) (by kernel_rfl) (fun _ _ _ h => h) (Or.inl ⟨by rfl, ?_⟩) (by assumption) ?_
      rotate_left
      · (intro w hSw; (try dsimp only at hSw); go_simp; try (with_reducible rfl))
      try simp only [Act.put, List.getElem_toArray, List.getElem_cons_zero, List.getElem_cons_succ, List.setIfInBounds_toArray, List.set_cons_zero, List.set_cons_succ]
      refine wpAnyH_take (i := 6) (v := ?_) rfl (by kernel_rfl) (by kernel_rfl) (by kernel_rfl) (fun _ _ _ h => h) (Or.inl ⟨by rfl, ?_⟩) (by assumption) ?_
      rotate_left
      · (intro w hSw; (try dsimp only at hSw); go_simp; try (with_reducible rfl))
      try simp only [Act.put, List.getElem_toArray, List.getElem_cons_zero, List.getElem_cons_succ, List.setIfInBounds_toArray, List.set_cons_zero, List.set_cons_succ]
      refine wpAnyH_take (i := 7) (v := ?_) rfl (by kernel_rfl) (by kernel_rfl) (by kernel_rfl) (fun _ _ _ h => h) (Or.inl ⟨by rfl, ?_⟩) (by assumption) ?_
      rotate_left
      · (intro w hSw; (try dsimp only at hSw); (obtain ⟨z0, z1, z2⟩ := hSw); go_simp; try (with_reducible rfl))
      try simp only [Act.put, List.getElem_toArray, List.getElem_cons_zero, List.getElem_cons_succ, List.setIfInBounds_toArray, List.set_cons_zero, List.set_cons_succ]
      refine wpAnyH_ready (rs := [8]) (by kernel_rfl) (by simp) ?_
      refine (AllReadyH.cons rfl (fun K hK => ?_) AllReadyH.nil)
      · have cc : Hid (Calls Tryz.prog 83 #[.agg #[.int .i64 s.nv, .slice fa nf fc], .slice aa na ac] Wd.drew (ExPost Wd.drew (.int .i8 R))) := by have := evalFM_any Wd.drew s.nv fa fc s.F aa ac s.A (HOf.out.keep (HEXWd.out.drew)) (HOa.out.keep (HEXWd.out.drew) (fun _ _ _ z => z)) (by have := HOK.out.F.len; have := HZ.out; omega) (by have := HOK.out.A.len; have := HZ.out; omega) (HOK.out.F.fb (by have := HZ.out; omega)); rw [HNf.out, HNa.out, HR.out] at this; exact this
        refine step_call rfl 83 #[.agg #[.int .i64 s.nv, .slice fa nf fc], .slice aa na ac] (by simp [go_sem]) cc.out ?_
        rintro e w1 ⟨rfl, hx⟩
        clear cc
        have HC1 := hide (HC0.out.lowE hx)
        have KS1 : Hid ((fun w' => w'.cell? ⟨m, 0, none⟩ = some (.int .i64 s.nv) ∧ w'.cell? ⟨m, 1, none⟩ = some (.slice fa nf fc) ∧ w'.cell? ⟨m, 2, none⟩ = some (.slice aa na ac)) w1) := ⟨HC1.out.mn.c0, HC1.out.vf HVf.out, HC1.out.va HVa.out⟩
        refine ⟨_, rfl, ?_⟩
        refine hK.out _ _ ?_ (fun hHeld => ?_)
        · (first | with_reducible exact KS0.out | with_reducible exact KS1.out | with_reducible exact KS2.out)
        clear hK K
        try simp only [Act.put, List.getElem_toArray, List.getElem_cons_zero, List.getElem_cons_succ, List.setIfInBounds_toArray, List.set_cons_zero, List.set_cons_succ]
        refine wpAnyH_take (i := 9) (v := ?_) rfl (by kernel_rfl) (by kernel_rfl) (by kernel_rfl) (fun _ _ _ h => h) (Or.inl ⟨by rfl, ?_⟩) (by assumption) ?_
        rotate_left
        · (intro w hSw; (try dsimp only at hSw); go_simp; try (with_reducible rfl))
        try simp only [Act.put, List.getElem_toArray, List.getElem_cons_zero, List.getElem_cons_succ, List.setIfInBounds_toArray, List.set_cons_zero, List.set_cons_succ]
        refine wpAnyH_ready (rs := [10]) (by kernel_rfl) (by simp) ?_
        refine (AllReadyH.cons rfl (fun K hK => ?_) AllReadyH.nil)
        · have cc : Hid (Calls Tryz.prog 44 #[.bool (R == 1)] w1 fun e w' => e = .returned (.int .i64 Q) ∧ w' = w1) := by
            have := truth_any w1 (R == 1)
            have e : (if (R == 1) = true then (1 : Int) else 0) = Q := (by rw [← HQ.out]; simp)
            rw [e] at this
            exact this
          refine step_call rfl 44 #[.bool (R == 1)] (by simp [go_sem]) cc.out ?_
          rintro e w3 ⟨rfl, hw⟩
          rw [hw]
          clear cc hw w3
          have HC2 := hide (HC1.out.om (Q))
          have KS2 : Hid ((fun w' => w'.cell? ⟨m, 0, none⟩ = some (.int .i64 s.nv) ∧ w'.cell? ⟨m, 1, none⟩ = some (.slice fa nf fc) ∧ w'.cell? ⟨m, 2, none⟩ = some (.slice aa na ac)) (w1.setCell ⟨o, 4, none⟩ (.int .i64 (Q)))) := ⟨HC2.out.mn.c0, HC2.out.vf HVf.out, HC2.out.va HVa.out⟩
          have o4 := HC1.out.sc.o4
          have hof := HC1.out.sc.of
          refine ⟨_, rfl, ?_⟩
          refine hK.out _ _ ?_ (fun hHeld => ?_)
          · (first | with_reducible exact KS0.out | with_reducible exact KS1.out | with_reducible exact KS2.out)
          clear hK K
          try simp only [Act.put, List.getElem_toArray, List.getElem_cons_zero, List.getElem_cons_succ, List.setIfInBounds_toArray, List.set_cons_zero, List.set_cons_succ]
          refine wpAnyH_take (i := 11) (v := ?_) rfl (by kernel_rfl) (by kernel_rfl) (by kernel_rfl) (fun _ _ _ h => h) (Or.inl ⟨by rfl, ?_⟩) (by assumption) ?_
          rotate_left
          · (intro w hSw; (try dsimp only at hSw); go_simp; try (with_reducible rfl))
          try simp only [Act.put, List.getElem_toArray, List.getElem_cons_zero, List.getElem_cons_succ, List.setIfInBounds_toArray, List.set_cons_zero, List.set_cons_succ]
          refine wpAnyH_ready (rs := [12]) (by kernel_rfl) (by simp) ?_
          refine (AllReadyH.cons rfl (fun K hK => ?_) AllReadyH.nil)
          · go_simp
            refine hK.out _ _ ?_ (fun hHeld => ?_)
            · (first | with_reducible exact KS0.out | with_reducible exact KS1.out | with_reducible exact KS2.out)
            clear hK K
            try simp only [Act.put, List.getElem_toArray, List.getElem_cons_zero, List.getElem_cons_succ, List.setIfInBounds_toArray, List.set_cons_zero, List.set_cons_succ]
            refine wpAnyH_done (by kernel_rfl) ?_ _
            clear KS0 KS1 KS2
            clear HC0 HC1 o4 hof HD hx
            generalize w1.setCell ⟨o, 4, none⟩ (.int .i64 (Q)) = We at *
            obtain ⟨bo, hbo⟩ : ∃ x : Ob, ({ ({ (ob0 : Ob) with n := R } : Ob) with m := Q }) = x := ⟨_, rfl⟩
            have HSQ : Hid (s = s) := rfl
            have HBQ : Hid (b' = bo) := by show _ = _; rw [← hbo]; exact (by rw [← HBE.out, HR.out, HQ.out] <;> rfl)
            rw [hbo] at HC2
            clear hbo HSE HBE
            have o0 := HC2.out.sc.o0
            have o1 := HC2.out.sc.o1
            have o2 := HC2.out.sc.o2
            have o3 := HC2.out.sc.o3
            have o4 := HC2.out.sc.o4
            have o5 := HC2.out.sc.o5
            have t0 := HC2.out.sc.t0
            have t1 := HC2.out.sc.t1
            have t2 := HC2.out.sc.t2
            have t3 := HC2.out.sc.t3
            have t4 := HC2.out.sc.t4
            have t5 := HC2.out.sc.t5
            have htf := HC2.out.sc.tf
            have hot : o ≠ t := fun z => HC2.out.ne.2.2.1 z.symm
            have HF := hide HC2.out.fin
            have HC := hide (fin_cells HC2.out.sc)
            clear HC2
            go_wp2_with (with_reducible refine bodyPost_ret (v := ?v) ?hr ?hd ?hp)
            case v => exact obV bo (.slice none 0 0)
            case hr =>
              change (results _ _).run _ (fin6 We t bo (.slice none 0 0)) = .ok _ (fin6 We t bo (.slice none 0 0))
              obtain ⟨y0, y1, y2, y3, y4, y5⟩ := HC.out
              clear HF HC
              generalize fin6 We t bo (.slice none 0 0) = WF at *
              simp [results, Tryz.results10, go_sem, y0, y1, y2, y3, y4, y5, obV]
            case hd => rfl
            case hp => rw [HBQ.out]; exact HF.out
set_option linter.unusedSimpArgs false in
set_option maxRecDepth 100000 in
set_option maxHeartbeats 32000000 in
/-- cnflaw.modelBench.step: OpFirstFalsified -/
theorem mstep_11 (w : World) (B m z : Nat) (X : Nat → Prop) (V : Nat → Value) (S : Nat → Nat → Prop) (s : Mst) (h : MN w B m X V S (QM B s) s.nv s.sv) (hB : B ≤ w.heap.size) (hX : ∀ k, X k → k < w.heap.size) (hok : MsOk z s) (hz : z ≤ 65536) (v : OpV) (hk : v.kd = 11) (ha : -9223372036854775808 ≤ v.a ∧ v.a ≤ 9223372036854775807) :
    Calls Tryz.prog 10 #[.pointer (some ⟨m, 0, none⟩), opZ v] w (MpPost w (fp m S) B m X (s) ({ ob0 with n := mffP s.A s.F 0 })) := by
  have HS0 := hide (mw_new v h hB hX)
  have HRB : Hid (∀ k, fp m S k → B ≤ k) := fun k z => z.elim (fun z => by rw [z]; exact h.mB) (fun ⟨i, hi, y⟩ => (h.rg i hi k y).1)
  unfold opZ
  have HOK := hide hok
  have HZ := hide hz
  have hs' : s = s := rfl
  obtain ⟨b', hb'⟩ : ∃ x : Ob, ({ ob0 with n := mffP s.A s.F 0 }) = x := ⟨_, rfl⟩
  rw [hb']
  obtain ⟨kd, va, la, ln, lc, VX, ta, tn, tc, VT⟩ := v
  dsimp only at hk HS0 ha hs' hb' ⊢
  subst hk
  have HSE := hide hs'
  have HBE := hide hb'
  clear h hok hz hB hX hs' hb'
  generalize fp m S = R at *
  go_enter Tryz.func10, Tryz.ntmps10
  go_upto_region 2 with fail
  generalize (((w.alloc (.cells #[.int .i64 11, .int .i64 va, .slice la ln lc, .slice ta tn tc] 37)).alloc (.cells #[.int .i64 0, .int .i64 0, .int .i64 0, .int .i64 0, .int .i64 0, .slice none 0 0] 43)).alloc (.cells #[.int .i64 0, .int .i64 0, .int .i64 0, .int .i64 0, .int .i64 0, .slice none 0 0] 43)) = W0 at *
  generalize w.heap.size + 1 + 1 = o at *
  generalize w.heap.size + 1 = t at *
  generalize w.heap.size = q at *
  have q0 : W0.cell? ⟨q, 0, none⟩ = some (.int .i64 11) := HS0.out.sc.q0
  obtain ⟨fa, fc, hvf, hlf, hcf, hmf⟩ := HS0.out.f
  obtain ⟨nf, hnf⟩ : ∃ z, s.F.length = z := ⟨_, rfl⟩
  rw [hnf] at hvf hcf
  have HVf := hide hvf
  have HOf := hide hlf
  have HNf := hide hnf
  have HCf := hide (And.intro hcf hmf)
  clear hvf hlf hcf hmf hnf
  obtain ⟨aa, ac, hva, hla, hca, hma⟩ := HS0.out.a
  obtain ⟨na, hna⟩ : ∃ z, s.A.length = z := ⟨_, rfl⟩
  rw [hna] at hva hca
  have HVa := hide hva
  have HOa := hide hla
  have HNa := hide hna
  have HCa := hide (And.intro hca hma)
  clear hva hla hca hma hna
  go_upto_region 64 with fail
  have HC0 := hide (HS0.out.low ((Below.refl _ _).drew))
  have KS0 : Hid ((fun w' => w'.cell? ⟨m, 0, none⟩ = some (.int .i64 s.nv) ∧ w'.cell? ⟨m, 1, none⟩ = some (.slice fa nf fc) ∧ w'.cell? ⟨m, 2, none⟩ = some (.slice aa na ac)) W0.drew) := ⟨HC0.out.mn.c0, HC0.out.vf HVf.out, HC0.out.va HVa.out⟩
  refine wp_region_held_drew (S := fun w' => w'.cell? ⟨m, 0, none⟩ = some (.int .i64 s.nv) ∧ w'.cell? ⟨m, 1, none⟩ = some (.slice fa nf fc) ∧ w'.cell? ⟨m, 2, none⟩ = some (.slice aa na ac)) (by kernel_rfl) KS0.out (fun hHeld => ?_)
  refine wpAnyH_take (i := 0) (v := ?_) rfl (by kernel_rfl) (by kernel_rfl) (by kernel_rfl) (fun _ _ _ h => h) (Or.inl ⟨by rfl, ?_⟩) (by assumption) ?_
  rotate_left
  · (intro w hSw; (try dsimp only at hSw); go_simp; try (with_reducible rfl))
  try simp only [Act.put, List.getElem_toArray, List.getElem_cons_zero, List.getElem_cons_succ, List.setIfInBounds_toArray, List.set_cons_zero, List.set_cons_succ]
  refine wpAnyH_take (i := 1) (v := ?_) rfl (by kernel_rfl) (by kernel_rfl) (by kernel_rfl) (fun _ _ _ h => h) (Or.inl ⟨by rfl, ?_⟩) (by assumption) ?_
  rotate_left
  · (intro w hSw; (try dsimp only at hSw); go_simp; try (with_reducible rfl))
  try simp only [Act.put, List.getElem_toArray, List.getElem_cons_zero, List.getElem_cons_succ, List.setIfInBounds_toArray, List.set_cons_zero, List.set_cons_succ]
  refine wpAnyH_take (i := 2) (v := ?_) rfl (by kernel_rfl) (by kernel_rfl) (by kernel_rfl) (fun _ _ _ h => h) (Or.inl ⟨by rfl, ?_⟩) (by assumption) ?_
  rotate_left
  · (intro w hSw; (try dsimp only at hSw); go_simp; try (with_reducible rfl))
  try simp only [Act.put, List.getElem_toArray, List.getElem_cons_zero, List.getElem_cons_succ, List.setIfInBounds_toArray, List.set_cons_zero, List.set_cons_succ]
  refine wpAnyH_take (i := 3) (v := ?_) rfl (by kernel_rfl) (by kernel_rfl) (by kernel_rfl) (fun _ _ _ h => h) (Or.inl ⟨by rfl, ?_⟩) (by assumption) ?_
  rotate_left
  · (intro w hSw; (try dsimp only at hSw); (obtain ⟨z0, z1, z2⟩ := hSw); go_simp; try (with_reducible rfl))
  try simp only [Act.put, List.getElem_toArray, List.getElem_cons_zero, List.getElem_cons_succ, List.setIfInBounds_toArray, List.set_cons_zero, List.set_cons_succ]
  refine wpAnyH_take (i := 4) (v := ?_) rfl (by kernel_rfl) (by kernel_rfl) (by kernel_rfl) (fun _ _ _ h => h) (Or.inl ⟨by rfl, ?_⟩) (by assumption) ?_
  rotate_left
  · (intro w hSw; (try dsimp only at hSw); go_simp; try (with_reducible rfl))
  try simp only [Act.put, List.getElem_toArray, List.getElem_cons_zero, List.getElem_cons_succ, List.setIfInBounds_toArray, List.set_cons_zero, List.set_cons_succ]
  refine wpAnyH_take (i := 5) (v := ?_) rfl (by kernel_rfl) (by kernel_rfl) (by kernel_rfl) (fun _ _ _ h => h) (Or.inl ⟨by rfl, ?_⟩) (by assumption) ?_
  rotate_left
  · (intro w hSw; (try dsimp only at hSw); go_simp; try (with_reducible rfl))
  try simp only [Act.put, List.getElem_toArray, List.getElem_cons_zero, List.getElem_cons_succ, List.setIfInBounds_toArray, List.set_cons_zero, List.set_cons_succ]
  refine wpAnyH_take (i := 6) (v := ?_) rfl (by kernel_rfl) (by kernel_rfl) (by kernel_rfl) (fun _ _ _ h => h) (Or.inl ⟨by rfl, ?_⟩) (by assumption) ?_
  rotate_left
  · (intro w hSw; (try dsimp only at hSw); go_simp; try (with_reducible rfl))
  try simp only [Act.put, List.getElem_toArray, List.getElem_cons_zero, List.getElem_cons_succ, List.setIfInBounds_toArray, List.set_cons_zero, List.set_cons_succ]
  refine wpAnyH_take (i := 7) (v := ?_) rfl (by kernel_rfl) (by kernel_rfl) (by kernel_rfl) (fun _ _ _ h => h) (Or.inl ⟨by rfl, ?_⟩) (by assumption) ?_
  rotate_left
  · (intro w hSw; (try dsimp only at hSw); (obtain ⟨z0, z1, z2⟩ := hSw); go_simp; try (with_reducible rfl))
  try simp only [Act.put, List.getElem_toArray, List.getElem_cons_zero, List.getElem_cons_succ, List.setIfInBounds_toArray, List.set_cons_zero, List.set_cons_succ]
  refine wpAnyH_ready (rs := [8]) (by kernel_rfl) (by simp) ?_
  refine (AllReadyH.cons rfl (fun K hK => ?_) AllReadyH.nil)
  · have cc : Hid (Calls Tryz.prog 84 #[.agg #[.int .i64 s.nv, .slice fa nf fc], .slice aa na ac] W0.drew (ExPost W0.drew (.int .i64 (mffP s.A s.F 0)))) := by have := firstFalsM_any W0.drew s.nv fa fc s.F aa ac s.A (HOf.out.keep (Ex.refl _ _).drew) (HOa.out.keep (Ex.refl (fun _ => False) _).drew (fun _ _ _ z => z)) (by have := HOK.out.F.len; have := HZ.out; omega) (by have := HOK.out.A.len; have := HZ.out; omega) (HOK.out.F.fb (by have := HZ.out; omega)); rw [HNf.out, HNa.out] at this; exact this
    refine step_call rfl 84 #[.agg #[.int .i64 s.nv, .slice fa nf fc], .slice aa na ac] (by simp [go_sem]) cc.out ?_
    rintro e w1 ⟨rfl, hx⟩
    clear cc
    have HC1 := hide (HC0.out.lowE hx)
    have KS1 : Hid ((fun w' => w'.cell? ⟨m, 0, none⟩ = some (.int .i64 s.nv) ∧ w'.cell? ⟨m, 1, none⟩ = some (.slice fa nf fc) ∧ w'.cell? ⟨m, 2, none⟩ = some (.slice aa na ac)) w1) := ⟨HC1.out.mn.c0, HC1.out.vf HVf.out, HC1.out.va HVa.out⟩
    have HC2 := hide (HC1.out.on (mffP s.A s.F 0))
    have KS2 : Hid ((fun w' => w'.cell? ⟨m, 0, none⟩ = some (.int .i64 s.nv) ∧ w'.cell? ⟨m, 1, none⟩ = some (.slice fa nf fc) ∧ w'.cell? ⟨m, 2, none⟩ = some (.slice aa na ac)) (w1.setCell ⟨o, 3, none⟩ (.int .i64 (mffP s.A s.F 0)))) := ⟨HC2.out.mn.c0, HC2.out.vf HVf.out, HC2.out.va HVa.out⟩
    have o3 := HC1.out.sc.o3
    have hof := HC1.out.sc.of
    refine ⟨_, rfl, ?_⟩
    refine hK.out _ _ ?_ (fun hHeld => ?_)
    · (first | with_reducible exact KS0.out | with_reducible exact KS1.out | with_reducible exact KS2.out)
    clear hK K
    try simp only [Act.put, List.getElem_toArray, List.getElem_cons_zero, List.getElem_cons_succ, List.setIfInBounds_toArray, List.set_cons_zero, List.set_cons_succ]
    refine wpAnyH_take (i := 9) (v := ?_) rfl (by kernel_rfl) (by kernel_rfl) (by kernel_rfl) (fun _ _ _ h => h) (Or.inl ⟨by rfl, ?_⟩) (by assumption) ?_
    rotate_left
    · (intro w hSw; (try dsimp only at hSw); go_simp; try (with_reducible rfl))
    try simp only [Act.put, List.getElem_toArray, List.getElem_cons_zero, List.getElem_cons_succ, List.setIfInBounds_toArray, List.set_cons_zero, List.set_cons_succ]
    refine wpAnyH_ready (rs := [10]) (by kernel_rfl) (by simp) ?_
    refine (AllReadyH.cons rfl (fun K hK => ?_) AllReadyH.nil)
    · go_simp
      refine hK.out _ _ ?_ (fun hHeld => ?_)
      · (first | with_reducible exact KS0.out | with_reducible exact KS1.out | with_reducible exact KS2.out)
      clear hK K
      try simp only [Act.put, List.getElem_toArray, List.getElem_cons_zero, List.getElem_cons_succ, List.setIfInBounds_toArray, List.set_cons_zero, List.set_cons_succ]
      refine wpAnyH_done (by kernel_rfl) ?_ _
      clear KS0 KS1 KS2
      clear HC0 HC1 o3 hof HS0
      generalize w1.setCell ⟨o, 3, none⟩ (.int .i64 (mffP s.A s.F 0)) = Wd at *
      clear q0
      obtain ⟨bo, hbo⟩ : ∃ x : Ob, ({ (ob0 : Ob) with n := mffP s.A s.F 0 }) = x := ⟨_, rfl⟩
      have HSQ : Hid (s = s) := rfl
      have HBQ : Hid (b' = bo) := by show _ = _; rw [← hbo]; exact HBE.out.symm
      rw [hbo] at HC2
      clear hbo HSE HBE
      have o0 := HC2.out.sc.o0
      have o1 := HC2.out.sc.o1
      have o2 := HC2.out.sc.o2
      have o3 := HC2.out.sc.o3
      have o4 := HC2.out.sc.o4
      have o5 := HC2.out.sc.o5
      have t0 := HC2.out.sc.t0
      have t1 := HC2.out.sc.t1
      have t2 := HC2.out.sc.t2
      have t3 := HC2.out.sc.t3
      have t4 := HC2.out.sc.t4
      have t5 := HC2.out.sc.t5
      have htf := HC2.out.sc.tf
      have hot : o ≠ t := fun z => HC2.out.ne.2.2.1 z.symm
      have HF := hide HC2.out.fin
      have HC := hide (fin_cells HC2.out.sc)
      clear HC2
      go_wp2_with (with_reducible refine bodyPost_ret (v := ?v) ?hr ?hd ?hp)
      case v => exact obV bo (.slice none 0 0)
      case hr =>
        change (results _ _).run _ (fin6 Wd t bo (.slice none 0 0)) = .ok _ (fin6 Wd t bo (.slice none 0 0))
        obtain ⟨y0, y1, y2, y3, y4, y5⟩ := HC.out
        clear HF HC
        generalize fin6 Wd t bo (.slice none 0 0) = WF at *
        simp [results, Tryz.results10, go_sem, y0, y1, y2, y3, y4, y5, obV]
      case hd => rfl
      case hp => rw [HBQ.out]; exact HF.out
set_option linter.unusedSimpArgs false in
set_option maxRecDepth 100000 in
set_option maxHeartbeats 32000000 in
/-- cnflaw.modelBench.step: OpTrueLits -/
theorem mstep_13 (w : World) (B m z : Nat) (X : Nat → Prop) (V : Nat → Value) (S : Nat → Nat → Prop) (s : Mst) (h : MN w B m X V S (QM B s) s.nv s.sv) (hB : B ≤ w.heap.size) (hX : ∀ k, X k → k < w.heap.size) (hok : MsOk z s) (hz : z ≤ 65536) (v : OpV) (hk : v.kd = 13) (ha : -9223372036854775808 ≤ v.a ∧ v.a ≤ 9223372036854775807) :
    Calls Tryz.prog 10 #[.pointer (some ⟨m, 0, none⟩), opZ v] w (MpPost w (fp m S) B m X (s) ({ ob0 with X := pcP (srP s.A) })) := by
  have HS0 := hide (mw_new v h hB hX)
  have HRB : Hid (∀ k, fp m S k → B ≤ k) := fun k z => z.elim (fun z => by rw [z]; exact h.mB) (fun ⟨i, hi, y⟩ => (h.rg i hi k y).1)
  unfold opZ
  have HOK := hide hok
  have HZ := hide hz
  have hs' : s = s := rfl
  obtain ⟨b', hb'⟩ : ∃ x : Ob, ({ ob0 with X := pcP (srP s.A) }) = x := ⟨_, rfl⟩
  rw [hb']
  obtain ⟨kd, va, la, ln, lc, VX, ta, tn, tc, VT⟩ := v
  dsimp only at hk HS0 ha hs' hb' ⊢
  subst hk
  have HSE := hide hs'
  have HBE := hide hb'
  clear h hok hz hB hX hs' hb'
  generalize fp m S = R at *
  go_enter Tryz.func10, Tryz.ntmps10
  go_upto_region 2 with fail
  generalize (((w.alloc (.cells #[.int .i64 13, .int .i64 va, .slice la ln lc, .slice ta tn tc] 37)).alloc (.cells #[.int .i64 0, .int .i64 0, .int .i64 0, .int .i64 0, .int .i64 0, .slice none 0 0] 43)).alloc (.cells #[.int .i64 0, .int .i64 0, .int .i64 0, .int .i64 0, .int .i64 0, .slice none 0 0] 43)) = W0 at *
  generalize w.heap.size + 1 + 1 = o at *
  generalize w.heap.size + 1 = t at *
  generalize w.heap.size = q at *
  have q0 : W0.cell? ⟨q, 0, none⟩ = some (.int .i64 13) := HS0.out.sc.q0
  obtain ⟨aa, ac, hva, hla, hca, hma⟩ := HS0.out.a
  obtain ⟨na, hna⟩ : ∃ z, s.A.length = z := ⟨_, rfl⟩
  rw [hna] at hva hca
  have HVa := hide hva
  have HOa := hide hla
  have HNa := hide hna
  have HCa := hide (And.intro hca hma)
  clear hva hla hca hma hna
  have HSR : Hid (∀ x ∈ srP s.A, I64 x) := fun x hx => di_64 (HOK.out.A.mem x (by have := srP_mem s.A s.A.length x; rw [List.take_length] at this; exact this hx)).1
  have HSL : Hid ((srP s.A).length ≤ 1000000000) := by have := srP_len s.A s.A.length; rw [List.take_length] at this; have := HOK.out.A.len; have := HZ.out; show _ ≤ _; omega
  have c87 : Hid (Calls Tryz.prog 87 #[.slice aa na ac] W0 (MlPost W0 (srP s.A))) := by have := sortedM_any W0 aa ac s.A HOa.out (by have := HOK.out.A.len; have := HZ.out; omega) HOK.out.A.i64; rw [HNa.out] at this; exact this
  have va := (HS0.out.va HVa.out)
  go_upto_region 71 with fail
  go_wp2_with fail
  refine c87.out.mono ?_
  rintro e wz ⟨a2, c2, rfl, hr2, hx2⟩
  clear c87 va q0
  have HS1 := hide (HS0.out.lowE hx2)
  have c86 := hide (printClauseM_any wz a2 c2 (srP s.A) (row_il hr2) HSL.out HSR.out)
  clear HS0 hr2 hx2
  generalize hwz : wz = W1 at *
  clear hwz wz
  go_wp2_with fail
  refine c86.out.mono ?_
  rintro e w2 ⟨a5, c5, rfl, hr5, hx5⟩
  clear c86
  have HS2 := hide (HS1.out.lowE hx5)
  have HS3 := hide (HS1.out.tx2 HS2.out hr5)
  have o5 := HS2.out.sc.o5
  have hof := HS2.out.sc.of
  clear HS1 HS2 hr5 hx5
  go_upto_region 151 with fail
  generalize w2.setCell ⟨o, 5, none⟩ (.slice a5 (pcP (srP s.A)).length c5) = W3 at *
  clear o5 hof
  obtain ⟨bo, hbo⟩ : ∃ x : Ob, ({ (ob0 : Ob) with X := pcP (srP s.A) }) = x := ⟨_, rfl⟩
  have HSQ : Hid (s = s) := rfl
  have HBQ : Hid (b' = bo) := by show _ = _; rw [← hbo]; exact HBE.out.symm
  rw [hbo] at HS3
  clear hbo HSE HBE
  have o0 := HS3.out.sc.o0
  have o1 := HS3.out.sc.o1
  have o2 := HS3.out.sc.o2
  have o3 := HS3.out.sc.o3
  have o4 := HS3.out.sc.o4
  have o5 := HS3.out.sc.o5
  have t0 := HS3.out.sc.t0
  have t1 := HS3.out.sc.t1
  have t2 := HS3.out.sc.t2
  have t3 := HS3.out.sc.t3
  have t4 := HS3.out.sc.t4
  have t5 := HS3.out.sc.t5
  have htf := HS3.out.sc.tf
  have hot : o ≠ t := fun z => HS3.out.ne.2.2.1 z.symm
  have HF := hide HS3.out.fin
  have HC := hide (fin_cells HS3.out.sc)
  clear HS3
  go_wp2_with (with_reducible refine bodyPost_ret (v := ?v) ?hr ?hd ?hp)
  case v => exact obV bo (.slice a5 (pcP (srP s.A)).length c5)
  case hr =>
    change (results _ _).run _ (fin6 W3 t bo (.slice a5 (pcP (srP s.A)).length c5)) = .ok _ (fin6 W3 t bo (.slice a5 (pcP (srP s.A)).length c5))
    obtain ⟨y0, y1, y2, y3, y4, y5⟩ := HC.out
    clear HF HC
    generalize fin6 W3 t bo (.slice a5 (pcP (srP s.A)).length c5) = WF at *
    simp [results, Tryz.results10, go_sem, y0, y1, y2, y3, y4, y5, obV]
  case hd => rfl
  case hp => rw [HBQ.out]; exact HF.out
end Go.Proofs.Qxb6500773aGreat
