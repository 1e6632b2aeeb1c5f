import Derived.Test.Qxb6500773aGreatOz
namespace Go.Proofs.Qxb6500773aGreat
open Go.RowKit

set_option linter.unusedSimpArgs false in
set_option maxRecDepth 100000 in
set_option maxHeartbeats 32000000 in
/-- cnflaw.modelBench.step: OpCompare -/
theorem mstep_22 (w : World) (B m z : Nat) (X : Nat → Prop) (V : Nat → Value) (S : Nat → Nat → Prop) (s : Mst) (h : MN w B m X V S (QM B s) s.nv s.sv) (hB : B ≤ w.heap.size) (hX : ∀ k, X k → k < w.heap.size) (hok : MsOk z s) (hz : z ≤ 65536) (v : OpV) (hk : v.kd = 22) (ha : -9223372036854775808 ≤ v.a ∧ v.a ≤ 9223372036854775807) (L : List Int) (hL : L.length = v.ln) (hIL : ∀ w', Ex (fun k => B ≤ k) w w' → IL w' v.la L) (hln : v.ln ≤ 65536) (hlc : v.ln ≤ v.lc ∧ v.lc ≤ maxLen) :
    Calls Tryz.prog 10 #[.pointer (some ⟨m, 0, none⟩), opZ v] w (MpPost w (fp m S) B m X (s) (if ncE L = 0 then (if (0 ≤ v.a ∧ v.a < s.F.length) then { ob0 with n := cmP L (s.F.getD v.a.toNat []), m := if cmP L (s.F.getD v.a.toNat []) = 0 then 1 else 0 } else { ob0 with er := 4 }) else { ob0 with er := ncE L })) := by
  have HS0 := hide (mw_new v h hB hX)
  have HRB : Hid (∀ k, fp m S k → B ≤ k) := fun k z => z.elim (fun z => by rw [z]; exact h.mB) (fun ⟨i, hi, y⟩ => (h.rg i hi k y).1)
  unfold opZ
  have HOK := hide hok
  have HZ := hide hz
  have hs' : s = s := rfl
  obtain ⟨b', hb'⟩ : ∃ x : Ob, (if ncE L = 0 then (if (0 ≤ v.a ∧ v.a < s.F.length) then { ob0 with n := cmP L (s.F.getD v.a.toNat []), m := if cmP L (s.F.getD v.a.toNat []) = 0 then 1 else 0 } else { ob0 with er := 4 }) else { ob0 with er := ncE L }) = x := ⟨_, rfl⟩
  rw [hb']
  obtain ⟨kd, va, la, ln, lc, VX, ta, tn, tc, VT⟩ := v
  dsimp only at hk HS0 ha hs' hb' ⊢
  subst hk
  have HSE := hide hs'
  have HBE := hide hb'
  dsimp only at hL hIL hln
  have HL := hide hL
  have HIL := hide hIL
  have hlnb := hln
  clear hL hIL hln
  dsimp only at hlc
  have HLX := hide hlc
  clear hlc
  clear h hok hz hB hX hs' hb'
  generalize fp m S = R at *
  go_enter Tryz.func10, Tryz.ntmps10
  go_upto_region 2 with fail
  generalize (((w.alloc (.cells #[.int .i64 22, .int .i64 va, .slice la ln lc, .slice ta tn tc] 37)).alloc (.cells #[.int .i64 0, .int .i64 0, .int .i64 0, .int .i64 0, .int .i64 0, .slice none 0 0] 43)).alloc (.cells #[.int .i64 0, .int .i64 0, .int .i64 0, .int .i64 0, .int .i64 0, .slice none 0 0] 43)) = W0 at *
  generalize w.heap.size + 1 + 1 = o at *
  generalize w.heap.size + 1 = t at *
  generalize w.heap.size = q at *
  have q0 : W0.cell? ⟨q, 0, none⟩ = some (.int .i64 22) := HS0.out.sc.q0
  obtain ⟨fa, fc, hvf, hlf, hcf, hmf⟩ := HS0.out.f
  obtain ⟨nf, hnf⟩ : ∃ z, s.F.length = z := ⟨_, rfl⟩
  rw [hnf] at hvf hcf
  have HVf := hide hvf
  have HOf := hide hlf
  have HNf := hide hnf
  have HCf := hide (And.intro hcf hmf)
  clear hvf hlf hcf hmf hnf
  rw [HNf.out] at HBE
  go_upto_region 111 with fail
  obtain ⟨E, hE⟩ : ∃ x, ncE L = x := ⟨_, rfl⟩
  have HE := hide hE
  clear hE
  have q2 : W0.cell? ⟨q, 2, none⟩ = some (.slice la ln lc) := HS0.out.sc.q2
  have cc : Hid (Calls Tryz.prog 74 #[.slice la ln lc] W0 fun e w' => e = .returned (.int .i64 E) ∧ w' = W0) := by have := checkLits_any W0 la lc L (HIL.out W0 (HS0.out.exB HRB.out)) (by rw [HL.out]; omega); rw [HL.out, HE.out] at this; exact this
  have HDI : Hid (E = 0 → ∀ x ∈ L, DI x ∧ x ≠ 0) := fun z => ncE_di (by rw [HE.out]; exact z)
  go_wp2_with fail
  refine cc.out.mono ?_
  rintro e wz ⟨rfl, hw⟩
  rw [hw]
  clear hw wz
  clear q0 q2 cc
  have o0 := HS0.out.sc.o0
  have hof := HS0.out.sc.of
  go_upto_region 112 with fail
  have HS1 := hide (HS0.out.er (E))
  clear HS0
  generalize W0.setCell ⟨o, 0, none⟩ (.int .i64 (E)) = W1 at *
  clear o0 hof
  by_cases hE : E = 0
  · have HE0 := hide hE
    have HDL := hide (HDI.out hE)
    subst hE
    have oe : W1.cell? ⟨o, 0, none⟩ = some (.int .i64 (0)) := HS1.out.sc.o0
    have q1 : W1.cell? ⟨q, 1, none⟩ = some (.int .i64 va) := HS1.out.sc.q1
    have vf := (HS1.out.vf HVf.out)
    by_cases hin : 0 ≤ va ∧ va < (nf : Int)
    · have HIN := hide hin
      obtain ⟨j, hj⟩ : ∃ j : Nat, va = (j : Int) := ⟨va.toNat, by omega⟩
      subst hj
      have hjn : j < nf := by omega
      have hji : (j : Int) < (nf : Int) := by omega
      have h1 : decide ((j : Int) < 0) = false := decide_eq_false (by omega)
      have h1i : ¬ (j : Int) < 0 := by omega
      have h2 : decide ((nf : Int) ≤ (j : Int)) = false := decide_eq_false (by omega)
      have h2i : ¬ (nf : Int) ≤ (j : Int) := by omega
      obtain ⟨C, hC⟩ : ∃ C, s.F[j]? = some C := ⟨_, List.getElem?_eq_getElem (by rw [HNf.out]; exact hjn)⟩
      have HC := hide hC
      clear hC
      clear hin
      go_upto_region 112 with fail
      go_quiet (fail)
      rename_i nq
      have HS2 := hide (HS1.out.low (belN _ nq))
      clear HS1
      generalize World.drewN W1 nq = W2 at *
      clear oe q1 vf h1 h2 h1i h2i
      have oe : W2.cell? ⟨o, 0, none⟩ = some (.int .i64 (0)) := HS2.out.sc.o0
      obtain ⟨g, a1, c1, eg, x0, hil, hcc, hcm, hgo, -⟩ := HS2.out.elem HVf.out HC.out
      subst eg
      obtain ⟨lc1, hlc1⟩ : ∃ z, C.length = z := ⟨_, rfl⟩
      rw [hlc1] at x0 hcc
      have HLC := hide hlc1
      have HIL1 := hide hil
      have HCC1 := hide (And.intro hcc hcm)
      have HGO := hide hgo
      clear hil hcc hcm hgo hlc1
      have y0 := x0
      obtain ⟨cv, hcv⟩ : ∃ x, cmP L C = x := ⟨_, rfl⟩
      have Hcv := hide hcv
      clear hcv
      go_upto_region 115 with fail
      have HC0 := hide (HS2.out.low ((Below.refl _ _).drew))
      have KS0 : Hid ((fun w' => w'.cell? ⟨q, 2, none⟩ = some (.slice la ln lc) ∧ w'.cell? ⟨m, 1, none⟩ = some (.slice (some ⟨g, 0, none⟩) nf fc) ∧ w'.cell? ⟨q, 1, none⟩ = some (.int .i64 (j : Int)) ∧ w'.cell? ⟨g, j, none⟩ = some (.slice a1 lc1 c1)) W2.drew) := ⟨HC0.out.sc.q2, HC0.out.vf HVf.out, HC0.out.sc.q1, x0⟩
      refine wp_region_held_drew (S := fun w' => w'.cell? ⟨q, 2, none⟩ = some (.slice la ln lc) ∧ w'.cell? ⟨m, 1, none⟩ = some (.slice (some ⟨g, 0, none⟩) nf fc) ∧ w'.cell? ⟨q, 1, none⟩ = some (.int .i64 (j : Int)) ∧ w'.cell? ⟨g, j, none⟩ = some (.slice a1 lc1 c1)) (by kernel_rfl) KS0.out (fun hHeld => ?_)
      refine wpAnyH_take (i := 0) (v := ?_) rfl (by kernel_rfl) (by kernel_rfl) (by kernel_rfl) (fun _ _ _ h => h) (Or.inl ⟨by rfl, ?_⟩) (by assumption) ?_
      rotate_left
      · (intro w hSw; (try dsimp only at hSw); go_simp; try (with_reducible rfl))
      try simp only [Act.put, List.getElem_toArray, List.getElem_cons_zero, List.getElem_cons_succ, List.setIfInBounds_toArray, List.set_cons_zero, List.set_cons_succ]
      refine wpAnyH_take (i := 1) (v := ?_) rfl (by kernel_rfl) (by kernel_rfl) (by kernel_rfl) (fun _ _ _ h => h) (Or.inl ⟨by rfl, ?_⟩) (by assumption) ?_
      rotate_left
      · (intro w hSw; (try dsimp only at hSw); (obtain ⟨z0, z1, z2, z3⟩ := hSw); go_simp; try (with_reducible rfl))
      try simp only [Act.put, List.getElem_toArray, List.getElem_cons_zero, List.getElem_cons_succ, List.setIfInBounds_toArray, List.set_cons_zero, List.set_cons_succ]
      refine wpAnyH_take (i := 2) (v := ?_) rfl (by kernel_rfl) (by kernel_rfl) (by kernel_rfl) (fun _ _ _ h => h) (Or.inl ⟨by rfl, ?_⟩) (by assumption) ?_
      rotate_left
      · (intro w hSw; (try dsimp only at hSw); go_simp; try (with_reducible rfl))
      try simp only [Act.put, List.getElem_toArray, List.getElem_cons_zero, List.getElem_cons_succ, List.setIfInBounds_toArray, List.set_cons_zero, List.set_cons_succ]
      refine wpAnyH_take (i := 3) (v := ?_) rfl (by kernel_rfl) (by kernel_rfl) (by kernel_rfl) (fun _ _ _ h => h) (Or.inl ⟨by rfl, ?_⟩) (by assumption) ?_
      rotate_left
      · (intro w hSw; (try dsimp only at hSw); go_simp; try (with_reducible rfl))
      try simp only [Act.put, List.getElem_toArray, List.getElem_cons_zero, List.getElem_cons_succ, List.setIfInBounds_toArray, List.set_cons_zero, List.set_cons_succ]
      refine wpAnyH_take (i := 4) (v := ?_) rfl (by kernel_rfl) (by kernel_rfl) (by kernel_rfl) (fun _ _ _ h => h) (Or.inl ⟨by rfl, ?_⟩) (by assumption) ?_
      rotate_left
      · (intro w hSw; (try dsimp only at hSw); go_simp; try (with_reducible rfl))
      try simp only [Act.put, List.getElem_toArray, List.getElem_cons_zero, List.getElem_cons_succ, List.setIfInBounds_toArray, List.set_cons_zero, List.set_cons_succ]
      refine wpAnyH_take (i := 5) (v := ?_) rfl (by kernel_rfl) (by kernel_rfl) (by kernel_rfl) (fun _ _ _ h => h) (Or.inl ⟨by rfl, ?_⟩) (by assumption) ?_
      rotate_left
      · (intro w hSw; (try dsimp only at hSw); go_simp; try (with_reducible rfl))
      try simp only [Act.put, List.getElem_toArray, List.getElem_cons_zero, List.getElem_cons_succ, List.setIfInBounds_toArray, List.set_cons_zero, List.set_cons_succ]
      refine wpAnyH_take (i := 6) (v := ?_) rfl (by kernel_rfl) (by kernel_rfl) (by kernel_rfl) (fun _ _ _ h => h) (Or.inl ⟨by rfl, ?_⟩) (by assumption) ?_
      rotate_left
      · (intro w hSw; (try dsimp only at hSw); (obtain ⟨z0, z1, z2, z3⟩ := hSw); go_simp; try (with_reducible rfl))
      try simp only [Act.put, List.getElem_toArray, List.getElem_cons_zero, List.getElem_cons_succ, List.setIfInBounds_toArray, List.set_cons_zero, List.set_cons_succ]
      refine wpAnyH_take (i := 7) (v := ?_) rfl (by kernel_rfl) (by kernel_rfl) (by kernel_rfl) (fun _ _ _ h => h) (Or.inl ⟨by rfl, ?_⟩) (by assumption) ?_
      rotate_left
      · (intro w hSw; (try dsimp only at hSw); go_simp; try (with_reducible rfl))
      try simp only [Act.put, List.getElem_toArray, List.getElem_cons_zero, List.getElem_cons_succ, List.setIfInBounds_toArray, List.set_cons_zero, List.set_cons_succ]
      refine wpAnyH_take (i := 8) (v := ?_) rfl (by kernel_rfl) (by kernel_rfl) (by kernel_rfl) (fun _ _ _ h => h) (Or.inl ⟨by rfl, ?_⟩) (by assumption) ?_
      rotate_left
      · (intro w hSw; (try dsimp only at hSw); (obtain ⟨z0, z1, z2, z3⟩ := hSw); go_simp; try (with_reducible rfl))
      try simp only [Act.put, List.getElem_toArray, List.getElem_cons_zero, List.getElem_cons_succ, List.setIfInBounds_toArray, List.set_cons_zero, List.set_cons_succ]
      refine wpAnyH_take (i := 9) (v := ?_) rfl (by kernel_rfl) (by kernel_rfl) (by kernel_rfl) (fun _ _ _ h => h) (Or.inl ⟨by rfl, ?_⟩) (by assumption) ?_
      rotate_left
      · (intro w hSw; (try dsimp only at hSw); go_simp; try (with_reducible rfl))
      try simp only [Act.put, List.getElem_toArray, List.getElem_cons_zero, List.getElem_cons_succ, List.setIfInBounds_toArray, List.set_cons_zero, List.set_cons_succ]
      refine wpAnyH_take (i := 10) (v := ?_) rfl (by kernel_rfl) (by kernel_rfl) (by kernel_rfl) (fun _ _ _ h => h) (Or.inl ⟨by rfl, ?_⟩) (by assumption) ?_
      rotate_left
      · (intro w hSw; (try dsimp only at hSw); (obtain ⟨z0, z1, z2, z3⟩ := hSw); go_simp; try (with_reducible rfl))
      try simp only [Act.put, List.getElem_toArray, List.getElem_cons_zero, List.getElem_cons_succ, List.setIfInBounds_toArray, List.set_cons_zero, List.set_cons_succ]
      refine wpAnyH_ready (rs := [11]) (by kernel_rfl) (by simp) ?_
      refine (AllReadyH.cons rfl (fun K hK => ?_) AllReadyH.nil)
      · have cc : Hid (Calls Tryz.prog 93 #[.slice la ln lc, .slice a1 lc1 c1] W2.drew (DrPost W2.drew (.int .i64 cv))) := by have := compareM_any L C W2.drew la lc a1 c1 ((HIL.out W2 (HS2.out.exB HRB.out)).keep ((Ex.refl (fun _ => False) _).drew) (fun _ _ _ z => z)) (HIL1.out.keep ((Ex.refl (fun _ => False) _).drew) (fun _ _ _ z => z)) (by rw [HL.out]; exact HLX.out.1) (by rw [HLC.out]; exact HCC1.out.1) HLX.out.2 HCC1.out.2 (fun x hx => di_64 (HDL.out x hx).1) (fun x hx => di_64 ((HOK.out.F.mem C (List.mem_of_getElem? HC.out)).2 x hx).1); rw [HL.out, HLC.out, Hcv.out] at this; exact this
        refine step_call rfl 93 #[.slice la ln lc, .slice a1 lc1 c1] (by simp [go_sem]) cc.out ?_
        rintro e w1 ⟨rfl, mq, hmq⟩
        have hx : Ex (fun _ => False) W2.drew w1 := by rw [hmq]; exact (Ex.refl _ _).drewN mq
        clear cc hmq mq
        have HC1 := hide (HC0.out.lowE hx)
        have KS1 : Hid ((fun w' => w'.cell? ⟨q, 2, none⟩ = some (.slice la ln lc) ∧ w'.cell? ⟨m, 1, none⟩ = some (.slice (some ⟨g, 0, none⟩) nf fc) ∧ w'.cell? ⟨q, 1, none⟩ = some (.int .i64 (j : Int)) ∧ w'.cell? ⟨g, j, none⟩ = some (.slice a1 lc1 c1)) w1) := ⟨HC1.out.sc.q2, HC1.out.vf HVf.out, HC1.out.sc.q1, hx.cell (fun z => z) x0⟩
        have HC2 := hide (HC1.out.on (cv))
        have KS2 : Hid ((fun w' => w'.cell? ⟨q, 2, none⟩ = some (.slice la ln lc) ∧ w'.cell? ⟨m, 1, none⟩ = some (.slice (some ⟨g, 0, none⟩) nf fc) ∧ w'.cell? ⟨q, 1, none⟩ = some (.int .i64 (j : Int)) ∧ w'.cell? ⟨g, j, none⟩ = some (.slice a1 lc1 c1)) (w1.setCell ⟨o, 3, none⟩ (.int .i64 (cv)))) := ⟨HC2.out.sc.q2, HC2.out.vf HVf.out, HC2.out.sc.q1, set_oth (hx.cell (fun z => z) x0) (.inl HGO.out)⟩
        have o3 := HC1.out.sc.o3
        have hof := HC1.out.sc.of
        have x1 : (w1.setCell ⟨o, 3, none⟩ (.int .i64 (cv))).cell? ⟨g, j, none⟩ = some (.slice a1 lc1 c1) := set_oth (hx.cell (fun z => z) x0) (.inl HGO.out)
        have HIL2 : Hid (IL (w1.setCell ⟨o, 3, none⟩ (.int .i64 (cv))) a1 C) := by
          obtain ⟨g', a', c', eg, y, hl, _⟩ := HC2.out.elem HVf.out HC.out
          injection eg with eg
          injection eg with eg
          subst eg
          rw [HLC.out] at y
          have := x1.symm.trans y
          injection this with this
          injection this with this
          rw [this]
          exact hl
        refine ⟨_, rfl, ?_⟩
        refine hK.out _ _ ?_ (fun hHeld => ?_)
        · (first | with_reducible exact KS0.out | with_reducible exact KS1.out | with_reducible exact KS2.out)
        clear hK K
        try simp only [Act.put, List.getElem_toArray, List.getElem_cons_zero, List.getElem_cons_succ, List.setIfInBounds_toArray, List.set_cons_zero, List.set_cons_succ]
        refine wpAnyH_take (i := 12) (v := ?_) rfl (by kernel_rfl) (by kernel_rfl) (by kernel_rfl) (fun _ _ _ h => h) (Or.inl ⟨by rfl, ?_⟩) (by assumption) ?_
        rotate_left
        · (intro w hSw; (try dsimp only at hSw); go_simp; try (with_reducible rfl))
        try simp only [Act.put, List.getElem_toArray, List.getElem_cons_zero, List.getElem_cons_succ, List.setIfInBounds_toArray, List.set_cons_zero, List.set_cons_succ]
        refine wpAnyH_ready (rs := [13]) (by kernel_rfl) (by simp) ?_
        refine (AllReadyH.cons rfl (fun K hK => ?_) AllReadyH.nil)
        · go_simp
          refine hK.out _ _ ?_ (fun hHeld => ?_)
          · (first | with_reducible exact KS0.out | with_reducible exact KS1.out | with_reducible exact KS2.out)
          clear hK K
          try simp only [Act.put, List.getElem_toArray, List.getElem_cons_zero, List.getElem_cons_succ, List.setIfInBounds_toArray, List.set_cons_zero, List.set_cons_succ]
          refine wpAnyH_done (by kernel_rfl) ?_ _
          clear KS0 KS1 KS2
          clear HC0 HC1 o3 hof HS2 hx x0 y0 oe HIL1
          generalize w1.setCell ⟨o, 3, none⟩ (.int .i64 (cv)) = We at *
          have HD := HC2
          have HIL1 := HIL2
          have x0 := x1
          clear HC2 HIL2 x1
          obtain ⟨Q, hQ⟩ : ∃ x : Int, (if cv = 0 then 1 else 0) = x := ⟨_, rfl⟩
          have HQ := hide hQ
          clear hQ
          go_upto_region 116 with fail
          have HC0 := hide (HD.out.low ((Below.refl _ _).drew))
          have KS0 : Hid ((fun w' => w'.cell? ⟨q, 2, none⟩ = some (.slice la ln lc) ∧ w'.cell? ⟨m, 1, none⟩ = some (.slice (some ⟨g, 0, none⟩) nf fc) ∧ w'.cell? ⟨q, 1, none⟩ = some (.int .i64 (j : Int)) ∧ w'.cell? ⟨g, j, none⟩ = some (.slice a1 lc1 c1)) We.drew) := ⟨HC0.out.sc.q2, HC0.out.vf HVf.out, HC0.out.sc.q1, x0⟩
          refine wp_region_held_drew (S := fun w' => w'.cell? ⟨q, 2, none⟩ = some (.slice la ln lc) ∧ w'.cell? ⟨m, 1, none⟩ = some (.slice (some ⟨g, 0, none⟩) nf fc) ∧ w'.cell? ⟨q, 1, none⟩ = some (.int .i64 (j : Int)) ∧ w'.cell? ⟨g, j, none⟩ = some (.slice a1 lc1 c1)) (by kernel_rfl) KS0.out (fun hHeld => ?_)
          refine wpAnyH_take (i := 0) (v := ?_) rfl (by kernel_rfl) (by kernel_rfl) (by kernel_rfl) (fun _ _ _ h => h) (Or.inl ⟨by rfl, ?_⟩) (by assumption) ?_
          rotate_left
          · (intro w hSw; (try dsimp only at hSw); go_simp; try (with_reducible rfl))
          try simp only [Act.put, List.getElem_toArray, List.getElem_cons_zero, List.getElem_cons_succ, List.setIfInBounds_toArray, List.set_cons_zero, List.set_cons_succ]
          refine wpAnyH_take (i := 1) (v := ?_) rfl (by kernel_rfl) (by kernel_rfl) (by kernel_rfl) (fun _ _ _ h => h) (Or.inl ⟨by rfl, ?_⟩) (by assumption) ?_
          rotate_left
          · (intro w hSw; (try dsimp only at hSw); (obtain ⟨z0, z1, z2, z3⟩ := hSw); go_simp; try (with_reducible rfl))
          try simp only [Act.put, List.getElem_toArray, List.getElem_cons_zero, List.getElem_cons_succ, List.setIfInBounds_toArray, List.set_cons_zero, List.set_cons_succ]
          refine wpAnyH_take (i := 2) (v := ?_) rfl (by kernel_rfl) (by kernel_rfl) (by kernel_rfl) (fun _ _ _ h => h) (Or.inl ⟨by rfl, ?_⟩) (by assumption) ?_
          rotate_left
          · (intro w hSw; (try dsimp only at hSw); go_simp; try (with_reducible rfl))
          try simp only [Act.put, List.getElem_toArray, List.getElem_cons_zero, List.getElem_cons_succ, List.setIfInBounds_toArray, List.set_cons_zero, List.set_cons_succ]
          refine wpAnyH_take (i := 3) (v := ?_) rfl (by kernel_rfl) (by kernel_rfl) (by kernel_rfl) (fun _ _ _ h => h) (Or.inl ⟨by rfl, ?_⟩) (by assumption) ?_
          rotate_left
          · (intro w hSw; (try dsimp only at hSw); go_simp; try (with_reducible rfl))
          try simp only [Act.put, List.getElem_toArray, List.getElem_cons_zero, List.getElem_cons_succ, List.setIfInBounds_toArray, List.set_cons_zero, List.set_cons_succ]
          refine wpAnyH_take (i := 4) (v := ?_) rfl (by kernel_rfl) (by kernel_rfl) (by kernel_rfl) (fun _ _ _ h => h) (Or.inl ⟨by rfl, ?_⟩) (by assumption) ?_
          rotate_left
          · (intro w hSw; (try dsimp only at hSw); go_simp; try (with_reducible rfl))
          try simp only [Act.put, List.getElem_toArray, List.getElem_cons_zero, List.getElem_cons_succ, List.setIfInBounds_toArray, List.set_cons_zero, List.set_cons_succ]
          refine wpAnyH_take (i := 5) (v := ?_) rfl (by kernel_rfl) (by kernel_rfl) (by kernel_rfl) (fun _ _ _ h => h) (Or.inl ⟨by rfl, ?_⟩) (by assumption) ?_
          rotate_left
          · (intro w hSw; (try dsimp only at hSw); go_simp; try (with_reducible rfl))
          try simp only [Act.put, List.getElem_toArray, List.getElem_cons_zero, List.getElem_cons_succ, List.setIfInBounds_toArray, List.set_cons_zero, List.set_cons_succ]
          refine wpAnyH_take (i := 6) (v := ?_) rfl (by kernel_rfl) (by kernel_rfl) (by kernel_rfl) (fun _ _ _ h => h) (Or.inl ⟨by rfl, ?_⟩) (by assumption) ?_
          rotate_left
          · (intro w hSw; (try dsimp only at hSw); (obtain ⟨z0, z1, z2, z3⟩ := hSw); go_simp; try (with_reducible rfl))
          try simp only [Act.put, List.getElem_toArray, List.getElem_cons_zero, List.getElem_cons_succ, List.setIfInBounds_toArray, List.set_cons_zero, List.set_cons_succ]
          refine wpAnyH_take (i := 7) (v := ?_) rfl (by kernel_rfl) (by kernel_rfl) (by kernel_rfl) (fun _ _ _ h => h) (Or.inl ⟨by rfl, ?_⟩) (by assumption) ?_
          rotate_left
          · (intro w hSw; (try dsimp only at hSw); go_simp; try (with_reducible rfl))
          try simp only [Act.put, List.getElem_toArray, List.getElem_cons_zero, List.getElem_cons_succ, List.setIfInBounds_toArray, List.set_cons_zero, List.set_cons_succ]
          refine wpAnyH_take (i := 8) (v := ?_) rfl (by kernel_rfl) (by kernel_rfl) (by kernel_rfl) (fun _ _ _ h => h) (Or.inl ⟨by rfl, ?_⟩) (by assumption) ?_
          rotate_left
          · (intro w hSw; (try dsimp only at hSw); (obtain ⟨z0, z1, z2, z3⟩ := hSw); go_simp; try (with_reducible rfl))
          try simp only [Act.put, List.getElem_toArray, List.getElem_cons_zero, List.getElem_cons_succ, List.setIfInBounds_toArray, List.set_cons_zero, List.set_cons_succ]
          refine wpAnyH_take (i := 9) (v := ?_) rfl (by kernel_rfl) (by kernel_rfl) (by kernel_rfl) (fun _ _ _ h => h) (Or.inl ⟨by rfl, ?_⟩) (by assumption) ?_
          rotate_left
          · (intro w hSw; (try dsimp only at hSw); go_simp; try (with_reducible rfl))
          try simp only [Act.put, List.getElem_toArray, List.getElem_cons_zero, List.getElem_cons_succ, List.setIfInBounds_toArray, List.set_cons_zero, List.set_cons_succ]
          refine wpAnyH_take (i := 10) (v := ?_) rfl (by kernel_rfl) (by kernel_rfl) (by kernel_rfl) (fun _ _ _ h => h) (Or.inl ⟨by rfl, ?_⟩) (by assumption) ?_
          rotate_left
          · (intro w hSw; (try dsimp only at hSw); (obtain ⟨z0, z1, z2, z3⟩ := hSw); go_simp; try (with_reducible rfl))
          try simp only [Act.put, List.getElem_toArray, List.getElem_cons_zero, List.getElem_cons_succ, List.setIfInBounds_toArray, List.set_cons_zero, List.set_cons_succ]
          refine wpAnyH_ready (rs := [11]) (by kernel_rfl) (by simp) ?_
          refine (AllReadyH.cons rfl (fun K hK => ?_) AllReadyH.nil)
          · have cc : Hid (Calls Tryz.prog 93 #[.slice la ln lc, .slice a1 lc1 c1] We.drew (DrPost We.drew (.int .i64 cv))) := by have := compareM_any L C We.drew la lc a1 c1 ((HIL.out We (HD.out.exB HRB.out)).keep ((Ex.refl (fun _ => False) _).drew) (fun _ _ _ z => z)) (HIL1.out.keep ((Ex.refl (fun _ => False) _).drew) (fun _ _ _ z => z)) (by rw [HL.out]; exact HLX.out.1) (by rw [HLC.out]; exact HCC1.out.1) HLX.out.2 HCC1.out.2 (fun x hx => di_64 (HDL.out x hx).1) (fun x hx => di_64 ((HOK.out.F.mem C (List.mem_of_getElem? HC.out)).2 x hx).1); rw [HL.out, HLC.out, Hcv.out] at this; exact this
            refine step_call rfl 93 #[.slice la ln lc, .slice a1 lc1 c1] (by simp [go_sem]) cc.out ?_
            rintro e w1 ⟨rfl, mq, hmq⟩
            have hx : Ex (fun _ => False) We.drew w1 := by rw [hmq]; exact (Ex.refl _ _).drewN mq
            clear cc hmq mq
            have HC1 := hide (HC0.out.lowE hx)
            have KS1 : Hid ((fun w' => w'.cell? ⟨q, 2, none⟩ = some (.slice la ln lc) ∧ w'.cell? ⟨m, 1, none⟩ = some (.slice (some ⟨g, 0, none⟩) nf fc) ∧ w'.cell? ⟨q, 1, none⟩ = some (.int .i64 (j : Int)) ∧ w'.cell? ⟨g, j, none⟩ = some (.slice a1 lc1 c1)) w1) := ⟨HC1.out.sc.q2, HC1.out.vf HVf.out, HC1.out.sc.q1, hx.cell (fun z => z) x0⟩
            refine ⟨_, rfl, ?_⟩
            refine hK.out _ _ ?_ (fun hHeld => ?_)
            · (first | with_reducible exact KS0.out | with_reducible exact KS1.out | with_reducible exact KS2.out)
            clear hK K
            try simp only [Act.put, List.getElem_toArray, List.getElem_cons_zero, List.getElem_cons_succ, List.setIfInBounds_toArray, List.set_cons_zero, List.set_cons_succ]
            refine wpAnyH_take (i := 12) (v := ?_) rfl (by kernel_rfl) (by kernel_rfl) (by kernel_rfl) (fun _ _ _ h => h) (Or.inl ⟨by rfl, ?_⟩) (by assumption) ?_
            rotate_left
            · (intro w hSw; (try dsimp only at hSw); go_simp; try (with_reducible rfl))
            try simp only [Act.put, List.getElem_toArray, List.getElem_cons_zero, List.getElem_cons_succ, List.setIfInBounds_toArray, List.set_cons_zero, List.set_cons_succ]
            refine wpAnyH_ready (rs := [13]) (by kernel_rfl) (by simp) ?_
            refine (AllReadyH.cons rfl (fun K hK => ?_) AllReadyH.nil)
            · have cc : Hid (Calls Tryz.prog 44 #[.bool (cv == 0)] w1 fun e w' => e = .returned (.int .i64 Q) ∧ w' = w1) := by
                have := truth_any w1 (cv == 0)
                have e : (if (cv == 0) = true then (1 : Int) else 0) = Q := (by rw [← HQ.out]; simp)
                rw [e] at this
                exact this
              refine step_call rfl 44 #[.bool (cv == 0)] (by simp [go_sem]) cc.out ?_
              rintro e w3 ⟨rfl, hw⟩
              rw [hw]
              clear cc hw w3
              have HC2 := hide (HC1.out.om (Q))
              have KS2 : Hid ((fun w' => w'.cell? ⟨q, 2, none⟩ = some (.slice la ln lc) ∧ w'.cell? ⟨m, 1, none⟩ = some (.slice (some ⟨g, 0, none⟩) nf fc) ∧ w'.cell? ⟨q, 1, none⟩ = some (.int .i64 (j : Int)) ∧ w'.cell? ⟨g, j, none⟩ = some (.slice a1 lc1 c1)) (w1.setCell ⟨o, 4, none⟩ (.int .i64 (Q)))) := ⟨HC2.out.sc.q2, HC2.out.vf HVf.out, HC2.out.sc.q1, set_oth (hx.cell (fun z => z) x0) (.inl HGO.out)⟩
              have o4 := HC1.out.sc.o4
              have hof := HC1.out.sc.of
              refine ⟨_, rfl, ?_⟩
              refine hK.out _ _ ?_ (fun hHeld => ?_)
              · (first | with_reducible exact KS0.out | with_reducible exact KS1.out | with_reducible exact KS2.out)
              clear hK K
              try simp only [Act.put, List.getElem_toArray, List.getElem_cons_zero, List.getElem_cons_succ, List.setIfInBounds_toArray, List.set_cons_zero, List.set_cons_succ]
              refine wpAnyH_take (i := 14) (v := ?_) rfl (by kernel_rfl) (by kernel_rfl) (by kernel_rfl) (fun _ _ _ h => h) (Or.inl ⟨by rfl, ?_⟩) (by assumption) ?_
              rotate_left
              · (intro w hSw; (try dsimp only at hSw); go_simp; try (with_reducible rfl))
              try simp only [Act.put, List.getElem_toArray, List.getElem_cons_zero, List.getElem_cons_succ, List.setIfInBounds_toArray, List.set_cons_zero, List.set_cons_succ]
              refine wpAnyH_ready (rs := [15]) (by kernel_rfl) (by simp) ?_
              refine (AllReadyH.cons rfl (fun K hK => ?_) AllReadyH.nil)
              · go_simp
                refine hK.out _ _ ?_ (fun hHeld => ?_)
                · (first | with_reducible exact KS0.out | with_reducible exact KS1.out | with_reducible exact KS2.out)
                clear hK K
                try simp only [Act.put, List.getElem_toArray, List.getElem_cons_zero, List.getElem_cons_succ, List.setIfInBounds_toArray, List.set_cons_zero, List.set_cons_succ]
                refine wpAnyH_done (by kernel_rfl) ?_ _
                clear KS0 KS1 KS2
                clear HC0 HC1 o4 hof HD hx x0
                generalize w1.setCell ⟨o, 4, none⟩ (.int .i64 (Q)) = Wf at *
                obtain ⟨bo, hbo⟩ : ∃ x : Ob, ({ ({ ({ (ob0 : Ob) with er := 0 } : Ob) with n := cv } : Ob) with m := Q }) = x := ⟨_, rfl⟩
                have HSQ : Hid (s = s) := rfl
                have HBQ : Hid (b' = bo) := by show _ = _; rw [← hbo]; exact (by rw [← HBE.out, HE.out, if_pos rfl, if_pos ⟨by omega, by omega⟩, Int.toNat_natCast, List.getD_eq_getElem?_getD, HC.out, Option.getD_some, Hcv.out, HQ.out] <;> rfl)
                rw [hbo] at HC2
                clear hbo HSE HBE
                have o0 := HC2.out.sc.o0
                have o1 := HC2.out.sc.o1
                have o2 := HC2.out.sc.o2
                have o3 := HC2.out.sc.o3
                have o4 := HC2.out.sc.o4
                have o5 := HC2.out.sc.o5
                have t0 := HC2.out.sc.t0
                have t1 := HC2.out.sc.t1
                have t2 := HC2.out.sc.t2
                have t3 := HC2.out.sc.t3
                have t4 := HC2.out.sc.t4
                have t5 := HC2.out.sc.t5
                have htf := HC2.out.sc.tf
                have hot : o ≠ t := fun z => HC2.out.ne.2.2.1 z.symm
                have HF := hide HC2.out.fin
                have HC := hide (fin_cells HC2.out.sc)
                clear HC2
                go_wp2_with (with_reducible refine bodyPost_ret (v := ?v) ?hr ?hd ?hp)
                case v => exact obV bo (.slice none 0 0)
                case hr =>
                  change (results _ _).run _ (fin6 Wf t bo (.slice none 0 0)) = .ok _ (fin6 Wf t bo (.slice none 0 0))
                  obtain ⟨y0, y1, y2, y3, y4, y5⟩ := HC.out
                  clear HF HC
                  generalize fin6 Wf t bo (.slice none 0 0) = WF at *
                  simp [results, Tryz.results10, go_sem, y0, y1, y2, y3, y4, y5, obV]
                case hd => rfl
                case hp => rw [HBQ.out]; exact HF.out
    · have HIN := hide hin
      rcases (show va < 0 ∨ (0 ≤ va ∧ (nf : Int) ≤ va) by omega) with hlo | ⟨hlo, hhi⟩
      · clear hin
        have h1 : decide (va < 0) = true := decide_eq_true hlo
        have h1i := hlo
        go_upto_region 112 with fail
        go_quiet (fail)
        rename_i nq
        have HS2 := hide (HS1.out.low (belN _ nq))
        clear HS1
        generalize World.drewN W1 nq = W2 at *
        clear oe q1 vf h1 h1i hlo
        have o0 := HS2.out.sc.o0
        have hof := HS2.out.sc.of
        go_upto_region 114 with fail
        have HS3 := hide (HS2.out.er (4))
        clear HS2
        generalize W2.setCell ⟨o, 0, none⟩ (.int .i64 (4)) = W3 at *
        clear o0 hof
        have oe : W3.cell? ⟨o, 0, none⟩ = some (.int .i64 (4)) := HS3.out.sc.o0
        go_upto_region 151 with fail
        clear oe
        obtain ⟨bo, hbo⟩ : ∃ x : Ob, ({ ({ (ob0 : Ob) with er := 0 } : Ob) with er := 4 }) = x := ⟨_, rfl⟩
        have HSQ : Hid (s = s) := rfl
        have HBQ : Hid (b' = bo) := by show _ = _; rw [← hbo]; exact (by rw [← HBE.out, HE.out, if_pos rfl, if_neg (fun z => by have := HIN.out; omega)] <;> rfl)
        rw [hbo] at HS3
        clear hbo HSE HBE
        have o0 := HS3.out.sc.o0
        have o1 := HS3.out.sc.o1
        have o2 := HS3.out.sc.o2
        have o3 := HS3.out.sc.o3
        have o4 := HS3.out.sc.o4
        have o5 := HS3.out.sc.o5
        have t0 := HS3.out.sc.t0
        have t1 := HS3.out.sc.t1
        have t2 := HS3.out.sc.t2
        have t3 := HS3.out.sc.t3
        have t4 := HS3.out.sc.t4
        have t5 := HS3.out.sc.t5
        have htf := HS3.out.sc.tf
        have hot : o ≠ t := fun z => HS3.out.ne.2.2.1 z.symm
        have HF := hide HS3.out.fin
        have HC := hide (fin_cells HS3.out.sc)
        clear HS3
        go_wp2_with (with_reducible refine bodyPost_ret (v := ?v) ?hr ?hd ?hp)
        case v => exact obV bo (.slice none 0 0)
        case hr =>
          change (results _ _).run _ (fin6 W3 t bo (.slice none 0 0)) = .ok _ (fin6 W3 t bo (.slice none 0 0))
          obtain ⟨y0, y1, y2, y3, y4, y5⟩ := HC.out
          clear HF HC
          generalize fin6 W3 t bo (.slice none 0 0) = WF at *
          simp [results, Tryz.results10, go_sem, y0, y1, y2, y3, y4, y5, obV]
        case hd => rfl
        case hp => rw [HBQ.out]; exact HF.out
      · clear hin
        have h1 : decide (va < 0) = false := decide_eq_false (by omega)
        have h1i : ¬ va < 0 := by omega
        have h2 : decide ((nf : Int) ≤ va) = true := decide_eq_true hhi
        go_upto_region 112 with fail
        go_quiet (fail)
        rename_i nq
        have HS2 := hide (HS1.out.low (belN _ nq))
        clear HS1
        generalize World.drewN W1 nq = W2 at *
        clear oe q1 vf h1 h1i hlo hhi h2
        have o0 := HS2.out.sc.o0
        have hof := HS2.out.sc.of
        go_upto_region 114 with fail
        have HS3 := hide (HS2.out.er (4))
        clear HS2
        generalize W2.setCell ⟨o, 0, none⟩ (.int .i64 (4)) = W3 at *
        clear o0 hof
        have oe : W3.cell? ⟨o, 0, none⟩ = some (.int .i64 (4)) := HS3.out.sc.o0
        go_upto_region 151 with fail
        clear oe
        obtain ⟨bo, hbo⟩ : ∃ x : Ob, ({ ({ (ob0 : Ob) with er := 0 } : Ob) with er := 4 }) = x := ⟨_, rfl⟩
        have HSQ : Hid (s = s) := rfl
        have HBQ : Hid (b' = bo) := by show _ = _; rw [← hbo]; exact (by rw [← HBE.out, HE.out, if_pos rfl, if_neg (fun z => by have := HIN.out; omega)] <;> rfl)
        rw [hbo] at HS3
        clear hbo HSE HBE
        have o0 := HS3.out.sc.o0
        have o1 := HS3.out.sc.o1
        have o2 := HS3.out.sc.o2
        have o3 := HS3.out.sc.o3
        have o4 := HS3.out.sc.o4
        have o5 := HS3.out.sc.o5
        have t0 := HS3.out.sc.t0
        have t1 := HS3.out.sc.t1
        have t2 := HS3.out.sc.t2
        have t3 := HS3.out.sc.t3
        have t4 := HS3.out.sc.t4
        have t5 := HS3.out.sc.t5
        have htf := HS3.out.sc.tf
        have hot : o ≠ t := fun z => HS3.out.ne.2.2.1 z.symm
        have HF := hide HS3.out.fin
        have HC := hide (fin_cells HS3.out.sc)
        clear HS3
        go_wp2_with (with_reducible refine bodyPost_ret (v := ?v) ?hr ?hd ?hp)
        case v => exact obV bo (.slice none 0 0)
        case hr =>
          change (results _ _).run _ (fin6 W3 t bo (.slice none 0 0)) = .ok _ (fin6 W3 t bo (.slice none 0 0))
          obtain ⟨y0, y1, y2, y3, y4, y5⟩ := HC.out
          clear HF HC
          generalize fin6 W3 t bo (.slice none 0 0) = WF at *
          simp [results, Tryz.results10, go_sem, y0, y1, y2, y3, y4, y5, obV]
        case hd => rfl
        case hp => rw [HBQ.out]; exact HF.out
  · have HE0 := hide hE
    have heb : (E == 0) = false := by simp [hE]
    clear hE
    have oe : W1.cell? ⟨o, 0, none⟩ = some (.int .i64 (E)) := HS1.out.sc.o0
    go_upto_region 112 with fail
    go_quiet (fail)
    rename_i nq
    have HS2 := hide (HS1.out.low (belN _ nq))
    clear HS1
    generalize World.drewN W1 nq = W2 at *
    clear oe
    have oe : W2.cell? ⟨o, 0, none⟩ = some (.int .i64 (E)) := HS2.out.sc.o0
    go_upto_region 151 with fail
    clear oe heb
    obtain ⟨bo, hbo⟩ : ∃ x : Ob, ({ (ob0 : Ob) with er := E }) = x := ⟨_, rfl⟩
    have HSQ : Hid (s = s) := rfl
    have HBQ : Hid (b' = bo) := by show _ = _; rw [← hbo]; exact (by rw [← HBE.out, HE.out, if_neg (by have := HE0.out; omega)])
    rw [hbo] at HS2
    clear hbo HSE HBE
    have o0 := HS2.out.sc.o0
    have o1 := HS2.out.sc.o1
    have o2 := HS2.out.sc.o2
    have o3 := HS2.out.sc.o3
    have o4 := HS2.out.sc.o4
    have o5 := HS2.out.sc.o5
    have t0 := HS2.out.sc.t0
    have t1 := HS2.out.sc.t1
    have t2 := HS2.out.sc.t2
    have t3 := HS2.out.sc.t3
    have t4 := HS2.out.sc.t4
    have t5 := HS2.out.sc.t5
    have htf := HS2.out.sc.tf
    have hot : o ≠ t := fun z => HS2.out.ne.2.2.1 z.symm
    have HF := hide HS2.out.fin
    have HC := hide (fin_cells HS2.out.sc)
    clear HS2
    go_wp2_with (with_reducible refine bodyPost_ret (v := ?v) ?hr ?hd ?hp)
    case v => exact obV bo (.slice none 0 0)
    case hr =>
      change (results _ _).run _ (fin6 W2 t bo (.slice none 0 0)) = .ok _ (fin6 W2 t bo (.slice none 0 0))
      obtain ⟨y0, y1, y2, y3, y4, y5⟩ := HC.out
      clear HF HC
      generalize fin6 W2 t bo (.slice none 0 0) = WF at *
      simp [results, Tryz.results10, go_sem, y0, y1, y2, y3, y4, y5, obV]
    case hd => rfl
    case hp => rw [HBQ.out]; exact HF.out
end Go.Proofs.Qxb6500773aGreat
