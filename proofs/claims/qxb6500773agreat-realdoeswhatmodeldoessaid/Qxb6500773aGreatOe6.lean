import Derived.Test.Qxb6500773aGreatOz
namespace Go.Proofs.Qxb6500773aGreat
open Go.RowKit

set_option linter.unusedSimpArgs false in
set_option maxRecDepth 100000 in
set_option maxHeartbeats 32000000 in
/-- cnflaw.modelBench.step: OpAssignAll -/
theorem mstep_20 (w : World) (B m z : Nat) (X : Nat → Prop) (V : Nat → Value) (S : Nat → Nat → Prop) (s : Mst) (h : MN w B m X V S (QM B s) s.nv s.sv) (hB : B ≤ w.heap.size) (hX : ∀ k, X k → k < w.heap.size) (hok : MsOk z s) (hz : z ≤ 65536) (v : OpV) (hk : v.kd = 20) (ha : -9223372036854775808 ≤ v.a ∧ v.a ≤ 9223372036854775807) (L : List Int) (hL : L.length = v.ln) (hIL : ∀ w', Ex (fun k => B ≤ k) w w' → IL w' v.la L) (hln : v.ln ≤ 65536) :
    Calls Tryz.prog 10 #[.pointer (some ⟨m, 0, none⟩), opZ v] w (MpPost w (fp m S) B m X (if ncE L = 0 then { s with A := L.foldl asgP s.A } else s) (if ncE L = 0 then { ob0 with n := (L.foldl asgP s.A).length } else { ob0 with er := ncE L, n := s.A.length })) := by
  have HS0 := hide (mw_new v h hB hX)
  have HRB : Hid (∀ k, fp m S k → B ≤ k) := fun k z => z.elim (fun z => by rw [z]; exact h.mB) (fun ⟨i, hi, y⟩ => (h.rg i hi k y).1)
  unfold opZ
  have HOK := hide hok
  have HZ := hide hz
  obtain ⟨s', hs'⟩ : ∃ x : Mst, (if ncE L = 0 then { s with A := L.foldl asgP s.A } else s) = x := ⟨_, rfl⟩
  obtain ⟨b', hb'⟩ : ∃ x : Ob, (if ncE L = 0 then { ob0 with n := (L.foldl asgP s.A).length } else { ob0 with er := ncE L, n := s.A.length }) = x := ⟨_, rfl⟩
  rw [hs', hb']
  obtain ⟨kd, va, la, ln, lc, VX, ta, tn, tc, VT⟩ := v
  dsimp only at hk HS0 ha hs' hb' ⊢
  subst hk
  have HSE := hide hs'
  have HBE := hide hb'
  dsimp only at hL hIL hln
  have HL := hide hL
  have HIL := hide hIL
  have hlnb := hln
  clear hL hIL hln
  clear h hok hz hB hX hs' hb'
  generalize fp m S = R at *
  go_enter Tryz.func10, Tryz.ntmps10
  go_upto_region 2 with fail
  generalize (((w.alloc (.cells #[.int .i64 20, .int .i64 va, .slice la ln lc, .slice ta tn tc] 37)).alloc (.cells #[.int .i64 0, .int .i64 0, .int .i64 0, .int .i64 0, .int .i64 0, .slice none 0 0] 43)).alloc (.cells #[.int .i64 0, .int .i64 0, .int .i64 0, .int .i64 0, .int .i64 0, .slice none 0 0] 43)) = W0 at *
  generalize w.heap.size + 1 + 1 = o at *
  generalize w.heap.size + 1 = t at *
  generalize w.heap.size = q at *
  have q0 : W0.cell? ⟨q, 0, none⟩ = some (.int .i64 20) := HS0.out.sc.q0
  obtain ⟨aa, ac, hva, hla, hca, hma⟩ := HS0.out.a
  obtain ⟨na, hna⟩ : ∃ z, s.A.length = z := ⟨_, rfl⟩
  rw [hna] at hva hca
  have HVa := hide hva
  have HOa := hide hla
  have HNa := hide hna
  have HCa := hide (And.intro hca hma)
  clear hva hla hca hma hna
  rw [HNa.out] at HBE
  go_upto_region 100 with fail
  obtain ⟨E, hE⟩ : ∃ x, ncE L = x := ⟨_, rfl⟩
  have HE := hide hE
  clear hE
  have q2 : W0.cell? ⟨q, 2, none⟩ = some (.slice la ln lc) := HS0.out.sc.q2
  have cc : Hid (Calls Tryz.prog 74 #[.slice la ln lc] W0 fun e w' => e = .returned (.int .i64 E) ∧ w' = W0) := by have := checkLits_any W0 la lc L (HIL.out W0 (HS0.out.exB HRB.out)) (by rw [HL.out]; omega); rw [HL.out, HE.out] at this; exact this
  have HDI : Hid (E = 0 → ∀ x ∈ L, DI x ∧ x ≠ 0) := fun z => ncE_di (by rw [HE.out]; exact z)
  go_wp2_with fail
  refine cc.out.mono ?_
  rintro e wz ⟨rfl, hw⟩
  rw [hw]
  clear hw wz
  clear q0 q2 cc
  have o0 := HS0.out.sc.o0
  have hof := HS0.out.sc.of
  go_upto_region 101 with fail
  have HS1 := hide (HS0.out.er (E))
  clear HS0
  generalize W0.setCell ⟨o, 0, none⟩ (.int .i64 (E)) = W1 at *
  clear o0 hof
  by_cases hE : E = 0
  · have HE0 := hide hE
    have HDL := hide (HDI.out hE)
    subst hE
    have oe : W1.cell? ⟨o, 0, none⟩ = some (.int .i64 (0)) := HS1.out.sc.o0
    have q2 : W1.cell? ⟨q, 2, none⟩ = some (.slice la ln lc) := HS1.out.sc.q2
    have HAL : Hid (∀ i, i ≤ ln → AOk2 (na + i) ((L.take i).foldl asgP s.A)) := fun i hi => asg_ok HOK.out.A (by rw [HNa.out]; exact Nat.le_refl _) HDL.out i
    have HNB : Hid (na ≤ 65536) := by have h1 := HOK.out.A.len; have h2 := HZ.out; rw [HNa.out] at h1; show _ ≤ _; omega
    have HST0 : Hid (MW w W1 R B m q t o X V S { s with A := (L.take 0).foldl asgP s.A } ⟨20, va, la, ln, lc, VX, ta, tn, tc, VT⟩ ({ (ob0 : Ob) with er := 0 }) (.slice none 0 0)) := HS1.out
    go_upto_region 103 with fail
    clear oe q2
    clear HS1
    obtain ⟨bb, hbb⟩ : ∃ x : Ob, ({ (ob0 : Ob) with er := 0 }) = x := ⟨_, rfl⟩
    rw [hbb] at HST0
    have HBB := hide hbb
    clear hbb
    go_loopw [540] (fun s540 wx => ∃ (i : Nat) (V' : Nat → Value) (S' : Nat → Nat → Prop), s540 = .int .i64 i ∧ i ≤ ln ∧ Hid (MW w wx R B m q t o X V' S' { s with A := (L.take i).foldl asgP s.A } ⟨20, va, la, ln, lc, VX, ta, tn, tc, VT⟩ bb (.slice none 0 0))) (fun s540 _ => ln - (intOf s540).toNat)
    case atStart => exact ⟨0, V, S, rfl, Nat.zero_le _, HST0⟩
    case round =>
      clear HST0
      obtain ⟨i, Vi, Si, rfl, hi, HSi⟩ := hrel
      generalize hgw : wr = wl at *
      clear hgw
      have hw1 : wrap64 ((i : Int) + 1) = ((i + 1 : Nat) : Int) := by unfold wrap64; omega
      have HAi := hide (HAL.out i hi)
      obtain ⟨Ai, hAi⟩ : ∃ z, (L.take i).foldl asgP s.A = z := ⟨_, rfl⟩
      rw [hAi] at HSi HAi
      have HAE := hide hAi
      clear hAi
      by_cases hlt : i < ln
      · have hib : decide ((i : Int) < (ln : Int)) = true := decide_eq_true (by omega)
        have hii : (i : Int) < (ln : Int) := by omega
        obtain ⟨x, hx⟩ : ∃ x, L[i]? = some x := ⟨_, List.getElem?_eq_getElem (by rw [HL.out]; exact hlt)⟩
        have HXM := hide (HDL.out x (List.mem_of_getElem? hx))
        obtain ⟨gl, ol, ea, x0⟩ := (HIL.out wl (HSi.out.exB HRB.out)) i x hx
        subst ea
        have HNX : Hid ((L.take (i + 1)).foldl asgP s.A = asgP Ai x) := by show _ = _; rw [List.take_add_one, hx]; simp [List.foldl_append, HAE.out]
        clear hx
        obtain ⟨ai, ci, hvi, hili, -, -⟩ := HSi.out.a
        dsimp only at hvi hili
        obtain ⟨ni, hni⟩ : ∃ z, Ai.length = z := ⟨_, rfl⟩
        rw [hni] at hvi
        have HNI := hide hni
        have HVI := hide hvi
        have v4 := HSi.out.va hvi
        have cf := HSi.out.mn.fz
        have HMI := hide HXM.out.1
        unfold DI at HMI
        have cc : Hid (Calls Tryz.prog 78 #[.slice ai ni ci, .int .i64 x] wl (MlPost wl (asgP Ai x))) := by have := assignM_any wl ai ci Ai x hili (by have := HAi.out.len; have := HNB.out; omega) HAi.out.i64 (by have := HMI.out; omega); rw [HNI.out] at this; exact this
        clear hvi hili hni
        go_wp2_with fail
        refine cc.out.mono ?_
        rintro e w5 hp
        clear cc
        have hx5 : Ex (fun _ => False) wl w5 := by obtain ⟨_, _, _, _, hh⟩ := hp; exact hh
        have HL5 := hide (HSi.out.lowE hx5)
        obtain ⟨a5, c5, V6, S6, rfl, hs6⟩ := HSi.out.newA hp
        have HS6 := hide hs6
        have d1 := HL5.out.va HVI.out
        have df := HL5.out.mn.fz
        clear hs6 hp hx5 HSi HL5 v4 cf x0
        dsimp only at HS6
        rw [← HNX.out] at HS6
        rw [← HNX.out]
        go_upto_region 106 with fail
        generalize w5.setCell ⟨m, 2, none⟩ (.slice a5 ((L.take (i + 1)).foldl asgP s.A).length c5) = W6 at *
        clear d1 df
        go_wp2
        go_roundw
        case rel => exact ⟨i + 1, V6, S6, by go_num, by omega, HS6⟩
        case measure => (simp [intOf]; try omega)
      · have hib : decide ((i : Int) < (ln : Int)) = false := decide_eq_false (by omega)
        have hin : ¬ (i : Int) < (ln : Int) := by omega
        rw [List.take_of_length_le (by rw [HL.out]; omega)] at HAE
        obtain ⟨ai, ci, hvi, -, -, -⟩ := HSi.out.a
        dsimp only at hvi
        obtain ⟨ni, hni⟩ : ∃ z, Ai.length = z := ⟨_, rfl⟩
        rw [hni] at hvi
        have HNI := hide hni
        have v4 := HSi.out.va hvi
        clear hni hvi
        have o3 := HSi.out.sc.o3
        have hof := HSi.out.sc.of
        go_upto_region 151 with fail
        have HS301 := hide (HSi.out.on ((ni : Int)))
        clear HSi
        generalize wl.setCell ⟨o, 3, none⟩ (.int .i64 ((ni : Int))) = W301 at *
        clear o3 hof v4 hib hin hw1
        obtain ⟨bo, hbo⟩ : ∃ x : Ob, ({ (bb : Ob) with n := (ni : Int) }) = x := ⟨_, rfl⟩
        have HSQ : Hid (s' = { s with A := Ai }) := (by show _ = _; rw [← HSE.out, HE.out, if_pos rfl, HAE.out])
        have HBQ : Hid (b' = bo) := by show _ = _; rw [← hbo]; exact (by rw [← HBE.out, HE.out, if_pos rfl, HAE.out, HNI.out, ← HBB.out] <;> rfl)
        rw [hbo] at HS301
        clear hbo HSE HBE
        have o0 := HS301.out.sc.o0
        have o1 := HS301.out.sc.o1
        have o2 := HS301.out.sc.o2
        have o3 := HS301.out.sc.o3
        have o4 := HS301.out.sc.o4
        have o5 := HS301.out.sc.o5
        have t0 := HS301.out.sc.t0
        have t1 := HS301.out.sc.t1
        have t2 := HS301.out.sc.t2
        have t3 := HS301.out.sc.t3
        have t4 := HS301.out.sc.t4
        have t5 := HS301.out.sc.t5
        have htf := HS301.out.sc.tf
        have hot : o ≠ t := fun z => HS301.out.ne.2.2.1 z.symm
        have HF := hide HS301.out.fin
        have HC := hide (fin_cells HS301.out.sc)
        clear HS301
        go_wp2_with (with_reducible refine bodyPost_ret (v := ?v) ?hr ?hd ?hp)
        case v => exact obV bo (.slice none 0 0)
        case hr =>
          change (results _ _).run _ (fin6 W301 t bo (.slice none 0 0)) = .ok _ (fin6 W301 t bo (.slice none 0 0))
          obtain ⟨y0, y1, y2, y3, y4, y5⟩ := HC.out
          clear HF HC
          generalize fin6 W301 t bo (.slice none 0 0) = WF at *
          simp [results, Tryz.results10, go_sem, y0, y1, y2, y3, y4, y5, obV]
        case hd => rfl
        case hp => rw [HSQ.out, HBQ.out]; exact HF.out
  · have HE0 := hide hE
    have heb : (E == 0) = false := by simp [hE]
    clear hE
    have oe : W1.cell? ⟨o, 0, none⟩ = some (.int .i64 (E)) := HS1.out.sc.o0
    have o3 := HS1.out.sc.o3
    have hof := HS1.out.sc.of
    have v4 := (HS1.out.va HVa.out)
    go_upto_region 151 with fail
    have HS2 := hide (HS1.out.on ((na : Int)))
    clear HS1
    generalize W1.setCell ⟨o, 3, none⟩ (.int .i64 ((na : Int))) = W2 at *
    clear oe o3 hof heb v4
    obtain ⟨bo, hbo⟩ : ∃ x : Ob, ({ ({ (ob0 : Ob) with er := E } : Ob) with n := (na : Int) }) = x := ⟨_, rfl⟩
    have HSQ : Hid (s' = s) := (by show _ = _; rw [← HSE.out, HE.out, if_neg (by have := HE0.out; omega)])
    have HBQ : Hid (b' = bo) := by show _ = _; rw [← hbo]; exact (by rw [← HBE.out, HE.out, if_neg (by have := HE0.out; omega)] <;> rfl)
    rw [hbo] at HS2
    clear hbo HSE HBE
    have o0 := HS2.out.sc.o0
    have o1 := HS2.out.sc.o1
    have o2 := HS2.out.sc.o2
    have o3 := HS2.out.sc.o3
    have o4 := HS2.out.sc.o4
    have o5 := HS2.out.sc.o5
    have t0 := HS2.out.sc.t0
    have t1 := HS2.out.sc.t1
    have t2 := HS2.out.sc.t2
    have t3 := HS2.out.sc.t3
    have t4 := HS2.out.sc.t4
    have t5 := HS2.out.sc.t5
    have htf := HS2.out.sc.tf
    have hot : o ≠ t := fun z => HS2.out.ne.2.2.1 z.symm
    have HF := hide HS2.out.fin
    have HC := hide (fin_cells HS2.out.sc)
    clear HS2
    go_wp2_with (with_reducible refine bodyPost_ret (v := ?v) ?hr ?hd ?hp)
    case v => exact obV bo (.slice none 0 0)
    case hr =>
      change (results _ _).run _ (fin6 W2 t bo (.slice none 0 0)) = .ok _ (fin6 W2 t bo (.slice none 0 0))
      obtain ⟨y0, y1, y2, y3, y4, y5⟩ := HC.out
      clear HF HC
      generalize fin6 W2 t bo (.slice none 0 0) = WF at *
      simp [results, Tryz.results10, go_sem, y0, y1, y2, y3, y4, y5, obV]
    case hd => rfl
    case hp => rw [HSQ.out, HBQ.out]; exact HF.out
set_option linter.unusedSimpArgs false in
set_option maxRecDepth 100000 in
set_option maxHeartbeats 32000000 in
/-- cnflaw.modelBench.step: OpSave -/
theorem mstep_26 (w : World) (B m z : Nat) (X : Nat → Prop) (V : Nat → Value) (S : Nat → Nat → Prop) (s : Mst) (h : MN w B m X V S (QM B s) s.nv s.sv) (hB : B ≤ w.heap.size) (hX : ∀ k, X k → k < w.heap.size) (hok : MsOk z s) (hz : z ≤ 65536) (v : OpV) (hk : v.kd = 26) (ha : -9223372036854775808 ≤ v.a ∧ v.a ≤ 9223372036854775807) :
    Calls Tryz.prog 10 #[.pointer (some ⟨m, 0, none⟩), opZ v] w (MpPost w (fp m S) B m X ({ s with sv := s.nv, SF := s.F, SA := s.A, SP := s.P }) (ob0)) := by
  have HS0 := hide (mw_new v h hB hX)
  have HRB : Hid (∀ k, fp m S k → B ≤ k) := fun k z => z.elim (fun z => by rw [z]; exact h.mB) (fun ⟨i, hi, y⟩ => (h.rg i hi k y).1)
  unfold opZ
  have HOK := hide hok
  have HZ := hide hz
  obtain ⟨s', hs'⟩ : ∃ x : Mst, ({ s with sv := s.nv, SF := s.F, SA := s.A, SP := s.P }) = x := ⟨_, rfl⟩
  obtain ⟨b', hb'⟩ : ∃ x : Ob, (ob0) = x := ⟨_, rfl⟩
  rw [hs', hb']
  obtain ⟨kd, va, la, ln, lc, VX, ta, tn, tc, VT⟩ := v
  dsimp only at hk HS0 ha hs' hb' ⊢
  subst hk
  have HSE := hide hs'
  have HBE := hide hb'
  clear h hok hz hB hX hs' hb'
  generalize fp m S = R at *
  go_enter Tryz.func10, Tryz.ntmps10
  go_upto_region 2 with fail
  generalize (((w.alloc (.cells #[.int .i64 26, .int .i64 va, .slice la ln lc, .slice ta tn tc] 37)).alloc (.cells #[.int .i64 0, .int .i64 0, .int .i64 0, .int .i64 0, .int .i64 0, .slice none 0 0] 43)).alloc (.cells #[.int .i64 0, .int .i64 0, .int .i64 0, .int .i64 0, .int .i64 0, .slice none 0 0] 43)) = W0 at *
  generalize w.heap.size + 1 + 1 = o at *
  generalize w.heap.size + 1 = t at *
  generalize w.heap.size = q at *
  have q0 : W0.cell? ⟨q, 0, none⟩ = some (.int .i64 26) := HS0.out.sc.q0
  obtain ⟨fa, fc, hvf, hlf, hcf, hmf⟩ := HS0.out.f
  try dsimp only at hvf hlf hcf
  obtain ⟨nf, hnf⟩ : ∃ z, s.F.length = z := ⟨_, rfl⟩
  rw [hnf] at hvf hcf
  have HVf := hide hvf
  have HOf := hide hlf
  have HNf := hide hnf
  clear hvf hlf hcf hmf hnf
  have c94 : Hid (Calls Tryz.prog 94 #[.agg #[.int .i64 s.nv, .slice fa nf fc]] W0 (CfPost W0 s.nv s.F)) := by have := copyFM_any W0 s.nv fa fc s.F HOf.out (by have := HOK.out.F.len; have := HZ.out; omega) (HOK.out.F.fb (by have := HZ.out; omega)); rw [HNf.out] at this; exact this
  have v1 := HS0.out.vf HVf.out
  have cs := HS0.out.mn.c0
  go_upto_region 141 with fail
  go_wp2_with fail
  refine c94.out.mono ?_
  rintro e w5 ⟨v5, n5, rfl, hlp, hx5⟩
  clear c94 v1 cs
  have HL5 := hide (HS0.out.lowE hx5)
  obtain ⟨V6, S6, hs6⟩ := HS0.out.newSF hlp hx5
  have HS6 := hide (hs6.num4 (s.nv))
  rw [set_swap _ _ _ _ _ _ (by decide)] at HS6
  have d0 := HL5.out.mn.c4
  have d1 : w5.cell? ⟨m, 5, none⟩ = some (V 2) := HL5.out.mn.c 2 (by decide)
  have cf := HL5.out.mn.fz
  obtain ⟨a5, c5, hv5⟩ : ∃ a c, v5 = .slice a n5 c := by obtain ⟨Vq, q1, _⟩ := hlp.ro; exact own_form q1
  subst hv5
  clear hs6 hlp hx5 HS0 HL5
  go_upto_region 142 with fail
  generalize (w5.setCell ⟨m, 4, none⟩ (.int .i64 (s.nv))).setCell ⟨m, 5, none⟩ (.slice a5 n5 c5) = W6 at *
  clear d0 d1 cf
  obtain ⟨aa, ac, hva, hla, hca, hma⟩ := HS6.out.a
  try dsimp only at hva hla hca
  obtain ⟨na, hna⟩ : ∃ z, s.A.length = z := ⟨_, rfl⟩
  rw [hna] at hva hca
  have HVa := hide hva
  have HOa := hide hla
  have HNa := hide hna
  clear hva hla hca hma hna
  have c75 : Hid (Calls Tryz.prog 75 #[.slice aa na ac] W6 (MlPost W6 s.A)) := by have := copyM_any W6 aa ac s.A HOa.out (by have := HOK.out.A.len; have := HZ.out; omega); rw [HNa.out] at this; exact this
  have v1 := HS6.out.va HVa.out
  go_upto_region 142 with fail
  go_wp2_with fail
  refine c75.out.mono ?_
  rintro e w5 hp
  clear c75 v1
  have hx5 : Ex (fun _ => False) W6 w5 := by obtain ⟨_, _, _, _, hh⟩ := hp; exact hh
  have HL5 := hide (HS6.out.lowE hx5)
  obtain ⟨a5, c5, V7, S7, rfl, hs7⟩ := HS6.out.newSA hp
  have HS7 := hide hs7
  have d1 : w5.cell? ⟨m, 6, none⟩ = some (V6 5) := HL5.out.mn.c 5 (by decide)
  have cf := HL5.out.mn.fz
  clear hs7 hp hx5 HS6 HL5
  go_upto_region 143 with fail
  generalize w5.setCell ⟨m, 6, none⟩ (.slice a5 (s.A).length c5) = W7 at *
  clear d1 cf
  obtain ⟨pa, pc, hvp, hlp, hcp, hmp⟩ := HS7.out.p
  try dsimp only at hvp hlp hcp
  obtain ⟨np, hnp⟩ : ∃ z, s.P.length = z := ⟨_, rfl⟩
  rw [hnp] at hvp hcp
  have HVp := hide hvp
  have HOp := hide hlp
  have HNp := hide hnp
  clear hvp hlp hcp hmp hnp
  have c95 : Hid (Calls Tryz.prog 95 #[.slice pa np pc] W7 (CsPost W7 s.P)) := by have := copySM_any W7 pa pc s.P HOp.out (by have := HOK.out.P.len; have := HZ.out; omega) (HOK.out.P.sb (by have := HZ.out; omega)); rw [HNp.out] at this; exact this
  have v1 := HS7.out.vp HVp.out
  go_upto_region 143 with fail
  go_wp2_with fail
  refine c95.out.mono ?_
  rintro e w5 ⟨v5, n5, rfl, hlp, hx5⟩
  clear c95 v1
  have HL5 := hide (HS7.out.lowE hx5)
  obtain ⟨V8, S8, hs8⟩ := HS7.out.newSP hlp hx5
  have HS8 := hide hs8
  obtain ⟨a5, c5, hv5⟩ : ∃ a c, v5 = .slice a n5 c := by obtain ⟨Vq, q1, _⟩ := hlp.ro; exact own_form q1
  subst hv5
  have d1 : w5.cell? ⟨m, 7, none⟩ = some (V7 3) := HL5.out.mn.c 3 (by decide)
  have cf := HL5.out.mn.fz
  clear hs8 hlp hx5 HS7 HL5
  go_upto_region 151 with fail
  generalize w5.setCell ⟨m, 7, none⟩ (.slice a5 n5 c5) = W8 at *
  clear d1 cf
  clear q0
  obtain ⟨bo, hbo⟩ : ∃ x : Ob, (ob0) = x := ⟨_, rfl⟩
  have HSQ : Hid (s' = { s with sv := s.nv, SF := s.F, SA := s.A, SP := s.P }) := HSE.out.symm
  have HBQ : Hid (b' = bo) := by show _ = _; rw [← hbo]; exact HBE.out.symm
  rw [hbo] at HS8
  clear hbo HSE HBE
  have o0 := HS8.out.sc.o0
  have o1 := HS8.out.sc.o1
  have o2 := HS8.out.sc.o2
  have o3 := HS8.out.sc.o3
  have o4 := HS8.out.sc.o4
  have o5 := HS8.out.sc.o5
  have t0 := HS8.out.sc.t0
  have t1 := HS8.out.sc.t1
  have t2 := HS8.out.sc.t2
  have t3 := HS8.out.sc.t3
  have t4 := HS8.out.sc.t4
  have t5 := HS8.out.sc.t5
  have htf := HS8.out.sc.tf
  have hot : o ≠ t := fun z => HS8.out.ne.2.2.1 z.symm
  have HF := hide HS8.out.fin
  have HC := hide (fin_cells HS8.out.sc)
  clear HS8
  go_wp2_with (with_reducible refine bodyPost_ret (v := ?v) ?hr ?hd ?hp)
  case v => exact obV bo (.slice none 0 0)
  case hr =>
    change (results _ _).run _ (fin6 W8 t bo (.slice none 0 0)) = .ok _ (fin6 W8 t bo (.slice none 0 0))
    obtain ⟨y0, y1, y2, y3, y4, y5⟩ := HC.out
    clear HF HC
    generalize fin6 W8 t bo (.slice none 0 0) = WF at *
    simp [results, Tryz.results10, go_sem, y0, y1, y2, y3, y4, y5, obV]
  case hd => rfl
  case hp => rw [HSQ.out, HBQ.out]; exact HF.out
set_option linter.unusedSimpArgs false in
set_option maxRecDepth 100000 in
set_option maxHeartbeats 32000000 in
/-- cnflaw.modelBench.step: OpRestore -/
theorem mstep_27 (w : World) (B m z : Nat) (X : Nat → Prop) (V : Nat → Value) (S : Nat → Nat → Prop) (s : Mst) (h : MN w B m X V S (QM B s) s.nv s.sv) (hB : B ≤ w.heap.size) (hX : ∀ k, X k → k < w.heap.size) (hok : MsOk z s) (hz : z ≤ 65536) (v : OpV) (hk : v.kd = 27) (ha : -9223372036854775808 ≤ v.a ∧ v.a ≤ 9223372036854775807) :
    Calls Tryz.prog 10 #[.pointer (some ⟨m, 0, none⟩), opZ v] w (MpPost w (fp m S) B m X ({ s with nv := s.sv, F := s.SF, A := s.SA, P := s.SP }) (ob0)) := by
  have HS0 := hide (mw_new v h hB hX)
  have HRB : Hid (∀ k, fp m S k → B ≤ k) := fun k z => z.elim (fun z => by rw [z]; exact h.mB) (fun ⟨i, hi, y⟩ => (h.rg i hi k y).1)
  unfold opZ
  have HOK := hide hok
  have HZ := hide hz
  obtain ⟨s', hs'⟩ : ∃ x : Mst, ({ s with nv := s.sv, F := s.SF, A := s.SA, P := s.SP }) = x := ⟨_, rfl⟩
  obtain ⟨b', hb'⟩ : ∃ x : Ob, (ob0) = x := ⟨_, rfl⟩
  rw [hs', hb']
  obtain ⟨kd, va, la, ln, lc, VX, ta, tn, tc, VT⟩ := v
  dsimp only at hk HS0 ha hs' hb' ⊢
  subst hk
  have HSE := hide hs'
  have HBE := hide hb'
  clear h hok hz hB hX hs' hb'
  generalize fp m S = R at *
  go_enter Tryz.func10, Tryz.ntmps10
  go_upto_region 2 with fail
  generalize (((w.alloc (.cells #[.int .i64 27, .int .i64 va, .slice la ln lc, .slice ta tn tc] 37)).alloc (.cells #[.int .i64 0, .int .i64 0, .int .i64 0, .int .i64 0, .int .i64 0, .slice none 0 0] 43)).alloc (.cells #[.int .i64 0, .int .i64 0, .int .i64 0, .int .i64 0, .int .i64 0, .slice none 0 0] 43)) = W0 at *
  generalize w.heap.size + 1 + 1 = o at *
  generalize w.heap.size + 1 = t at *
  generalize w.heap.size = q at *
  have q0 : W0.cell? ⟨q, 0, none⟩ = some (.int .i64 27) := HS0.out.sc.q0
  obtain ⟨sfa, sfc, hvsf, hlsf, hcsf, hmsf⟩ := HS0.out.sf
  try dsimp only at hvsf hlsf hcsf
  obtain ⟨nsf, hnsf⟩ : ∃ z, s.SF.length = z := ⟨_, rfl⟩
  rw [hnsf] at hvsf hcsf
  have HVsf := hide hvsf
  have HOsf := hide hlsf
  have HNsf := hide hnsf
  clear hvsf hlsf hcsf hmsf hnsf
  have c94 : Hid (Calls Tryz.prog 94 #[.agg #[.int .i64 s.sv, .slice sfa nsf sfc]] W0 (CfPost W0 s.sv s.SF)) := by have := copyFM_any W0 s.sv sfa sfc s.SF HOsf.out (by have := HOK.out.SF.len; have := HZ.out; omega) (HOK.out.SF.fb (by have := HZ.out; omega)); rw [HNsf.out] at this; exact this
  have v1 := HS0.out.vsf HVsf.out
  have cs := HS0.out.mn.c4
  go_upto_region 145 with fail
  go_wp2_with fail
  refine c94.out.mono ?_
  rintro e w5 ⟨v5, n5, rfl, hlp, hx5⟩
  clear c94 v1 cs
  have HL5 := hide (HS0.out.lowE hx5)
  obtain ⟨V6, S6, hs6⟩ := HS0.out.newF hlp hx5
  have HS6 := hide (hs6.num0 (s.sv))
  rw [set_swap _ _ _ _ _ _ (by decide)] at HS6
  have d0 := HL5.out.mn.c0
  have d1 : w5.cell? ⟨m, 1, none⟩ = some (V 0) := HL5.out.mn.c 0 (by decide)
  have cf := HL5.out.mn.fz
  obtain ⟨a5, c5, hv5⟩ : ∃ a c, v5 = .slice a n5 c := by obtain ⟨Vq, q1, _⟩ := hlp.ro; exact own_form q1
  subst hv5
  clear hs6 hlp hx5 HS0 HL5
  go_upto_region 146 with fail
  generalize (w5.setCell ⟨m, 0, none⟩ (.int .i64 (s.sv))).setCell ⟨m, 1, none⟩ (.slice a5 n5 c5) = W6 at *
  clear d0 d1 cf
  obtain ⟨saa, sac, hvsa, hlsa, hcsa, hmsa⟩ := HS6.out.sa
  try dsimp only at hvsa hlsa hcsa
  obtain ⟨nsa, hnsa⟩ : ∃ z, s.SA.length = z := ⟨_, rfl⟩
  rw [hnsa] at hvsa hcsa
  have HVsa := hide hvsa
  have HOsa := hide hlsa
  have HNsa := hide hnsa
  clear hvsa hlsa hcsa hmsa hnsa
  have c75 : Hid (Calls Tryz.prog 75 #[.slice saa nsa sac] W6 (MlPost W6 s.SA)) := by have := copyM_any W6 saa sac s.SA HOsa.out (by have := HOK.out.SA.len; have := HZ.out; omega); rw [HNsa.out] at this; exact this
  have v1 := HS6.out.vsa HVsa.out
  go_upto_region 146 with fail
  go_wp2_with fail
  refine c75.out.mono ?_
  rintro e w5 hp
  clear c75 v1
  have hx5 : Ex (fun _ => False) W6 w5 := by obtain ⟨_, _, _, _, hh⟩ := hp; exact hh
  have HL5 := hide (HS6.out.lowE hx5)
  obtain ⟨a5, c5, V7, S7, rfl, hs7⟩ := HS6.out.newA hp
  have HS7 := hide hs7
  have d1 : w5.cell? ⟨m, 2, none⟩ = some (V6 4) := HL5.out.mn.c 4 (by decide)
  have cf := HL5.out.mn.fz
  clear hs7 hp hx5 HS6 HL5
  go_upto_region 147 with fail
  generalize w5.setCell ⟨m, 2, none⟩ (.slice a5 (s.SA).length c5) = W7 at *
  clear d1 cf
  obtain ⟨spa, spc, hvsp, hlsp, hcsp, hmsp⟩ := HS7.out.sp
  try dsimp only at hvsp hlsp hcsp
  obtain ⟨nsp, hnsp⟩ : ∃ z, s.SP.length = z := ⟨_, rfl⟩
  rw [hnsp] at hvsp hcsp
  have HVsp := hide hvsp
  have HOsp := hide hlsp
  have HNsp := hide hnsp
  clear hvsp hlsp hcsp hmsp hnsp
  have c95 : Hid (Calls Tryz.prog 95 #[.slice spa nsp spc] W7 (CsPost W7 s.SP)) := by have := copySM_any W7 spa spc s.SP HOsp.out (by have := HOK.out.SP.len; have := HZ.out; omega) (HOK.out.SP.sb (by have := HZ.out; omega)); rw [HNsp.out] at this; exact this
  have v1 := HS7.out.vsp HVsp.out
  go_upto_region 147 with fail
  go_wp2_with fail
  refine c95.out.mono ?_
  rintro e w5 ⟨v5, n5, rfl, hlp, hx5⟩
  clear c95 v1
  have HL5 := hide (HS7.out.lowE hx5)
  obtain ⟨V8, S8, hs8⟩ := HS7.out.newP hlp hx5
  have HS8 := hide hs8
  obtain ⟨a5, c5, hv5⟩ : ∃ a c, v5 = .slice a n5 c := by obtain ⟨Vq, q1, _⟩ := hlp.ro; exact own_form q1
  subst hv5
  have d1 : w5.cell? ⟨m, 3, none⟩ = some (V7 1) := HL5.out.mn.c 1 (by decide)
  have cf := HL5.out.mn.fz
  clear hs8 hlp hx5 HS7 HL5
  go_upto_region 151 with fail
  generalize w5.setCell ⟨m, 3, none⟩ (.slice a5 n5 c5) = W8 at *
  clear d1 cf
  clear q0
  obtain ⟨bo, hbo⟩ : ∃ x : Ob, (ob0) = x := ⟨_, rfl⟩
  have HSQ : Hid (s' = { s with nv := s.sv, F := s.SF, A := s.SA, P := s.SP }) := HSE.out.symm
  have HBQ : Hid (b' = bo) := by show _ = _; rw [← hbo]; exact HBE.out.symm
  rw [hbo] at HS8
  clear hbo HSE HBE
  have o0 := HS8.out.sc.o0
  have o1 := HS8.out.sc.o1
  have o2 := HS8.out.sc.o2
  have o3 := HS8.out.sc.o3
  have o4 := HS8.out.sc.o4
  have o5 := HS8.out.sc.o5
  have t0 := HS8.out.sc.t0
  have t1 := HS8.out.sc.t1
  have t2 := HS8.out.sc.t2
  have t3 := HS8.out.sc.t3
  have t4 := HS8.out.sc.t4
  have t5 := HS8.out.sc.t5
  have htf := HS8.out.sc.tf
  have hot : o ≠ t := fun z => HS8.out.ne.2.2.1 z.symm
  have HF := hide HS8.out.fin
  have HC := hide (fin_cells HS8.out.sc)
  clear HS8
  go_wp2_with (with_reducible refine bodyPost_ret (v := ?v) ?hr ?hd ?hp)
  case v => exact obV bo (.slice none 0 0)
  case hr =>
    change (results _ _).run _ (fin6 W8 t bo (.slice none 0 0)) = .ok _ (fin6 W8 t bo (.slice none 0 0))
    obtain ⟨y0, y1, y2, y3, y4, y5⟩ := HC.out
    clear HF HC
    generalize fin6 W8 t bo (.slice none 0 0) = WF at *
    simp [results, Tryz.results10, go_sem, y0, y1, y2, y3, y4, y5, obV]
  case hd => rfl
  case hp => rw [HSQ.out, HBQ.out]; exact HF.out
set_option linter.unusedSimpArgs false in
set_option maxRecDepth 100000 in
set_option maxHeartbeats 32000000 in
/-- cnflaw.modelBench.step: other kinds -/
theorem mstep_oth (w : World) (B m z : Nat) (X : Nat → Prop) (V : Nat → Value) (S : Nat → Nat → Prop) (s : Mst) (h : MN w B m X V S (QM B s) s.nv s.sv) (hB : B ≤ w.heap.size) (hX : ∀ k, X k → k < w.heap.size) (hok : MsOk z s) (hz : z ≤ 65536) (v : OpV) (hk : ¬ (0 ≤ v.kd ∧ v.kd ≤ 28)) (ha : -9223372036854775808 ≤ v.a ∧ v.a ≤ 9223372036854775807) :
    Calls Tryz.prog 10 #[.pointer (some ⟨m, 0, none⟩), opZ v] w (MpPost w (fp m S) B m X (s) (ob0)) := by
  have HS0 := hide (mw_new v h hB hX)
  have HRB : Hid (∀ k, fp m S k → B ≤ k) := fun k z => z.elim (fun z => by rw [z]; exact h.mB) (fun ⟨i, hi, y⟩ => (h.rg i hi k y).1)
  unfold opZ
  have HOK := hide hok
  have HZ := hide hz
  have hs' : s = s := rfl
  obtain ⟨b', hb'⟩ : ∃ x : Ob, (ob0) = x := ⟨_, rfl⟩
  rw [hb']
  obtain ⟨kd, va, la, ln, lc, VX, ta, tn, tc, VT⟩ := v
  dsimp only at HS0 ha hs' hb' ⊢
  have HSE := hide hs'
  have HBE := hide hb'
  clear h hok hz hB hX hs' hb'
  generalize fp m S = R at *
  go_enter Tryz.func10, Tryz.ntmps10
  go_upto_region 2 with fail
  generalize (((w.alloc (.cells #[.int .i64 kd, .int .i64 va, .slice la ln lc, .slice ta tn tc] 37)).alloc (.cells #[.int .i64 0, .int .i64 0, .int .i64 0, .int .i64 0, .int .i64 0, .slice none 0 0] 43)).alloc (.cells #[.int .i64 0, .int .i64 0, .int .i64 0, .int .i64 0, .int .i64 0, .slice none 0 0] 43)) = W0 at *
  generalize w.heap.size + 1 + 1 = o at *
  generalize w.heap.size + 1 = t at *
  generalize w.heap.size = q at *
  have q0 : W0.cell? ⟨q, 0, none⟩ = some (.int .i64 kd) := HS0.out.sc.q0
  have hkd : ∀ n : Int, 0 ≤ n → n ≤ 28 → (kd == n) = false := fun n h1 h2 => by simp; intro z; subst z; exact hk ⟨h1, h2⟩
  have e0 := hkd 0 (by decide) (by decide)
  have e1 := hkd 1 (by decide) (by decide)
  have e2 := hkd 2 (by decide) (by decide)
  have e3 := hkd 3 (by decide) (by decide)
  have e4 := hkd 4 (by decide) (by decide)
  have e5 := hkd 5 (by decide) (by decide)
  have e6 := hkd 6 (by decide) (by decide)
  have e7 := hkd 7 (by decide) (by decide)
  have e8 := hkd 8 (by decide) (by decide)
  have e9 := hkd 9 (by decide) (by decide)
  have e10 := hkd 10 (by decide) (by decide)
  have e11 := hkd 11 (by decide) (by decide)
  have e12 := hkd 12 (by decide) (by decide)
  have e13 := hkd 13 (by decide) (by decide)
  have e14 := hkd 14 (by decide) (by decide)
  have e15 := hkd 15 (by decide) (by decide)
  have e16 := hkd 16 (by decide) (by decide)
  have e17 := hkd 17 (by decide) (by decide)
  have e18 := hkd 18 (by decide) (by decide)
  have e19 := hkd 19 (by decide) (by decide)
  have e20 := hkd 20 (by decide) (by decide)
  have e21 := hkd 21 (by decide) (by decide)
  have e22 := hkd 22 (by decide) (by decide)
  have e23 := hkd 23 (by decide) (by decide)
  have e24 := hkd 24 (by decide) (by decide)
  have e25 := hkd 25 (by decide) (by decide)
  have e26 := hkd 26 (by decide) (by decide)
  have e27 := hkd 27 (by decide) (by decide)
  have e28 := hkd 28 (by decide) (by decide)
  dsimp only at hk
  clear hkd hk
  go_upto_region 151 with fail
  clear e0 e1 e2 e3 e4 e5 e6 e7 e8 e9 e10 e11 e12 e13 e14 e15 e16 e17 e18 e19 e20 e21 e22 e23 e24 e25 e26 e27 e28
  clear q0
  obtain ⟨bo, hbo⟩ : ∃ x : Ob, (ob0) = x := ⟨_, rfl⟩
  have HSQ : Hid (s = s) := rfl
  have HBQ : Hid (b' = bo) := by show _ = _; rw [← hbo]; exact HBE.out.symm
  rw [hbo] at HS0
  clear hbo HSE HBE
  have o0 := HS0.out.sc.o0
  have o1 := HS0.out.sc.o1
  have o2 := HS0.out.sc.o2
  have o3 := HS0.out.sc.o3
  have o4 := HS0.out.sc.o4
  have o5 := HS0.out.sc.o5
  have t0 := HS0.out.sc.t0
  have t1 := HS0.out.sc.t1
  have t2 := HS0.out.sc.t2
  have t3 := HS0.out.sc.t3
  have t4 := HS0.out.sc.t4
  have t5 := HS0.out.sc.t5
  have htf := HS0.out.sc.tf
  have hot : o ≠ t := fun z => HS0.out.ne.2.2.1 z.symm
  have HF := hide HS0.out.fin
  have HC := hide (fin_cells HS0.out.sc)
  clear HS0
  go_wp2_with (with_reducible refine bodyPost_ret (v := ?v) ?hr ?hd ?hp)
  case v => exact obV bo (.slice none 0 0)
  case hr =>
    change (results _ _).run _ (fin6 W0 t bo (.slice none 0 0)) = .ok _ (fin6 W0 t bo (.slice none 0 0))
    obtain ⟨y0, y1, y2, y3, y4, y5⟩ := HC.out
    clear HF HC
    generalize fin6 W0 t bo (.slice none 0 0) = WF at *
    simp [results, Tryz.results10, go_sem, y0, y1, y2, y3, y4, y5, obV]
  case hd => rfl
  case hp => rw [HBQ.out]; exact HF.out
end Go.Proofs.Qxb6500773aGreat
