import Derived.Test.Qxb6500773aGreatTx
import Derived.Test.Qxb6500773aGreatLo5
namespace Go.Proofs.Qxb6500773aGreat
open Go.RowKit

set_option linter.unusedSimpArgs false in
set_option maxRecDepth 100000 in
set_option maxHeartbeats 32000000 in
/-- cnflaw.realBench.step: OpClearAssign -/
theorem step_6 (w : World) (B r z : Nat) (P : Nat → Nat) (S : Nat → Nat → Prop) (s : St) (h : BN w B r P S (QS B s)) (hB : B ≤ w.heap.size) (hok : StOk z s) (hz : z ≤ 65536) (v : OpV) (hk : v.kd = 6) (ha : -9223372036854775808 ≤ v.a ∧ v.a ≤ 9223372036854775807) :
    Calls Tryz.prog 9 #[.pointer (some ⟨r, 0, none⟩), opZ v] w (SpPost w (fp r S) B r ({ (s : St) with a := ⟨if s.a.k = 0 then s.a.k else 0, if s.a.k = 0 then s.a.V else List.replicate s.a.V.length 0⟩ }) (ob0)) := by
  have HS0 := hide (sw_new v h hB)
  unfold opZ
  have HOK := hide hok
  have HZ := hide hz
  obtain ⟨s', hs'⟩ : ∃ x : St, ({ (s : St) with a := ⟨if s.a.k = 0 then s.a.k else 0, if s.a.k = 0 then s.a.V else List.replicate s.a.V.length 0⟩ }) = x := ⟨_, rfl⟩
  obtain ⟨b', hb'⟩ : ∃ x : Ob, (ob0) = x := ⟨_, rfl⟩
  rw [hs', hb']
  obtain ⟨kd, va, la, ln, lc, VX, ta, tn, tc, VT⟩ := v
  dsimp only at hk HS0 ha hs' hb' ⊢
  subst hk
  have HSE := hide hs'
  have HBE := hide hb'
  clear h hok hz hB hs' hb'
  go_enter Tryz.func9, Tryz.ntmps9
  go_upto_region 2 with fail
  generalize (((w.alloc (.cells #[.int .i64 6, .int .i64 va, .slice la ln lc, .slice ta tn tc] 37)).alloc (.cells #[.int .i64 0, .int .i64 0, .int .i64 0, .int .i64 0, .int .i64 0, .slice none 0 0] 43)).alloc (.cells #[.int .i64 0, .int .i64 0, .int .i64 0, .int .i64 0, .int .i64 0, .slice none 0 0] 43)) = W0 at *
  generalize w.heap.size + 1 + 1 = o at *
  generalize w.heap.size + 1 = t at *
  generalize w.heap.size = q at *
  have q0 : W0.cell? ⟨q, 0, none⟩ = some (.int .i64 6) := HS0.out.sc.q0
  go_upto_region 33 with fail
  have p1 := HS0.out.bn.ptr 1 (by decide)
  obtain ⟨av, aat, aso⟩ := HS0.out.a
  have cc := hide (clear_any W0 B (P 1) av s.a.k s.a.V aat HOK.out.a)
  go_wp2_with fail
  refine cc.out.mono ?_
  rintro e wz hp
  have he := hp.1
  subst he
  obtain ⟨S1, hs1⟩ := HS0.out.ag aso hp
  have HS1 := hide hs1
  clear hs1 HS0
  clear q0 p1 aat aso cc hp
  obtain ⟨bo, hbo⟩ : ∃ x : Ob, (ob0) = x := ⟨_, rfl⟩
  have HSQ : Hid (s' = { (s : St) with a := ⟨if s.a.k = 0 then s.a.k else 0, if s.a.k = 0 then s.a.V else List.replicate s.a.V.length 0⟩ }) := HSE.out.symm
  have HBQ : Hid (b' = bo) := by show _ = _; rw [← hbo]; exact HBE.out.symm
  rw [hbo] at HS1
  clear hbo HSE HBE
  have o0 := HS1.out.sc.o0
  have o1 := HS1.out.sc.o1
  have o2 := HS1.out.sc.o2
  have o3 := HS1.out.sc.o3
  have o4 := HS1.out.sc.o4
  have o5 := HS1.out.sc.o5
  have t0 := HS1.out.sc.t0
  have t1 := HS1.out.sc.t1
  have t2 := HS1.out.sc.t2
  have t3 := HS1.out.sc.t3
  have t4 := HS1.out.sc.t4
  have t5 := HS1.out.sc.t5
  have htf := HS1.out.sc.tf
  have hot : o ≠ t := fun z => HS1.out.ne.2.2.1 z.symm
  have HF := hide HS1.out.fin
  have HC := hide (fin_cells HS1.out.sc)
  clear HS1
  go_wp2_with (with_reducible refine bodyPost_ret (v := ?v) ?hr ?hd ?hp)
  case v => exact obV bo (.slice none 0 0)
  case hr =>
    change (results _ _).run _ (fin6 wz t bo (.slice none 0 0)) = .ok _ (fin6 wz t bo (.slice none 0 0))
    obtain ⟨y0, y1, y2, y3, y4, y5⟩ := HC.out
    clear HF HC
    generalize fin6 wz t bo (.slice none 0 0) = WF at *
    simp [results, Tryz.results9, go_sem, y0, y1, y2, y3, y4, y5, obV]
  case hd => rfl
  case hp => rw [HSQ.out, HBQ.out]; exact HF.out
set_option linter.unusedSimpArgs false in
set_option maxRecDepth 100000 in
set_option maxHeartbeats 32000000 in
/-- cnflaw.realBench.step: OpLitValue -/
theorem step_7 (w : World) (B r z : Nat) (P : Nat → Nat) (S : Nat → Nat → Prop) (s : St) (h : BN w B r P S (QS B s)) (hB : B ≤ w.heap.size) (hok : StOk z s) (hz : z ≤ 65536) (v : OpV) (hk : v.kd = 7) (ha : -9223372036854775808 ≤ v.a ∧ v.a ≤ 9223372036854775807) :
    Calls Tryz.prog 9 #[.pointer (some ⟨r, 0, none⟩), opZ v] w (SpPost w (fp r S) B r (s) (if (fromP v.a).2 = 0 then { ob0 with er := (fromP v.a).2, n := lvP s.a.V (fromP v.a).1, m := (fromP v.a).1 } else { ob0 with er := (fromP v.a).2 })) := by
  have HS0 := hide (sw_new v h hB)
  unfold opZ
  have HOK := hide hok
  have HZ := hide hz
  have hs' : s = s := rfl
  obtain ⟨b', hb'⟩ : ∃ x : Ob, (if (fromP v.a).2 = 0 then { ob0 with er := (fromP v.a).2, n := lvP s.a.V (fromP v.a).1, m := (fromP v.a).1 } else { ob0 with er := (fromP v.a).2 }) = x := ⟨_, rfl⟩
  rw [hb']
  obtain ⟨kd, va, la, ln, lc, VX, ta, tn, tc, VT⟩ := v
  dsimp only at hk HS0 ha hs' hb' ⊢
  subst hk
  have HSE := hide hs'
  have HBE := hide hb'
  clear h hok hz hB hs' hb'
  go_enter Tryz.func9, Tryz.ntmps9
  go_upto_region 2 with fail
  generalize (((w.alloc (.cells #[.int .i64 7, .int .i64 va, .slice la ln lc, .slice ta tn tc] 37)).alloc (.cells #[.int .i64 0, .int .i64 0, .int .i64 0, .int .i64 0, .int .i64 0, .slice none 0 0] 43)).alloc (.cells #[.int .i64 0, .int .i64 0, .int .i64 0, .int .i64 0, .int .i64 0, .slice none 0 0] 43)) = W0 at *
  generalize w.heap.size + 1 + 1 = o at *
  generalize w.heap.size + 1 = t at *
  generalize w.heap.size = q at *
  have q0 : W0.cell? ⟨q, 0, none⟩ = some (.int .i64 7) := HS0.out.sc.q0
  go_upto_region 35 with fail
  obtain ⟨R, hR⟩ : ∃ x, fromP va = x := ⟨_, rfl⟩
  have HR := hide hR
  clear hR
  have q1 : W0.cell? ⟨q, 1, none⟩ = some (.int .i64 va) := HS0.out.sc.q1
  have cc := hide (fromDimacs_any W0 va)
  rw [HR.out] at cc
  have HLT : Hid (R.2 = 0 → LitOk R.1) := fun z => by rw [← HR.out] at z ⊢; exact (fromP_ok z).1
  obtain ⟨l, er⟩ := R
  dsimp only at HLT cc
  go_wp2_with fail
  refine cc.out.mono ?_
  rintro e wz ⟨rfl, hw⟩
  rw [hw]
  clear hw wz
  clear q0 q1 cc
  have o0 := HS0.out.sc.o0
  have hof := HS0.out.sc.of
  go_upto_region 37 with fail
  have HS1 := hide (HS0.out.er (er))
  clear HS0
  generalize W0.setCell ⟨o, 0, none⟩ (.int .i64 (er)) = W1 at *
  clear o0 hof
  by_cases her : er = 0
  · have HER := hide her
    have hl := HLT.out her
    unfold LitOk at hl
    subst her
    go_upto_region 38 with fail
    have p1 := HS1.out.bn.ptr 1 (by decide)
    obtain ⟨av, aat, aso⟩ := HS1.out.a
    obtain ⟨vv, hvv⟩ : ∃ x, lvP s.a.V l = x := ⟨_, rfl⟩
    have Hvv := hide hvv
    clear hvv
    have cc := hide (litA_any W1 B (P 1) av s.a.k s.a.V aat HOK.out.a.rng l (by omega))
    rw [Hvv.out] at cc
    have hx1 : IntKind.i64.wrap vv = vv := by
      rw [← Hvv.out]
      have := lv_rng HOK.out.a.rng l
      rw [IntKind.wrap_i64]; omega
    go_wp2_with fail
    refine cc.out.mono ?_
    rintro e wz ⟨rfl, hw⟩
    rw [hw]
    clear hw wz
    clear p1 aat aso cc
    have o3 := HS1.out.sc.o3
    have hof := HS1.out.sc.of
    go_upto_region 39 with fail
    have HS2 := hide (HS1.out.on (vv))
    clear HS1
    generalize W1.setCell ⟨o, 3, none⟩ (.int .i64 (vv)) = W2 at *
    clear o3 hof
    have cc := hide (index_any W2 l (by omega))
    go_wp2_with fail
    refine cc.out.mono ?_
    rintro e wz ⟨rfl, hw⟩
    rw [hw]
    clear hw wz
    clear cc
    have o4 := HS2.out.sc.o4
    have hof := HS2.out.sc.of
    go_upto_region 129 with fail
    have HS3 := hide (HS2.out.om (l))
    clear HS2
    generalize W2.setCell ⟨o, 4, none⟩ (.int .i64 (l)) = W3 at *
    clear o4 hof
    obtain ⟨bo, hbo⟩ : ∃ x : Ob, ({ ({ ({ (ob0 : Ob) with er := 0 } : Ob) with n := vv } : Ob) with m := l }) = x := ⟨_, rfl⟩
    have HSQ : Hid (s = s) := rfl
    have HBQ : Hid (b' = bo) := by show _ = _; rw [← hbo]; exact (by rw [← HBE.out, HR.out, if_pos rfl, ← Hvv.out] <;> rfl)
    rw [hbo] at HS3
    clear hbo HSE HBE
    have o0 := HS3.out.sc.o0
    have o1 := HS3.out.sc.o1
    have o2 := HS3.out.sc.o2
    have o3 := HS3.out.sc.o3
    have o4 := HS3.out.sc.o4
    have o5 := HS3.out.sc.o5
    have t0 := HS3.out.sc.t0
    have t1 := HS3.out.sc.t1
    have t2 := HS3.out.sc.t2
    have t3 := HS3.out.sc.t3
    have t4 := HS3.out.sc.t4
    have t5 := HS3.out.sc.t5
    have htf := HS3.out.sc.tf
    have hot : o ≠ t := fun z => HS3.out.ne.2.2.1 z.symm
    have HF := hide HS3.out.fin
    have HC := hide (fin_cells HS3.out.sc)
    clear HS3
    go_wp2_with (with_reducible refine bodyPost_ret (v := ?v) ?hr ?hd ?hp)
    case v => exact obV bo (.slice none 0 0)
    case hr =>
      change (results _ _).run _ (fin6 W3 t bo (.slice none 0 0)) = .ok _ (fin6 W3 t bo (.slice none 0 0))
      obtain ⟨y0, y1, y2, y3, y4, y5⟩ := HC.out
      clear HF HC
      generalize fin6 W3 t bo (.slice none 0 0) = WF at *
      simp [results, Tryz.results9, go_sem, y0, y1, y2, y3, y4, y5, obV]
    case hd => rfl
    case hp => rw [HBQ.out]; exact HF.out
  · have HER := hide her
    have heb : (er == 0) = false := by simpa using her
    clear her
    go_upto_region 129 with fail
    clear heb
    obtain ⟨bo, hbo⟩ : ∃ x : Ob, ({ (ob0 : Ob) with er := er }) = x := ⟨_, rfl⟩
    have HSQ : Hid (s = s) := rfl
    have HBQ : Hid (b' = bo) := by show _ = _; rw [← hbo]; exact (by rw [← HBE.out, HR.out, if_neg HER.out] <;> rfl)
    rw [hbo] at HS1
    clear hbo HSE HBE
    have o0 := HS1.out.sc.o0
    have o1 := HS1.out.sc.o1
    have o2 := HS1.out.sc.o2
    have o3 := HS1.out.sc.o3
    have o4 := HS1.out.sc.o4
    have o5 := HS1.out.sc.o5
    have t0 := HS1.out.sc.t0
    have t1 := HS1.out.sc.t1
    have t2 := HS1.out.sc.t2
    have t3 := HS1.out.sc.t3
    have t4 := HS1.out.sc.t4
    have t5 := HS1.out.sc.t5
    have htf := HS1.out.sc.tf
    have hot : o ≠ t := fun z => HS1.out.ne.2.2.1 z.symm
    have HF := hide HS1.out.fin
    have HC := hide (fin_cells HS1.out.sc)
    clear HS1
    go_wp2_with (with_reducible refine bodyPost_ret (v := ?v) ?hr ?hd ?hp)
    case v => exact obV bo (.slice none 0 0)
    case hr =>
      change (results _ _).run _ (fin6 W1 t bo (.slice none 0 0)) = .ok _ (fin6 W1 t bo (.slice none 0 0))
      obtain ⟨y0, y1, y2, y3, y4, y5⟩ := HC.out
      clear HF HC
      generalize fin6 W1 t bo (.slice none 0 0) = WF at *
      simp [results, Tryz.results9, go_sem, y0, y1, y2, y3, y4, y5, obV]
    case hd => rfl
    case hp => rw [HBQ.out]; exact HF.out
set_option linter.unusedSimpArgs false in
set_option maxRecDepth 100000 in
set_option maxHeartbeats 32000000 in
/-- cnflaw.realBench.step: OpEvalClause -/
theorem step_8 (w : World) (B r z : Nat) (P : Nat → Nat) (S : Nat → Nat → Prop) (s : St) (h : BN w B r P S (QS B s)) (hB : B ≤ w.heap.size) (hok : StOk z s) (hz : z ≤ 65536) (v : OpV) (hk : v.kd = 8) (ha : -9223372036854775808 ≤ v.a ∧ v.a ≤ 9223372036854775807) :
    Calls Tryz.prog 9 #[.pointer (some ⟨r, 0, none⟩), opZ v] w (SpPost w (fp r S) B r (s) ({ ob0 with er := (ecP s.a.V s.f.L s.f.E v.a).2, n := (ecP s.a.V s.f.L s.f.E v.a).1 })) := by
  have HS0 := hide (sw_new v h hB)
  unfold opZ
  have HOK := hide hok
  have HZ := hide hz
  have hs' : s = s := rfl
  obtain ⟨b', hb'⟩ : ∃ x : Ob, ({ ob0 with er := (ecP s.a.V s.f.L s.f.E v.a).2, n := (ecP s.a.V s.f.L s.f.E v.a).1 }) = x := ⟨_, rfl⟩
  rw [hb']
  obtain ⟨kd, va, la, ln, lc, VX, ta, tn, tc, VT⟩ := v
  dsimp only at hk HS0 ha hs' hb' ⊢
  subst hk
  have HSE := hide hs'
  have HBE := hide hb'
  clear h hok hz hB hs' hb'
  go_enter Tryz.func9, Tryz.ntmps9
  go_upto_region 2 with fail
  generalize (((w.alloc (.cells #[.int .i64 8, .int .i64 va, .slice la ln lc, .slice ta tn tc] 37)).alloc (.cells #[.int .i64 0, .int .i64 0, .int .i64 0, .int .i64 0, .int .i64 0, .slice none 0 0] 43)).alloc (.cells #[.int .i64 0, .int .i64 0, .int .i64 0, .int .i64 0, .int .i64 0, .slice none 0 0] 43)) = W0 at *
  generalize w.heap.size + 1 + 1 = o at *
  generalize w.heap.size + 1 = t at *
  generalize w.heap.size = q at *
  have q0 : W0.cell? ⟨q, 0, none⟩ = some (.int .i64 8) := HS0.out.sc.q0
  obtain ⟨R, hR⟩ : ∃ x, ecP s.a.V s.f.L s.f.E va = x := ⟨_, rfl⟩
  have HR := hide hR
  clear hR
  have hx1 : IntKind.i64.wrap R.1 = R.1 := by
    rw [← HR.out]
    have : -1 ≤ (ecP s.a.V s.f.L s.f.E va).1 ∧ (ecP s.a.V s.f.L s.f.E va).1 ≤ 1 := ec_rng s.a.V s.f.L s.f.E va
    rw [IntKind.wrap_i64]; omega
  obtain ⟨x1, x2⟩ := R
  dsimp only at hx1
  go_upto_region 41 with fail
  have HC0 := hide (HS0.out.low ((Below.refl _ _).drew))
  refine wp_region_held_drew (S := fun w' => PQ w' r q P ⟨8, va, la, ln, lc, VX, ta, tn, tc, VT⟩) (by kernel_rfl) HS0.out.pq (fun hHeld => ?_)
  refine wpAnyH_take (i := 0) (v := ?_) rfl (by kernel_rfl) (by kernel_rfl) (by kernel_rfl) (fun _ _ _ h => h) (Or.inl ⟨by rfl, ?_⟩) (by assumption) ?_
  rotate_left
  · (intro w hSw; (try dsimp only at hSw); go_simp; try (with_reducible rfl))
  try simp only [Act.put, List.getElem_toArray, List.getElem_cons_zero, List.getElem_cons_succ, List.setIfInBounds_toArray, List.set_cons_zero, List.set_cons_succ]
  refine wpAnyH_take (i := 1) (v := ?_) rfl (by kernel_rfl) (by kernel_rfl) (by kernel_rfl) (fun _ _ _ h => h) (Or.inl ⟨by rfl, ?_⟩) (by assumption) ?_
  rotate_left
  · (intro w hSw; (try dsimp only at hSw); go_simp; try (with_reducible rfl))
  try simp only [Act.put, List.getElem_toArray, List.getElem_cons_zero, List.getElem_cons_succ, List.setIfInBounds_toArray, List.set_cons_zero, List.set_cons_succ]
  refine wpAnyH_take (i := 2) (v := ?_) rfl (by kernel_rfl) (by kernel_rfl) (by kernel_rfl) (fun _ _ _ h => h) (Or.inl ⟨by rfl, ?_⟩) (by assumption) ?_
  rotate_left
  · (intro w hSw; (try dsimp only at hSw); go_simp; try (with_reducible rfl))
  try simp only [Act.put, List.getElem_toArray, List.getElem_cons_zero, List.getElem_cons_succ, List.setIfInBounds_toArray, List.set_cons_zero, List.set_cons_succ]
  refine wpAnyH_take (i := 3) (v := ?_) rfl (by kernel_rfl) (by kernel_rfl) (by kernel_rfl) (fun _ _ _ h => h) (Or.inl ⟨by rfl, ?_⟩) (by assumption) ?_
  rotate_left
  · (intro w hSw; (try dsimp only at hSw); (obtain ⟨zp, zq1, zq2⟩ := hSw; have zz := zp 0 (by decide)); go_simp; try (with_reducible rfl))
  try simp only [Act.put, List.getElem_toArray, List.getElem_cons_zero, List.getElem_cons_succ, List.setIfInBounds_toArray, List.set_cons_zero, List.set_cons_succ]
  refine wpAnyH_take (i := 4) (v := ?_) rfl (by kernel_rfl) (by kernel_rfl) (by kernel_rfl) (fun _ _ _ h => h) (Or.inl ⟨by rfl, ?_⟩) (by assumption) ?_
  rotate_left
  · (intro w hSw; (try dsimp only at hSw); go_simp; try (with_reducible rfl))
  try simp only [Act.put, List.getElem_toArray, List.getElem_cons_zero, List.getElem_cons_succ, List.setIfInBounds_toArray, List.set_cons_zero, List.set_cons_succ]
  refine wpAnyH_take (i := 5) (v := ?_) rfl (by kernel_rfl) (by kernel_rfl) (by kernel_rfl) (fun _ _ _ h => h) (Or.inl ⟨by rfl, ?_⟩) (by assumption) ?_
  rotate_left
  · (intro w hSw; (try dsimp only at hSw); (obtain ⟨zp, zq1, zq2⟩ := hSw; dsimp only at zq1 zq2); go_simp; try (with_reducible rfl))
  try simp only [Act.put, List.getElem_toArray, List.getElem_cons_zero, List.getElem_cons_succ, List.setIfInBounds_toArray, List.set_cons_zero, List.set_cons_succ]
  refine wpAnyH_take (i := 6) (v := ?_) rfl (by kernel_rfl) (by kernel_rfl) (by kernel_rfl) (fun _ _ _ h => h) (Or.inl ⟨by rfl, ?_⟩) (by assumption) ?_
  rotate_left
  · (intro w hSw; (try dsimp only at hSw); go_simp; try (with_reducible rfl))
  try simp only [Act.put, List.getElem_toArray, List.getElem_cons_zero, List.getElem_cons_succ, List.setIfInBounds_toArray, List.set_cons_zero, List.set_cons_succ]
  refine wpAnyH_take (i := 7) (v := ?_) rfl (by kernel_rfl) (by kernel_rfl) (by kernel_rfl) (fun _ _ _ h => h) (Or.inl ⟨by rfl, ?_⟩) (by assumption) ?_
  rotate_left
  · (intro w hSw; (try dsimp only at hSw); go_simp; try (with_reducible rfl))
  try simp only [Act.put, List.getElem_toArray, List.getElem_cons_zero, List.getElem_cons_succ, List.setIfInBounds_toArray, List.set_cons_zero, List.set_cons_succ]
  refine wpAnyH_take (i := 8) (v := ?_) rfl (by kernel_rfl) (by kernel_rfl) (by kernel_rfl) (fun _ _ _ h => h) (Or.inl ⟨by rfl, ?_⟩) (by assumption) ?_
  rotate_left
  · (intro w hSw; (try dsimp only at hSw); go_simp; try (with_reducible rfl))
  try simp only [Act.put, List.getElem_toArray, List.getElem_cons_zero, List.getElem_cons_succ, List.setIfInBounds_toArray, List.set_cons_zero, List.set_cons_succ]
  refine wpAnyH_take (i := 9) (v := ?_) rfl (by kernel_rfl) (by kernel_rfl) (by kernel_rfl) (fun _ _ _ h => h) (Or.inl ⟨by rfl, ?_⟩) (by assumption) ?_
  rotate_left
  · (intro w hSw; (try dsimp only at hSw); (obtain ⟨zp, zq1, zq2⟩ := hSw; have zz := zp 1 (by decide)); go_simp; try (with_reducible rfl))
  try simp only [Act.put, List.getElem_toArray, List.getElem_cons_zero, List.getElem_cons_succ, List.setIfInBounds_toArray, List.set_cons_zero, List.set_cons_succ]
  refine wpAnyH_ready (rs := [10]) (by kernel_rfl) (by simp) ?_
  refine (AllReadyH.cons rfl (fun K hK => ?_) AllReadyH.nil)
  · obtain ⟨fa, fe, fff, fs⟩ := HC0.out.f
    obtain ⟨av, aat, aso⟩ := HC0.out.a
    have cc := hide (evalClauseZ_any W0.drew B (P 0) fa fe s.f.L s.f.E fff.ar HOK.out.f.eok (by have := HOK.out.f.len; have := HZ.out; omega) (by have := HOK.out.f.len; have := HZ.out; omega) (fun x hx => (HOK.out.f.lit x hx).1) B (P 1) av s.a.k s.a.V aat HOK.out.a.rng va)
    rw [HR.out] at cc
    clear fff fs aat aso
    refine step_call rfl 40 #[.pointer (some ⟨P 0, 0, none⟩), .int .i64 va, .pointer (some ⟨P 1, 0, none⟩)] (by simp [go_sem]) (cc.out) ?_
    rintro e w1 ⟨rfl, hb1⟩
    have HC1 := hide (HC0.out.low hb1)
    clear hb1 cc
    refine ⟨_, rfl, ?_⟩
    refine hK.out _ _ ?_ (fun hHeld => ?_)
    · (first | exact HC1.out.pq | exact HC0.out.pq)
    clear hK K
    try simp only [Act.put, List.getElem_toArray, List.getElem_cons_zero, List.getElem_cons_succ, List.setIfInBounds_toArray, List.set_cons_zero, List.set_cons_succ]
    refine wpAnyH_take (i := 11) (v := ?_) rfl (by kernel_rfl) (by kernel_rfl) (by kernel_rfl) (fun _ _ _ h => h) (Or.inl ⟨by rfl, ?_⟩) (by assumption) ?_
    rotate_left
    · (intro w hSw; (try dsimp only at hSw); go_simp; try (with_reducible rfl))
    try simp only [Act.put, List.getElem_toArray, List.getElem_cons_zero, List.getElem_cons_succ, List.setIfInBounds_toArray, List.set_cons_zero, List.set_cons_succ]
    refine wpAnyH_take (i := 12) (v := ?_) rfl (by kernel_rfl) (by kernel_rfl) (by kernel_rfl) (fun _ _ _ h => h) (Or.inl ⟨by rfl, ?_⟩) (by assumption) ?_
    rotate_left
    · (intro w hSw; (try dsimp only at hSw); go_simp; try (with_reducible rfl))
    try simp only [Act.put, List.getElem_toArray, List.getElem_cons_zero, List.getElem_cons_succ, List.setIfInBounds_toArray, List.set_cons_zero, List.set_cons_succ]
    refine wpAnyH_take (i := 13) (v := ?_) rfl (by kernel_rfl) (by kernel_rfl) (by kernel_rfl) (fun _ _ _ h => h) (Or.inl ⟨by rfl, ?_⟩) (by assumption) ?_
    rotate_left
    · (intro w hSw; (try dsimp only at hSw); go_simp; try (with_reducible rfl))
    try simp only [Act.put, List.getElem_toArray, List.getElem_cons_zero, List.getElem_cons_succ, List.setIfInBounds_toArray, List.set_cons_zero, List.set_cons_succ]
    refine wpAnyH_take (i := 14) (v := ?_) rfl (by kernel_rfl) (by kernel_rfl) (by kernel_rfl) (fun _ _ _ h => h) (Or.inl ⟨by rfl, ?_⟩) (by assumption) ?_
    rotate_left
    · (intro w hSw; (try dsimp only at hSw); go_simp; try (with_reducible rfl))
    try simp only [Act.put, List.getElem_toArray, List.getElem_cons_zero, List.getElem_cons_succ, List.setIfInBounds_toArray, List.set_cons_zero, List.set_cons_succ]
    refine wpAnyH_take (i := 15) (v := ?_) rfl (by kernel_rfl) (by kernel_rfl) (by kernel_rfl) (fun _ _ _ h => h) (Or.inl ⟨by rfl, ?_⟩) (by assumption) ?_
    rotate_left
    · (intro w hSw; (try dsimp only at hSw); go_simp; try (with_reducible rfl))
    try simp only [Act.put, List.getElem_toArray, List.getElem_cons_zero, List.getElem_cons_succ, List.setIfInBounds_toArray, List.set_cons_zero, List.set_cons_succ]
    refine wpAnyH_done (by kernel_rfl) ?_ _
    clear HC0 HS0 q0
    have o0 := HC1.out.sc.o0
    have hof := HC1.out.sc.of
    go_upto_region 43 with fail
    have HS101 := hide (HC1.out.er (x2))
    clear HC1
    generalize w1.setCell ⟨o, 0, none⟩ (.int .i64 (x2)) = W101 at *
    clear o0 hof
    have o3 := HS101.out.sc.o3
    have hof := HS101.out.sc.of
    go_upto_region 129 with fail
    have HS102 := hide (HS101.out.on (x1))
    clear HS101
    generalize W101.setCell ⟨o, 3, none⟩ (.int .i64 (x1)) = W102 at *
    clear o3 hof
    obtain ⟨bo, hbo⟩ : ∃ x : Ob, ({ ({ (ob0 : Ob) with er := x2 } : Ob) with n := x1 }) = x := ⟨_, rfl⟩
    have HSQ : Hid (s = s) := rfl
    have HBQ : Hid (b' = bo) := by show _ = _; rw [← hbo]; exact (by rw [← HBE.out, HR.out])
    rw [hbo] at HS102
    clear hbo HSE HBE
    have o0 := HS102.out.sc.o0
    have o1 := HS102.out.sc.o1
    have o2 := HS102.out.sc.o2
    have o3 := HS102.out.sc.o3
    have o4 := HS102.out.sc.o4
    have o5 := HS102.out.sc.o5
    have t0 := HS102.out.sc.t0
    have t1 := HS102.out.sc.t1
    have t2 := HS102.out.sc.t2
    have t3 := HS102.out.sc.t3
    have t4 := HS102.out.sc.t4
    have t5 := HS102.out.sc.t5
    have htf := HS102.out.sc.tf
    have hot : o ≠ t := fun z => HS102.out.ne.2.2.1 z.symm
    have HF := hide HS102.out.fin
    have HC := hide (fin_cells HS102.out.sc)
    clear HS102
    go_wp2_with (with_reducible refine bodyPost_ret (v := ?v) ?hr ?hd ?hp)
    case v => exact obV bo (.slice none 0 0)
    case hr =>
      change (results _ _).run _ (fin6 W102 t bo (.slice none 0 0)) = .ok _ (fin6 W102 t bo (.slice none 0 0))
      obtain ⟨y0, y1, y2, y3, y4, y5⟩ := HC.out
      clear HF HC
      generalize fin6 W102 t bo (.slice none 0 0) = WF at *
      simp [results, Tryz.results9, go_sem, y0, y1, y2, y3, y4, y5, obV]
    case hd => rfl
    case hp => rw [HBQ.out]; exact HF.out
set_option linter.unusedSimpArgs false in
set_option maxRecDepth 100000 in
set_option maxHeartbeats 32000000 in
/-- cnflaw.realBench.step: OpStatus -/
theorem step_9 (w : World) (B r z : Nat) (P : Nat → Nat) (S : Nat → Nat → Prop) (s : St) (h : BN w B r P S (QS B s)) (hB : B ≤ w.heap.size) (hok : StOk z s) (hz : z ≤ 65536) (v : OpV) (hk : v.kd = 9) (ha : -9223372036854775808 ≤ v.a ∧ v.a ≤ 9223372036854775807) :
    Calls Tryz.prog 9 #[.pointer (some ⟨r, 0, none⟩), opZ v] w (SpPost w (fp r S) B r (s) ({ ob0 with er := (scP s.a.V s.f.L s.f.E v.a).2.2, n := (scP s.a.V s.f.L s.f.E v.a).1, m := dimP (scP s.a.V s.f.L s.f.E v.a).2.1 })) := by
  have HS0 := hide (sw_new v h hB)
  unfold opZ
  have HOK := hide hok
  have HZ := hide hz
  have hs' : s = s := rfl
  obtain ⟨b', hb'⟩ : ∃ x : Ob, ({ ob0 with er := (scP s.a.V s.f.L s.f.E v.a).2.2, n := (scP s.a.V s.f.L s.f.E v.a).1, m := dimP (scP s.a.V s.f.L s.f.E v.a).2.1 }) = x := ⟨_, rfl⟩
  rw [hb']
  obtain ⟨kd, va, la, ln, lc, VX, ta, tn, tc, VT⟩ := v
  dsimp only at hk HS0 ha hs' hb' ⊢
  subst hk
  have HSE := hide hs'
  have HBE := hide hb'
  clear h hok hz hB hs' hb'
  go_enter Tryz.func9, Tryz.ntmps9
  go_upto_region 2 with fail
  generalize (((w.alloc (.cells #[.int .i64 9, .int .i64 va, .slice la ln lc, .slice ta tn tc] 37)).alloc (.cells #[.int .i64 0, .int .i64 0, .int .i64 0, .int .i64 0, .int .i64 0, .slice none 0 0] 43)).alloc (.cells #[.int .i64 0, .int .i64 0, .int .i64 0, .int .i64 0, .int .i64 0, .slice none 0 0] 43)) = W0 at *
  generalize w.heap.size + 1 + 1 = o at *
  generalize w.heap.size + 1 = t at *
  generalize w.heap.size = q at *
  have q0 : W0.cell? ⟨q, 0, none⟩ = some (.int .i64 9) := HS0.out.sc.q0
  obtain ⟨R, hR⟩ : ∃ x, scP s.a.V s.f.L s.f.E va = x := ⟨_, rfl⟩
  have HR := hide hR
  clear hR
  have hx1 : 0 ≤ R.2.1 ∧ R.2.1 ≤ 2147483647 := by
    rw [← HR.out]
    have := sc_rng s.a.V s.f.L s.f.E va (fun x hx => (HOK.out.f.lit x hx).1)
    omega
  obtain ⟨x1, x2, x3⟩ := R
  dsimp only at hx1
  obtain ⟨dm, hdm⟩ : ∃ x, dimP x2 = x := ⟨_, rfl⟩
  have Hdm := hide hdm
  clear hdm
  go_upto_region 45 with fail
  have HC0 := hide (HS0.out.low ((Below.refl _ _).drew))
  refine wp_region_held_drew (S := fun w' => PQ w' r q P ⟨9, va, la, ln, lc, VX, ta, tn, tc, VT⟩) (by kernel_rfl) HS0.out.pq (fun hHeld => ?_)
  refine wpAnyH_take (i := 0) (v := ?_) rfl (by kernel_rfl) (by kernel_rfl) (by kernel_rfl) (fun _ _ _ h => h) (Or.inl ⟨by rfl, ?_⟩) (by assumption) ?_
  rotate_left
  · (intro w hSw; (try dsimp only at hSw); go_simp; try (with_reducible rfl))
  try simp only [Act.put, List.getElem_toArray, List.getElem_cons_zero, List.getElem_cons_succ, List.setIfInBounds_toArray, List.set_cons_zero, List.set_cons_succ]
  refine wpAnyH_take (i := 1) (v := ?_) rfl (by kernel_rfl) (by kernel_rfl) (by kernel_rfl) (fun _ _ _ h => h) (Or.inl ⟨by rfl, ?_⟩) (by assumption) ?_
  rotate_left
  · (intro w hSw; (try dsimp only at hSw); go_simp; try (with_reducible rfl))
  try simp only [Act.put, List.getElem_toArray, List.getElem_cons_zero, List.getElem_cons_succ, List.setIfInBounds_toArray, List.set_cons_zero, List.set_cons_succ]
  refine wpAnyH_take (i := 2) (v := ?_) rfl (by kernel_rfl) (by kernel_rfl) (by kernel_rfl) (fun _ _ _ h => h) (Or.inl ⟨by rfl, ?_⟩) (by assumption) ?_
  rotate_left
  · (intro w hSw; (try dsimp only at hSw); go_simp; try (with_reducible rfl))
  try simp only [Act.put, List.getElem_toArray, List.getElem_cons_zero, List.getElem_cons_succ, List.setIfInBounds_toArray, List.set_cons_zero, List.set_cons_succ]
  refine wpAnyH_take (i := 3) (v := ?_) rfl (by kernel_rfl) (by kernel_rfl) (by kernel_rfl) (fun _ _ _ h => h) (Or.inl ⟨by rfl, ?_⟩) (by assumption) ?_
  rotate_left
  · (intro w hSw; (try dsimp only at hSw); (obtain ⟨zp, zq1, zq2⟩ := hSw; have zz := zp 0 (by decide)); go_simp; try (with_reducible rfl))
  try simp only [Act.put, List.getElem_toArray, List.getElem_cons_zero, List.getElem_cons_succ, List.setIfInBounds_toArray, List.set_cons_zero, List.set_cons_succ]
  refine wpAnyH_take (i := 4) (v := ?_) rfl (by kernel_rfl) (by kernel_rfl) (by kernel_rfl) (fun _ _ _ h => h) (Or.inl ⟨by rfl, ?_⟩) (by assumption) ?_
  rotate_left
  · (intro w hSw; (try dsimp only at hSw); go_simp; try (with_reducible rfl))
  try simp only [Act.put, List.getElem_toArray, List.getElem_cons_zero, List.getElem_cons_succ, List.setIfInBounds_toArray, List.set_cons_zero, List.set_cons_succ]
  refine wpAnyH_take (i := 5) (v := ?_) rfl (by kernel_rfl) (by kernel_rfl) (by kernel_rfl) (fun _ _ _ h => h) (Or.inl ⟨by rfl, ?_⟩) (by assumption) ?_
  rotate_left
  · (intro w hSw; (try dsimp only at hSw); (obtain ⟨zp, zq1, zq2⟩ := hSw; dsimp only at zq1 zq2); go_simp; try (with_reducible rfl))
  try simp only [Act.put, List.getElem_toArray, List.getElem_cons_zero, List.getElem_cons_succ, List.setIfInBounds_toArray, List.set_cons_zero, List.set_cons_succ]
  refine wpAnyH_take (i := 6) (v := ?_) rfl (by kernel_rfl) (by kernel_rfl) (by kernel_rfl) (fun _ _ _ h => h) (Or.inl ⟨by rfl, ?_⟩) (by assumption) ?_
  rotate_left
  · (intro w hSw; (try dsimp only at hSw); go_simp; try (with_reducible rfl))
  try simp only [Act.put, List.getElem_toArray, List.getElem_cons_zero, List.getElem_cons_succ, List.setIfInBounds_toArray, List.set_cons_zero, List.set_cons_succ]
  refine wpAnyH_take (i := 7) (v := ?_) rfl (by kernel_rfl) (by kernel_rfl) (by kernel_rfl) (fun _ _ _ h => h) (Or.inl ⟨by rfl, ?_⟩) (by assumption) ?_
  rotate_left
  · (intro w hSw; (try dsimp only at hSw); go_simp; try (with_reducible rfl))
  try simp only [Act.put, List.getElem_toArray, List.getElem_cons_zero, List.getElem_cons_succ, List.setIfInBounds_toArray, List.set_cons_zero, List.set_cons_succ]
  refine wpAnyH_take (i := 8) (v := ?_) rfl (by kernel_rfl) (by kernel_rfl) (by kernel_rfl) (fun _ _ _ h => h) (Or.inl ⟨by rfl, ?_⟩) (by assumption) ?_
  rotate_left
  · (intro w hSw; (try dsimp only at hSw); go_simp; try (with_reducible rfl))
  try simp only [Act.put, List.getElem_toArray, List.getElem_cons_zero, List.getElem_cons_succ, List.setIfInBounds_toArray, List.set_cons_zero, List.set_cons_succ]
  refine wpAnyH_take (i := 9) (v := ?_) rfl (by kernel_rfl) (by kernel_rfl) (by kernel_rfl) (fun _ _ _ h => h) (Or.inl ⟨by rfl, ?_⟩) (by assumption) ?_
  rotate_left
  · (intro w hSw; (try dsimp only at hSw); (obtain ⟨zp, zq1, zq2⟩ := hSw; have zz := zp 1 (by decide)); go_simp; try (with_reducible rfl))
  try simp only [Act.put, List.getElem_toArray, List.getElem_cons_zero, List.getElem_cons_succ, List.setIfInBounds_toArray, List.set_cons_zero, List.set_cons_succ]
  refine wpAnyH_ready (rs := [10]) (by kernel_rfl) (by simp) ?_
  refine (AllReadyH.cons rfl (fun K hK => ?_) AllReadyH.nil)
  · obtain ⟨fa, fe, fff, fs⟩ := HC0.out.f
    obtain ⟨av, aat, aso⟩ := HC0.out.a
    have cc := hide (statusZ_any W0.drew B (P 0) fa fe s.f.L s.f.E fff.ar HOK.out.f.eok (by have := HOK.out.f.len; have := HZ.out; omega) (by have := HOK.out.f.len; have := HZ.out; omega) (fun x hx => (HOK.out.f.lit x hx).1) B (P 1) av s.a.k s.a.V aat HOK.out.a.rng va)
    rw [HR.out] at cc
    clear fff fs aat aso
    refine step_call rfl 41 #[.pointer (some ⟨P 0, 0, none⟩), .int .i64 va, .pointer (some ⟨P 1, 0, none⟩)] (by simp [go_sem]) (cc.out) ?_
    rintro e w1 ⟨rfl, hb1⟩
    have HC1 := hide (HC0.out.low hb1)
    clear hb1 cc
    refine ⟨_, rfl, ?_⟩
    refine hK.out _ _ ?_ (fun hHeld => ?_)
    · (first | exact HC1.out.pq | exact HC0.out.pq)
    clear hK K
    try simp only [Act.put, List.getElem_toArray, List.getElem_cons_zero, List.getElem_cons_succ, List.setIfInBounds_toArray, List.set_cons_zero, List.set_cons_succ]
    refine wpAnyH_take (i := 11) (v := ?_) rfl (by kernel_rfl) (by kernel_rfl) (by kernel_rfl) (fun _ _ _ h => h) (Or.inl ⟨by rfl, ?_⟩) (by assumption) ?_
    rotate_left
    · (intro w hSw; (try dsimp only at hSw); go_simp; try (with_reducible rfl))
    try simp only [Act.put, List.getElem_toArray, List.getElem_cons_zero, List.getElem_cons_succ, List.setIfInBounds_toArray, List.set_cons_zero, List.set_cons_succ]
    refine wpAnyH_take (i := 12) (v := ?_) rfl (by kernel_rfl) (by kernel_rfl) (by kernel_rfl) (fun _ _ _ h => h) (Or.inl ⟨by rfl, ?_⟩) (by assumption) ?_
    rotate_left
    · (intro w hSw; (try dsimp only at hSw); go_simp; try (with_reducible rfl))
    try simp only [Act.put, List.getElem_toArray, List.getElem_cons_zero, List.getElem_cons_succ, List.setIfInBounds_toArray, List.set_cons_zero, List.set_cons_succ]
    refine wpAnyH_take (i := 13) (v := ?_) rfl (by kernel_rfl) (by kernel_rfl) (by kernel_rfl) (fun _ _ _ h => h) (Or.inl ⟨by rfl, ?_⟩) (by assumption) ?_
    rotate_left
    · (intro w hSw; (try dsimp only at hSw); go_simp; try (with_reducible rfl))
    try simp only [Act.put, List.getElem_toArray, List.getElem_cons_zero, List.getElem_cons_succ, List.setIfInBounds_toArray, List.set_cons_zero, List.set_cons_succ]
    refine wpAnyH_take (i := 14) (v := ?_) rfl (by kernel_rfl) (by kernel_rfl) (by kernel_rfl) (fun _ _ _ h => h) (Or.inl ⟨by rfl, ?_⟩) (by assumption) ?_
    rotate_left
    · (intro w hSw; (try dsimp only at hSw); go_simp; try (with_reducible rfl))
    try simp only [Act.put, List.getElem_toArray, List.getElem_cons_zero, List.getElem_cons_succ, List.setIfInBounds_toArray, List.set_cons_zero, List.set_cons_succ]
    refine wpAnyH_take (i := 15) (v := ?_) rfl (by kernel_rfl) (by kernel_rfl) (by kernel_rfl) (fun _ _ _ h => h) (Or.inl ⟨by rfl, ?_⟩) (by assumption) ?_
    rotate_left
    · (intro w hSw; (try dsimp only at hSw); go_simp; try (with_reducible rfl))
    try simp only [Act.put, List.getElem_toArray, List.getElem_cons_zero, List.getElem_cons_succ, List.setIfInBounds_toArray, List.set_cons_zero, List.set_cons_succ]
    refine wpAnyH_take (i := 16) (v := ?_) rfl (by kernel_rfl) (by kernel_rfl) (by kernel_rfl) (fun _ _ _ h => h) (Or.inl ⟨by rfl, ?_⟩) (by assumption) ?_
    rotate_left
    · (intro w hSw; (try dsimp only at hSw); go_simp; try (with_reducible rfl))
    try simp only [Act.put, List.getElem_toArray, List.getElem_cons_zero, List.getElem_cons_succ, List.setIfInBounds_toArray, List.set_cons_zero, List.set_cons_succ]
    refine wpAnyH_take (i := 17) (v := ?_) rfl (by kernel_rfl) (by kernel_rfl) (by kernel_rfl) (fun _ _ _ h => h) (Or.inl ⟨by rfl, ?_⟩) (by assumption) ?_
    rotate_left
    · (intro w hSw; (try dsimp only at hSw); go_simp; try (with_reducible rfl))
    try simp only [Act.put, List.getElem_toArray, List.getElem_cons_zero, List.getElem_cons_succ, List.setIfInBounds_toArray, List.set_cons_zero, List.set_cons_succ]
    refine wpAnyH_done (by kernel_rfl) ?_ _
    clear HC0 HS0 q0
    have o0 := HC1.out.sc.o0
    have hof := HC1.out.sc.of
    go_upto_region 47 with fail
    have HS101 := hide (HC1.out.er (x3))
    clear HC1
    generalize w1.setCell ⟨o, 0, none⟩ (.int .i64 (x3)) = W101 at *
    clear o0 hof
    have o3 := HS101.out.sc.o3
    have hof := HS101.out.sc.of
    go_upto_region 48 with fail
    have HS102 := hide (HS101.out.on (x1))
    clear HS101
    generalize W101.setCell ⟨o, 3, none⟩ (.int .i64 (x1)) = W102 at *
    clear o3 hof
    have cc := hide (dimacs_any W102 x2 hx1)
    rw [Hdm.out] at cc
    go_wp2_with fail
    refine cc.out.mono ?_
    rintro e wz ⟨rfl, hw⟩
    rw [hw]
    clear hw wz
    clear cc
    have o4 := HS102.out.sc.o4
    have hof := HS102.out.sc.of
    go_upto_region 129 with fail
    have HS103 := hide (HS102.out.om (dm))
    clear HS102
    generalize W102.setCell ⟨o, 4, none⟩ (.int .i64 (dm)) = W103 at *
    clear o4 hof
    obtain ⟨bo, hbo⟩ : ∃ x : Ob, ({ ({ ({ (ob0 : Ob) with er := x3 } : Ob) with n := x1 } : Ob) with m := dm }) = x := ⟨_, rfl⟩
    have HSQ : Hid (s = s) := rfl
    have HBQ : Hid (b' = bo) := by show _ = _; rw [← hbo]; exact (by rw [← HBE.out, HR.out, ← Hdm.out])
    rw [hbo] at HS103
    clear hbo HSE HBE
    have o0 := HS103.out.sc.o0
    have o1 := HS103.out.sc.o1
    have o2 := HS103.out.sc.o2
    have o3 := HS103.out.sc.o3
    have o4 := HS103.out.sc.o4
    have o5 := HS103.out.sc.o5
    have t0 := HS103.out.sc.t0
    have t1 := HS103.out.sc.t1
    have t2 := HS103.out.sc.t2
    have t3 := HS103.out.sc.t3
    have t4 := HS103.out.sc.t4
    have t5 := HS103.out.sc.t5
    have htf := HS103.out.sc.tf
    have hot : o ≠ t := fun z => HS103.out.ne.2.2.1 z.symm
    have HF := hide HS103.out.fin
    have HC := hide (fin_cells HS103.out.sc)
    clear HS103
    go_wp2_with (with_reducible refine bodyPost_ret (v := ?v) ?hr ?hd ?hp)
    case v => exact obV bo (.slice none 0 0)
    case hr =>
      change (results _ _).run _ (fin6 W103 t bo (.slice none 0 0)) = .ok _ (fin6 W103 t bo (.slice none 0 0))
      obtain ⟨y0, y1, y2, y3, y4, y5⟩ := HC.out
      clear HF HC
      generalize fin6 W103 t bo (.slice none 0 0) = WF at *
      simp [results, Tryz.results9, go_sem, y0, y1, y2, y3, y4, y5, obV]
    case hd => rfl
    case hp => rw [HBQ.out]; exact HF.out
end Go.Proofs.Qxb6500773aGreat
