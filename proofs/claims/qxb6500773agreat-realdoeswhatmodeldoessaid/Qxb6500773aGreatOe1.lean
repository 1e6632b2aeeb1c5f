import Derived.Test.Qxb6500773aGreatOz
namespace Go.Proofs.Qxb6500773aGreat
open Go.RowKit

set_option linter.unusedSimpArgs false in
set_option maxRecDepth 100000 in
set_option maxHeartbeats 32000000 in
/-- cnflaw.modelBench.step: OpReset -/
theorem mstep_0 (w : World) (B m z : Nat) (X : Nat → Prop) (V : Nat → Value) (S : Nat → Nat → Prop) (s : Mst) (h : MN w B m X V S (QM B s) s.nv s.sv) (hB : B ≤ w.heap.size) (hX : ∀ k, X k → k < w.heap.size) (hok : MsOk z s) (hz : z ≤ 65536) (v : OpV) (hk : v.kd = 0) (ha : -9223372036854775808 ≤ v.a ∧ v.a ≤ 9223372036854775807) :
    Calls Tryz.prog 10 #[.pointer (some ⟨m, 0, none⟩), opZ v] w (MpPost w (fp m S) B m X ({ s with nv := 0, F := [], A := [], P := [] }) (ob0)) := by
  have HS0 := hide (mw_new v h hB hX)
  have HRB : Hid (∀ k, fp m S k → B ≤ k) := fun k z => z.elim (fun z => by rw [z]; exact h.mB) (fun ⟨i, hi, y⟩ => (h.rg i hi k y).1)
  unfold opZ
  have HOK := hide hok
  have HZ := hide hz
  obtain ⟨s', hs'⟩ : ∃ x : Mst, ({ s with nv := 0, F := [], A := [], P := [] }) = x := ⟨_, rfl⟩
  obtain ⟨b', hb'⟩ : ∃ x : Ob, (ob0) = x := ⟨_, rfl⟩
  rw [hs', hb']
  obtain ⟨kd, va, la, ln, lc, VX, ta, tn, tc, VT⟩ := v
  dsimp only at hk HS0 ha hs' hb' ⊢
  subst hk
  have HSE := hide hs'
  have HBE := hide hb'
  clear h hok hz hB hX hs' hb'
  generalize fp m S = R at *
  go_enter Tryz.func10, Tryz.ntmps10
  go_upto_region 2 with fail
  generalize (((w.alloc (.cells #[.int .i64 0, .int .i64 va, .slice la ln lc, .slice ta tn tc] 37)).alloc (.cells #[.int .i64 0, .int .i64 0, .int .i64 0, .int .i64 0, .int .i64 0, .slice none 0 0] 43)).alloc (.cells #[.int .i64 0, .int .i64 0, .int .i64 0, .int .i64 0, .int .i64 0, .slice none 0 0] 43)) = W0 at *
  generalize w.heap.size + 1 + 1 = o at *
  generalize w.heap.size + 1 = t at *
  generalize w.heap.size = q at *
  have q0 : W0.cell? ⟨q, 0, none⟩ = some (.int .i64 0) := HS0.out.sc.q0
  have c0 := HS0.out.mn.c0
  have v0 : W0.cell? ⟨m, 1, none⟩ = some (V 0) := HS0.out.mn.c 0 (by decide)
  have cf := HS0.out.mn.fz
  go_upto_region 5 with fail
  have HS1 := hide (HS0.out.num0 0)
  clear HS0
  obtain ⟨V2, S2, hs2⟩ := HS1.out.nilF
  have HS2 := hide hs2
  clear hs2 HS1
  generalize (W0.setCell ⟨m, 0, none⟩ (.int .i64 0)).setCell ⟨m, 1, none⟩ (.slice none 0 0) = W2 at *
  clear q0 c0 v0 cf
  have v4 : W2.cell? ⟨m, 2, none⟩ = some (V2 4) := HS2.out.mn.c 4 (by decide)
  have cf := HS2.out.mn.fz
  go_upto_region 6 with fail
  obtain ⟨V3, S3, hs3⟩ := HS2.out.nilA
  have HS3 := hide hs3
  clear hs3 HS2
  generalize W2.setCell ⟨m, 2, none⟩ (.slice none 0 0) = W3 at *
  clear v4 cf
  have v1 : W3.cell? ⟨m, 3, none⟩ = some (V3 1) := HS3.out.mn.c 1 (by decide)
  have cf := HS3.out.mn.fz
  go_upto_region 151 with fail
  obtain ⟨V4, S4, hs4⟩ := HS3.out.nilP
  have HS4 := hide hs4
  clear hs4 HS3
  generalize W3.setCell ⟨m, 3, none⟩ (.slice none 0 0) = W4 at *
  clear v1 cf
  obtain ⟨bo, hbo⟩ : ∃ x : Ob, (ob0) = x := ⟨_, rfl⟩
  have HSQ : Hid (s' = { s with nv := 0, F := [], A := [], P := [] }) := HSE.out.symm
  have HBQ : Hid (b' = bo) := by show _ = _; rw [← hbo]; exact HBE.out.symm
  rw [hbo] at HS4
  clear hbo HSE HBE
  have o0 := HS4.out.sc.o0
  have o1 := HS4.out.sc.o1
  have o2 := HS4.out.sc.o2
  have o3 := HS4.out.sc.o3
  have o4 := HS4.out.sc.o4
  have o5 := HS4.out.sc.o5
  have t0 := HS4.out.sc.t0
  have t1 := HS4.out.sc.t1
  have t2 := HS4.out.sc.t2
  have t3 := HS4.out.sc.t3
  have t4 := HS4.out.sc.t4
  have t5 := HS4.out.sc.t5
  have htf := HS4.out.sc.tf
  have hot : o ≠ t := fun z => HS4.out.ne.2.2.1 z.symm
  have HF := hide HS4.out.fin
  have HC := hide (fin_cells HS4.out.sc)
  clear HS4
  go_wp2_with (with_reducible refine bodyPost_ret (v := ?v) ?hr ?hd ?hp)
  case v => exact obV bo (.slice none 0 0)
  case hr =>
    change (results _ _).run _ (fin6 W4 t bo (.slice none 0 0)) = .ok _ (fin6 W4 t bo (.slice none 0 0))
    obtain ⟨y0, y1, y2, y3, y4, y5⟩ := HC.out
    clear HF HC
    generalize fin6 W4 t bo (.slice none 0 0) = WF at *
    simp [results, Tryz.results10, go_sem, y0, y1, y2, y3, y4, y5, obV]
  case hd => rfl
  case hp => rw [HSQ.out, HBQ.out]; exact HF.out
set_option linter.unusedSimpArgs false in
set_option maxRecDepth 100000 in
set_option maxHeartbeats 32000000 in
/-- cnflaw.modelBench.step: OpEnsureVars -/
theorem mstep_1 (w : World) (B m z : Nat) (X : Nat → Prop) (V : Nat → Value) (S : Nat → Nat → Prop) (s : Mst) (h : MN w B m X V S (QM B s) s.nv s.sv) (hB : B ≤ w.heap.size) (hX : ∀ k, X k → k < w.heap.size) (hok : MsOk z s) (hz : z ≤ 65536) (v : OpV) (hk : v.kd = 1) (ha : -9223372036854775808 ≤ v.a ∧ v.a ≤ 9223372036854775807) :
    Calls Tryz.prog 10 #[.pointer (some ⟨m, 0, none⟩), opZ v] w (MpPost w (fp m S) B m X ({ s with nv := (if 0 ≤ v.a ∧ v.a ≤ 16777215 ∧ s.nv < v.a then v.a else s.nv) }) ({ ob0 with er := (if 0 ≤ v.a ∧ v.a ≤ 16777215 then 0 else 3), n := (if 0 ≤ v.a ∧ v.a ≤ 16777215 ∧ s.nv < v.a then v.a else s.nv) })) := by
  have HS0 := hide (mw_new v h hB hX)
  have HRB : Hid (∀ k, fp m S k → B ≤ k) := fun k z => z.elim (fun z => by rw [z]; exact h.mB) (fun ⟨i, hi, y⟩ => (h.rg i hi k y).1)
  unfold opZ
  have HOK := hide hok
  have HZ := hide hz
  obtain ⟨s', hs'⟩ : ∃ x : Mst, ({ s with nv := (if 0 ≤ v.a ∧ v.a ≤ 16777215 ∧ s.nv < v.a then v.a else s.nv) }) = x := ⟨_, rfl⟩
  obtain ⟨b', hb'⟩ : ∃ x : Ob, ({ ob0 with er := (if 0 ≤ v.a ∧ v.a ≤ 16777215 then 0 else 3), n := (if 0 ≤ v.a ∧ v.a ≤ 16777215 ∧ s.nv < v.a then v.a else s.nv) }) = x := ⟨_, rfl⟩
  rw [hs', hb']
  obtain ⟨kd, va, la, ln, lc, VX, ta, tn, tc, VT⟩ := v
  dsimp only at hk HS0 ha hs' hb' ⊢
  subst hk
  have HSE := hide hs'
  have HBE := hide hb'
  clear h hok hz hB hX hs' hb'
  generalize fp m S = R at *
  go_enter Tryz.func10, Tryz.ntmps10
  go_upto_region 2 with fail
  generalize (((w.alloc (.cells #[.int .i64 1, .int .i64 va, .slice la ln lc, .slice ta tn tc] 37)).alloc (.cells #[.int .i64 0, .int .i64 0, .int .i64 0, .int .i64 0, .int .i64 0, .slice none 0 0] 43)).alloc (.cells #[.int .i64 0, .int .i64 0, .int .i64 0, .int .i64 0, .int .i64 0, .slice none 0 0] 43)) = W0 at *
  generalize w.heap.size + 1 + 1 = o at *
  generalize w.heap.size + 1 = t at *
  generalize w.heap.size = q at *
  have q0 : W0.cell? ⟨q, 0, none⟩ = some (.int .i64 1) := HS0.out.sc.q0
  have q1 : W0.cell? ⟨q, 1, none⟩ = some (.int .i64 va) := HS0.out.sc.q1
  by_cases hin : 0 ≤ va ∧ va ≤ 16777215
  · have HIN := hide hin
    have h1 : decide (va < 0) = false := decide_eq_false (by omega)
    have h2 : decide (16777215 < va) = false := decide_eq_false (by omega)
    have h1i : ¬ va < 0 := by omega
    have h2i : ¬ 16777215 < va := by omega
    clear hin
    have c0 := HS0.out.mn.c0
    have cf := HS0.out.mn.fz
    by_cases hv : s.nv < va
    · have HV := hide hv
      have hvb : decide (s.nv < va) = true := decide_eq_true hv
      clear hv
      go_upto_region 10 with fail
      go_quiet (fail)
      rename_i nq
      have HS1 := hide (HS0.out.low (belN _ nq))
      clear HS0
      generalize World.drewN W0 nq = W1 at *
      clear q0 q1 c0 cf h1 h2 h1i h2i
      have q1 : W1.cell? ⟨q, 1, none⟩ = some (.int .i64 va) := HS1.out.sc.q1
      have c0 := HS1.out.mn.c0
      have cf := HS1.out.mn.fz
      go_upto_region 12 with fail
      have HS2 := hide (HS1.out.num0 (va))
      clear HS1
      generalize W1.setCell ⟨m, 0, none⟩ (.int .i64 (va)) = W2 at *
      clear q1 c0 cf hvb
      have c0 := HS2.out.mn.c0
      have o3 := HS2.out.sc.o3
      have hof := HS2.out.sc.of
      go_upto_region 151 with fail
      have HS3 := hide (HS2.out.on (va))
      clear HS2
      generalize W2.setCell ⟨o, 3, none⟩ (.int .i64 (va)) = W3 at *
      clear c0 o3 hof
      obtain ⟨bo, hbo⟩ : ∃ x : Ob, ({ (ob0 : Ob) with n := va }) = x := ⟨_, rfl⟩
      have HSQ : Hid (s' = { (s : Mst) with nv := va }) := (by show _ = _; rw [← HSE.out, if_pos ⟨HIN.out.1, HIN.out.2, HV.out⟩])
      have HBQ : Hid (b' = bo) := by show _ = _; rw [← hbo]; exact (by rw [← HBE.out, if_pos HIN.out, if_pos ⟨HIN.out.1, HIN.out.2, HV.out⟩] <;> rfl)
      rw [hbo] at HS3
      clear hbo HSE HBE
      have o0 := HS3.out.sc.o0
      have o1 := HS3.out.sc.o1
      have o2 := HS3.out.sc.o2
      have o3 := HS3.out.sc.o3
      have o4 := HS3.out.sc.o4
      have o5 := HS3.out.sc.o5
      have t0 := HS3.out.sc.t0
      have t1 := HS3.out.sc.t1
      have t2 := HS3.out.sc.t2
      have t3 := HS3.out.sc.t3
      have t4 := HS3.out.sc.t4
      have t5 := HS3.out.sc.t5
      have htf := HS3.out.sc.tf
      have hot : o ≠ t := fun z => HS3.out.ne.2.2.1 z.symm
      have HF := hide HS3.out.fin
      have HC := hide (fin_cells HS3.out.sc)
      clear HS3
      go_wp2_with (with_reducible refine bodyPost_ret (v := ?v) ?hr ?hd ?hp)
      case v => exact obV bo (.slice none 0 0)
      case hr =>
        change (results _ _).run _ (fin6 W3 t bo (.slice none 0 0)) = .ok _ (fin6 W3 t bo (.slice none 0 0))
        obtain ⟨y0, y1, y2, y3, y4, y5⟩ := HC.out
        clear HF HC
        generalize fin6 W3 t bo (.slice none 0 0) = WF at *
        simp [results, Tryz.results10, go_sem, y0, y1, y2, y3, y4, y5, obV]
      case hd => rfl
      case hp => rw [HSQ.out, HBQ.out]; exact HF.out
    · have HV := hide hv
      have hvb : decide (s.nv < va) = false := decide_eq_false hv
      clear hv
      go_upto_region 10 with fail
      go_quiet (fail)
      rename_i nq
      have HS1 := hide (HS0.out.low (belN _ nq))
      clear HS0
      generalize World.drewN W0 nq = W1 at *
      clear q0 q1 c0 cf h1 h2 h1i h2i
      have c0 := HS1.out.mn.c0
      have o3 := HS1.out.sc.o3
      have hof := HS1.out.sc.of
      go_upto_region 151 with fail
      have HS2 := hide (HS1.out.on (s.nv))
      clear HS1
      generalize W1.setCell ⟨o, 3, none⟩ (.int .i64 (s.nv)) = W2 at *
      clear c0 o3 hof hvb
      obtain ⟨bo, hbo⟩ : ∃ x : Ob, ({ (ob0 : Ob) with n := s.nv }) = x := ⟨_, rfl⟩
      have HSQ : Hid (s' = s) := (by show _ = _; rw [← HSE.out, if_neg (fun z => by have := HV.out; omega)])
      have HBQ : Hid (b' = bo) := by show _ = _; rw [← hbo]; exact (by rw [← HBE.out, if_pos HIN.out, if_neg (fun z => by have := HV.out; omega)] <;> rfl)
      rw [hbo] at HS2
      clear hbo HSE HBE
      have o0 := HS2.out.sc.o0
      have o1 := HS2.out.sc.o1
      have o2 := HS2.out.sc.o2
      have o3 := HS2.out.sc.o3
      have o4 := HS2.out.sc.o4
      have o5 := HS2.out.sc.o5
      have t0 := HS2.out.sc.t0
      have t1 := HS2.out.sc.t1
      have t2 := HS2.out.sc.t2
      have t3 := HS2.out.sc.t3
      have t4 := HS2.out.sc.t4
      have t5 := HS2.out.sc.t5
      have htf := HS2.out.sc.tf
      have hot : o ≠ t := fun z => HS2.out.ne.2.2.1 z.symm
      have HF := hide HS2.out.fin
      have HC := hide (fin_cells HS2.out.sc)
      clear HS2
      go_wp2_with (with_reducible refine bodyPost_ret (v := ?v) ?hr ?hd ?hp)
      case v => exact obV bo (.slice none 0 0)
      case hr =>
        change (results _ _).run _ (fin6 W2 t bo (.slice none 0 0)) = .ok _ (fin6 W2 t bo (.slice none 0 0))
        obtain ⟨y0, y1, y2, y3, y4, y5⟩ := HC.out
        clear HF HC
        generalize fin6 W2 t bo (.slice none 0 0) = WF at *
        simp [results, Tryz.results10, go_sem, y0, y1, y2, y3, y4, y5, obV]
      case hd => rfl
      case hp => rw [HSQ.out, HBQ.out]; exact HF.out
  · have HIN := hide hin
    rcases (show va < 0 ∨ (0 ≤ va ∧ 16777215 < va) by omega) with hlo | ⟨hlo, hhi⟩
    · clear hin
      have h1 : decide (va < 0) = true := decide_eq_true hlo
      have h1i := hlo
      go_upto_region 9 with fail
      clear q0 q1 h1 h1i hlo
      have o0 := HS0.out.sc.o0
      have hof := HS0.out.sc.of
      go_upto_region 12 with fail
      have HS1 := hide (HS0.out.er (3))
      clear HS0
      generalize W0.setCell ⟨o, 0, none⟩ (.int .i64 (3)) = W1 at *
      clear o0 hof
      have c0 := HS1.out.mn.c0
      have o3 := HS1.out.sc.o3
      have hof := HS1.out.sc.of
      go_upto_region 151 with fail
      have HS2 := hide (HS1.out.on (s.nv))
      clear HS1
      generalize W1.setCell ⟨o, 3, none⟩ (.int .i64 (s.nv)) = W2 at *
      clear c0 o3 hof
      obtain ⟨bo, hbo⟩ : ∃ x : Ob, ({ ({ (ob0 : Ob) with er := 3 } : Ob) with n := s.nv }) = x := ⟨_, rfl⟩
      have HSQ : Hid (s' = s) := (by show _ = _; rw [← HSE.out, if_neg (fun z => by have := HIN.out; omega)])
      have HBQ : Hid (b' = bo) := by show _ = _; rw [← hbo]; exact (by rw [← HBE.out, if_neg (fun z => by have := HIN.out; omega), if_neg (fun z => by have := HIN.out; omega)] <;> rfl)
      rw [hbo] at HS2
      clear hbo HSE HBE
      have o0 := HS2.out.sc.o0
      have o1 := HS2.out.sc.o1
      have o2 := HS2.out.sc.o2
      have o3 := HS2.out.sc.o3
      have o4 := HS2.out.sc.o4
      have o5 := HS2.out.sc.o5
      have t0 := HS2.out.sc.t0
      have t1 := HS2.out.sc.t1
      have t2 := HS2.out.sc.t2
      have t3 := HS2.out.sc.t3
      have t4 := HS2.out.sc.t4
      have t5 := HS2.out.sc.t5
      have htf := HS2.out.sc.tf
      have hot : o ≠ t := fun z => HS2.out.ne.2.2.1 z.symm
      have HF := hide HS2.out.fin
      have HC := hide (fin_cells HS2.out.sc)
      clear HS2
      go_wp2_with (with_reducible refine bodyPost_ret (v := ?v) ?hr ?hd ?hp)
      case v => exact obV bo (.slice none 0 0)
      case hr =>
        change (results _ _).run _ (fin6 W2 t bo (.slice none 0 0)) = .ok _ (fin6 W2 t bo (.slice none 0 0))
        obtain ⟨y0, y1, y2, y3, y4, y5⟩ := HC.out
        clear HF HC
        generalize fin6 W2 t bo (.slice none 0 0) = WF at *
        simp [results, Tryz.results10, go_sem, y0, y1, y2, y3, y4, y5, obV]
      case hd => rfl
      case hp => rw [HSQ.out, HBQ.out]; exact HF.out
    · clear hin
      have h1 : decide (va < 0) = false := decide_eq_false (by omega)
      have h1i : ¬ va < 0 := by omega
      have h2 : decide (16777215 < va) = true := decide_eq_true hhi
      go_upto_region 9 with fail
      clear q0 q1 h1 h1i hlo hhi h2
      have o0 := HS0.out.sc.o0
      have hof := HS0.out.sc.of
      go_upto_region 12 with fail
      have HS1 := hide (HS0.out.er (3))
      clear HS0
      generalize W0.setCell ⟨o, 0, none⟩ (.int .i64 (3)) = W1 at *
      clear o0 hof
      have c0 := HS1.out.mn.c0
      have o3 := HS1.out.sc.o3
      have hof := HS1.out.sc.of
      go_upto_region 151 with fail
      have HS2 := hide (HS1.out.on (s.nv))
      clear HS1
      generalize W1.setCell ⟨o, 3, none⟩ (.int .i64 (s.nv)) = W2 at *
      clear c0 o3 hof
      obtain ⟨bo, hbo⟩ : ∃ x : Ob, ({ ({ (ob0 : Ob) with er := 3 } : Ob) with n := s.nv }) = x := ⟨_, rfl⟩
      have HSQ : Hid (s' = s) := (by show _ = _; rw [← HSE.out, if_neg (fun z => by have := HIN.out; omega)])
      have HBQ : Hid (b' = bo) := by show _ = _; rw [← hbo]; exact (by rw [← HBE.out, if_neg (fun z => by have := HIN.out; omega), if_neg (fun z => by have := HIN.out; omega)] <;> rfl)
      rw [hbo] at HS2
      clear hbo HSE HBE
      have o0 := HS2.out.sc.o0
      have o1 := HS2.out.sc.o1
      have o2 := HS2.out.sc.o2
      have o3 := HS2.out.sc.o3
      have o4 := HS2.out.sc.o4
      have o5 := HS2.out.sc.o5
      have t0 := HS2.out.sc.t0
      have t1 := HS2.out.sc.t1
      have t2 := HS2.out.sc.t2
      have t3 := HS2.out.sc.t3
      have t4 := HS2.out.sc.t4
      have t5 := HS2.out.sc.t5
      have htf := HS2.out.sc.tf
      have hot : o ≠ t := fun z => HS2.out.ne.2.2.1 z.symm
      have HF := hide HS2.out.fin
      have HC := hide (fin_cells HS2.out.sc)
      clear HS2
      go_wp2_with (with_reducible refine bodyPost_ret (v := ?v) ?hr ?hd ?hp)
      case v => exact obV bo (.slice none 0 0)
      case hr =>
        change (results _ _).run _ (fin6 W2 t bo (.slice none 0 0)) = .ok _ (fin6 W2 t bo (.slice none 0 0))
        obtain ⟨y0, y1, y2, y3, y4, y5⟩ := HC.out
        clear HF HC
        generalize fin6 W2 t bo (.slice none 0 0) = WF at *
        simp [results, Tryz.results10, go_sem, y0, y1, y2, y3, y4, y5, obV]
      case hd => rfl
      case hp => rw [HSQ.out, HBQ.out]; exact HF.out
set_option linter.unusedSimpArgs false in
set_option maxRecDepth 100000 in
set_option maxHeartbeats 32000000 in
/-- cnflaw.modelBench.step: OpNewVar -/
theorem mstep_2 (w : World) (B m z : Nat) (X : Nat → Prop) (V : Nat → Value) (S : Nat → Nat → Prop) (s : Mst) (h : MN w B m X V S (QM B s) s.nv s.sv) (hB : B ≤ w.heap.size) (hX : ∀ k, X k → k < w.heap.size) (hok : MsOk z s) (hz : z ≤ 65536) (v : OpV) (hk : v.kd = 2) (ha : -9223372036854775808 ≤ v.a ∧ v.a ≤ 9223372036854775807) :
    Calls Tryz.prog 10 #[.pointer (some ⟨m, 0, none⟩), opZ v] w (MpPost w (fp m S) B m X (if s.nv = 16777215 then s else { s with nv := s.nv + 1 }) (if s.nv = 16777215 then { ob0 with er := 3 } else { ob0 with n := s.nv + 1 })) := by
  have HS0 := hide (mw_new v h hB hX)
  have HRB : Hid (∀ k, fp m S k → B ≤ k) := fun k z => z.elim (fun z => by rw [z]; exact h.mB) (fun ⟨i, hi, y⟩ => (h.rg i hi k y).1)
  unfold opZ
  have HOK := hide hok
  have HZ := hide hz
  obtain ⟨s', hs'⟩ : ∃ x : Mst, (if s.nv = 16777215 then s else { s with nv := s.nv + 1 }) = x := ⟨_, rfl⟩
  obtain ⟨b', hb'⟩ : ∃ x : Ob, (if s.nv = 16777215 then { ob0 with er := 3 } else { ob0 with n := s.nv + 1 }) = x := ⟨_, rfl⟩
  rw [hs', hb']
  obtain ⟨kd, va, la, ln, lc, VX, ta, tn, tc, VT⟩ := v
  dsimp only at hk HS0 ha hs' hb' ⊢
  subst hk
  have HSE := hide hs'
  have HBE := hide hb'
  clear h hok hz hB hX hs' hb'
  generalize fp m S = R at *
  go_enter Tryz.func10, Tryz.ntmps10
  go_upto_region 2 with fail
  generalize (((w.alloc (.cells #[.int .i64 2, .int .i64 va, .slice la ln lc, .slice ta tn tc] 37)).alloc (.cells #[.int .i64 0, .int .i64 0, .int .i64 0, .int .i64 0, .int .i64 0, .slice none 0 0] 43)).alloc (.cells #[.int .i64 0, .int .i64 0, .int .i64 0, .int .i64 0, .int .i64 0, .slice none 0 0] 43)) = W0 at *
  generalize w.heap.size + 1 + 1 = o at *
  generalize w.heap.size + 1 = t at *
  generalize w.heap.size = q at *
  have q0 : W0.cell? ⟨q, 0, none⟩ = some (.int .i64 2) := HS0.out.sc.q0
  have c0 := HS0.out.mn.c0
  have cf := HS0.out.mn.fz
  by_cases hn : s.nv = 16777215
  · have HN := hide hn
    have hnb : (s.nv == 16777215) = true := by simp [hn]
    clear hn
    go_upto_region 15 with fail
    clear q0 c0 cf hnb
    have o0 := HS0.out.sc.o0
    have hof := HS0.out.sc.of
    go_upto_region 151 with fail
    have HS1 := hide (HS0.out.er (3))
    clear HS0
    generalize W0.setCell ⟨o, 0, none⟩ (.int .i64 (3)) = W1 at *
    clear o0 hof
    obtain ⟨bo, hbo⟩ : ∃ x : Ob, ({ (ob0 : Ob) with er := 3 }) = x := ⟨_, rfl⟩
    have HSQ : Hid (s' = s) := (by show _ = _; rw [← HSE.out, if_pos HN.out])
    have HBQ : Hid (b' = bo) := by show _ = _; rw [← hbo]; exact (by rw [← HBE.out, if_pos HN.out])
    rw [hbo] at HS1
    clear hbo HSE HBE
    have o0 := HS1.out.sc.o0
    have o1 := HS1.out.sc.o1
    have o2 := HS1.out.sc.o2
    have o3 := HS1.out.sc.o3
    have o4 := HS1.out.sc.o4
    have o5 := HS1.out.sc.o5
    have t0 := HS1.out.sc.t0
    have t1 := HS1.out.sc.t1
    have t2 := HS1.out.sc.t2
    have t3 := HS1.out.sc.t3
    have t4 := HS1.out.sc.t4
    have t5 := HS1.out.sc.t5
    have htf := HS1.out.sc.tf
    have hot : o ≠ t := fun z => HS1.out.ne.2.2.1 z.symm
    have HF := hide HS1.out.fin
    have HC := hide (fin_cells HS1.out.sc)
    clear HS1
    go_wp2_with (with_reducible refine bodyPost_ret (v := ?v) ?hr ?hd ?hp)
    case v => exact obV bo (.slice none 0 0)
    case hr =>
      change (results _ _).run _ (fin6 W1 t bo (.slice none 0 0)) = .ok _ (fin6 W1 t bo (.slice none 0 0))
      obtain ⟨y0, y1, y2, y3, y4, y5⟩ := HC.out
      clear HF HC
      generalize fin6 W1 t bo (.slice none 0 0) = WF at *
      simp [results, Tryz.results10, go_sem, y0, y1, y2, y3, y4, y5, obV]
    case hd => rfl
    case hp => rw [HSQ.out, HBQ.out]; exact HF.out
  · have HN := hide hn
    have hnb : (s.nv == 16777215) = false := by simp [hn]
    clear hn
    have hw1 : wrap64 (s.nv + 1) = s.nv + 1 := by have := HOK.out.nv; unfold wrap64; omega
    go_upto_region 17 with fail
    have HS1 := hide (HS0.out.num0 (s.nv + 1))
    clear HS0
    generalize W0.setCell ⟨m, 0, none⟩ (.int .i64 (s.nv + 1)) = W1 at *
    clear q0 c0 cf hnb
    have c0 := HS1.out.mn.c0
    have o3 := HS1.out.sc.o3
    have hof := HS1.out.sc.of
    go_upto_region 151 with fail
    have HS2 := hide (HS1.out.on (s.nv + 1))
    clear HS1
    generalize W1.setCell ⟨o, 3, none⟩ (.int .i64 (s.nv + 1)) = W2 at *
    clear c0 o3 hof
    obtain ⟨bo, hbo⟩ : ∃ x : Ob, ({ (ob0 : Ob) with n := s.nv + 1 }) = x := ⟨_, rfl⟩
    have HSQ : Hid (s' = { (s : Mst) with nv := s.nv + 1 }) := (by show _ = _; rw [← HSE.out, if_neg HN.out])
    have HBQ : Hid (b' = bo) := by show _ = _; rw [← hbo]; exact (by rw [← HBE.out, if_neg HN.out])
    rw [hbo] at HS2
    clear hbo HSE HBE
    have o0 := HS2.out.sc.o0
    have o1 := HS2.out.sc.o1
    have o2 := HS2.out.sc.o2
    have o3 := HS2.out.sc.o3
    have o4 := HS2.out.sc.o4
    have o5 := HS2.out.sc.o5
    have t0 := HS2.out.sc.t0
    have t1 := HS2.out.sc.t1
    have t2 := HS2.out.sc.t2
    have t3 := HS2.out.sc.t3
    have t4 := HS2.out.sc.t4
    have t5 := HS2.out.sc.t5
    have htf := HS2.out.sc.tf
    have hot : o ≠ t := fun z => HS2.out.ne.2.2.1 z.symm
    have HF := hide HS2.out.fin
    have HC := hide (fin_cells HS2.out.sc)
    clear HS2
    go_wp2_with (with_reducible refine bodyPost_ret (v := ?v) ?hr ?hd ?hp)
    case v => exact obV bo (.slice none 0 0)
    case hr =>
      change (results _ _).run _ (fin6 W2 t bo (.slice none 0 0)) = .ok _ (fin6 W2 t bo (.slice none 0 0))
      obtain ⟨y0, y1, y2, y3, y4, y5⟩ := HC.out
      clear HF HC
      generalize fin6 W2 t bo (.slice none 0 0) = WF at *
      simp [results, Tryz.results10, go_sem, y0, y1, y2, y3, y4, y5, obV]
    case hd => rfl
    case hp => rw [HSQ.out, HBQ.out]; exact HF.out
set_option linter.unusedSimpArgs false in
set_option maxRecDepth 100000 in
set_option maxHeartbeats 32000000 in
/-- cnflaw.modelBench.step: OpAssign -/
theorem mstep_4 (w : World) (B m z : Nat) (X : Nat → Prop) (V : Nat → Value) (S : Nat → Nat → Prop) (s : Mst) (h : MN w B m X V S (QM B s) s.nv s.sv) (hB : B ≤ w.heap.size) (hX : ∀ k, X k → k < w.heap.size) (hok : MsOk z s) (hz : z ≤ 65536) (v : OpV) (hk : v.kd = 4) (ha : -9223372036854775808 ≤ v.a ∧ v.a ≤ 9223372036854775807) :
    Calls Tryz.prog 10 #[.pointer (some ⟨m, 0, none⟩), opZ v] w (MpPost w (fp m S) B m X (if (fromP v.a).2 = 0 then { s with A := asgP s.A v.a } else s) (if (fromP v.a).2 = 0 then { ob0 with n := (asgP s.A v.a).length } else { ob0 with er := (fromP v.a).2, n := s.A.length })) := by
  have HS0 := hide (mw_new v h hB hX)
  have HRB : Hid (∀ k, fp m S k → B ≤ k) := fun k z => z.elim (fun z => by rw [z]; exact h.mB) (fun ⟨i, hi, y⟩ => (h.rg i hi k y).1)
  unfold opZ
  have HOK := hide hok
  have HZ := hide hz
  obtain ⟨s', hs'⟩ : ∃ x : Mst, (if (fromP v.a).2 = 0 then { s with A := asgP s.A v.a } else s) = x := ⟨_, rfl⟩
  obtain ⟨b', hb'⟩ : ∃ x : Ob, (if (fromP v.a).2 = 0 then { ob0 with n := (asgP s.A v.a).length } else { ob0 with er := (fromP v.a).2, n := s.A.length }) = x := ⟨_, rfl⟩
  rw [hs', hb']
  obtain ⟨kd, va, la, ln, lc, VX, ta, tn, tc, VT⟩ := v
  dsimp only at hk HS0 ha hs' hb' ⊢
  subst hk
  have HSE := hide hs'
  have HBE := hide hb'
  clear h hok hz hB hX hs' hb'
  generalize fp m S = R at *
  go_enter Tryz.func10, Tryz.ntmps10
  go_upto_region 2 with fail
  generalize (((w.alloc (.cells #[.int .i64 4, .int .i64 va, .slice la ln lc, .slice ta tn tc] 37)).alloc (.cells #[.int .i64 0, .int .i64 0, .int .i64 0, .int .i64 0, .int .i64 0, .slice none 0 0] 43)).alloc (.cells #[.int .i64 0, .int .i64 0, .int .i64 0, .int .i64 0, .int .i64 0, .slice none 0 0] 43)) = W0 at *
  generalize w.heap.size + 1 + 1 = o at *
  generalize w.heap.size + 1 = t at *
  generalize w.heap.size = q at *
  have q0 : W0.cell? ⟨q, 0, none⟩ = some (.int .i64 4) := HS0.out.sc.q0
  obtain ⟨aa, ac, hva, hla, hca, hma⟩ := HS0.out.a
  obtain ⟨na, hna⟩ : ∃ z, s.A.length = z := ⟨_, rfl⟩
  rw [hna] at hva hca
  have HVa := hide hva
  have HOa := hide hla
  have HNa := hide hna
  have HCa := hide (And.intro hca hma)
  clear hva hla hca hma hna
  go_upto_region 34 with fail
  obtain ⟨E, hE⟩ : ∃ x, (fromP va).2 = x := ⟨_, rfl⟩
  have HE := hide hE
  clear hE
  have q1 : W0.cell? ⟨q, 1, none⟩ = some (.int .i64 va) := HS0.out.sc.q1
  have cc : Hid (Calls Tryz.prog 77 #[.int .i64 va] W0 fun e w' => e = .returned (.int .i64 E) ∧ w' = W0) := by have := checkLit_any W0 va; rw [HE.out] at this; exact this
  have HDI : Hid (E = 0 → DI va ∧ va ≠ 0) := fun z => fromP_di (by rw [HE.out]; exact z)
  go_wp2_with fail
  refine cc.out.mono ?_
  rintro e wz ⟨rfl, hw⟩
  rw [hw]
  clear hw wz
  clear q0 q1 cc
  have o0 := HS0.out.sc.o0
  have hof := HS0.out.sc.of
  go_upto_region 35 with fail
  have HS1 := hide (HS0.out.er (E))
  clear HS0
  generalize W0.setCell ⟨o, 0, none⟩ (.int .i64 (E)) = W1 at *
  clear o0 hof
  by_cases hE : E = 0
  · have HE0 := hide hE
    have hdi := (HDI.out hE).1
    unfold DI at hdi
    subst hE
    have oe : W1.cell? ⟨o, 0, none⟩ = some (.int .i64 (0)) := HS1.out.sc.o0
    have HOb : Hid (IL W1 aa s.A) := by obtain ⟨a', c', hv, hl, _⟩ := HS1.out.a; rw [HVa.out] at hv; injection hv with hv _ _; rw [hv]; exact hl
    go_upto_region 36 with fail
    have HC0 := hide (HS1.out.low ((Below.refl _ _).drew))
    have KS0 : Hid ((fun w' => w'.cell? ⟨q, 1, none⟩ = some (.int .i64 va)) W1.drew) := HC0.out.sc.q1
    refine wp_region_held_drew (S := fun w' => w'.cell? ⟨q, 1, none⟩ = some (.int .i64 va)) (by kernel_rfl) KS0.out (fun hHeld => ?_)
    refine wpAnyH_take (i := 0) (v := ?_) rfl (by kernel_rfl) (by kernel_rfl) (by kernel_rfl) (fun _ _ _ h => h) (Or.inl ⟨by rfl, ?_⟩) (by assumption) ?_
    rotate_left
    · (intro w hSw; (try dsimp only at hSw); go_simp; try (with_reducible rfl))
    try simp only [Act.put, List.getElem_toArray, List.getElem_cons_zero, List.getElem_cons_succ, List.setIfInBounds_toArray, List.set_cons_zero, List.set_cons_succ]
    refine wpAnyH_take (i := 1) (v := ?_) rfl (by kernel_rfl) (by kernel_rfl) (by kernel_rfl) (fun _ _ _ h => h) (Or.inl ⟨by rfl, ?_⟩) (by assumption) ?_
    rotate_left
    · (intro w hSw; (try dsimp only at hSw); go_simp; try (with_reducible rfl))
    try simp only [Act.put, List.getElem_toArray, List.getElem_cons_zero, List.getElem_cons_succ, List.setIfInBounds_toArray, List.set_cons_zero, List.set_cons_succ]
    refine wpAnyH_take (i := 2) (v := ?_) rfl (by kernel_rfl) (by kernel_rfl) (by kernel_rfl) (fun _ _ _ h => h) (Or.inl ⟨by rfl, ?_⟩) (by assumption) ?_
    rotate_left
    · (intro w hSw; (try dsimp only at hSw); go_simp; try (with_reducible rfl))
    try simp only [Act.put, List.getElem_toArray, List.getElem_cons_zero, List.getElem_cons_succ, List.setIfInBounds_toArray, List.set_cons_zero, List.set_cons_succ]
    refine wpAnyH_take (i := 3) (v := ?_) rfl (by kernel_rfl) (by kernel_rfl) (by kernel_rfl) (fun _ _ _ h => h) (Or.inl ⟨by rfl, ?_⟩) (by assumption) ?_
    rotate_left
    · (intro w hSw; (try dsimp only at hSw); go_simp; try (with_reducible rfl))
    try simp only [Act.put, List.getElem_toArray, List.getElem_cons_zero, List.getElem_cons_succ, List.setIfInBounds_toArray, List.set_cons_zero, List.set_cons_succ]
    refine wpAnyH_take (i := 5) (v := ?_) rfl (by kernel_rfl) (by kernel_rfl) (by kernel_rfl) (fun _ _ _ h => h) (Or.inl ⟨by rfl, ?_⟩) (by assumption) ?_
    rotate_left
    · (intro w hSw; (try dsimp only at hSw); go_simp; try (with_reducible rfl))
    try simp only [Act.put, List.getElem_toArray, List.getElem_cons_zero, List.getElem_cons_succ, List.setIfInBounds_toArray, List.set_cons_zero, List.set_cons_succ]
    refine wpAnyH_take (i := 6) (v := ?_) rfl (by kernel_rfl) (by kernel_rfl) (by kernel_rfl) (fun _ _ _ h => h) (Or.inl ⟨by rfl, ?_⟩) (by assumption) ?_
    rotate_left
    · (intro w hSw; (try dsimp only at hSw); (have z0 := hSw); go_simp; try (with_reducible rfl))
    try simp only [Act.put, List.getElem_toArray, List.getElem_cons_zero, List.getElem_cons_succ, List.setIfInBounds_toArray, List.set_cons_zero, List.set_cons_succ]
    refine wpAnyH_ready (rs := [4]) (by kernel_rfl) (by simp) ?_
    refine (AllReadyH.cons rfl (fun K hK => ?_) AllReadyH.nil)
    · have u4 := HC0.out.va HVa.out
      have KSx := KS0
      go_simp
      refine hK.out _ _ ?_ (fun hHeld => ?_)
      · (first | with_reducible exact KS0.out | with_reducible exact KS1.out | with_reducible exact KS2.out)
      clear hK K
      try simp only [Act.put, List.getElem_toArray, List.getElem_cons_zero, List.getElem_cons_succ, List.setIfInBounds_toArray, List.set_cons_zero, List.set_cons_succ]
      refine wpAnyH_ready (rs := [7]) (by kernel_rfl) (by simp) ?_
      refine (AllReadyH.cons rfl (fun K hK => ?_) AllReadyH.nil)
      · have cc : Hid (Calls Tryz.prog 78 #[.slice aa na ac, .int .i64 va] W1.drew (MlPost W1.drew (asgP s.A va))) := by have := assignM_any W1.drew aa ac s.A va (HOb.out.keep ((Ex.refl (fun _ => False) _).drew) (fun _ _ _ z => z)) (by have := HOK.out.A.len; have := HZ.out; omega) HOK.out.A.i64 (by omega); rw [HNa.out] at this; exact this
        refine step_call rfl 78 #[.slice aa na ac, .int .i64 va] (by simp [go_sem]) cc.out ?_
        rintro e w1 hp
        clear cc
        have hx : Ex (fun _ => False) W1.drew w1 := by obtain ⟨_, _, _, _, hh⟩ := hp; exact hh
        have HC1 := hide (HC0.out.lowE hx)
        obtain ⟨a5, c5, V5, S5, rfl, hs5⟩ := HC0.out.newA hp
        have HC2 := hide hs5
        clear hp hs5
        have KS1 : Hid ((fun w' => w'.cell? ⟨q, 1, none⟩ = some (.int .i64 va)) w1) := HC1.out.sc.q1
        have KS2 : Hid ((fun w' => w'.cell? ⟨q, 1, none⟩ = some (.int .i64 va)) (w1.setCell ⟨m, 2, none⟩ (.slice a5 (asgP s.A va).length c5))) := HC2.out.sc.q1
        have u4 := HC1.out.va HVa.out
        have cf := HC1.out.mn.fz
        have v4n : (w1.setCell ⟨m, 2, none⟩ (.slice a5 (asgP s.A va).length c5)).cell? ⟨m, 2, none⟩ = some (.slice a5 (asgP s.A va).length c5) := World.cell?_setCell_same _ _ _ u4
        refine ⟨_, rfl, ?_⟩
        refine hK.out _ _ ?_ (fun hHeld => ?_)
        · (first | with_reducible exact KS0.out | with_reducible exact KS1.out | with_reducible exact KS2.out)
        clear hK K
        try simp only [Act.put, List.getElem_toArray, List.getElem_cons_zero, List.getElem_cons_succ, List.setIfInBounds_toArray, List.set_cons_zero, List.set_cons_succ]
        refine wpAnyH_take (i := 8) (v := ?_) rfl (by kernel_rfl) (by kernel_rfl) (by kernel_rfl) (fun _ _ _ h => h) (Or.inl ⟨by rfl, ?_⟩) (by assumption) ?_
        rotate_left
        · (intro w hSw; (try dsimp only at hSw); go_simp; try (with_reducible rfl))
        try simp only [Act.put, List.getElem_toArray, List.getElem_cons_zero, List.getElem_cons_succ, List.setIfInBounds_toArray, List.set_cons_zero, List.set_cons_succ]
        refine wpAnyH_take (i := 9) (v := ?_) rfl (by kernel_rfl) (by kernel_rfl) (by kernel_rfl) (fun _ _ _ h => h) (Or.inl ⟨by rfl, ?_⟩) (by assumption) ?_
        rotate_left
        · (intro w hSw; (try dsimp only at hSw); go_simp; try (with_reducible rfl))
        try simp only [Act.put, List.getElem_toArray, List.getElem_cons_zero, List.getElem_cons_succ, List.setIfInBounds_toArray, List.set_cons_zero, List.set_cons_succ]
        refine wpAnyH_ready (rs := [10]) (by kernel_rfl) (by simp) ?_
        refine (AllReadyH.cons rfl (fun K hK => ?_) AllReadyH.nil)
        · go_simp
          refine hK.out _ _ ?_ (fun hHeld => ?_)
          · (first | with_reducible exact KS0.out | with_reducible exact KS1.out | with_reducible exact KS2.out)
          clear hK K
          try simp only [Act.put, List.getElem_toArray, List.getElem_cons_zero, List.getElem_cons_succ, List.setIfInBounds_toArray, List.set_cons_zero, List.set_cons_succ]
          refine wpAnyH_done (by kernel_rfl) ?_ _
          clear KS0 KS1 KS2
          clear HC0 HC1 u4 cf HS1 hx KSx
          generalize w1.setCell ⟨m, 2, none⟩ (.slice a5 (asgP s.A va).length c5) = Wp at *
          clear oe HOb
          obtain ⟨nl, hnl⟩ : ∃ z, (asgP s.A va).length = z := ⟨_, rfl⟩
          rw [hnl] at v4n
          have HNL := hide hnl
          clear hnl
          have o3 := HC2.out.sc.o3
          have hof := HC2.out.sc.of
          go_upto_region 151 with fail
          have HS201 := hide (HC2.out.on ((nl : Int)))
          clear HC2
          generalize Wp.setCell ⟨o, 3, none⟩ (.int .i64 ((nl : Int))) = W201 at *
          clear o3 hof v4n
          obtain ⟨bo, hbo⟩ : ∃ x : Ob, ({ ({ (ob0 : Ob) with er := 0 } : Ob) with n := (nl : Int) }) = x := ⟨_, rfl⟩
          have HSQ : Hid (s' = { (s : Mst) with A := asgP s.A va }) := (by show _ = _; rw [← HSE.out, HE.out, if_pos rfl])
          have HBQ : Hid (b' = bo) := by show _ = _; rw [← hbo]; exact (by rw [← HBE.out, HE.out, if_pos rfl, HNL.out] <;> rfl)
          rw [hbo] at HS201
          clear hbo HSE HBE
          have o0 := HS201.out.sc.o0
          have o1 := HS201.out.sc.o1
          have o2 := HS201.out.sc.o2
          have o3 := HS201.out.sc.o3
          have o4 := HS201.out.sc.o4
          have o5 := HS201.out.sc.o5
          have t0 := HS201.out.sc.t0
          have t1 := HS201.out.sc.t1
          have t2 := HS201.out.sc.t2
          have t3 := HS201.out.sc.t3
          have t4 := HS201.out.sc.t4
          have t5 := HS201.out.sc.t5
          have htf := HS201.out.sc.tf
          have hot : o ≠ t := fun z => HS201.out.ne.2.2.1 z.symm
          have HF := hide HS201.out.fin
          have HC := hide (fin_cells HS201.out.sc)
          clear HS201
          go_wp2_with (with_reducible refine bodyPost_ret (v := ?v) ?hr ?hd ?hp)
          case v => exact obV bo (.slice none 0 0)
          case hr =>
            change (results _ _).run _ (fin6 W201 t bo (.slice none 0 0)) = .ok _ (fin6 W201 t bo (.slice none 0 0))
            obtain ⟨y0, y1, y2, y3, y4, y5⟩ := HC.out
            clear HF HC
            generalize fin6 W201 t bo (.slice none 0 0) = WF at *
            simp [results, Tryz.results10, go_sem, y0, y1, y2, y3, y4, y5, obV]
          case hd => rfl
          case hp => rw [HSQ.out, HBQ.out]; exact HF.out
  · have HE0 := hide hE
    have heb : (E == 0) = false := by simp [hE]
    clear hE
    have oe : W1.cell? ⟨o, 0, none⟩ = some (.int .i64 (E)) := HS1.out.sc.o0
    have o3 := HS1.out.sc.o3
    have hof := HS1.out.sc.of
    have v4 := (HS1.out.va HVa.out)
    go_upto_region 151 with fail
    have HS2 := hide (HS1.out.on ((na : Int)))
    clear HS1
    generalize W1.setCell ⟨o, 3, none⟩ (.int .i64 ((na : Int))) = W2 at *
    clear oe o3 hof heb v4
    obtain ⟨bo, hbo⟩ : ∃ x : Ob, ({ ({ (ob0 : Ob) with er := E } : Ob) with n := (na : Int) }) = x := ⟨_, rfl⟩
    have HSQ : Hid (s' = s) := (by show _ = _; rw [← HSE.out, HE.out, if_neg (by have := HE0.out; omega)])
    have HBQ : Hid (b' = bo) := by show _ = _; rw [← hbo]; exact (by rw [← HBE.out, HE.out, if_neg (by have := HE0.out; omega), HNa.out] <;> rfl)
    rw [hbo] at HS2
    clear hbo HSE HBE
    have o0 := HS2.out.sc.o0
    have o1 := HS2.out.sc.o1
    have o2 := HS2.out.sc.o2
    have o3 := HS2.out.sc.o3
    have o4 := HS2.out.sc.o4
    have o5 := HS2.out.sc.o5
    have t0 := HS2.out.sc.t0
    have t1 := HS2.out.sc.t1
    have t2 := HS2.out.sc.t2
    have t3 := HS2.out.sc.t3
    have t4 := HS2.out.sc.t4
    have t5 := HS2.out.sc.t5
    have htf := HS2.out.sc.tf
    have hot : o ≠ t := fun z => HS2.out.ne.2.2.1 z.symm
    have HF := hide HS2.out.fin
    have HC := hide (fin_cells HS2.out.sc)
    clear HS2
    go_wp2_with (with_reducible refine bodyPost_ret (v := ?v) ?hr ?hd ?hp)
    case v => exact obV bo (.slice none 0 0)
    case hr =>
      change (results _ _).run _ (fin6 W2 t bo (.slice none 0 0)) = .ok _ (fin6 W2 t bo (.slice none 0 0))
      obtain ⟨y0, y1, y2, y3, y4, y5⟩ := HC.out
      clear HF HC
      generalize fin6 W2 t bo (.slice none 0 0) = WF at *
      simp [results, Tryz.results10, go_sem, y0, y1, y2, y3, y4, y5, obV]
    case hd => rfl
    case hp => rw [HSQ.out, HBQ.out]; exact HF.out
set_option linter.unusedSimpArgs false in
set_option maxRecDepth 100000 in
set_option maxHeartbeats 32000000 in
/-- cnflaw.modelBench.step: OpUnassign -/
theorem mstep_5 (w : World) (B m z : Nat) (X : Nat → Prop) (V : Nat → Value) (S : Nat → Nat → Prop) (s : Mst) (h : MN w B m X V S (QM B s) s.nv s.sv) (hB : B ≤ w.heap.size) (hX : ∀ k, X k → k < w.heap.size) (hok : MsOk z s) (hz : z ≤ 65536) (v : OpV) (hk : v.kd = 5) (ha : -9223372036854775808 ≤ v.a ∧ v.a ≤ 9223372036854775807) :
    Calls Tryz.prog 10 #[.pointer (some ⟨m, 0, none⟩), opZ v] w (MpPost w (fp m S) B m X (if (1 ≤ v.a ∧ v.a ≤ 16777215) then { s with A := s.A.filter (fun y => absP y != v.a) } else s) (if (1 ≤ v.a ∧ v.a ≤ 16777215) then { ob0 with n := (s.A.filter (fun y => absP y != v.a)).length } else { ob0 with er := 3, n := s.A.length })) := by
  have HS0 := hide (mw_new v h hB hX)
  have HRB : Hid (∀ k, fp m S k → B ≤ k) := fun k z => z.elim (fun z => by rw [z]; exact h.mB) (fun ⟨i, hi, y⟩ => (h.rg i hi k y).1)
  unfold opZ
  have HOK := hide hok
  have HZ := hide hz
  obtain ⟨s', hs'⟩ : ∃ x : Mst, (if (1 ≤ v.a ∧ v.a ≤ 16777215) then { s with A := s.A.filter (fun y => absP y != v.a) } else s) = x := ⟨_, rfl⟩
  obtain ⟨b', hb'⟩ : ∃ x : Ob, (if (1 ≤ v.a ∧ v.a ≤ 16777215) then { ob0 with n := (s.A.filter (fun y => absP y != v.a)).length } else { ob0 with er := 3, n := s.A.length }) = x := ⟨_, rfl⟩
  rw [hs', hb']
  obtain ⟨kd, va, la, ln, lc, VX, ta, tn, tc, VT⟩ := v
  dsimp only at hk HS0 ha hs' hb' ⊢
  subst hk
  have HSE := hide hs'
  have HBE := hide hb'
  clear h hok hz hB hX hs' hb'
  generalize fp m S = R at *
  go_enter Tryz.func10, Tryz.ntmps10
  go_upto_region 2 with fail
  generalize (((w.alloc (.cells #[.int .i64 5, .int .i64 va, .slice la ln lc, .slice ta tn tc] 37)).alloc (.cells #[.int .i64 0, .int .i64 0, .int .i64 0, .int .i64 0, .int .i64 0, .slice none 0 0] 43)).alloc (.cells #[.int .i64 0, .int .i64 0, .int .i64 0, .int .i64 0, .int .i64 0, .slice none 0 0] 43)) = W0 at *
  generalize w.heap.size + 1 + 1 = o at *
  generalize w.heap.size + 1 = t at *
  generalize w.heap.size = q at *
  have q0 : W0.cell? ⟨q, 0, none⟩ = some (.int .i64 5) := HS0.out.sc.q0
  obtain ⟨aa, ac, hva, hla, hca, hma⟩ := HS0.out.a
  obtain ⟨na, hna⟩ : ∃ z, s.A.length = z := ⟨_, rfl⟩
  rw [hna] at hva hca
  have HVa := hide hva
  have HOa := hide hla
  have HNa := hide hna
  have HCa := hide (And.intro hca hma)
  clear hva hla hca hma hna
  have q1 : W0.cell? ⟨q, 1, none⟩ = some (.int .i64 va) := HS0.out.sc.q1
  have v4 := (HS0.out.va HVa.out)
  by_cases hin : 1 ≤ va ∧ va ≤ 16777215
  · have HIN := hide hin
    have h1 : decide (va < 1) = false := decide_eq_false (by omega)
    have h1i : ¬ va < 1 := by omega
    have h2 : decide (16777215 < va) = false := decide_eq_false (by omega)
    have h2i : ¬ 16777215 < va := by omega
    clear hin
    go_upto_region 41 with fail
    have HC0 := hide (HS0.out.low ((Below.refl _ _).drew))
    have KS0 : Hid ((fun w' => w'.cell? ⟨q, 1, none⟩ = some (.int .i64 va)) W0.drew) := HC0.out.sc.q1
    refine wp_region_held_drew (S := fun w' => w'.cell? ⟨q, 1, none⟩ = some (.int .i64 va)) (by kernel_rfl) KS0.out (fun hHeld => ?_)
    refine wpAnyH_take (i := 0) (v := ?_) rfl (by kernel_rfl) (by kernel_rfl) (by kernel_rfl) (fun _ _ _ h => h) (Or.inl ⟨by rfl, ?_⟩) (by assumption) ?_
    rotate_left
    · (intro w hSw; (try dsimp only at hSw); go_simp; try (with_reducible rfl))
    try simp only [Act.put, List.getElem_toArray, List.getElem_cons_zero, List.getElem_cons_succ, List.setIfInBounds_toArray, List.set_cons_zero, List.set_cons_succ]
    refine wpAnyH_take (i := 1) (v := ?_) rfl (by kernel_rfl) (by kernel_rfl) (by kernel_rfl) (fun _ _ _ h => h) (Or.inl ⟨by rfl, ?_⟩) (by assumption) ?_
    rotate_left
    · (intro w hSw; (try dsimp only at hSw); go_simp; try (with_reducible rfl))
    try simp only [Act.put, List.getElem_toArray, List.getElem_cons_zero, List.getElem_cons_succ, List.setIfInBounds_toArray, List.set_cons_zero, List.set_cons_succ]
    refine wpAnyH_take (i := 2) (v := ?_) rfl (by kernel_rfl) (by kernel_rfl) (by kernel_rfl) (fun _ _ _ h => h) (Or.inl ⟨by rfl, ?_⟩) (by assumption) ?_
    rotate_left
    · (intro w hSw; (try dsimp only at hSw); go_simp; try (with_reducible rfl))
    try simp only [Act.put, List.getElem_toArray, List.getElem_cons_zero, List.getElem_cons_succ, List.setIfInBounds_toArray, List.set_cons_zero, List.set_cons_succ]
    refine wpAnyH_take (i := 3) (v := ?_) rfl (by kernel_rfl) (by kernel_rfl) (by kernel_rfl) (fun _ _ _ h => h) (Or.inl ⟨by rfl, ?_⟩) (by assumption) ?_
    rotate_left
    · (intro w hSw; (try dsimp only at hSw); go_simp; try (with_reducible rfl))
    try simp only [Act.put, List.getElem_toArray, List.getElem_cons_zero, List.getElem_cons_succ, List.setIfInBounds_toArray, List.set_cons_zero, List.set_cons_succ]
    refine wpAnyH_take (i := 5) (v := ?_) rfl (by kernel_rfl) (by kernel_rfl) (by kernel_rfl) (fun _ _ _ h => h) (Or.inl ⟨by rfl, ?_⟩) (by assumption) ?_
    rotate_left
    · (intro w hSw; (try dsimp only at hSw); go_simp; try (with_reducible rfl))
    try simp only [Act.put, List.getElem_toArray, List.getElem_cons_zero, List.getElem_cons_succ, List.setIfInBounds_toArray, List.set_cons_zero, List.set_cons_succ]
    refine wpAnyH_take (i := 6) (v := ?_) rfl (by kernel_rfl) (by kernel_rfl) (by kernel_rfl) (fun _ _ _ h => h) (Or.inl ⟨by rfl, ?_⟩) (by assumption) ?_
    rotate_left
    · (intro w hSw; (try dsimp only at hSw); (have z0 := hSw); go_simp; try (with_reducible rfl))
    try simp only [Act.put, List.getElem_toArray, List.getElem_cons_zero, List.getElem_cons_succ, List.setIfInBounds_toArray, List.set_cons_zero, List.set_cons_succ]
    refine wpAnyH_ready (rs := [4]) (by kernel_rfl) (by simp) ?_
    refine (AllReadyH.cons rfl (fun K hK => ?_) AllReadyH.nil)
    · have u4 := HC0.out.va HVa.out
      have KSx := KS0
      go_simp
      refine hK.out _ _ ?_ (fun hHeld => ?_)
      · (first | with_reducible exact KS0.out | with_reducible exact KS1.out | with_reducible exact KS2.out)
      clear hK K
      try simp only [Act.put, List.getElem_toArray, List.getElem_cons_zero, List.getElem_cons_succ, List.setIfInBounds_toArray, List.set_cons_zero, List.set_cons_succ]
      refine wpAnyH_ready (rs := [7]) (by kernel_rfl) (by simp) ?_
      refine (AllReadyH.cons rfl (fun K hK => ?_) AllReadyH.nil)
      · have cc : Hid (Calls Tryz.prog 79 #[.slice aa na ac, .int .i64 va] W0.drew (MlPost W0.drew (s.A.filter (fun y => absP y != va)))) := by have := unassign_any W0.drew aa ac s.A va (HOa.out.keep ((Ex.refl (fun _ => False) _).drew) (fun _ _ _ z => z)) (by have := HOK.out.A.len; have := HZ.out; omega) HOK.out.A.i64; rw [HNa.out] at this; exact this
        refine step_call rfl 79 #[.slice aa na ac, .int .i64 va] (by simp [go_sem]) cc.out ?_
        rintro e w1 hp
        clear cc
        have hx : Ex (fun _ => False) W0.drew w1 := by obtain ⟨_, _, _, _, hh⟩ := hp; exact hh
        have HC1 := hide (HC0.out.lowE hx)
        obtain ⟨a5, c5, V5, S5, rfl, hs5⟩ := HC0.out.newA hp
        have HC2 := hide hs5
        clear hp hs5
        have KS1 : Hid ((fun w' => w'.cell? ⟨q, 1, none⟩ = some (.int .i64 va)) w1) := HC1.out.sc.q1
        have KS2 : Hid ((fun w' => w'.cell? ⟨q, 1, none⟩ = some (.int .i64 va)) (w1.setCell ⟨m, 2, none⟩ (.slice a5 (s.A.filter (fun y => absP y != va)).length c5))) := HC2.out.sc.q1
        have u4 := HC1.out.va HVa.out
        have cf := HC1.out.mn.fz
        have v4n : (w1.setCell ⟨m, 2, none⟩ (.slice a5 (s.A.filter (fun y => absP y != va)).length c5)).cell? ⟨m, 2, none⟩ = some (.slice a5 (s.A.filter (fun y => absP y != va)).length c5) := World.cell?_setCell_same _ _ _ u4
        refine ⟨_, rfl, ?_⟩
        refine hK.out _ _ ?_ (fun hHeld => ?_)
        · (first | with_reducible exact KS0.out | with_reducible exact KS1.out | with_reducible exact KS2.out)
        clear hK K
        try simp only [Act.put, List.getElem_toArray, List.getElem_cons_zero, List.getElem_cons_succ, List.setIfInBounds_toArray, List.set_cons_zero, List.set_cons_succ]
        refine wpAnyH_take (i := 8) (v := ?_) rfl (by kernel_rfl) (by kernel_rfl) (by kernel_rfl) (fun _ _ _ h => h) (Or.inl ⟨by rfl, ?_⟩) (by assumption) ?_
        rotate_left
        · (intro w hSw; (try dsimp only at hSw); go_simp; try (with_reducible rfl))
        try simp only [Act.put, List.getElem_toArray, List.getElem_cons_zero, List.getElem_cons_succ, List.setIfInBounds_toArray, List.set_cons_zero, List.set_cons_succ]
        refine wpAnyH_take (i := 9) (v := ?_) rfl (by kernel_rfl) (by kernel_rfl) (by kernel_rfl) (fun _ _ _ h => h) (Or.inl ⟨by rfl, ?_⟩) (by assumption) ?_
        rotate_left
        · (intro w hSw; (try dsimp only at hSw); go_simp; try (with_reducible rfl))
        try simp only [Act.put, List.getElem_toArray, List.getElem_cons_zero, List.getElem_cons_succ, List.setIfInBounds_toArray, List.set_cons_zero, List.set_cons_succ]
        refine wpAnyH_ready (rs := [10]) (by kernel_rfl) (by simp) ?_
        refine (AllReadyH.cons rfl (fun K hK => ?_) AllReadyH.nil)
        · go_simp
          refine hK.out _ _ ?_ (fun hHeld => ?_)
          · (first | with_reducible exact KS0.out | with_reducible exact KS1.out | with_reducible exact KS2.out)
          clear hK K
          try simp only [Act.put, List.getElem_toArray, List.getElem_cons_zero, List.getElem_cons_succ, List.setIfInBounds_toArray, List.set_cons_zero, List.set_cons_succ]
          refine wpAnyH_done (by kernel_rfl) ?_ _
          clear KS0 KS1 KS2
          clear HC0 HC1 u4 cf HS0 hx KSx
          generalize w1.setCell ⟨m, 2, none⟩ (.slice a5 (s.A.filter (fun y => absP y != va)).length c5) = Wp at *
          clear h1 h1i h2 h2i q0 q1 v4
          obtain ⟨nl, hnl⟩ : ∃ z, (s.A.filter (fun y => absP y != va)).length = z := ⟨_, rfl⟩
          rw [hnl] at v4n
          have HNL := hide hnl
          clear hnl
          have o3 := HC2.out.sc.o3
          have hof := HC2.out.sc.of
          go_upto_region 151 with fail
          have HS201 := hide (HC2.out.on ((nl : Int)))
          clear HC2
          generalize Wp.setCell ⟨o, 3, none⟩ (.int .i64 ((nl : Int))) = W201 at *
          clear o3 hof v4n
          obtain ⟨bo, hbo⟩ : ∃ x : Ob, ({ (ob0 : Ob) with n := (nl : Int) }) = x := ⟨_, rfl⟩
          have HSQ : Hid (s' = { (s : Mst) with A := s.A.filter (fun y => absP y != va) }) := (by show _ = _; rw [← HSE.out, if_pos HIN.out])
          have HBQ : Hid (b' = bo) := by show _ = _; rw [← hbo]; exact (by rw [← HBE.out, if_pos HIN.out, HNL.out] <;> rfl)
          rw [hbo] at HS201
          clear hbo HSE HBE
          have o0 := HS201.out.sc.o0
          have o1 := HS201.out.sc.o1
          have o2 := HS201.out.sc.o2
          have o3 := HS201.out.sc.o3
          have o4 := HS201.out.sc.o4
          have o5 := HS201.out.sc.o5
          have t0 := HS201.out.sc.t0
          have t1 := HS201.out.sc.t1
          have t2 := HS201.out.sc.t2
          have t3 := HS201.out.sc.t3
          have t4 := HS201.out.sc.t4
          have t5 := HS201.out.sc.t5
          have htf := HS201.out.sc.tf
          have hot : o ≠ t := fun z => HS201.out.ne.2.2.1 z.symm
          have HF := hide HS201.out.fin
          have HC := hide (fin_cells HS201.out.sc)
          clear HS201
          go_wp2_with (with_reducible refine bodyPost_ret (v := ?v) ?hr ?hd ?hp)
          case v => exact obV bo (.slice none 0 0)
          case hr =>
            change (results _ _).run _ (fin6 W201 t bo (.slice none 0 0)) = .ok _ (fin6 W201 t bo (.slice none 0 0))
            obtain ⟨y0, y1, y2, y3, y4, y5⟩ := HC.out
            clear HF HC
            generalize fin6 W201 t bo (.slice none 0 0) = WF at *
            simp [results, Tryz.results10, go_sem, y0, y1, y2, y3, y4, y5, obV]
          case hd => rfl
          case hp => rw [HSQ.out, HBQ.out]; exact HF.out
  · have HIN := hide hin
    rcases (show va < 1 ∨ (1 ≤ va ∧ 16777215 < va) by omega) with hlo | ⟨hlo, hhi⟩
    · clear hin
      have h1 : decide (va < 1) = true := decide_eq_true hlo
      have h1i := hlo
      go_upto_region 40 with fail
      clear q0 q1 v4 h1 h1i hlo
      have o0 := HS0.out.sc.o0
      have hof := HS0.out.sc.of
      go_upto_region 42 with fail
      have HS1 := hide (HS0.out.er (3))
      clear HS0
      generalize W0.setCell ⟨o, 0, none⟩ (.int .i64 (3)) = W1 at *
      clear o0 hof
      have o3 := HS1.out.sc.o3
      have hof := HS1.out.sc.of
      have v4 := (HS1.out.va HVa.out)
      go_upto_region 151 with fail
      have HS2 := hide (HS1.out.on ((na : Int)))
      clear HS1
      generalize W1.setCell ⟨o, 3, none⟩ (.int .i64 ((na : Int))) = W2 at *
      clear o3 hof v4
      obtain ⟨bo, hbo⟩ : ∃ x : Ob, ({ ({ (ob0 : Ob) with er := 3 } : Ob) with n := (na : Int) }) = x := ⟨_, rfl⟩
      have HSQ : Hid (s' = s) := (by show _ = _; rw [← HSE.out, if_neg (fun z => by have := HIN.out; omega)])
      have HBQ : Hid (b' = bo) := by show _ = _; rw [← hbo]; exact (by rw [← HBE.out, if_neg (fun z => by have := HIN.out; omega), HNa.out] <;> rfl)
      rw [hbo] at HS2
      clear hbo HSE HBE
      have o0 := HS2.out.sc.o0
      have o1 := HS2.out.sc.o1
      have o2 := HS2.out.sc.o2
      have o3 := HS2.out.sc.o3
      have o4 := HS2.out.sc.o4
      have o5 := HS2.out.sc.o5
      have t0 := HS2.out.sc.t0
      have t1 := HS2.out.sc.t1
      have t2 := HS2.out.sc.t2
      have t3 := HS2.out.sc.t3
      have t4 := HS2.out.sc.t4
      have t5 := HS2.out.sc.t5
      have htf := HS2.out.sc.tf
      have hot : o ≠ t := fun z => HS2.out.ne.2.2.1 z.symm
      have HF := hide HS2.out.fin
      have HC := hide (fin_cells HS2.out.sc)
      clear HS2
      go_wp2_with (with_reducible refine bodyPost_ret (v := ?v) ?hr ?hd ?hp)
      case v => exact obV bo (.slice none 0 0)
      case hr =>
        change (results _ _).run _ (fin6 W2 t bo (.slice none 0 0)) = .ok _ (fin6 W2 t bo (.slice none 0 0))
        obtain ⟨y0, y1, y2, y3, y4, y5⟩ := HC.out
        clear HF HC
        generalize fin6 W2 t bo (.slice none 0 0) = WF at *
        simp [results, Tryz.results10, go_sem, y0, y1, y2, y3, y4, y5, obV]
      case hd => rfl
      case hp => rw [HSQ.out, HBQ.out]; exact HF.out
    · clear hin
      have h1 : decide (va < 1) = false := decide_eq_false (by omega)
      have h1i : ¬ va < 1 := by omega
      have h2 : decide (16777215 < va) = true := decide_eq_true hhi
      go_upto_region 40 with fail
      clear q0 q1 v4 h1 h1i hlo hhi h2
      have o0 := HS0.out.sc.o0
      have hof := HS0.out.sc.of
      go_upto_region 42 with fail
      have HS1 := hide (HS0.out.er (3))
      clear HS0
      generalize W0.setCell ⟨o, 0, none⟩ (.int .i64 (3)) = W1 at *
      clear o0 hof
      have o3 := HS1.out.sc.o3
      have hof := HS1.out.sc.of
      have v4 := (HS1.out.va HVa.out)
      go_upto_region 151 with fail
      have HS2 := hide (HS1.out.on ((na : Int)))
      clear HS1
      generalize W1.setCell ⟨o, 3, none⟩ (.int .i64 ((na : Int))) = W2 at *
      clear o3 hof v4
      obtain ⟨bo, hbo⟩ : ∃ x : Ob, ({ ({ (ob0 : Ob) with er := 3 } : Ob) with n := (na : Int) }) = x := ⟨_, rfl⟩
      have HSQ : Hid (s' = s) := (by show _ = _; rw [← HSE.out, if_neg (fun z => by have := HIN.out; omega)])
      have HBQ : Hid (b' = bo) := by show _ = _; rw [← hbo]; exact (by rw [← HBE.out, if_neg (fun z => by have := HIN.out; omega), HNa.out] <;> rfl)
      rw [hbo] at HS2
      clear hbo HSE HBE
      have o0 := HS2.out.sc.o0
      have o1 := HS2.out.sc.o1
      have o2 := HS2.out.sc.o2
      have o3 := HS2.out.sc.o3
      have o4 := HS2.out.sc.o4
      have o5 := HS2.out.sc.o5
      have t0 := HS2.out.sc.t0
      have t1 := HS2.out.sc.t1
      have t2 := HS2.out.sc.t2
      have t3 := HS2.out.sc.t3
      have t4 := HS2.out.sc.t4
      have t5 := HS2.out.sc.t5
      have htf := HS2.out.sc.tf
      have hot : o ≠ t := fun z => HS2.out.ne.2.2.1 z.symm
      have HF := hide HS2.out.fin
      have HC := hide (fin_cells HS2.out.sc)
      clear HS2
      go_wp2_with (with_reducible refine bodyPost_ret (v := ?v) ?hr ?hd ?hp)
      case v => exact obV bo (.slice none 0 0)
      case hr =>
        change (results _ _).run _ (fin6 W2 t bo (.slice none 0 0)) = .ok _ (fin6 W2 t bo (.slice none 0 0))
        obtain ⟨y0, y1, y2, y3, y4, y5⟩ := HC.out
        clear HF HC
        generalize fin6 W2 t bo (.slice none 0 0) = WF at *
        simp [results, Tryz.results10, go_sem, y0, y1, y2, y3, y4, y5, obV]
      case hd => rfl
      case hp => rw [HSQ.out, HBQ.out]; exact HF.out
set_option linter.unusedSimpArgs false in
set_option maxRecDepth 100000 in
set_option maxHeartbeats 32000000 in
/-- cnflaw.modelBench.step: OpClearAssign -/
theorem mstep_6 (w : World) (B m z : Nat) (X : Nat → Prop) (V : Nat → Value) (S : Nat → Nat → Prop) (s : Mst) (h : MN w B m X V S (QM B s) s.nv s.sv) (hB : B ≤ w.heap.size) (hX : ∀ k, X k → k < w.heap.size) (hok : MsOk z s) (hz : z ≤ 65536) (v : OpV) (hk : v.kd = 6) (ha : -9223372036854775808 ≤ v.a ∧ v.a ≤ 9223372036854775807) :
    Calls Tryz.prog 10 #[.pointer (some ⟨m, 0, none⟩), opZ v] w (MpPost w (fp m S) B m X ({ (s : Mst) with A := [] }) (ob0)) := by
  have HS0 := hide (mw_new v h hB hX)
  have HRB : Hid (∀ k, fp m S k → B ≤ k) := fun k z => z.elim (fun z => by rw [z]; exact h.mB) (fun ⟨i, hi, y⟩ => (h.rg i hi k y).1)
  unfold opZ
  have HOK := hide hok
  have HZ := hide hz
  obtain ⟨s', hs'⟩ : ∃ x : Mst, ({ (s : Mst) with A := [] }) = x := ⟨_, rfl⟩
  obtain ⟨b', hb'⟩ : ∃ x : Ob, (ob0) = x := ⟨_, rfl⟩
  rw [hs', hb']
  obtain ⟨kd, va, la, ln, lc, VX, ta, tn, tc, VT⟩ := v
  dsimp only at hk HS0 ha hs' hb' ⊢
  subst hk
  have HSE := hide hs'
  have HBE := hide hb'
  clear h hok hz hB hX hs' hb'
  generalize fp m S = R at *
  go_enter Tryz.func10, Tryz.ntmps10
  go_upto_region 2 with fail
  generalize (((w.alloc (.cells #[.int .i64 6, .int .i64 va, .slice la ln lc, .slice ta tn tc] 37)).alloc (.cells #[.int .i64 0, .int .i64 0, .int .i64 0, .int .i64 0, .int .i64 0, .slice none 0 0] 43)).alloc (.cells #[.int .i64 0, .int .i64 0, .int .i64 0, .int .i64 0, .int .i64 0, .slice none 0 0] 43)) = W0 at *
  generalize w.heap.size + 1 + 1 = o at *
  generalize w.heap.size + 1 = t at *
  generalize w.heap.size = q at *
  have q0 : W0.cell? ⟨q, 0, none⟩ = some (.int .i64 6) := HS0.out.sc.q0
  have v4 : W0.cell? ⟨m, 2, none⟩ = some (V 4) := HS0.out.mn.c 4 (by decide)
  have cf := HS0.out.mn.fz
  go_upto_region 151 with fail
  obtain ⟨V1, S1, hs1⟩ := HS0.out.nilA
  have HS1 := hide hs1
  clear hs1 HS0
  generalize W0.setCell ⟨m, 2, none⟩ (.slice none 0 0) = W1 at *
  clear q0 v4 cf
  obtain ⟨bo, hbo⟩ : ∃ x : Ob, (ob0) = x := ⟨_, rfl⟩
  have HSQ : Hid (s' = { (s : Mst) with A := [] }) := HSE.out.symm
  have HBQ : Hid (b' = bo) := by show _ = _; rw [← hbo]; exact HBE.out.symm
  rw [hbo] at HS1
  clear hbo HSE HBE
  have o0 := HS1.out.sc.o0
  have o1 := HS1.out.sc.o1
  have o2 := HS1.out.sc.o2
  have o3 := HS1.out.sc.o3
  have o4 := HS1.out.sc.o4
  have o5 := HS1.out.sc.o5
  have t0 := HS1.out.sc.t0
  have t1 := HS1.out.sc.t1
  have t2 := HS1.out.sc.t2
  have t3 := HS1.out.sc.t3
  have t4 := HS1.out.sc.t4
  have t5 := HS1.out.sc.t5
  have htf := HS1.out.sc.tf
  have hot : o ≠ t := fun z => HS1.out.ne.2.2.1 z.symm
  have HF := hide HS1.out.fin
  have HC := hide (fin_cells HS1.out.sc)
  clear HS1
  go_wp2_with (with_reducible refine bodyPost_ret (v := ?v) ?hr ?hd ?hp)
  case v => exact obV bo (.slice none 0 0)
  case hr =>
    change (results _ _).run _ (fin6 W1 t bo (.slice none 0 0)) = .ok _ (fin6 W1 t bo (.slice none 0 0))
    obtain ⟨y0, y1, y2, y3, y4, y5⟩ := HC.out
    clear HF HC
    generalize fin6 W1 t bo (.slice none 0 0) = WF at *
    simp [results, Tryz.results10, go_sem, y0, y1, y2, y3, y4, y5, obV]
  case hd => rfl
  case hp => rw [HSQ.out, HBQ.out]; exact HF.out
set_option linter.unusedSimpArgs false in
set_option maxRecDepth 100000 in
set_option maxHeartbeats 32000000 in
/-- cnflaw.modelBench.step: OpLitValue -/
theorem mstep_7 (w : World) (B m z : Nat) (X : Nat → Prop) (V : Nat → Value) (S : Nat → Nat → Prop) (s : Mst) (h : MN w B m X V S (QM B s) s.nv s.sv) (hB : B ≤ w.heap.size) (hX : ∀ k, X k → k < w.heap.size) (hok : MsOk z s) (hz : z ≤ 65536) (v : OpV) (hk : v.kd = 7) (ha : -9223372036854775808 ≤ v.a ∧ v.a ≤ 9223372036854775807) :
    Calls Tryz.prog 10 #[.pointer (some ⟨m, 0, none⟩), opZ v] w (MpPost w (fp m S) B m X (s) (if (fromP v.a).2 = 0 then { ob0 with n := mvP s.A v.a, m := 2 * absP v.a + (if v.a < 0 then 1 else 0) } else { ob0 with er := (fromP v.a).2 })) := by
  have HS0 := hide (mw_new v h hB hX)
  have HRB : Hid (∀ k, fp m S k → B ≤ k) := fun k z => z.elim (fun z => by rw [z]; exact h.mB) (fun ⟨i, hi, y⟩ => (h.rg i hi k y).1)
  unfold opZ
  have HOK := hide hok
  have HZ := hide hz
  have hs' : s = s := rfl
  obtain ⟨b', hb'⟩ : ∃ x : Ob, (if (fromP v.a).2 = 0 then { ob0 with n := mvP s.A v.a, m := 2 * absP v.a + (if v.a < 0 then 1 else 0) } else { ob0 with er := (fromP v.a).2 }) = x := ⟨_, rfl⟩
  rw [hb']
  obtain ⟨kd, va, la, ln, lc, VX, ta, tn, tc, VT⟩ := v
  dsimp only at hk HS0 ha hs' hb' ⊢
  subst hk
  have HSE := hide hs'
  have HBE := hide hb'
  clear h hok hz hB hX hs' hb'
  generalize fp m S = R at *
  go_enter Tryz.func10, Tryz.ntmps10
  go_upto_region 2 with fail
  generalize (((w.alloc (.cells #[.int .i64 7, .int .i64 va, .slice la ln lc, .slice ta tn tc] 37)).alloc (.cells #[.int .i64 0, .int .i64 0, .int .i64 0, .int .i64 0, .int .i64 0, .slice none 0 0] 43)).alloc (.cells #[.int .i64 0, .int .i64 0, .int .i64 0, .int .i64 0, .int .i64 0, .slice none 0 0] 43)) = W0 at *
  generalize w.heap.size + 1 + 1 = o at *
  generalize w.heap.size + 1 = t at *
  generalize w.heap.size = q at *
  have q0 : W0.cell? ⟨q, 0, none⟩ = some (.int .i64 7) := HS0.out.sc.q0
  obtain ⟨aa, ac, hva, hla, hca, hma⟩ := HS0.out.a
  obtain ⟨na, hna⟩ : ∃ z, s.A.length = z := ⟨_, rfl⟩
  rw [hna] at hva hca
  have HVa := hide hva
  have HOa := hide hla
  have HNa := hide hna
  have HCa := hide (And.intro hca hma)
  clear hva hla hca hma hna
  go_upto_region 46 with fail
  obtain ⟨E, hE⟩ : ∃ x, (fromP va).2 = x := ⟨_, rfl⟩
  have HE := hide hE
  clear hE
  have q1 : W0.cell? ⟨q, 1, none⟩ = some (.int .i64 va) := HS0.out.sc.q1
  have cc : Hid (Calls Tryz.prog 77 #[.int .i64 va] W0 fun e w' => e = .returned (.int .i64 E) ∧ w' = W0) := by have := checkLit_any W0 va; rw [HE.out] at this; exact this
  have HDI : Hid (E = 0 → DI va) := fun z => by rw [← HE.out] at z; unfold fromP at z; unfold DI; split at z; simp at z; split at z; simp at z; omega
  go_wp2_with fail
  refine cc.out.mono ?_
  rintro e wz ⟨rfl, hw⟩
  rw [hw]
  clear hw wz
  clear q0 q1 cc
  have o0 := HS0.out.sc.o0
  have hof := HS0.out.sc.of
  go_upto_region 47 with fail
  have HS1 := hide (HS0.out.er (E))
  clear HS0
  generalize W0.setCell ⟨o, 0, none⟩ (.int .i64 (E)) = W1 at *
  clear o0 hof
  by_cases hE : E = 0
  · have HE0 := hide hE
    have hdi := HDI.out hE
    unfold DI at hdi
    subst hE
    obtain ⟨vv, hvv⟩ : ∃ x, mvP s.A va = x := ⟨_, rfl⟩
    have Hvv := hide hvv
    clear hvv
    have hx1 : IntKind.i64.wrap vv = vv := by rw [← Hvv.out]; have := mv_rng s.A va; rw [IntKind.wrap_i64]; omega
    have HOa : Hid (IL W1 aa s.A) := by obtain ⟨a', c', hv, hl, _⟩ := HS1.out.a; rw [HVa.out] at hv; injection hv with hv _ _; rw [hv]; exact hl
    have oe : W1.cell? ⟨o, 0, none⟩ = some (.int .i64 (0)) := HS1.out.sc.o0
    go_upto_region 48 with fail
    have HC0 := hide (HS1.out.low ((Below.refl _ _).drew))
    have KS0 : Hid ((fun w' => w'.cell? ⟨m, 2, none⟩ = some (.slice aa na ac) ∧ w'.cell? ⟨q, 1, none⟩ = some (.int .i64 va)) W1.drew) := ⟨HC0.out.va HVa.out, HC0.out.sc.q1⟩
    refine wp_region_held_drew (S := fun w' => w'.cell? ⟨m, 2, none⟩ = some (.slice aa na ac) ∧ w'.cell? ⟨q, 1, none⟩ = some (.int .i64 va)) (by kernel_rfl) KS0.out (fun hHeld => ?_)
    refine wpAnyH_take (i := 0) (v := ?_) rfl (by kernel_rfl) (by kernel_rfl) (by kernel_rfl) (fun _ _ _ h => h) (Or.inl ⟨by rfl, ?_⟩) (by assumption) ?_
    rotate_left
    · (intro w hSw; (try dsimp only at hSw); go_simp; try (with_reducible rfl))
    try simp only [Act.put, List.getElem_toArray, List.getElem_cons_zero, List.getElem_cons_succ, List.setIfInBounds_toArray, List.set_cons_zero, List.set_cons_succ]
    refine wpAnyH_take (i := 1) (v := ?_) rfl (by kernel_rfl) (by kernel_rfl) (by kernel_rfl) (fun _ _ _ h => h) (Or.inl ⟨by rfl, ?_⟩) (by assumption) ?_
    rotate_left
    · (intro w hSw; (try dsimp only at hSw); go_simp; try (with_reducible rfl))
    try simp only [Act.put, List.getElem_toArray, List.getElem_cons_zero, List.getElem_cons_succ, List.setIfInBounds_toArray, List.set_cons_zero, List.set_cons_succ]
    refine wpAnyH_take (i := 2) (v := ?_) rfl (by kernel_rfl) (by kernel_rfl) (by kernel_rfl) (fun _ _ _ h => h) (Or.inl ⟨by rfl, ?_⟩) (by assumption) ?_
    rotate_left
    · (intro w hSw; (try dsimp only at hSw); go_simp; try (with_reducible rfl))
    try simp only [Act.put, List.getElem_toArray, List.getElem_cons_zero, List.getElem_cons_succ, List.setIfInBounds_toArray, List.set_cons_zero, List.set_cons_succ]
    refine wpAnyH_take (i := 3) (v := ?_) rfl (by kernel_rfl) (by kernel_rfl) (by kernel_rfl) (fun _ _ _ h => h) (Or.inl ⟨by rfl, ?_⟩) (by assumption) ?_
    rotate_left
    · (intro w hSw; (try dsimp only at hSw); (obtain ⟨z0, z1⟩ := hSw); go_simp; try (with_reducible rfl))
    try simp only [Act.put, List.getElem_toArray, List.getElem_cons_zero, List.getElem_cons_succ, List.setIfInBounds_toArray, List.set_cons_zero, List.set_cons_succ]
    refine wpAnyH_take (i := 4) (v := ?_) rfl (by kernel_rfl) (by kernel_rfl) (by kernel_rfl) (fun _ _ _ h => h) (Or.inl ⟨by rfl, ?_⟩) (by assumption) ?_
    rotate_left
    · (intro w hSw; (try dsimp only at hSw); go_simp; try (with_reducible rfl))
    try simp only [Act.put, List.getElem_toArray, List.getElem_cons_zero, List.getElem_cons_succ, List.setIfInBounds_toArray, List.set_cons_zero, List.set_cons_succ]
    refine wpAnyH_take (i := 5) (v := ?_) rfl (by kernel_rfl) (by kernel_rfl) (by kernel_rfl) (fun _ _ _ h => h) (Or.inl ⟨by rfl, ?_⟩) (by assumption) ?_
    rotate_left
    · (intro w hSw; (try dsimp only at hSw); (obtain ⟨z0, z1⟩ := hSw); go_simp; try (with_reducible rfl))
    try simp only [Act.put, List.getElem_toArray, List.getElem_cons_zero, List.getElem_cons_succ, List.setIfInBounds_toArray, List.set_cons_zero, List.set_cons_succ]
    refine wpAnyH_ready (rs := [6]) (by kernel_rfl) (by simp) ?_
    refine (AllReadyH.cons rfl (fun K hK => ?_) AllReadyH.nil)
    · have cc : Hid (Calls Tryz.prog 80 #[.slice aa na ac, .int .i64 va] W1.drew fun e w' => e = .returned (.int .i8 vv) ∧ w' = W1.drew) := by have := value_any W1.drew aa ac s.A (HOa.out.keep ((Ex.refl (fun _ => False) _).drew) (fun _ _ _ z => z)) (by have := HOK.out.A.len; have := HZ.out; omega) va (by omega); rw [HNa.out, Hvv.out] at this; exact this
      refine step_call rfl 80 #[.slice aa na ac, .int .i64 va] (by simp [go_sem]) cc.out ?_
      rintro e w1 ⟨rfl, hw⟩
      rw [hw]
      clear cc hw w1
      generalize W1.drew = wd at *
      have KS1 : Hid ((fun w' => w'.cell? ⟨m, 2, none⟩ = some (.slice aa na ac) ∧ w'.cell? ⟨q, 1, none⟩ = some (.int .i64 va)) wd) := ⟨HC0.out.va HVa.out, HC0.out.sc.q1⟩
      have HC2 := hide (HC0.out.on (vv))
      have KS2 : Hid ((fun w' => w'.cell? ⟨m, 2, none⟩ = some (.slice aa na ac) ∧ w'.cell? ⟨q, 1, none⟩ = some (.int .i64 va)) (wd.setCell ⟨o, 3, none⟩ (.int .i64 (vv)))) := ⟨HC2.out.va HVa.out, HC2.out.sc.q1⟩
      have o3 := HC0.out.sc.o3
      have hof := HC0.out.sc.of
      refine ⟨_, rfl, ?_⟩
      refine hK.out _ _ ?_ (fun hHeld => ?_)
      · (first | with_reducible exact KS0.out | with_reducible exact KS1.out | with_reducible exact KS2.out)
      clear hK K
      try simp only [Act.put, List.getElem_toArray, List.getElem_cons_zero, List.getElem_cons_succ, List.setIfInBounds_toArray, List.set_cons_zero, List.set_cons_succ]
      refine wpAnyH_take (i := 7) (v := ?_) rfl (by kernel_rfl) (by kernel_rfl) (by kernel_rfl) (fun _ _ _ h => h) (Or.inl ⟨by rfl, ?_⟩) (by assumption) ?_
      rotate_left
      · (intro w hSw; (try dsimp only at hSw); go_simp; try (with_reducible rfl))
      try simp only [Act.put, List.getElem_toArray, List.getElem_cons_zero, List.getElem_cons_succ, List.setIfInBounds_toArray, List.set_cons_zero, List.set_cons_succ]
      refine wpAnyH_take (i := 8) (v := ?_) rfl (by kernel_rfl) (by kernel_rfl) (by kernel_rfl) (fun _ _ _ h => h) (Or.inl ⟨by rfl, ?_⟩) (by assumption) ?_
      rotate_left
      · (intro w hSw; (try dsimp only at hSw); go_simp; try (with_reducible rfl))
      try simp only [Act.put, List.getElem_toArray, List.getElem_cons_zero, List.getElem_cons_succ, List.setIfInBounds_toArray, List.set_cons_zero, List.set_cons_succ]
      refine wpAnyH_ready (rs := [9]) (by kernel_rfl) (by simp) ?_
      refine (AllReadyH.cons rfl (fun K hK => ?_) AllReadyH.nil)
      · go_simp
        refine hK.out _ _ ?_ (fun hHeld => ?_)
        · (first | with_reducible exact KS0.out | with_reducible exact KS1.out | with_reducible exact KS2.out)
        clear hK K
        try simp only [Act.put, List.getElem_toArray, List.getElem_cons_zero, List.getElem_cons_succ, List.setIfInBounds_toArray, List.set_cons_zero, List.set_cons_succ]
        refine wpAnyH_done (by kernel_rfl) ?_ _
        clear KS0 KS1 KS2
        clear HC0 o3 hof HS1 HOa hx1 oe
        generalize wd.setCell ⟨o, 3, none⟩ (.int .i64 (vv)) = We at *
        have HD := HC2
        clear HC2
        obtain ⟨ab, hab⟩ : ∃ x, absP va = x := ⟨_, rfl⟩
        have Hab := hide hab
        clear hab
        obtain ⟨tr, htr⟩ : ∃ x : Int, (if decide (va < 0) = true then 1 else 0) = x := ⟨_, rfl⟩
        have Htr := hide htr
        clear htr
        have hab : 0 ≤ ab ∧ ab ≤ 16777215 := by rw [← Hab.out]; unfold absP; split <;> omega
        have htr : 0 ≤ tr ∧ tr ≤ 1 := by rw [← Htr.out]; split <;> omega
        have hw1 : IntKind.i64.wrap (2 * ab) = 2 * ab := by rw [IntKind.wrap_i64]; omega
        have hw2 : IntKind.i64.wrap (2 * ab + tr) = 2 * ab + tr := by rw [IntKind.wrap_i64]; omega
        go_upto_region 49 with fail
        have HC0 := hide (HD.out.low ((Below.refl _ _).drew))
        have KS0 : Hid ((fun w' => w'.cell? ⟨q, 1, none⟩ = some (.int .i64 va)) We.drew) := HC0.out.sc.q1
        refine wp_region_held_drew (S := fun w' => w'.cell? ⟨q, 1, none⟩ = some (.int .i64 va)) (by kernel_rfl) KS0.out (fun hHeld => ?_)
        refine wpAnyH_take (i := 0) (v := ?_) rfl (by kernel_rfl) (by kernel_rfl) (by kernel_rfl) (fun _ _ _ h => h) (Or.inl ⟨by rfl, ?_⟩) (by assumption) ?_
        rotate_left
        · (intro w hSw; (try dsimp only at hSw); go_simp; try (with_reducible rfl))
        try simp only [Act.put, List.getElem_toArray, List.getElem_cons_zero, List.getElem_cons_succ, List.setIfInBounds_toArray, List.set_cons_zero, List.set_cons_succ]
        refine wpAnyH_take (i := 1) (v := ?_) rfl (by kernel_rfl) (by kernel_rfl) (by kernel_rfl) (fun _ _ _ h => h) (Or.inl ⟨by rfl, ?_⟩) (by assumption) ?_
        rotate_left
        · (intro w hSw; (try dsimp only at hSw); (have z0 := hSw); go_simp; try (with_reducible rfl))
        try simp only [Act.put, List.getElem_toArray, List.getElem_cons_zero, List.getElem_cons_succ, List.setIfInBounds_toArray, List.set_cons_zero, List.set_cons_succ]
        refine wpAnyH_take (i := 4) (v := ?_) rfl (by kernel_rfl) (by kernel_rfl) (by kernel_rfl) (fun _ _ _ h => h) (Or.inl ⟨by rfl, ?_⟩) (by assumption) ?_
        rotate_left
        · (intro w hSw; (try dsimp only at hSw); go_simp; try (with_reducible rfl))
        try simp only [Act.put, List.getElem_toArray, List.getElem_cons_zero, List.getElem_cons_succ, List.setIfInBounds_toArray, List.set_cons_zero, List.set_cons_succ]
        refine wpAnyH_take (i := 5) (v := ?_) rfl (by kernel_rfl) (by kernel_rfl) (by kernel_rfl) (fun _ _ _ h => h) (Or.inl ⟨by rfl, ?_⟩) (by assumption) ?_
        rotate_left
        · (intro w hSw; (try dsimp only at hSw); (have z0 := hSw); go_simp; try (with_reducible rfl))
        try simp only [Act.put, List.getElem_toArray, List.getElem_cons_zero, List.getElem_cons_succ, List.setIfInBounds_toArray, List.set_cons_zero, List.set_cons_succ]
        refine wpAnyH_take (i := 6) (v := ?_) rfl (by kernel_rfl) (by kernel_rfl) (by kernel_rfl) (fun _ _ _ h => h) (Or.inl ⟨by rfl, ?_⟩) (by assumption) ?_
        rotate_left
        · (intro w hSw; (try dsimp only at hSw); go_simp; try (with_reducible rfl))
        try simp only [Act.put, List.getElem_toArray, List.getElem_cons_zero, List.getElem_cons_succ, List.setIfInBounds_toArray, List.set_cons_zero, List.set_cons_succ]
        refine wpAnyH_ready (rs := [2]) (by kernel_rfl) (by simp) ?_
        refine (AllReadyH.cons rfl (fun K hK => ?_) AllReadyH.nil)
        · have cc : Hid (Calls Tryz.prog 76 #[.int .i64 va] We.drew fun e w' => e = .returned (.int .i64 ab) ∧ w' = We.drew) := by have := varOf_any We.drew va (by omega); rw [Hab.out] at this; exact this
          refine step_call rfl 76 #[.int .i64 va] (by simp [go_sem]) cc.out ?_
          rintro e w1 ⟨rfl, hw⟩
          rw [hw]
          clear cc hw w1
          generalize We.drew = wd at *
          have KS1 : Hid ((fun w' => w'.cell? ⟨q, 1, none⟩ = some (.int .i64 va)) wd) := HC0.out.sc.q1
          refine ⟨_, rfl, ?_⟩
          refine hK.out _ _ ?_ (fun hHeld => ?_)
          · (first | with_reducible exact KS0.out | with_reducible exact KS1.out | with_reducible exact KS2.out)
          clear hK K
          try simp only [Act.put, List.getElem_toArray, List.getElem_cons_zero, List.getElem_cons_succ, List.setIfInBounds_toArray, List.set_cons_zero, List.set_cons_succ]
          refine wpAnyH_take (i := 3) (v := ?_) rfl (by kernel_rfl) (by kernel_rfl) (by kernel_rfl) (fun _ _ _ h => h) (Or.inl ⟨by rfl, ?_⟩) (by assumption) ?_
          rotate_left
          · (intro w hSw; (try dsimp only at hSw); go_simp; try (with_reducible rfl))
          try simp only [Act.put, List.getElem_toArray, List.getElem_cons_zero, List.getElem_cons_succ, List.setIfInBounds_toArray, List.set_cons_zero, List.set_cons_succ]
          refine wpAnyH_ready (rs := [7]) (by kernel_rfl) (by simp) ?_
          refine (AllReadyH.cons rfl (fun K hK => ?_) AllReadyH.nil)
          · have cc : Hid (Calls Tryz.prog 44 #[.bool (decide (va < 0))] wd fun e w' => e = .returned (.int .i64 tr) ∧ w' = wd) := by have := truth_any wd (decide (va < 0)); rw [Htr.out] at this; exact this
            refine step_call rfl 44 #[.bool (decide (va < 0))] (by simp [go_sem]) cc.out ?_
            rintro e w1 ⟨rfl, hw⟩
            rw [hw]
            clear cc hw w1
            have HC2 := hide (HC0.out.om (2 * ab + tr))
            have KS2 : Hid ((fun w' => w'.cell? ⟨q, 1, none⟩ = some (.int .i64 va)) (wd.setCell ⟨o, 4, none⟩ (.int .i64 (2 * ab + tr)))) := HC2.out.sc.q1
            have o4 := HC0.out.sc.o4
            have hof := HC0.out.sc.of
            refine ⟨_, rfl, ?_⟩
            refine hK.out _ _ ?_ (fun hHeld => ?_)
            · (first | with_reducible exact KS0.out | with_reducible exact KS1.out | with_reducible exact KS2.out)
            clear hK K
            try simp only [Act.put, List.getElem_toArray, List.getElem_cons_zero, List.getElem_cons_succ, List.setIfInBounds_toArray, List.set_cons_zero, List.set_cons_succ]
            refine wpAnyH_take (i := 8) (v := ?_) rfl (by kernel_rfl) (by kernel_rfl) (by kernel_rfl) (fun _ _ _ h => h) (Or.inl ⟨by rfl, ?_⟩) (by assumption) ?_
            rotate_left
            · (intro w hSw; (try dsimp only at hSw); go_simp; try (with_reducible rfl))
            try simp only [Act.put, List.getElem_toArray, List.getElem_cons_zero, List.getElem_cons_succ, List.setIfInBounds_toArray, List.set_cons_zero, List.set_cons_succ]
            refine wpAnyH_take (i := 9) (v := ?_) rfl (by kernel_rfl) (by kernel_rfl) (by kernel_rfl) (fun _ _ _ h => h) (Or.inl ⟨by rfl, ?_⟩) (by assumption) ?_
            rotate_left
            · (intro w hSw; (try dsimp only at hSw); go_simp; try (with_reducible rfl))
            try simp only [Act.put, List.getElem_toArray, List.getElem_cons_zero, List.getElem_cons_succ, List.setIfInBounds_toArray, List.set_cons_zero, List.set_cons_succ]
            refine wpAnyH_ready (rs := [10]) (by kernel_rfl) (by simp) ?_
            refine (AllReadyH.cons rfl (fun K hK => ?_) AllReadyH.nil)
            · go_simp
              refine hK.out _ _ ?_ (fun hHeld => ?_)
              · (first | with_reducible exact KS0.out | with_reducible exact KS1.out | with_reducible exact KS2.out)
              clear hK K
              try simp only [Act.put, List.getElem_toArray, List.getElem_cons_zero, List.getElem_cons_succ, List.setIfInBounds_toArray, List.set_cons_zero, List.set_cons_succ]
              refine wpAnyH_done (by kernel_rfl) ?_ _
              clear KS0 KS1 KS2
              clear HC0 o4 hof HD hw1 hw2
              generalize wd.setCell ⟨o, 4, none⟩ (.int .i64 (2 * ab + tr)) = Wf at *
              obtain ⟨bo, hbo⟩ : ∃ x : Ob, ({ ({ ({ (ob0 : Ob) with er := 0 } : Ob) with n := vv } : Ob) with m := 2 * ab + tr }) = x := ⟨_, rfl⟩
              have HSQ : Hid (s = s) := rfl
              have HBQ : Hid (b' = bo) := by show _ = _; rw [← hbo]; exact (by rw [← HBE.out, HE.out, if_pos rfl, ← Hvv.out, ← Hab.out, ← Htr.out] <;> simp [ob0])
              rw [hbo] at HC2
              clear hbo HSE HBE
              have o0 := HC2.out.sc.o0
              have o1 := HC2.out.sc.o1
              have o2 := HC2.out.sc.o2
              have o3 := HC2.out.sc.o3
              have o4 := HC2.out.sc.o4
              have o5 := HC2.out.sc.o5
              have t0 := HC2.out.sc.t0
              have t1 := HC2.out.sc.t1
              have t2 := HC2.out.sc.t2
              have t3 := HC2.out.sc.t3
              have t4 := HC2.out.sc.t4
              have t5 := HC2.out.sc.t5
              have htf := HC2.out.sc.tf
              have hot : o ≠ t := fun z => HC2.out.ne.2.2.1 z.symm
              have HF := hide HC2.out.fin
              have HC := hide (fin_cells HC2.out.sc)
              clear HC2
              go_wp2_with (with_reducible refine bodyPost_ret (v := ?v) ?hr ?hd ?hp)
              case v => exact obV bo (.slice none 0 0)
              case hr =>
                change (results _ _).run _ (fin6 Wf t bo (.slice none 0 0)) = .ok _ (fin6 Wf t bo (.slice none 0 0))
                obtain ⟨y0, y1, y2, y3, y4, y5⟩ := HC.out
                clear HF HC
                generalize fin6 Wf t bo (.slice none 0 0) = WF at *
                simp [results, Tryz.results10, go_sem, y0, y1, y2, y3, y4, y5, obV]
              case hd => rfl
              case hp => rw [HBQ.out]; exact HF.out
  · have HE0 := hide hE
    have heb : (E == 0) = false := by simp [hE]
    clear hE
    have oe : W1.cell? ⟨o, 0, none⟩ = some (.int .i64 (E)) := HS1.out.sc.o0
    go_upto_region 151 with fail
    clear oe heb
    obtain ⟨bo, hbo⟩ : ∃ x : Ob, ({ (ob0 : Ob) with er := E }) = x := ⟨_, rfl⟩
    have HSQ : Hid (s = s) := rfl
    have HBQ : Hid (b' = bo) := by show _ = _; rw [← hbo]; exact (by rw [← HBE.out, HE.out, if_neg (by have := HE0.out; omega)] <;> rfl)
    rw [hbo] at HS1
    clear hbo HSE HBE
    have o0 := HS1.out.sc.o0
    have o1 := HS1.out.sc.o1
    have o2 := HS1.out.sc.o2
    have o3 := HS1.out.sc.o3
    have o4 := HS1.out.sc.o4
    have o5 := HS1.out.sc.o5
    have t0 := HS1.out.sc.t0
    have t1 := HS1.out.sc.t1
    have t2 := HS1.out.sc.t2
    have t3 := HS1.out.sc.t3
    have t4 := HS1.out.sc.t4
    have t5 := HS1.out.sc.t5
    have htf := HS1.out.sc.tf
    have hot : o ≠ t := fun z => HS1.out.ne.2.2.1 z.symm
    have HF := hide HS1.out.fin
    have HC := hide (fin_cells HS1.out.sc)
    clear HS1
    go_wp2_with (with_reducible refine bodyPost_ret (v := ?v) ?hr ?hd ?hp)
    case v => exact obV bo (.slice none 0 0)
    case hr =>
      change (results _ _).run _ (fin6 W1 t bo (.slice none 0 0)) = .ok _ (fin6 W1 t bo (.slice none 0 0))
      obtain ⟨y0, y1, y2, y3, y4, y5⟩ := HC.out
      clear HF HC
      generalize fin6 W1 t bo (.slice none 0 0) = WF at *
      simp [results, Tryz.results10, go_sem, y0, y1, y2, y3, y4, y5, obV]
    case hd => rfl
    case hp => rw [HBQ.out]; exact HF.out
end Go.Proofs.Qxb6500773aGreat
