import Derived.Test.Qxb6500773aGreatOz
namespace Go.Proofs.Qxb6500773aGreat
open Go.RowKit

set_option linter.unusedSimpArgs false in
set_option maxRecDepth 100000 in
set_option maxHeartbeats 32000000 in
/-- cnflaw.modelBench.step: OpNormalize -/
theorem mstep_12 (w : World) (B m z : Nat) (X : Nat → Prop) (V : Nat → Value) (S : Nat → Nat → Prop) (s : Mst) (h : MN w B m X V S (QM B s) s.nv s.sv) (hB : B ≤ w.heap.size) (hX : ∀ k, X k → k < w.heap.size) (hok : MsOk z s) (hz : z ≤ 65536) (v : OpV) (hk : v.kd = 12) (ha : -9223372036854775808 ≤ v.a ∧ v.a ≤ 9223372036854775807) (L : List Int) (hL : L.length = v.ln) (hIL : ∀ w', Ex (fun k => B ≤ k) w w' → IL w' v.la L) (hln : v.ln ≤ 65536) :
    Calls Tryz.prog 10 #[.pointer (some ⟨m, 0, none⟩), opZ v] w (MpPost w (fp m S) B m X (s) (if ncE L = 0 then { ob0 with n := if L.any (fun d => memP L (-d)) = true then 1 else 0, X := pcP (srP L) } else { ob0 with er := ncE L })) := by
  have HS0 := hide (mw_new v h hB hX)
  have HRB : Hid (∀ k, fp m S k → B ≤ k) := fun k z => z.elim (fun z => by rw [z]; exact h.mB) (fun ⟨i, hi, y⟩ => (h.rg i hi k y).1)
  unfold opZ
  have HOK := hide hok
  have HZ := hide hz
  have hs' : s = s := rfl
  obtain ⟨b', hb'⟩ : ∃ x : Ob, (if ncE L = 0 then { ob0 with n := if L.any (fun d => memP L (-d)) = true then 1 else 0, X := pcP (srP L) } else { ob0 with er := ncE L }) = x := ⟨_, rfl⟩
  rw [hb']
  obtain ⟨kd, va, la, ln, lc, VX, ta, tn, tc, VT⟩ := v
  dsimp only at hk HS0 ha hs' hb' ⊢
  subst hk
  have HSE := hide hs'
  have HBE := hide hb'
  dsimp only at hL hIL hln
  have HL := hide hL
  have HIL := hide hIL
  have hlnb := hln
  clear hL hIL hln
  clear h hok hz hB hX hs' hb'
  generalize fp m S = R at *
  go_enter Tryz.func10, Tryz.ntmps10
  go_upto_region 2 with fail
  generalize (((w.alloc (.cells #[.int .i64 12, .int .i64 va, .slice la ln lc, .slice ta tn tc] 37)).alloc (.cells #[.int .i64 0, .int .i64 0, .int .i64 0, .int .i64 0, .int .i64 0, .slice none 0 0] 43)).alloc (.cells #[.int .i64 0, .int .i64 0, .int .i64 0, .int .i64 0, .int .i64 0, .slice none 0 0] 43)) = W0 at *
  generalize w.heap.size + 1 + 1 = o at *
  generalize w.heap.size + 1 = t at *
  generalize w.heap.size = q at *
  have q0 : W0.cell? ⟨q, 0, none⟩ = some (.int .i64 12) := HS0.out.sc.q0
  go_upto_region 66 with fail
  obtain ⟨E, hE⟩ : ∃ x, ncE L = x := ⟨_, rfl⟩
  have HE := hide hE
  clear hE
  have q2 : W0.cell? ⟨q, 2, none⟩ = some (.slice la ln lc) := HS0.out.sc.q2
  have cc : Hid (Calls Tryz.prog 74 #[.slice la ln lc] W0 fun e w' => e = .returned (.int .i64 E) ∧ w' = W0) := by have := checkLits_any W0 la lc L (HIL.out W0 (HS0.out.exB HRB.out)) (by rw [HL.out]; omega); rw [HL.out, HE.out] at this; exact this
  have HDI : Hid (E = 0 → ∀ x ∈ L, DI x ∧ x ≠ 0) := fun z => ncE_di (by rw [HE.out]; exact z)
  go_wp2_with fail
  refine cc.out.mono ?_
  rintro e wz ⟨rfl, hw⟩
  rw [hw]
  clear hw wz
  clear q0 q2 cc
  have o0 := HS0.out.sc.o0
  have hof := HS0.out.sc.of
  go_upto_region 67 with fail
  have HS1 := hide (HS0.out.er (E))
  clear HS0
  generalize W0.setCell ⟨o, 0, none⟩ (.int .i64 (E)) = W1 at *
  clear o0 hof
  by_cases hE : E = 0
  · have HE0 := hide hE
    have HDL := hide (HDI.out hE)
    subst hE
    have oe : W1.cell? ⟨o, 0, none⟩ = some (.int .i64 (0)) := HS1.out.sc.o0
    have q2 : W1.cell? ⟨q, 2, none⟩ = some (.slice la ln lc) := HS1.out.sc.q2
    obtain ⟨tb, htb⟩ : ∃ x, L.any (fun d => memP L (-d)) = x := ⟨_, rfl⟩
    have Htb := hide htb
    clear htb
    obtain ⟨R, hR⟩ : ∃ x : Int, (if tb = true then 1 else 0) = x := ⟨_, rfl⟩
    have HR := hide hR
    clear hR
    have cc : Hid (Calls Tryz.prog 85 #[.slice la ln lc] W1 fun e w' => e = .returned (.bool tb) ∧ w' = W1) := by have := tautology_any W1 la lc L (HIL.out W1 (HS1.out.exB HRB.out)) (by rw [HL.out]; omega) (fun x hx => di_64 (HDL.out x hx).1); rw [HL.out, Htb.out] at this; exact this
    go_upto_region 68 with fail
    go_wp2_with fail
    refine cc.out.mono ?_
    rintro e wz ⟨rfl, hw⟩
    rw [hw]
    clear hw wz
    clear cc
    have cc : Hid (Calls Tryz.prog 44 #[.bool tb] W1 fun e w' => e = .returned (.int .i64 R) ∧ w' = W1) := by have := truth_any W1 tb; rw [HR.out] at this; exact this
    go_wp2_with fail
    refine cc.out.mono ?_
    rintro e wz ⟨rfl, hw⟩
    rw [hw]
    clear hw wz
    clear cc
    clear oe q2
    have o3 := HS1.out.sc.o3
    have hof := HS1.out.sc.of
    go_upto_region 69 with fail
    have HS2 := hide (HS1.out.on (R))
    clear HS1
    generalize W1.setCell ⟨o, 3, none⟩ (.int .i64 (R)) = W2 at *
    clear o3 hof
    have q2 : W2.cell? ⟨q, 2, none⟩ = some (.slice la ln lc) := HS2.out.sc.q2
    have HSR : Hid (∀ x ∈ srP L, I64 x) := fun x hx => di_64 (HDL.out x (by have := srP_mem L L.length x; rw [List.take_length] at this; exact this hx)).1
    have HSL : Hid ((srP L).length ≤ 1000000000) := by have := srP_len L L.length; rw [List.take_length, HL.out] at this; show _ ≤ _; omega
    have c87 : Hid (Calls Tryz.prog 87 #[.slice la ln lc] W2 (MlPost W2 (srP L))) := by have := sortedM_any W2 la lc L (HIL.out W2 (HS2.out.exB HRB.out)) (by rw [HL.out]; omega) (fun x hx => di_64 (HDL.out x hx).1); rw [HL.out] at this; exact this
    go_wp2_with fail
    refine c87.out.mono ?_
    rintro e wz ⟨a2, c2, rfl, hr2, hx2⟩
    clear c87
    clear q2
    have HSv := hide (HS2.out.lowE hx2)
    have c86 := hide (printClauseM_any wz a2 c2 (srP L) (row_il hr2) HSL.out HSR.out)
    clear HS2 hr2 hx2
    generalize hwz : wz = Wv at *
    clear hwz wz
    go_wp2_with fail
    refine c86.out.mono ?_
    rintro e w2 ⟨a5, c5, rfl, hr5, hx5⟩
    clear c86
    have HSy := hide (HSv.out.lowE hx5)
    have HSt := hide (HSv.out.tx2 HSy.out hr5)
    have o5 := HSy.out.sc.o5
    have hof := HSy.out.sc.of
    clear HSv HSy hr5 hx5
    go_upto_region 151 with fail
    generalize w2.setCell ⟨o, 5, none⟩ (.slice a5 (pcP (srP L)).length c5) = WT at *
    clear o5 hof
    obtain ⟨bo, hbo⟩ : ∃ x : Ob, ({ ({ ({ (ob0 : Ob) with er := 0 } : Ob) with n := R } : Ob) with X := pcP (srP L) }) = x := ⟨_, rfl⟩
    have HSQ : Hid (s = s) := rfl
    have HBQ : Hid (b' = bo) := by show _ = _; rw [← hbo]; exact (by rw [← HBE.out, HE.out, if_pos rfl, Htb.out, HR.out] <;> rfl)
    rw [hbo] at HSt
    clear hbo HSE HBE
    have o0 := HSt.out.sc.o0
    have o1 := HSt.out.sc.o1
    have o2 := HSt.out.sc.o2
    have o3 := HSt.out.sc.o3
    have o4 := HSt.out.sc.o4
    have o5 := HSt.out.sc.o5
    have t0 := HSt.out.sc.t0
    have t1 := HSt.out.sc.t1
    have t2 := HSt.out.sc.t2
    have t3 := HSt.out.sc.t3
    have t4 := HSt.out.sc.t4
    have t5 := HSt.out.sc.t5
    have htf := HSt.out.sc.tf
    have hot : o ≠ t := fun z => HSt.out.ne.2.2.1 z.symm
    have HF := hide HSt.out.fin
    have HC := hide (fin_cells HSt.out.sc)
    clear HSt
    go_wp2_with (with_reducible refine bodyPost_ret (v := ?v) ?hr ?hd ?hp)
    case v => exact obV bo (.slice a5 (pcP (srP L)).length c5)
    case hr =>
      change (results _ _).run _ (fin6 WT t bo (.slice a5 (pcP (srP L)).length c5)) = .ok _ (fin6 WT t bo (.slice a5 (pcP (srP L)).length c5))
      obtain ⟨y0, y1, y2, y3, y4, y5⟩ := HC.out
      clear HF HC
      generalize fin6 WT t bo (.slice a5 (pcP (srP L)).length c5) = WF at *
      simp [results, Tryz.results10, go_sem, y0, y1, y2, y3, y4, y5, obV]
    case hd => rfl
    case hp => rw [HBQ.out]; exact HF.out
  · have HE0 := hide hE
    have heb : (E == 0) = false := by simp [hE]
    clear hE
    have oe : W1.cell? ⟨o, 0, none⟩ = some (.int .i64 (E)) := HS1.out.sc.o0
    go_upto_region 151 with fail
    clear oe heb
    obtain ⟨bo, hbo⟩ : ∃ x : Ob, ({ (ob0 : Ob) with er := E }) = x := ⟨_, rfl⟩
    have HSQ : Hid (s = s) := rfl
    have HBQ : Hid (b' = bo) := by show _ = _; rw [← hbo]; exact (by rw [← HBE.out, HE.out, if_neg (by have := HE0.out; omega)])
    rw [hbo] at HS1
    clear hbo HSE HBE
    have o0 := HS1.out.sc.o0
    have o1 := HS1.out.sc.o1
    have o2 := HS1.out.sc.o2
    have o3 := HS1.out.sc.o3
    have o4 := HS1.out.sc.o4
    have o5 := HS1.out.sc.o5
    have t0 := HS1.out.sc.t0
    have t1 := HS1.out.sc.t1
    have t2 := HS1.out.sc.t2
    have t3 := HS1.out.sc.t3
    have t4 := HS1.out.sc.t4
    have t5 := HS1.out.sc.t5
    have htf := HS1.out.sc.tf
    have hot : o ≠ t := fun z => HS1.out.ne.2.2.1 z.symm
    have HF := hide HS1.out.fin
    have HC := hide (fin_cells HS1.out.sc)
    clear HS1
    go_wp2_with (with_reducible refine bodyPost_ret (v := ?v) ?hr ?hd ?hp)
    case v => exact obV bo (.slice none 0 0)
    case hr =>
      change (results _ _).run _ (fin6 W1 t bo (.slice none 0 0)) = .ok _ (fin6 W1 t bo (.slice none 0 0))
      obtain ⟨y0, y1, y2, y3, y4, y5⟩ := HC.out
      clear HF HC
      generalize fin6 W1 t bo (.slice none 0 0) = WF at *
      simp [results, Tryz.results10, go_sem, y0, y1, y2, y3, y4, y5, obV]
    case hd => rfl
    case hp => rw [HBQ.out]; exact HF.out
set_option linter.unusedSimpArgs false in
set_option maxRecDepth 100000 in
set_option maxHeartbeats 32000000 in
/-- cnflaw.modelBench.step: OpPrintDimacs -/
theorem mstep_15 (w : World) (B m z : Nat) (X : Nat → Prop) (V : Nat → Value) (S : Nat → Nat → Prop) (s : Mst) (h : MN w B m X V S (QM B s) s.nv s.sv) (hB : B ≤ w.heap.size) (hX : ∀ k, X k → k < w.heap.size) (hok : MsOk z s) (hz : z ≤ 65536) (v : OpV) (hk : v.kd = 15) (ha : -9223372036854775808 ≤ v.a ∧ v.a ≤ 9223372036854775807) :
    Calls Tryz.prog 10 #[.pointer (some ⟨m, 0, none⟩), opZ v] w (MpPost w (fp m S) B m X (s) ({ ob0 with X := pdP s.nv.toNat s.F })) := by
  have HS0 := hide (mw_new v h hB hX)
  have HRB : Hid (∀ k, fp m S k → B ≤ k) := fun k z => z.elim (fun z => by rw [z]; exact h.mB) (fun ⟨i, hi, y⟩ => (h.rg i hi k y).1)
  unfold opZ
  have HOK := hide hok
  have HZ := hide hz
  have hs' : s = s := rfl
  obtain ⟨b', hb'⟩ : ∃ x : Ob, ({ ob0 with X := pdP s.nv.toNat s.F }) = x := ⟨_, rfl⟩
  rw [hb']
  obtain ⟨kd, va, la, ln, lc, VX, ta, tn, tc, VT⟩ := v
  dsimp only at hk HS0 ha hs' hb' ⊢
  subst hk
  have HSE := hide hs'
  have HBE := hide hb'
  clear h hok hz hB hX hs' hb'
  generalize fp m S = R at *
  go_enter Tryz.func10, Tryz.ntmps10
  go_upto_region 2 with fail
  generalize (((w.alloc (.cells #[.int .i64 15, .int .i64 va, .slice la ln lc, .slice ta tn tc] 37)).alloc (.cells #[.int .i64 0, .int .i64 0, .int .i64 0, .int .i64 0, .int .i64 0, .slice none 0 0] 43)).alloc (.cells #[.int .i64 0, .int .i64 0, .int .i64 0, .int .i64 0, .int .i64 0, .slice none 0 0] 43)) = W0 at *
  generalize w.heap.size + 1 + 1 = o at *
  generalize w.heap.size + 1 = t at *
  generalize w.heap.size = q at *
  have q0 : W0.cell? ⟨q, 0, none⟩ = some (.int .i64 15) := HS0.out.sc.q0
  obtain ⟨fa, fc, hvf, hlf, hcf, hmf⟩ := HS0.out.f
  obtain ⟨nf, hnf⟩ : ∃ z, s.F.length = z := ⟨_, rfl⟩
  rw [hnf] at hvf hcf
  have HVf := hide hvf
  have HOf := hide hlf
  have HNf := hide hnf
  have HCf := hide (And.intro hcf hmf)
  clear hvf hlf hcf hmf hnf
  have HNV : Hid (((s.nv.toNat : Nat) : Int) = s.nv) := by have := HOK.out.nv; show _ = _; omega
  have c89 : Hid (Calls Tryz.prog 89 #[.agg #[.int .i64 s.nv, .slice fa nf fc]] W0 (MuPost W0 (pdP s.nv.toNat s.F))) := by have := printDimacsM_any W0 s.nv.toNat fa fc s.F HOf.out (by have := HOK.out.nv; omega) (by have := HOK.out.F.len; have := HZ.out; omega) (HOK.out.F.fb (by have := HZ.out; omega)) (HOK.out.F.txt HZ.out); rw [HNf.out, HNV.out] at this; exact this
  have vf := (HS0.out.vf HVf.out)
  have c0 := HS0.out.mn.c0
  go_upto_region 80 with fail
  go_wp2_with fail
  refine c89.out.mono ?_
  rintro e w2 ⟨a5, c5, rfl, hr5, hx5⟩
  clear c89
  have HSy := hide (HS0.out.lowE hx5)
  have HSt := hide (HS0.out.tx2 HSy.out hr5)
  have o5 := HSy.out.sc.o5
  have hof := HSy.out.sc.of
  clear HS0 HSy hr5 hx5
  go_upto_region 151 with fail
  generalize w2.setCell ⟨o, 5, none⟩ (.slice a5 (pdP s.nv.toNat s.F).length c5) = WT at *
  clear o5 hof
  clear q0 c0 vf
  obtain ⟨bo, hbo⟩ : ∃ x : Ob, ({ (ob0 : Ob) with X := pdP s.nv.toNat s.F }) = x := ⟨_, rfl⟩
  have HSQ : Hid (s = s) := rfl
  have HBQ : Hid (b' = bo) := by show _ = _; rw [← hbo]; exact HBE.out.symm
  rw [hbo] at HSt
  clear hbo HSE HBE
  have o0 := HSt.out.sc.o0
  have o1 := HSt.out.sc.o1
  have o2 := HSt.out.sc.o2
  have o3 := HSt.out.sc.o3
  have o4 := HSt.out.sc.o4
  have o5 := HSt.out.sc.o5
  have t0 := HSt.out.sc.t0
  have t1 := HSt.out.sc.t1
  have t2 := HSt.out.sc.t2
  have t3 := HSt.out.sc.t3
  have t4 := HSt.out.sc.t4
  have t5 := HSt.out.sc.t5
  have htf := HSt.out.sc.tf
  have hot : o ≠ t := fun z => HSt.out.ne.2.2.1 z.symm
  have HF := hide HSt.out.fin
  have HC := hide (fin_cells HSt.out.sc)
  clear HSt
  go_wp2_with (with_reducible refine bodyPost_ret (v := ?v) ?hr ?hd ?hp)
  case v => exact obV bo (.slice a5 (pdP s.nv.toNat s.F).length c5)
  case hr =>
    change (results _ _).run _ (fin6 WT t bo (.slice a5 (pdP s.nv.toNat s.F).length c5)) = .ok _ (fin6 WT t bo (.slice a5 (pdP s.nv.toNat s.F).length c5))
    obtain ⟨y0, y1, y2, y3, y4, y5⟩ := HC.out
    clear HF HC
    generalize fin6 WT t bo (.slice a5 (pdP s.nv.toNat s.F).length c5) = WF at *
    simp [results, Tryz.results10, go_sem, y0, y1, y2, y3, y4, y5, obV]
  case hd => rfl
  case hp => rw [HBQ.out]; exact HF.out
set_option linter.unusedSimpArgs false in
set_option maxRecDepth 100000 in
set_option maxHeartbeats 32000000 in
/-- cnflaw.modelBench.step: OpPrintDrat -/
theorem mstep_19 (w : World) (B m z : Nat) (X : Nat → Prop) (V : Nat → Value) (S : Nat → Nat → Prop) (s : Mst) (h : MN w B m X V S (QM B s) s.nv s.sv) (hB : B ≤ w.heap.size) (hX : ∀ k, X k → k < w.heap.size) (hok : MsOk z s) (hz : z ≤ 65536) (v : OpV) (hk : v.kd = 19) (ha : -9223372036854775808 ≤ v.a ∧ v.a ≤ 9223372036854775807) :
    Calls Tryz.prog 10 #[.pointer (some ⟨m, 0, none⟩), opZ v] w (MpPost w (fp m S) B m X (s) ({ ob0 with X := ptB s.P })) := by
  have HS0 := hide (mw_new v h hB hX)
  have HRB : Hid (∀ k, fp m S k → B ≤ k) := fun k z => z.elim (fun z => by rw [z]; exact h.mB) (fun ⟨i, hi, y⟩ => (h.rg i hi k y).1)
  unfold opZ
  have HOK := hide hok
  have HZ := hide hz
  have hs' : s = s := rfl
  obtain ⟨b', hb'⟩ : ∃ x : Ob, ({ ob0 with X := ptB s.P }) = x := ⟨_, rfl⟩
  rw [hb']
  obtain ⟨kd, va, la, ln, lc, VX, ta, tn, tc, VT⟩ := v
  dsimp only at hk HS0 ha hs' hb' ⊢
  subst hk
  have HSE := hide hs'
  have HBE := hide hb'
  clear h hok hz hB hX hs' hb'
  generalize fp m S = R at *
  go_enter Tryz.func10, Tryz.ntmps10
  go_upto_region 2 with fail
  generalize (((w.alloc (.cells #[.int .i64 19, .int .i64 va, .slice la ln lc, .slice ta tn tc] 37)).alloc (.cells #[.int .i64 0, .int .i64 0, .int .i64 0, .int .i64 0, .int .i64 0, .slice none 0 0] 43)).alloc (.cells #[.int .i64 0, .int .i64 0, .int .i64 0, .int .i64 0, .int .i64 0, .slice none 0 0] 43)) = W0 at *
  generalize w.heap.size + 1 + 1 = o at *
  generalize w.heap.size + 1 = t at *
  generalize w.heap.size = q at *
  have q0 : W0.cell? ⟨q, 0, none⟩ = some (.int .i64 19) := HS0.out.sc.q0
  obtain ⟨pa, pc, hvp, hlp, hcp, hmp⟩ := HS0.out.p
  obtain ⟨np, hnp⟩ : ∃ z, s.P.length = z := ⟨_, rfl⟩
  rw [hnp] at hvp hcp
  have HVp := hide hvp
  have HOp := hide hlp
  have HNp := hide hnp
  have HCp := hide (And.intro hcp hmp)
  clear hvp hlp hcp hmp hnp
  have c91 : Hid (Calls Tryz.prog 91 #[.slice pa np pc] W0 (MuPost W0 (ptB s.P))) := by have := printDratM_any W0 pa pc s.P HOp.out (by have := HOK.out.P.len; have := HZ.out; omega) (HOK.out.P.sb (by have := HZ.out; omega)) (HOK.out.P.txt HZ.out); rw [HNp.out] at this; exact this
  have vp := (HS0.out.vp HVp.out)
  go_upto_region 98 with fail
  go_wp2_with fail
  refine c91.out.mono ?_
  rintro e w2 ⟨a5, c5, rfl, hr5, hx5⟩
  clear c91
  have HSy := hide (HS0.out.lowE hx5)
  have HSt := hide (HS0.out.tx2 HSy.out hr5)
  have o5 := HSy.out.sc.o5
  have hof := HSy.out.sc.of
  clear HS0 HSy hr5 hx5
  go_upto_region 151 with fail
  generalize w2.setCell ⟨o, 5, none⟩ (.slice a5 (ptB s.P).length c5) = WT at *
  clear o5 hof
  clear q0 vp
  obtain ⟨bo, hbo⟩ : ∃ x : Ob, ({ (ob0 : Ob) with X := ptB s.P }) = x := ⟨_, rfl⟩
  have HSQ : Hid (s = s) := rfl
  have HBQ : Hid (b' = bo) := by show _ = _; rw [← hbo]; exact HBE.out.symm
  rw [hbo] at HSt
  clear hbo HSE HBE
  have o0 := HSt.out.sc.o0
  have o1 := HSt.out.sc.o1
  have o2 := HSt.out.sc.o2
  have o3 := HSt.out.sc.o3
  have o4 := HSt.out.sc.o4
  have o5 := HSt.out.sc.o5
  have t0 := HSt.out.sc.t0
  have t1 := HSt.out.sc.t1
  have t2 := HSt.out.sc.t2
  have t3 := HSt.out.sc.t3
  have t4 := HSt.out.sc.t4
  have t5 := HSt.out.sc.t5
  have htf := HSt.out.sc.tf
  have hot : o ≠ t := fun z => HSt.out.ne.2.2.1 z.symm
  have HF := hide HSt.out.fin
  have HC := hide (fin_cells HSt.out.sc)
  clear HSt
  go_wp2_with (with_reducible refine bodyPost_ret (v := ?v) ?hr ?hd ?hp)
  case v => exact obV bo (.slice a5 (ptB s.P).length c5)
  case hr =>
    change (results _ _).run _ (fin6 WT t bo (.slice a5 (ptB s.P).length c5)) = .ok _ (fin6 WT t bo (.slice a5 (ptB s.P).length c5))
    obtain ⟨y0, y1, y2, y3, y4, y5⟩ := HC.out
    clear HF HC
    generalize fin6 WT t bo (.slice a5 (ptB s.P).length c5) = WF at *
    simp [results, Tryz.results10, go_sem, y0, y1, y2, y3, y4, y5, obV]
  case hd => rfl
  case hp => rw [HBQ.out]; exact HF.out
set_option linter.unusedSimpArgs false in
set_option maxRecDepth 100000 in
set_option maxHeartbeats 32000000 in
/-- cnflaw.modelBench.step: OpTotal -/
theorem mstep_21 (w : World) (B m z : Nat) (X : Nat → Prop) (V : Nat → Value) (S : Nat → Nat → Prop) (s : Mst) (h : MN w B m X V S (QM B s) s.nv s.sv) (hB : B ≤ w.heap.size) (hX : ∀ k, X k → k < w.heap.size) (hok : MsOk z s) (hz : z ≤ 65536) (v : OpV) (hk : v.kd = 21) (ha : -9223372036854775808 ≤ v.a ∧ v.a ≤ 9223372036854775807) :
    Calls Tryz.prog 10 #[.pointer (some ⟨m, 0, none⟩), opZ v] w (MpPost w (fp m S) B m X (s) ({ ob0 with n := if mtotP s.A 1 v.a.toNat = true then 1 else 0 })) := by
  have HS0 := hide (mw_new v h hB hX)
  have HRB : Hid (∀ k, fp m S k → B ≤ k) := fun k z => z.elim (fun z => by rw [z]; exact h.mB) (fun ⟨i, hi, y⟩ => (h.rg i hi k y).1)
  unfold opZ
  have HOK := hide hok
  have HZ := hide hz
  have hs' : s = s := rfl
  obtain ⟨b', hb'⟩ : ∃ x : Ob, ({ ob0 with n := if mtotP s.A 1 v.a.toNat = true then 1 else 0 }) = x := ⟨_, rfl⟩
  rw [hb']
  obtain ⟨kd, va, la, ln, lc, VX, ta, tn, tc, VT⟩ := v
  dsimp only at hk HS0 ha hs' hb' ⊢
  subst hk
  have HSE := hide hs'
  have HBE := hide hb'
  clear h hok hz hB hX hs' hb'
  generalize fp m S = R at *
  go_enter Tryz.func10, Tryz.ntmps10
  go_upto_region 2 with fail
  generalize (((w.alloc (.cells #[.int .i64 21, .int .i64 va, .slice la ln lc, .slice ta tn tc] 37)).alloc (.cells #[.int .i64 0, .int .i64 0, .int .i64 0, .int .i64 0, .int .i64 0, .slice none 0 0] 43)).alloc (.cells #[.int .i64 0, .int .i64 0, .int .i64 0, .int .i64 0, .int .i64 0, .slice none 0 0] 43)) = W0 at *
  generalize w.heap.size + 1 + 1 = o at *
  generalize w.heap.size + 1 = t at *
  generalize w.heap.size = q at *
  have q0 : W0.cell? ⟨q, 0, none⟩ = some (.int .i64 21) := HS0.out.sc.q0
  obtain ⟨aa, ac, hva, hla, hca, hma⟩ := HS0.out.a
  obtain ⟨na, hna⟩ : ∃ z, s.A.length = z := ⟨_, rfl⟩
  rw [hna] at hva hca
  have HVa := hide hva
  have HOa := hide hla
  have HNa := hide hna
  have HCa := hide (And.intro hca hma)
  clear hva hla hca hma hna
  obtain ⟨bb, hbb⟩ : ∃ x, mtotP s.A 1 va.toNat = x := ⟨_, rfl⟩
  have Hbb := hide hbb
  clear hbb
  obtain ⟨R, hR⟩ : ∃ x : Int, (if bb = true then 1 else 0) = x := ⟨_, rfl⟩
  have HR := hide hR
  clear hR
  go_upto_region 109 with fail
  have HC0 := hide (HS0.out.low ((Below.refl _ _).drew))
  have KS0 : Hid ((fun w' => w'.cell? ⟨m, 2, none⟩ = some (.slice aa na ac) ∧ w'.cell? ⟨q, 1, none⟩ = some (.int .i64 va)) W0.drew) := ⟨HC0.out.va HVa.out, HC0.out.sc.q1⟩
  refine wp_region_held_drew (S := fun w' => w'.cell? ⟨m, 2, none⟩ = some (.slice aa na ac) ∧ w'.cell? ⟨q, 1, none⟩ = some (.int .i64 va)) (by kernel_rfl) KS0.out (fun hHeld => ?_)
  refine wpAnyH_take (i := 0) (v := ?_) rfl (by kernel_rfl) (by kernel_rfl) (by kernel_rfl) (fun _ _ _ h => h) (Or.inl ⟨by rfl, ?_⟩) (by assumption) ?_
  rotate_left
  · (intro w hSw; (try dsimp only at hSw); go_simp; try (with_reducible rfl))
  try simp only [Act.put, List.getElem_toArray, List.getElem_cons_zero, List.getElem_cons_succ, List.setIfInBounds_toArray, List.set_cons_zero, List.set_cons_succ]
  refine wpAnyH_take (i := 1) (v := ?_) rfl (by kernel_rfl) (by kernel_rfl) (by kernel_rfl) (fun _ _ _ h => h) (Or.inl ⟨by rfl, ?_⟩) (by assumption) ?_
  rotate_left
  · (intro w hSw; (try dsimp only at hSw); go_simp; try (with_reducible rfl))
  try simp only [Act.put, List.getElem_toArray, List.getElem_cons_zero, List.getElem_cons_succ, List.setIfInBounds_toArray, List.set_cons_zero, List.set_cons_succ]
  refine wpAnyH_take (i := 2) (v := ?_) rfl (by kernel_rfl) (by kernel_rfl) (by kernel_rfl) (fun _ _ _ h => h) (Or.inl ⟨by rfl, ?_⟩) (by assumption) ?_
  rotate_left
  · (intro w hSw; (try dsimp only at hSw); go_simp; try (with_reducible rfl))
  try simp only [Act.put, List.getElem_toArray, List.getElem_cons_zero, List.getElem_cons_succ, List.setIfInBounds_toArray, List.set_cons_zero, List.set_cons_succ]
  refine wpAnyH_take (i := 3) (v := ?_) rfl (by kernel_rfl) (by kernel_rfl) (by kernel_rfl) (fun _ _ _ h => h) (Or.inl ⟨by rfl, ?_⟩) (by assumption) ?_
  rotate_left
  · (intro w hSw; (try dsimp only at hSw); (obtain ⟨z0, z1⟩ := hSw); go_simp; try (with_reducible rfl))
  try simp only [Act.put, List.getElem_toArray, List.getElem_cons_zero, List.getElem_cons_succ, List.setIfInBounds_toArray, List.set_cons_zero, List.set_cons_succ]
  refine wpAnyH_take (i := 4) (v := ?_) rfl (by kernel_rfl) (by kernel_rfl) (by kernel_rfl) (fun _ _ _ h => h) (Or.inl ⟨by rfl, ?_⟩) (by assumption) ?_
  rotate_left
  · (intro w hSw; (try dsimp only at hSw); go_simp; try (with_reducible rfl))
  try simp only [Act.put, List.getElem_toArray, List.getElem_cons_zero, List.getElem_cons_succ, List.setIfInBounds_toArray, List.set_cons_zero, List.set_cons_succ]
  refine wpAnyH_take (i := 5) (v := ?_) rfl (by kernel_rfl) (by kernel_rfl) (by kernel_rfl) (fun _ _ _ h => h) (Or.inl ⟨by rfl, ?_⟩) (by assumption) ?_
  rotate_left
  · (intro w hSw; (try dsimp only at hSw); (obtain ⟨z0, z1⟩ := hSw); go_simp; try (with_reducible rfl))
  try simp only [Act.put, List.getElem_toArray, List.getElem_cons_zero, List.getElem_cons_succ, List.setIfInBounds_toArray, List.set_cons_zero, List.set_cons_succ]
  refine wpAnyH_ready (rs := [6]) (by kernel_rfl) (by simp) ?_
  refine (AllReadyH.cons rfl (fun K hK => ?_) AllReadyH.nil)
  · have cc : Hid (Calls Tryz.prog 92 #[.slice aa na ac, .int .i64 va] W0.drew fun e w' => e = .returned (.bool bb) ∧ w' = W0.drew) := by have := totalM_any W0.drew aa ac s.A (HOa.out.keep ((Ex.refl (fun _ => False) _).drew) (fun _ _ _ z => z)) (by have := HOK.out.A.len; have := HZ.out; omega) va ha 16777216 (mv_top HOK.out.A.mem) (by decide); rw [HNa.out, Hbb.out] at this; exact this
    refine step_call rfl 92 #[.slice aa na ac, .int .i64 va] (by simp [go_sem]) cc.out ?_
    rintro e w1 ⟨rfl, hw⟩
    rw [hw]
    clear cc hw w1
    generalize W0.drew = wd at *
    have KS1 : Hid ((fun w' => w'.cell? ⟨m, 2, none⟩ = some (.slice aa na ac) ∧ w'.cell? ⟨q, 1, none⟩ = some (.int .i64 va)) wd) := ⟨HC0.out.va HVa.out, HC0.out.sc.q1⟩
    refine ⟨_, rfl, ?_⟩
    refine hK.out _ _ ?_ (fun hHeld => ?_)
    · (first | with_reducible exact KS0.out | with_reducible exact KS1.out | with_reducible exact KS2.out)
    clear hK K
    try simp only [Act.put, List.getElem_toArray, List.getElem_cons_zero, List.getElem_cons_succ, List.setIfInBounds_toArray, List.set_cons_zero, List.set_cons_succ]
    refine wpAnyH_ready (rs := [7]) (by kernel_rfl) (by simp) ?_
    refine (AllReadyH.cons rfl (fun K hK => ?_) AllReadyH.nil)
    · have cc : Hid (Calls Tryz.prog 44 #[.bool bb] wd fun e w' => e = .returned (.int .i64 R) ∧ w' = wd) := by have := truth_any wd bb; rw [HR.out] at this; exact this
      refine step_call rfl 44 #[.bool bb] (by simp [go_sem]) cc.out ?_
      rintro e w1 ⟨rfl, hw⟩
      rw [hw]
      clear cc hw w1
      have HC2 := hide (HC0.out.on (R))
      have KS2 : Hid ((fun w' => w'.cell? ⟨m, 2, none⟩ = some (.slice aa na ac) ∧ w'.cell? ⟨q, 1, none⟩ = some (.int .i64 va)) (wd.setCell ⟨o, 3, none⟩ (.int .i64 (R)))) := ⟨HC2.out.va HVa.out, HC2.out.sc.q1⟩
      have o3 := HC0.out.sc.o3
      have hof := HC0.out.sc.of
      refine ⟨_, rfl, ?_⟩
      refine hK.out _ _ ?_ (fun hHeld => ?_)
      · (first | with_reducible exact KS0.out | with_reducible exact KS1.out | with_reducible exact KS2.out)
      clear hK K
      try simp only [Act.put, List.getElem_toArray, List.getElem_cons_zero, List.getElem_cons_succ, List.setIfInBounds_toArray, List.set_cons_zero, List.set_cons_succ]
      refine wpAnyH_take (i := 8) (v := ?_) rfl (by kernel_rfl) (by kernel_rfl) (by kernel_rfl) (fun _ _ _ h => h) (Or.inl ⟨by rfl, ?_⟩) (by assumption) ?_
      rotate_left
      · (intro w hSw; (try dsimp only at hSw); go_simp; try (with_reducible rfl))
      try simp only [Act.put, List.getElem_toArray, List.getElem_cons_zero, List.getElem_cons_succ, List.setIfInBounds_toArray, List.set_cons_zero, List.set_cons_succ]
      refine wpAnyH_ready (rs := [9]) (by kernel_rfl) (by simp) ?_
      refine (AllReadyH.cons rfl (fun K hK => ?_) AllReadyH.nil)
      · go_simp
        refine hK.out _ _ ?_ (fun hHeld => ?_)
        · (first | with_reducible exact KS0.out | with_reducible exact KS1.out | with_reducible exact KS2.out)
        clear hK K
        try simp only [Act.put, List.getElem_toArray, List.getElem_cons_zero, List.getElem_cons_succ, List.setIfInBounds_toArray, List.set_cons_zero, List.set_cons_succ]
        refine wpAnyH_done (by kernel_rfl) ?_ _
        clear KS0 KS1 KS2
        clear HC0 o3 hof HS0 q0
        generalize wd.setCell ⟨o, 3, none⟩ (.int .i64 (R)) = We at *
        obtain ⟨bo, hbo⟩ : ∃ x : Ob, ({ (ob0 : Ob) with n := R }) = x := ⟨_, rfl⟩
        have HSQ : Hid (s = s) := rfl
        have HBQ : Hid (b' = bo) := by show _ = _; rw [← hbo]; exact (by rw [← HBE.out, Hbb.out, HR.out])
        rw [hbo] at HC2
        clear hbo HSE HBE
        have o0 := HC2.out.sc.o0
        have o1 := HC2.out.sc.o1
        have o2 := HC2.out.sc.o2
        have o3 := HC2.out.sc.o3
        have o4 := HC2.out.sc.o4
        have o5 := HC2.out.sc.o5
        have t0 := HC2.out.sc.t0
        have t1 := HC2.out.sc.t1
        have t2 := HC2.out.sc.t2
        have t3 := HC2.out.sc.t3
        have t4 := HC2.out.sc.t4
        have t5 := HC2.out.sc.t5
        have htf := HC2.out.sc.tf
        have hot : o ≠ t := fun z => HC2.out.ne.2.2.1 z.symm
        have HF := hide HC2.out.fin
        have HC := hide (fin_cells HC2.out.sc)
        clear HC2
        go_wp2_with (with_reducible refine bodyPost_ret (v := ?v) ?hr ?hd ?hp)
        case v => exact obV bo (.slice none 0 0)
        case hr =>
          change (results _ _).run _ (fin6 We t bo (.slice none 0 0)) = .ok _ (fin6 We t bo (.slice none 0 0))
          obtain ⟨y0, y1, y2, y3, y4, y5⟩ := HC.out
          clear HF HC
          generalize fin6 We t bo (.slice none 0 0) = WF at *
          simp [results, Tryz.results10, go_sem, y0, y1, y2, y3, y4, y5, obV]
        case hd => rfl
        case hp => rw [HBQ.out]; exact HF.out
set_option linter.unusedSimpArgs false in
set_option maxRecDepth 100000 in
set_option maxHeartbeats 32000000 in
/-- cnflaw.modelBench.step: OpShowClause -/
theorem mstep_23 (w : World) (B m z : Nat) (X : Nat → Prop) (V : Nat → Value) (S : Nat → Nat → Prop) (s : Mst) (h : MN w B m X V S (QM B s) s.nv s.sv) (hB : B ≤ w.heap.size) (hX : ∀ k, X k → k < w.heap.size) (hok : MsOk z s) (hz : z ≤ 65536) (v : OpV) (hk : v.kd = 23) (ha : -9223372036854775808 ≤ v.a ∧ v.a ≤ 9223372036854775807) :
    Calls Tryz.prog 10 #[.pointer (some ⟨m, 0, none⟩), opZ v] w (MpPost w (fp m S) B m X (s) (if (0 ≤ v.a ∧ v.a < s.F.length) then { ob0 with n := 1, X := pcP (s.F.getD v.a.toNat []) } else { ob0 with X := pcP [] })) := by
  have HS0 := hide (mw_new v h hB hX)
  have HRB : Hid (∀ k, fp m S k → B ≤ k) := fun k z => z.elim (fun z => by rw [z]; exact h.mB) (fun ⟨i, hi, y⟩ => (h.rg i hi k y).1)
  unfold opZ
  have HOK := hide hok
  have HZ := hide hz
  have hs' : s = s := rfl
  obtain ⟨b', hb'⟩ : ∃ x : Ob, (if (0 ≤ v.a ∧ v.a < s.F.length) then { ob0 with n := 1, X := pcP (s.F.getD v.a.toNat []) } else { ob0 with X := pcP [] }) = x := ⟨_, rfl⟩
  rw [hb']
  obtain ⟨kd, va, la, ln, lc, VX, ta, tn, tc, VT⟩ := v
  dsimp only at hk HS0 ha hs' hb' ⊢
  subst hk
  have HSE := hide hs'
  have HBE := hide hb'
  clear h hok hz hB hX hs' hb'
  generalize fp m S = R at *
  go_enter Tryz.func10, Tryz.ntmps10
  go_upto_region 2 with fail
  generalize (((w.alloc (.cells #[.int .i64 23, .int .i64 va, .slice la ln lc, .slice ta tn tc] 37)).alloc (.cells #[.int .i64 0, .int .i64 0, .int .i64 0, .int .i64 0, .int .i64 0, .slice none 0 0] 43)).alloc (.cells #[.int .i64 0, .int .i64 0, .int .i64 0, .int .i64 0, .int .i64 0, .slice none 0 0] 43)) = W0 at *
  generalize w.heap.size + 1 + 1 = o at *
  generalize w.heap.size + 1 = t at *
  generalize w.heap.size = q at *
  have q0 : W0.cell? ⟨q, 0, none⟩ = some (.int .i64 23) := HS0.out.sc.q0
  obtain ⟨fa, fc, hvf, hlf, hcf, hmf⟩ := HS0.out.f
  obtain ⟨nf, hnf⟩ : ∃ z, s.F.length = z := ⟨_, rfl⟩
  rw [hnf] at hvf hcf
  have HVf := hide hvf
  have HOf := hide hlf
  have HNf := hide hnf
  have HCf := hide (And.intro hcf hmf)
  clear hvf hlf hcf hmf hnf
  have q1 : W0.cell? ⟨q, 1, none⟩ = some (.int .i64 va) := HS0.out.sc.q1
  have vf := (HS0.out.vf HVf.out)
  rw [HNf.out] at HBE
  by_cases hin : 0 ≤ va ∧ va < (nf : Int)
  · have HIN := hide hin
    obtain ⟨j, hj⟩ : ∃ j : Nat, va = (j : Int) := ⟨va.toNat, by omega⟩
    subst hj
    have hjn : j < nf := by omega
    have hji : (j : Int) < (nf : Int) := by omega
    have h1 : decide ((j : Int) < 0) = false := decide_eq_false (by omega)
    have h1i : ¬ (j : Int) < 0 := by omega
    have h2 : decide ((nf : Int) ≤ (j : Int)) = false := decide_eq_false (by omega)
    have h2i : ¬ (nf : Int) ≤ (j : Int) := by omega
    obtain ⟨C, hC⟩ : ∃ C, s.F[j]? = some C := ⟨_, List.getElem?_eq_getElem (by rw [HNf.out]; exact hjn)⟩
    have HC := hide hC
    clear hC
    have h0 : decide ((0 : Int) ≤ (j : Int)) = true := decide_eq_true (by omega)
    have h0i : (0 : Int) ≤ (j : Int) := by omega
    have h3 : decide ((j : Int) < (nf : Int)) = true := decide_eq_true (by omega)
    clear hin
    go_upto_region 118 with fail
    go_quiet (fail)
    rename_i nq
    have HS1 := hide (HS0.out.low (belN _ nq))
    clear HS0
    generalize World.drewN W0 nq = W1 at *
    clear q0 q1 vf h1 h2 h1i h2i h0 h0i h3
    have o3 := HS1.out.sc.o3
    have hof := HS1.out.sc.of
    go_upto_region 120 with fail
    have HS2 := hide (HS1.out.on (1))
    clear HS1
    generalize W1.setCell ⟨o, 3, none⟩ (.int .i64 (1)) = W2 at *
    clear o3 hof
    obtain ⟨g, a1, c1, eg, x0, hil, hcc, hcm, hgo, -⟩ := HS2.out.elem HVf.out HC.out
    subst eg
    obtain ⟨lc1, hlc1⟩ : ∃ z, C.length = z := ⟨_, rfl⟩
    rw [hlc1] at x0 hcc
    have HLC := hide hlc1
    have HIL1 := hide hil
    have HCC1 := hide (And.intro hcc hcm)
    have HGO := hide hgo
    clear hil hcc hcm hgo hlc1
    obtain ⟨Y, hY⟩ : ∃ x, pcP C = x := ⟨_, rfl⟩
    have HY := hide hY
    clear hY
    go_upto_region 120 with fail
    have HC0 := hide (HS2.out.low ((Below.refl _ _).drew))
    have KS0 : Hid ((fun w' => w'.cell? ⟨m, 1, none⟩ = some (.slice (some ⟨g, 0, none⟩) nf fc) ∧ w'.cell? ⟨q, 1, none⟩ = some (.int .i64 (j : Int)) ∧ w'.cell? ⟨g, j, none⟩ = some (.slice a1 lc1 c1)) W2.drew) := ⟨HC0.out.vf HVf.out, HC0.out.sc.q1,  x0⟩
    refine wp_region_held_drew (S := fun w' => w'.cell? ⟨m, 1, none⟩ = some (.slice (some ⟨g, 0, none⟩) nf fc) ∧ w'.cell? ⟨q, 1, none⟩ = some (.int .i64 (j : Int)) ∧ w'.cell? ⟨g, j, none⟩ = some (.slice a1 lc1 c1)) (by kernel_rfl) KS0.out (fun hHeld => ?_)
    refine wpAnyH_take (i := 0) (v := ?_) rfl (by kernel_rfl) (by kernel_rfl) (by kernel_rfl) (fun _ _ _ h => h) (Or.inl ⟨by rfl, ?_⟩) (by assumption) ?_
    rotate_left
    · (intro w hSw; (try dsimp only at hSw); go_simp; try (with_reducible rfl))
    try simp only [Act.put, List.getElem_toArray, List.getElem_cons_zero, List.getElem_cons_succ, List.setIfInBounds_toArray, List.set_cons_zero, List.set_cons_succ]
    refine wpAnyH_take (i := 1) (v := ?_) rfl (by kernel_rfl) (by kernel_rfl) (by kernel_rfl) (fun _ _ _ h => h) (Or.inl ⟨by rfl, ?_⟩) (by assumption) ?_
    rotate_left
    · (intro w hSw; (try dsimp only at hSw); go_simp; try (with_reducible rfl))
    try simp only [Act.put, List.getElem_toArray, List.getElem_cons_zero, List.getElem_cons_succ, List.setIfInBounds_toArray, List.set_cons_zero, List.set_cons_succ]
    refine wpAnyH_take (i := 2) (v := ?_) rfl (by kernel_rfl) (by kernel_rfl) (by kernel_rfl) (fun _ _ _ h => h) (Or.inl ⟨by rfl, ?_⟩) (by assumption) ?_
    rotate_left
    · (intro w hSw; (try dsimp only at hSw); go_simp; try (with_reducible rfl))
    try simp only [Act.put, List.getElem_toArray, List.getElem_cons_zero, List.getElem_cons_succ, List.setIfInBounds_toArray, List.set_cons_zero, List.set_cons_succ]
    refine wpAnyH_take (i := 3) (v := ?_) rfl (by kernel_rfl) (by kernel_rfl) (by kernel_rfl) (fun _ _ _ h => h) (Or.inl ⟨by rfl, ?_⟩) (by assumption) ?_
    rotate_left
    · (intro w hSw; (try dsimp only at hSw); go_simp; try (with_reducible rfl))
    try simp only [Act.put, List.getElem_toArray, List.getElem_cons_zero, List.getElem_cons_succ, List.setIfInBounds_toArray, List.set_cons_zero, List.set_cons_succ]
    refine wpAnyH_take (i := 4) (v := ?_) rfl (by kernel_rfl) (by kernel_rfl) (by kernel_rfl) (fun _ _ _ h => h) (Or.inl ⟨by rfl, ?_⟩) (by assumption) ?_
    rotate_left
    · (intro w hSw; (try dsimp only at hSw); (obtain ⟨z0, z1, z2⟩ := hSw); go_simp; try (with_reducible rfl))
    try simp only [Act.put, List.getElem_toArray, List.getElem_cons_zero, List.getElem_cons_succ, List.setIfInBounds_toArray, List.set_cons_zero, List.set_cons_succ]
    refine wpAnyH_take (i := 5) (v := ?_) rfl (by kernel_rfl) (by kernel_rfl) (by kernel_rfl) (fun _ _ _ h => h) (Or.inl ⟨by rfl, ?_⟩) (by assumption) ?_
    rotate_left
    · (intro w hSw; (try dsimp only at hSw); go_simp; try (with_reducible rfl))
    try simp only [Act.put, List.getElem_toArray, List.getElem_cons_zero, List.getElem_cons_succ, List.setIfInBounds_toArray, List.set_cons_zero, List.set_cons_succ]
    refine wpAnyH_take (i := 6) (v := ?_) rfl (by kernel_rfl) (by kernel_rfl) (by kernel_rfl) (fun _ _ _ h => h) (Or.inl ⟨by rfl, ?_⟩) (by assumption) ?_
    rotate_left
    · (intro w hSw; (try dsimp only at hSw); (obtain ⟨z0, z1, z2⟩ := hSw); go_simp; try (with_reducible rfl))
    try simp only [Act.put, List.getElem_toArray, List.getElem_cons_zero, List.getElem_cons_succ, List.setIfInBounds_toArray, List.set_cons_zero, List.set_cons_succ]
    refine wpAnyH_take (i := 7) (v := ?_) rfl (by kernel_rfl) (by kernel_rfl) (by kernel_rfl) (fun _ _ _ h => h) (Or.inl ⟨by rfl, ?_⟩) (by assumption) ?_
    rotate_left
    · (intro w hSw; (try dsimp only at hSw); go_simp; try (with_reducible rfl))
    try simp only [Act.put, List.getElem_toArray, List.getElem_cons_zero, List.getElem_cons_succ, List.setIfInBounds_toArray, List.set_cons_zero, List.set_cons_succ]
    refine wpAnyH_take (i := 8) (v := ?_) rfl (by kernel_rfl) (by kernel_rfl) (by kernel_rfl) (fun _ _ _ h => h) (Or.inl ⟨by rfl, ?_⟩) (by assumption) ?_
    rotate_left
    · (intro w hSw; (try dsimp only at hSw); (obtain ⟨z0, z1, z2⟩ := hSw); go_simp; try (with_reducible rfl))
    try simp only [Act.put, List.getElem_toArray, List.getElem_cons_zero, List.getElem_cons_succ, List.setIfInBounds_toArray, List.set_cons_zero, List.set_cons_succ]
    refine wpAnyH_ready (rs := [9]) (by kernel_rfl) (by simp) ?_
    refine (AllReadyH.cons rfl (fun K hK => ?_) AllReadyH.nil)
    · have cc : Hid (Calls Tryz.prog 86 #[.slice a1 lc1 c1] W2.drew (MuPost W2.drew Y)) := by have := printClauseM_any W2.drew a1 c1 C (HIL1.out.keep ((Ex.refl (fun _ => False) _).drew) (fun _ _ _ z => z)) (by have := (HOK.out.F.mem C (List.mem_of_getElem? HC.out)).1; have := HZ.out; omega) (fun x hx => di_64 ((HOK.out.F.mem C (List.mem_of_getElem? HC.out)).2 x hx).1); rw [HLC.out, HY.out] at this; exact this
      refine step_call rfl 86 #[.slice a1 lc1 c1] (by simp [go_sem]) cc.out ?_
      rintro e w1 ⟨a5, c5, rfl, hr5, hx⟩
      clear cc
      have HC1 := hide (HC0.out.lowE hx)
      have KS1 : Hid ((fun w' => w'.cell? ⟨m, 1, none⟩ = some (.slice (some ⟨g, 0, none⟩) nf fc) ∧ w'.cell? ⟨q, 1, none⟩ = some (.int .i64 (j : Int)) ∧ w'.cell? ⟨g, j, none⟩ = some (.slice a1 lc1 c1)) w1) := ⟨HC1.out.vf HVf.out, HC1.out.sc.q1, hx.cell (fun z => z) x0⟩
      have HC2 := hide (HC0.out.tx2 HC1.out hr5)
      have KS2 : Hid ((fun w' => w'.cell? ⟨m, 1, none⟩ = some (.slice (some ⟨g, 0, none⟩) nf fc) ∧ w'.cell? ⟨q, 1, none⟩ = some (.int .i64 (j : Int)) ∧ w'.cell? ⟨g, j, none⟩ = some (.slice a1 lc1 c1)) (w1.setCell ⟨o, 5, none⟩ (.slice a5 (Y).length c5))) := ⟨HC2.out.vf HVf.out, HC2.out.sc.q1, (fun {x} {y} z => set_oth (hx.cell (fun z => z) z) (.inl HGO.out)) x0⟩
      have o5 := HC1.out.sc.o5
      have hof := HC1.out.sc.of
      refine ⟨_, rfl, ?_⟩
      refine hK.out _ _ ?_ (fun hHeld => ?_)
      · (first | with_reducible exact KS0.out | with_reducible exact KS1.out | with_reducible exact KS2.out)
      clear hK K
      try simp only [Act.put, List.getElem_toArray, List.getElem_cons_zero, List.getElem_cons_succ, List.setIfInBounds_toArray, List.set_cons_zero, List.set_cons_succ]
      refine wpAnyH_take (i := 10) (v := ?_) rfl (by kernel_rfl) (by kernel_rfl) (by kernel_rfl) (fun _ _ _ h => h) (Or.inl ⟨by rfl, ?_⟩) (by assumption) ?_
      rotate_left
      · (intro w hSw; (try dsimp only at hSw); go_simp; try (with_reducible rfl))
      try simp only [Act.put, List.getElem_toArray, List.getElem_cons_zero, List.getElem_cons_succ, List.setIfInBounds_toArray, List.set_cons_zero, List.set_cons_succ]
      refine wpAnyH_ready (rs := [11]) (by kernel_rfl) (by simp) ?_
      refine (AllReadyH.cons rfl (fun K hK => ?_) AllReadyH.nil)
      · go_simp
        refine hK.out _ _ ?_ (fun hHeld => ?_)
        · (first | with_reducible exact KS0.out | with_reducible exact KS1.out | with_reducible exact KS2.out)
        clear hK K
        try simp only [Act.put, List.getElem_toArray, List.getElem_cons_zero, List.getElem_cons_succ, List.setIfInBounds_toArray, List.set_cons_zero, List.set_cons_succ]
        refine wpAnyH_done (by kernel_rfl) ?_ _
        clear KS0 KS1 KS2
        clear HC0 HC1 o5 hof HS2 hx hr5 x0
        generalize w1.setCell ⟨o, 5, none⟩ (.slice a5 (Y).length c5) = We at *
        obtain ⟨bo, hbo⟩ : ∃ x : Ob, ({ ({ (ob0 : Ob) with n := 1 } : Ob) with X := Y }) = x := ⟨_, rfl⟩
        have HSQ : Hid (s = s) := rfl
        have HBQ : Hid (b' = bo) := by show _ = _; rw [← hbo]; exact (by rw [← HBE.out, if_pos ⟨by omega, by omega⟩, Int.toNat_natCast, List.getD_eq_getElem?_getD, HC.out, Option.getD_some, HY.out] <;> rfl)
        rw [hbo] at HC2
        clear hbo HSE HBE
        have o0 := HC2.out.sc.o0
        have o1 := HC2.out.sc.o1
        have o2 := HC2.out.sc.o2
        have o3 := HC2.out.sc.o3
        have o4 := HC2.out.sc.o4
        have o5 := HC2.out.sc.o5
        have t0 := HC2.out.sc.t0
        have t1 := HC2.out.sc.t1
        have t2 := HC2.out.sc.t2
        have t3 := HC2.out.sc.t3
        have t4 := HC2.out.sc.t4
        have t5 := HC2.out.sc.t5
        have htf := HC2.out.sc.tf
        have hot : o ≠ t := fun z => HC2.out.ne.2.2.1 z.symm
        have HF := hide HC2.out.fin
        have HC := hide (fin_cells HC2.out.sc)
        clear HC2
        go_wp2_with (with_reducible refine bodyPost_ret (v := ?v) ?hr ?hd ?hp)
        case v => exact obV bo (.slice a5 (Y).length c5)
        case hr =>
          change (results _ _).run _ (fin6 We t bo (.slice a5 (Y).length c5)) = .ok _ (fin6 We t bo (.slice a5 (Y).length c5))
          obtain ⟨y0, y1, y2, y3, y4, y5⟩ := HC.out
          clear HF HC
          generalize fin6 We t bo (.slice a5 (Y).length c5) = WF at *
          simp [results, Tryz.results10, go_sem, y0, y1, y2, y3, y4, y5, obV]
        case hd => rfl
        case hp => rw [HBQ.out]; exact HF.out
  · have HIN := hide hin
    rcases (show va < 0 ∨ (0 ≤ va ∧ (nf : Int) ≤ va) by omega) with hlo | ⟨hlo, hhi⟩
    · clear hin
      have h1 : decide (0 ≤ va) = false := decide_eq_false (by omega)
      have h1i : ¬ 0 ≤ va := by omega
      go_upto_region 118 with fail
      go_quiet (fail)
      rename_i nq
      have HS1 := hide (HS0.out.low (belN _ nq))
      clear HS0
      generalize World.drewN W0 nq = W1 at *
      clear q0 q1 vf h1 h1i hlo
      have c86 : Hid (Calls Tryz.prog 86 #[.slice none 0 0] W1 (MuPost W1 (pcP []))) := printClauseM_any W1 none 0 [] (fun j x h => by simp at h) (by decide) (fun x h => by cases h)
      go_upto_region 121 with fail
      go_wp2_with fail
      refine c86.out.mono ?_
      rintro e w2 ⟨a5, c5, rfl, hr5, hx5⟩
      clear c86
      have HSy := hide (HS1.out.lowE hx5)
      have HSt := hide (HS1.out.tx2 HSy.out hr5)
      have o5 := HSy.out.sc.o5
      have hof := HSy.out.sc.of
      clear HS1 HSy hr5 hx5
      go_upto_region 151 with fail
      generalize w2.setCell ⟨o, 5, none⟩ (.slice a5 (pcP []).length c5) = WT at *
      clear o5 hof
      obtain ⟨bo, hbo⟩ : ∃ x : Ob, ({ (ob0 : Ob) with X := pcP [] }) = x := ⟨_, rfl⟩
      have HSQ : Hid (s = s) := rfl
      have HBQ : Hid (b' = bo) := by show _ = _; rw [← hbo]; exact (by rw [← HBE.out, if_neg (fun z => by have := HIN.out; omega)] <;> rfl)
      rw [hbo] at HSt
      clear hbo HSE HBE
      have o0 := HSt.out.sc.o0
      have o1 := HSt.out.sc.o1
      have o2 := HSt.out.sc.o2
      have o3 := HSt.out.sc.o3
      have o4 := HSt.out.sc.o4
      have o5 := HSt.out.sc.o5
      have t0 := HSt.out.sc.t0
      have t1 := HSt.out.sc.t1
      have t2 := HSt.out.sc.t2
      have t3 := HSt.out.sc.t3
      have t4 := HSt.out.sc.t4
      have t5 := HSt.out.sc.t5
      have htf := HSt.out.sc.tf
      have hot : o ≠ t := fun z => HSt.out.ne.2.2.1 z.symm
      have HF := hide HSt.out.fin
      have HC := hide (fin_cells HSt.out.sc)
      clear HSt
      go_wp2_with (with_reducible refine bodyPost_ret (v := ?v) ?hr ?hd ?hp)
      case v => exact obV bo (.slice a5 (pcP []).length c5)
      case hr =>
        change (results _ _).run _ (fin6 WT t bo (.slice a5 (pcP []).length c5)) = .ok _ (fin6 WT t bo (.slice a5 (pcP []).length c5))
        obtain ⟨y0, y1, y2, y3, y4, y5⟩ := HC.out
        clear HF HC
        generalize fin6 WT t bo (.slice a5 (pcP []).length c5) = WF at *
        simp [results, Tryz.results10, go_sem, y0, y1, y2, y3, y4, y5, obV]
      case hd => rfl
      case hp => rw [HBQ.out]; exact HF.out
    · clear hin
      have h1 : decide (0 ≤ va) = true := decide_eq_true hlo
      have h2 : decide (va < (nf : Int)) = false := decide_eq_false (by omega)
      have h2i : ¬ va < (nf : Int) := by omega
      go_upto_region 118 with fail
      go_quiet (fail)
      rename_i nq
      have HS1 := hide (HS0.out.low (belN _ nq))
      clear HS0
      generalize World.drewN W0 nq = W1 at *
      clear q0 q1 vf h1 hlo hhi h2 h2i
      have c86 : Hid (Calls Tryz.prog 86 #[.slice none 0 0] W1 (MuPost W1 (pcP []))) := printClauseM_any W1 none 0 [] (fun j x h => by simp at h) (by decide) (fun x h => by cases h)
      go_upto_region 121 with fail
      go_wp2_with fail
      refine c86.out.mono ?_
      rintro e w2 ⟨a5, c5, rfl, hr5, hx5⟩
      clear c86
      have HSy := hide (HS1.out.lowE hx5)
      have HSt := hide (HS1.out.tx2 HSy.out hr5)
      have o5 := HSy.out.sc.o5
      have hof := HSy.out.sc.of
      clear HS1 HSy hr5 hx5
      go_upto_region 151 with fail
      generalize w2.setCell ⟨o, 5, none⟩ (.slice a5 (pcP []).length c5) = WT at *
      clear o5 hof
      obtain ⟨bo, hbo⟩ : ∃ x : Ob, ({ (ob0 : Ob) with X := pcP [] }) = x := ⟨_, rfl⟩
      have HSQ : Hid (s = s) := rfl
      have HBQ : Hid (b' = bo) := by show _ = _; rw [← hbo]; exact (by rw [← HBE.out, if_neg (fun z => by have := HIN.out; omega)] <;> rfl)
      rw [hbo] at HSt
      clear hbo HSE HBE
      have o0 := HSt.out.sc.o0
      have o1 := HSt.out.sc.o1
      have o2 := HSt.out.sc.o2
      have o3 := HSt.out.sc.o3
      have o4 := HSt.out.sc.o4
      have o5 := HSt.out.sc.o5
      have t0 := HSt.out.sc.t0
      have t1 := HSt.out.sc.t1
      have t2 := HSt.out.sc.t2
      have t3 := HSt.out.sc.t3
      have t4 := HSt.out.sc.t4
      have t5 := HSt.out.sc.t5
      have htf := HSt.out.sc.tf
      have hot : o ≠ t := fun z => HSt.out.ne.2.2.1 z.symm
      have HF := hide HSt.out.fin
      have HC := hide (fin_cells HSt.out.sc)
      clear HSt
      go_wp2_with (with_reducible refine bodyPost_ret (v := ?v) ?hr ?hd ?hp)
      case v => exact obV bo (.slice a5 (pcP []).length c5)
      case hr =>
        change (results _ _).run _ (fin6 WT t bo (.slice a5 (pcP []).length c5)) = .ok _ (fin6 WT t bo (.slice a5 (pcP []).length c5))
        obtain ⟨y0, y1, y2, y3, y4, y5⟩ := HC.out
        clear HF HC
        generalize fin6 WT t bo (.slice a5 (pcP []).length c5) = WF at *
        simp [results, Tryz.results10, go_sem, y0, y1, y2, y3, y4, y5, obV]
      case hd => rfl
      case hp => rw [HBQ.out]; exact HF.out
set_option linter.unusedSimpArgs false in
set_option maxRecDepth 100000 in
set_option maxHeartbeats 32000000 in
/-- cnflaw.modelBench.step: OpShowStep -/
theorem mstep_24 (w : World) (B m z : Nat) (X : Nat → Prop) (V : Nat → Value) (S : Nat → Nat → Prop) (s : Mst) (h : MN w B m X V S (QM B s) s.nv s.sv) (hB : B ≤ w.heap.size) (hX : ∀ k, X k → k < w.heap.size) (hok : MsOk z s) (hz : z ≤ 65536) (v : OpV) (hk : v.kd = 24) (ha : -9223372036854775808 ≤ v.a ∧ v.a ≤ 9223372036854775807) :
    Calls Tryz.prog 10 #[.pointer (some ⟨m, 0, none⟩), opZ v] w (MpPost w (fp m S) B m X (s) (if (0 ≤ v.a ∧ v.a < s.P.length) then { ob0 with n := 1, X := ptB [s.P.getD v.a.toNat (false, [])] } else { ob0 with X := pcP [] })) := by
  have HS0 := hide (mw_new v h hB hX)
  have HRB : Hid (∀ k, fp m S k → B ≤ k) := fun k z => z.elim (fun z => by rw [z]; exact h.mB) (fun ⟨i, hi, y⟩ => (h.rg i hi k y).1)
  unfold opZ
  have HOK := hide hok
  have HZ := hide hz
  have hs' : s = s := rfl
  obtain ⟨b', hb'⟩ : ∃ x : Ob, (if (0 ≤ v.a ∧ v.a < s.P.length) then { ob0 with n := 1, X := ptB [s.P.getD v.a.toNat (false, [])] } else { ob0 with X := pcP [] }) = x := ⟨_, rfl⟩
  rw [hb']
  obtain ⟨kd, va, la, ln, lc, VX, ta, tn, tc, VT⟩ := v
  dsimp only at hk HS0 ha hs' hb' ⊢
  subst hk
  have HSE := hide hs'
  have HBE := hide hb'
  clear h hok hz hB hX hs' hb'
  generalize fp m S = R at *
  go_enter Tryz.func10, Tryz.ntmps10
  go_upto_region 2 with fail
  generalize (((w.alloc (.cells #[.int .i64 24, .int .i64 va, .slice la ln lc, .slice ta tn tc] 37)).alloc (.cells #[.int .i64 0, .int .i64 0, .int .i64 0, .int .i64 0, .int .i64 0, .slice none 0 0] 43)).alloc (.cells #[.int .i64 0, .int .i64 0, .int .i64 0, .int .i64 0, .int .i64 0, .slice none 0 0] 43)) = W0 at *
  generalize w.heap.size + 1 + 1 = o at *
  generalize w.heap.size + 1 = t at *
  generalize w.heap.size = q at *
  have q0 : W0.cell? ⟨q, 0, none⟩ = some (.int .i64 24) := HS0.out.sc.q0
  obtain ⟨pa, pc, hvp, hlp, hcp, hmp⟩ := HS0.out.p
  obtain ⟨np, hnp⟩ : ∃ z, s.P.length = z := ⟨_, rfl⟩
  rw [hnp] at hvp hcp
  have HVp := hide hvp
  have HOp := hide hlp
  have HNp := hide hnp
  have HCp := hide (And.intro hcp hmp)
  clear hvp hlp hcp hmp hnp
  have q1 : W0.cell? ⟨q, 1, none⟩ = some (.int .i64 va) := HS0.out.sc.q1
  have vp := (HS0.out.vp HVp.out)
  rw [HNp.out] at HBE
  by_cases hin : 0 ≤ va ∧ va < (np : Int)
  · have HIN := hide hin
    obtain ⟨j, hj⟩ : ∃ j : Nat, va = (j : Int) := ⟨va.toNat, by omega⟩
    subst hj
    have hjn : j < np := by omega
    have hji : (j : Int) < (np : Int) := by omega
    have h1 : decide ((j : Int) < 0) = false := decide_eq_false (by omega)
    have h1i : ¬ (j : Int) < 0 := by omega
    have h2 : decide ((np : Int) ≤ (j : Int)) = false := decide_eq_false (by omega)
    have h2i : ¬ (np : Int) ≤ (j : Int) := by omega
    obtain ⟨C, hC⟩ : ∃ C, s.P[j]? = some C := ⟨_, List.getElem?_eq_getElem (by rw [HNp.out]; exact hjn)⟩
    have HC := hide hC
    clear hC
    have h0 : decide ((0 : Int) ≤ (j : Int)) = true := decide_eq_true (by omega)
    have h0i : (0 : Int) ≤ (j : Int) := by omega
    have h3 : decide ((j : Int) < (np : Int)) = true := decide_eq_true (by omega)
    clear hin
    go_upto_region 123 with fail
    go_quiet (fail)
    rename_i nq
    have HS1 := hide (HS0.out.low (belN _ nq))
    clear HS0
    generalize World.drewN W0 nq = W1 at *
    clear q0 q1 vp h1 h2 h1i h2i h0 h0i h3
    have o3 := HS1.out.sc.o3
    have hof := HS1.out.sc.of
    go_upto_region 125 with fail
    have HS2 := hide (HS1.out.on (1))
    clear HS1
    generalize W1.setCell ⟨o, 3, none⟩ (.int .i64 (1)) = W2 at *
    clear o3 hof
    obtain ⟨g, a1, c1, eg, x0, x1, hil, hcc, hcm, hgo, -⟩ := HS2.out.elemP HVp.out HC.out
    subst eg
    obtain ⟨dl, CL⟩ := C
    dsimp only at x0 x1 hil hcc
    obtain ⟨lc1, hlc1⟩ : ∃ z, CL.length = z := ⟨_, rfl⟩
    rw [hlc1] at x1 hcc
    have HLC := hide hlc1
    have HIL1 := hide hil
    have HCC1 := hide (And.intro hcc hcm)
    have HGO := hide hgo
    clear hil hcc hcm hgo hlc1
    obtain ⟨Y, hY⟩ : ∃ x, ptB [(dl, CL)] = x := ⟨_, rfl⟩
    have HY := hide hY
    clear hY
    go_upto_region 125 with fail
    have HC0 := hide (HS2.out.low ((Below.refl _ _).drew))
    have KS0 : Hid ((fun w' => w'.cell? ⟨m, 3, none⟩ = some (.slice (some ⟨g, 0, none⟩) np pc) ∧ w'.cell? ⟨q, 1, none⟩ = some (.int .i64 (j : Int)) ∧ w'.cell? ⟨g, j * 2, none⟩ = some (.bool dl) ∧ w'.cell? ⟨g, j * 2 + 1, none⟩ = some (.slice a1 lc1 c1)) W2.drew) := ⟨HC0.out.vp HVp.out, HC0.out.sc.q1,  x0,  x1⟩
    refine wp_region_held_drew (S := fun w' => w'.cell? ⟨m, 3, none⟩ = some (.slice (some ⟨g, 0, none⟩) np pc) ∧ w'.cell? ⟨q, 1, none⟩ = some (.int .i64 (j : Int)) ∧ w'.cell? ⟨g, j * 2, none⟩ = some (.bool dl) ∧ w'.cell? ⟨g, j * 2 + 1, none⟩ = some (.slice a1 lc1 c1)) (by kernel_rfl) KS0.out (fun hHeld => ?_)
    refine wpAnyH_take (i := 0) (v := ?_) rfl (by kernel_rfl) (by kernel_rfl) (by kernel_rfl) (fun _ _ _ h => h) (Or.inl ⟨by rfl, ?_⟩) (by assumption) ?_
    rotate_left
    · (intro w hSw; (try dsimp only at hSw); go_simp; try (with_reducible rfl))
    try simp only [Act.put, List.getElem_toArray, List.getElem_cons_zero, List.getElem_cons_succ, List.setIfInBounds_toArray, List.set_cons_zero, List.set_cons_succ]
    refine wpAnyH_take (i := 1) (v := ?_) rfl (by kernel_rfl) (by kernel_rfl) (by kernel_rfl) (fun _ _ _ h => h) (Or.inl ⟨by rfl, ?_⟩) (by assumption) ?_
    rotate_left
    · (intro w hSw; (try dsimp only at hSw); go_simp; try (with_reducible rfl))
    try simp only [Act.put, List.getElem_toArray, List.getElem_cons_zero, List.getElem_cons_succ, List.setIfInBounds_toArray, List.set_cons_zero, List.set_cons_succ]
    refine wpAnyH_take (i := 2) (v := ?_) rfl (by kernel_rfl) (by kernel_rfl) (by kernel_rfl) (fun _ _ _ h => h) (Or.inl ⟨by rfl, ?_⟩) (by assumption) ?_
    rotate_left
    · (intro w hSw; (try dsimp only at hSw); go_simp; try (with_reducible rfl))
    try simp only [Act.put, List.getElem_toArray, List.getElem_cons_zero, List.getElem_cons_succ, List.setIfInBounds_toArray, List.set_cons_zero, List.set_cons_succ]
    refine wpAnyH_take (i := 3) (v := ?_) rfl (by kernel_rfl) (by kernel_rfl) (by kernel_rfl) (fun _ _ _ h => h) (Or.inl ⟨by rfl, ?_⟩) (by assumption) ?_
    rotate_left
    · (intro w hSw; (try dsimp only at hSw); (obtain ⟨z0, z1, z2, z3⟩ := hSw); go_simp; try (with_reducible rfl))
    try simp only [Act.put, List.getElem_toArray, List.getElem_cons_zero, List.getElem_cons_succ, List.setIfInBounds_toArray, List.set_cons_zero, List.set_cons_succ]
    refine wpAnyH_take (i := 4) (v := ?_) rfl (by kernel_rfl) (by kernel_rfl) (by kernel_rfl) (fun _ _ _ h => h) (Or.inl ⟨by rfl, ?_⟩) (by assumption) ?_
    rotate_left
    · (intro w hSw; (try dsimp only at hSw); go_simp; try (with_reducible rfl))
    try simp only [Act.put, List.getElem_toArray, List.getElem_cons_zero, List.getElem_cons_succ, List.setIfInBounds_toArray, List.set_cons_zero, List.set_cons_succ]
    refine wpAnyH_take (i := 5) (v := ?_) rfl (by kernel_rfl) (by kernel_rfl) (by kernel_rfl) (fun _ _ _ h => h) (Or.inl ⟨by rfl, ?_⟩) (by assumption) ?_
    rotate_left
    · (intro w hSw; (try dsimp only at hSw); (obtain ⟨z0, z1, z2, z3⟩ := hSw); go_simp; try (with_reducible rfl))
    try simp only [Act.put, List.getElem_toArray, List.getElem_cons_zero, List.getElem_cons_succ, List.setIfInBounds_toArray, List.set_cons_zero, List.set_cons_succ]
    refine wpAnyH_take (i := 6) (v := ?_) rfl (by kernel_rfl) (by kernel_rfl) (by kernel_rfl) (fun _ _ _ h => h) (Or.inl ⟨by rfl, ?_⟩) (by assumption) ?_
    rotate_left
    · (intro w hSw; (try dsimp only at hSw); go_simp; try (with_reducible rfl))
    try simp only [Act.put, List.getElem_toArray, List.getElem_cons_zero, List.getElem_cons_succ, List.setIfInBounds_toArray, List.set_cons_zero, List.set_cons_succ]
    refine wpAnyH_take (i := 7) (v := ?_) rfl (by kernel_rfl) (by kernel_rfl) (by kernel_rfl) (fun _ _ _ h => h) (Or.inl ⟨by rfl, ?_⟩) (by assumption) ?_
    rotate_left
    · (intro w hSw; (try dsimp only at hSw); (obtain ⟨z0, z1, z2, z3⟩ := hSw); go_simp; try (with_reducible rfl))
    try simp only [Act.put, List.getElem_toArray, List.getElem_cons_zero, List.getElem_cons_succ, List.setIfInBounds_toArray, List.set_cons_zero, List.set_cons_succ]
    refine wpAnyH_ready (rs := [8]) (by kernel_rfl) (by simp) ?_
    refine (AllReadyH.cons rfl (fun K hK => ?_) AllReadyH.nil)
    · have x0d : W2.drew.cell? ⟨g, j * 2, none⟩ = some (.bool dl) := x0
      have x1d : W2.drew.cell? ⟨g, j * 2 + 1, none⟩ = some (.slice a1 lc1 c1) := x1
      have HILd := hide (HIL1.out.keep ((Ex.refl (fun _ => False) W2).drew) (fun _ _ _ z => z))
      generalize W2.drew = wd at *
      have HCa := hide (HC0.out.low (be1 wd (.cells #[.bool dl, .slice a1 lc1 c1] 136)))
      have HIL2 := hide (HILd.out.keep (Ex.of (S := fun _ => False) (be1 wd (.cells #[.bool dl, .slice a1 lc1 c1] 136))) (fun _ _ _ z => z))
      have ha0 := hide (new_cells wd [.bool dl, .slice a1 lc1 c1] 136 0 _ rfl)
      have ha1 := hide (new_cells wd [.bool dl, .slice a1 lc1 c1] 136 1 _ rfl)
      have y0 : (wd.alloc (.cells #[.bool dl, .slice a1 lc1 c1] 136)).cell? ⟨g, j * 2, none⟩ = some (.bool dl) := (Ex.of (S := fun _ => False) (be1 wd _)).cell (fun z => z) x0d
      have y1 : (wd.alloc (.cells #[.bool dl, .slice a1 lc1 c1] 136)).cell? ⟨g, j * 2 + 1, none⟩ = some (.slice a1 lc1 c1) := (Ex.of (S := fun _ => False) (be1 wd _)).cell (fun z => z) x1d
      have KS1 : Hid ((fun w' => w'.cell? ⟨m, 3, none⟩ = some (.slice (some ⟨g, 0, none⟩) np pc) ∧ w'.cell? ⟨q, 1, none⟩ = some (.int .i64 (j : Int)) ∧ w'.cell? ⟨g, j * 2, none⟩ = some (.bool dl) ∧ w'.cell? ⟨g, j * 2 + 1, none⟩ = some (.slice a1 lc1 c1)) (wd.alloc (.cells #[.bool dl, .slice a1 lc1 c1] 136))) := ⟨HCa.out.vp HVp.out, HCa.out.sc.q1, y0, y1⟩
      go_simp
      refine hK.out _ _ ?_ (fun hHeld => ?_)
      · (first | with_reducible exact KS0.out | with_reducible exact KS1.out | with_reducible exact KS2.out | with_reducible exact KS3.out)
      clear hK K
      try simp only [Act.put, List.getElem_toArray, List.getElem_cons_zero, List.getElem_cons_succ, List.setIfInBounds_toArray, List.set_cons_zero, List.set_cons_succ]
      refine wpAnyH_ready (rs := [9]) (by kernel_rfl) (by simp) ?_
      refine (AllReadyH.cons rfl (fun K hK => ?_) AllReadyH.nil)
      · generalize hwa : (wd.alloc (.cells #[.bool dl, .slice a1 lc1 c1] 136)) = wa at *
        generalize hba : wd.heap.size = ba at *
        clear hwa hba
        have SL1 : Hid (SL wa (some ⟨ba, 0, none⟩) [(dl, CL)]) := fun jj ss hh => by
          have hj0 : jj = 0 := by rcases Nat.eq_zero_or_pos jj with z | z; exact z; rw [List.getElem?_eq_none (by simp; omega)] at hh; cases hh
          subst hj0
          simp at hh
          subst hh
          exact ⟨ba, 0, a1, c1, rfl, ha0.out, (by rw [HLC.out]; exact ha1.out), HIL2.out, (by rw [HLC.out]; exact HCC1.out.1), HCC1.out.2⟩
        have cc : Hid (Calls Tryz.prog 91 #[.slice (some ⟨ba, 0, none⟩) 1 1] wa (MuPost wa Y)) := by have := printDratM_any wa (some ⟨ba, 0, none⟩) 1 [(dl, CL)] SL1.out (by simp) (fun C hC => by simp at hC; subst hC; exact ⟨by have := (HOK.out.P.mem _ (List.mem_of_getElem? HC.out)).1; have := HZ.out; dsimp only at *; omega, fun x hx => di_64 ((HOK.out.P.mem _ (List.mem_of_getElem? HC.out)).2 x hx).1⟩) (by have h1 := ptB_len HZ.out (F := [(dl, CL)]) (fun C hC => by simp at hC; subst hC; exact HOK.out.P.mem _ (List.mem_of_getElem? HC.out)); simp at h1; omega); rw [HY.out] at this; exact this
        refine step_call rfl 91 #[.slice (some ⟨ba, 0, none⟩) 1 1] (by simp [go_sem]) cc.out ?_
        rintro e w1 ⟨a5, c5, rfl, hr5, hx⟩
        clear cc SL1
        have HC1 := hide (HCa.out.lowE hx)
        have KS2 : Hid ((fun w' => w'.cell? ⟨m, 3, none⟩ = some (.slice (some ⟨g, 0, none⟩) np pc) ∧ w'.cell? ⟨q, 1, none⟩ = some (.int .i64 (j : Int)) ∧ w'.cell? ⟨g, j * 2, none⟩ = some (.bool dl) ∧ w'.cell? ⟨g, j * 2 + 1, none⟩ = some (.slice a1 lc1 c1)) w1) := ⟨HC1.out.vp HVp.out, HC1.out.sc.q1, hx.cell (fun z => z) y0, hx.cell (fun z => z) y1⟩
        have HC2 := hide (HCa.out.tx2 HC1.out hr5)
        have KS3 : Hid ((fun w' => w'.cell? ⟨m, 3, none⟩ = some (.slice (some ⟨g, 0, none⟩) np pc) ∧ w'.cell? ⟨q, 1, none⟩ = some (.int .i64 (j : Int)) ∧ w'.cell? ⟨g, j * 2, none⟩ = some (.bool dl) ∧ w'.cell? ⟨g, j * 2 + 1, none⟩ = some (.slice a1 lc1 c1)) (w1.setCell ⟨o, 5, none⟩ (.slice a5 (Y).length c5))) := ⟨HC2.out.vp HVp.out, HC2.out.sc.q1, (fun {x} {y} z => set_oth (hx.cell (fun z => z) z) (.inl HGO.out)) y0, (fun {x} {y} z => set_oth (hx.cell (fun z => z) z) (.inl HGO.out)) y1⟩
        have o5 := HC1.out.sc.o5
        have hof := HC1.out.sc.of
        refine ⟨_, rfl, ?_⟩
        refine hK.out _ _ ?_ (fun hHeld => ?_)
        · (first | with_reducible exact KS0.out | with_reducible exact KS1.out | with_reducible exact KS2.out | with_reducible exact KS3.out)
        clear hK K
        try simp only [Act.put, List.getElem_toArray, List.getElem_cons_zero, List.getElem_cons_succ, List.setIfInBounds_toArray, List.set_cons_zero, List.set_cons_succ]
        refine wpAnyH_take (i := 10) (v := ?_) rfl (by kernel_rfl) (by kernel_rfl) (by kernel_rfl) (fun _ _ _ h => h) (Or.inl ⟨by rfl, ?_⟩) (by assumption) ?_
        rotate_left
        · (intro w hSw; (try dsimp only at hSw); go_simp; try (with_reducible rfl))
        try simp only [Act.put, List.getElem_toArray, List.getElem_cons_zero, List.getElem_cons_succ, List.setIfInBounds_toArray, List.set_cons_zero, List.set_cons_succ]
        refine wpAnyH_ready (rs := [11]) (by kernel_rfl) (by simp) ?_
        refine (AllReadyH.cons rfl (fun K hK => ?_) AllReadyH.nil)
        · go_simp
          refine hK.out _ _ ?_ (fun hHeld => ?_)
          · (first | with_reducible exact KS0.out | with_reducible exact KS1.out | with_reducible exact KS2.out | with_reducible exact KS3.out)
          clear hK K
          try simp only [Act.put, List.getElem_toArray, List.getElem_cons_zero, List.getElem_cons_succ, List.setIfInBounds_toArray, List.set_cons_zero, List.set_cons_succ]
          refine wpAnyH_done (by kernel_rfl) ?_ _
          clear KS0 KS1 KS2 KS3
          clear HC0 HC1 HCa o5 hof HS2 hx hr5 x0 x1 x0d x1d y0 y1 ha0 ha1 HIL2
          generalize w1.setCell ⟨o, 5, none⟩ (.slice a5 (Y).length c5) = We at *
          obtain ⟨bo, hbo⟩ : ∃ x : Ob, ({ ({ (ob0 : Ob) with n := 1 } : Ob) with X := Y }) = x := ⟨_, rfl⟩
          have HSQ : Hid (s = s) := rfl
          have HBQ : Hid (b' = bo) := by show _ = _; rw [← hbo]; exact (by rw [← HBE.out, if_pos ⟨by omega, by omega⟩, Int.toNat_natCast, List.getD_eq_getElem?_getD, HC.out, Option.getD_some, HY.out] <;> rfl)
          rw [hbo] at HC2
          clear hbo HSE HBE
          have o0 := HC2.out.sc.o0
          have o1 := HC2.out.sc.o1
          have o2 := HC2.out.sc.o2
          have o3 := HC2.out.sc.o3
          have o4 := HC2.out.sc.o4
          have o5 := HC2.out.sc.o5
          have t0 := HC2.out.sc.t0
          have t1 := HC2.out.sc.t1
          have t2 := HC2.out.sc.t2
          have t3 := HC2.out.sc.t3
          have t4 := HC2.out.sc.t4
          have t5 := HC2.out.sc.t5
          have htf := HC2.out.sc.tf
          have hot : o ≠ t := fun z => HC2.out.ne.2.2.1 z.symm
          have HF := hide HC2.out.fin
          have HC := hide (fin_cells HC2.out.sc)
          clear HC2
          go_wp2_with (with_reducible refine bodyPost_ret (v := ?v) ?hr ?hd ?hp)
          case v => exact obV bo (.slice a5 (Y).length c5)
          case hr =>
            change (results _ _).run _ (fin6 We t bo (.slice a5 (Y).length c5)) = .ok _ (fin6 We t bo (.slice a5 (Y).length c5))
            obtain ⟨y0, y1, y2, y3, y4, y5⟩ := HC.out
            clear HF HC
            generalize fin6 We t bo (.slice a5 (Y).length c5) = WF at *
            simp [results, Tryz.results10, go_sem, y0, y1, y2, y3, y4, y5, obV]
          case hd => rfl
          case hp => rw [HBQ.out]; exact HF.out
  · have HIN := hide hin
    rcases (show va < 0 ∨ (0 ≤ va ∧ (np : Int) ≤ va) by omega) with hlo | ⟨hlo, hhi⟩
    · clear hin
      have h1 : decide (0 ≤ va) = false := decide_eq_false (by omega)
      have h1i : ¬ 0 ≤ va := by omega
      go_upto_region 123 with fail
      go_quiet (fail)
      rename_i nq
      have HS1 := hide (HS0.out.low (belN _ nq))
      clear HS0
      generalize World.drewN W0 nq = W1 at *
      clear q0 q1 vp h1 h1i hlo
      have c86 : Hid (Calls Tryz.prog 86 #[.slice none 0 0] W1 (MuPost W1 (pcP []))) := printClauseM_any W1 none 0 [] (fun j x h => by simp at h) (by decide) (fun x h => by cases h)
      go_upto_region 126 with fail
      go_wp2_with fail
      refine c86.out.mono ?_
      rintro e w2 ⟨a5, c5, rfl, hr5, hx5⟩
      clear c86
      have HSy := hide (HS1.out.lowE hx5)
      have HSt := hide (HS1.out.tx2 HSy.out hr5)
      have o5 := HSy.out.sc.o5
      have hof := HSy.out.sc.of
      clear HS1 HSy hr5 hx5
      go_upto_region 151 with fail
      generalize w2.setCell ⟨o, 5, none⟩ (.slice a5 (pcP []).length c5) = WT at *
      clear o5 hof
      obtain ⟨bo, hbo⟩ : ∃ x : Ob, ({ (ob0 : Ob) with X := pcP [] }) = x := ⟨_, rfl⟩
      have HSQ : Hid (s = s) := rfl
      have HBQ : Hid (b' = bo) := by show _ = _; rw [← hbo]; exact (by rw [← HBE.out, if_neg (fun z => by have := HIN.out; omega)] <;> rfl)
      rw [hbo] at HSt
      clear hbo HSE HBE
      have o0 := HSt.out.sc.o0
      have o1 := HSt.out.sc.o1
      have o2 := HSt.out.sc.o2
      have o3 := HSt.out.sc.o3
      have o4 := HSt.out.sc.o4
      have o5 := HSt.out.sc.o5
      have t0 := HSt.out.sc.t0
      have t1 := HSt.out.sc.t1
      have t2 := HSt.out.sc.t2
      have t3 := HSt.out.sc.t3
      have t4 := HSt.out.sc.t4
      have t5 := HSt.out.sc.t5
      have htf := HSt.out.sc.tf
      have hot : o ≠ t := fun z => HSt.out.ne.2.2.1 z.symm
      have HF := hide HSt.out.fin
      have HC := hide (fin_cells HSt.out.sc)
      clear HSt
      go_wp2_with (with_reducible refine bodyPost_ret (v := ?v) ?hr ?hd ?hp)
      case v => exact obV bo (.slice a5 (pcP []).length c5)
      case hr =>
        change (results _ _).run _ (fin6 WT t bo (.slice a5 (pcP []).length c5)) = .ok _ (fin6 WT t bo (.slice a5 (pcP []).length c5))
        obtain ⟨y0, y1, y2, y3, y4, y5⟩ := HC.out
        clear HF HC
        generalize fin6 WT t bo (.slice a5 (pcP []).length c5) = WF at *
        simp [results, Tryz.results10, go_sem, y0, y1, y2, y3, y4, y5, obV]
      case hd => rfl
      case hp => rw [HBQ.out]; exact HF.out
    · clear hin
      have h1 : decide (0 ≤ va) = true := decide_eq_true hlo
      have h2 : decide (va < (np : Int)) = false := decide_eq_false (by omega)
      have h2i : ¬ va < (np : Int) := by omega
      go_upto_region 123 with fail
      go_quiet (fail)
      rename_i nq
      have HS1 := hide (HS0.out.low (belN _ nq))
      clear HS0
      generalize World.drewN W0 nq = W1 at *
      clear q0 q1 vp h1 hlo hhi h2 h2i
      have c86 : Hid (Calls Tryz.prog 86 #[.slice none 0 0] W1 (MuPost W1 (pcP []))) := printClauseM_any W1 none 0 [] (fun j x h => by simp at h) (by decide) (fun x h => by cases h)
      go_upto_region 126 with fail
      go_wp2_with fail
      refine c86.out.mono ?_
      rintro e w2 ⟨a5, c5, rfl, hr5, hx5⟩
      clear c86
      have HSy := hide (HS1.out.lowE hx5)
      have HSt := hide (HS1.out.tx2 HSy.out hr5)
      have o5 := HSy.out.sc.o5
      have hof := HSy.out.sc.of
      clear HS1 HSy hr5 hx5
      go_upto_region 151 with fail
      generalize w2.setCell ⟨o, 5, none⟩ (.slice a5 (pcP []).length c5) = WT at *
      clear o5 hof
      obtain ⟨bo, hbo⟩ : ∃ x : Ob, ({ (ob0 : Ob) with X := pcP [] }) = x := ⟨_, rfl⟩
      have HSQ : Hid (s = s) := rfl
      have HBQ : Hid (b' = bo) := by show _ = _; rw [← hbo]; exact (by rw [← HBE.out, if_neg (fun z => by have := HIN.out; omega)] <;> rfl)
      rw [hbo] at HSt
      clear hbo HSE HBE
      have o0 := HSt.out.sc.o0
      have o1 := HSt.out.sc.o1
      have o2 := HSt.out.sc.o2
      have o3 := HSt.out.sc.o3
      have o4 := HSt.out.sc.o4
      have o5 := HSt.out.sc.o5
      have t0 := HSt.out.sc.t0
      have t1 := HSt.out.sc.t1
      have t2 := HSt.out.sc.t2
      have t3 := HSt.out.sc.t3
      have t4 := HSt.out.sc.t4
      have t5 := HSt.out.sc.t5
      have htf := HSt.out.sc.tf
      have hot : o ≠ t := fun z => HSt.out.ne.2.2.1 z.symm
      have HF := hide HSt.out.fin
      have HC := hide (fin_cells HSt.out.sc)
      clear HSt
      go_wp2_with (with_reducible refine bodyPost_ret (v := ?v) ?hr ?hd ?hp)
      case v => exact obV bo (.slice a5 (pcP []).length c5)
      case hr =>
        change (results _ _).run _ (fin6 WT t bo (.slice a5 (pcP []).length c5)) = .ok _ (fin6 WT t bo (.slice a5 (pcP []).length c5))
        obtain ⟨y0, y1, y2, y3, y4, y5⟩ := HC.out
        clear HF HC
        generalize fin6 WT t bo (.slice a5 (pcP []).length c5) = WF at *
        simp [results, Tryz.results10, go_sem, y0, y1, y2, y3, y4, y5, obV]
      case hd => rfl
      case hp => rw [HBQ.out]; exact HF.out
end Go.Proofs.Qxb6500773aGreat
