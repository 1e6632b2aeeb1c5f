import Derived.Test.Qxb6500773aGreatOz
namespace Go.Proofs.Qxb6500773aGreat
open Go.RowKit

set_option linter.unusedSimpArgs false in
set_option maxRecDepth 100000 in
set_option maxHeartbeats 32000000 in
/-- cnflaw.modelBench.step: OpParseDimacs -/
theorem mstep_14 (w : World) (B m z : Nat) (X : Nat → Prop) (V : Nat → Value) (S : Nat → Nat → Prop) (s : Mst) (h : MN w B m X V S (QM B s) s.nv s.sv) (hB : B ≤ w.heap.size) (hX : ∀ k, X k → k < w.heap.size) (hok : MsOk z s) (hz : z ≤ 65536) (v : OpV) (hk : v.kd = 14) (ha : -9223372036854775808 ≤ v.a ∧ v.a ≤ 9223372036854775807) (Y : List Int) (hY : Y.length = v.tn) (hUT : ∀ w', Ex (fun k => B ≤ k) w w' → UL w' v.ta Y) (htn : v.tn ≤ 65536) :
    Calls Tryz.prog 10 #[.pointer (some ⟨m, 0, none⟩), opZ v] w (MpPost w (fp m S) B m X ((fm14 s (fmP Y)).1) ((fm14 s (fmP Y)).2)) := by
  have HS0 := hide (mw_new v h hB hX)
  have HRB : Hid (∀ k, fp m S k → B ≤ k) := fun k z => z.elim (fun z => by rw [z]; exact h.mB) (fun ⟨i, hi, y⟩ => (h.rg i hi k y).1)
  unfold opZ
  have HOK := hide hok
  have HZ := hide hz
  obtain ⟨s', hs'⟩ : ∃ x : Mst, ((fm14 s (fmP Y)).1) = x := ⟨_, rfl⟩
  obtain ⟨b', hb'⟩ : ∃ x : Ob, ((fm14 s (fmP Y)).2) = x := ⟨_, rfl⟩
  rw [hs', hb']
  obtain ⟨kd, va, la, ln, lc, VX, ta, tn, tc, VT⟩ := v
  dsimp only at hk HS0 ha hs' hb' ⊢
  subst hk
  have HSE := hide hs'
  have HBE := hide hb'
  dsimp only at hY hUT htn
  have HY := hide hY
  have HUT := hide hUT
  have htnb := htn
  clear hY hUT htn
  clear h hok hz hB hX hs' hb'
  generalize fp m S = R at *
  go_enter Tryz.func10, Tryz.ntmps10
  go_upto_region 2 with fail
  generalize (((w.alloc (.cells #[.int .i64 14, .int .i64 va, .slice la ln lc, .slice ta tn tc] 37)).alloc (.cells #[.int .i64 0, .int .i64 0, .int .i64 0, .int .i64 0, .int .i64 0, .slice none 0 0] 43)).alloc (.cells #[.int .i64 0, .int .i64 0, .int .i64 0, .int .i64 0, .int .i64 0, .slice none 0 0] 43)) = W0 at *
  generalize w.heap.size + 1 + 1 = o at *
  generalize w.heap.size + 1 = t at *
  generalize w.heap.size = q at *
  have q0 : W0.cell? ⟨q, 0, none⟩ = some (.int .i64 14) := HS0.out.sc.q0
  have q3 : W0.cell? ⟨q, 3, none⟩ = some (.slice ta tn tc) := HS0.out.sc.q3
  obtain ⟨RR, hRR⟩ : ∃ x, fmP Y = x := ⟨_, rfl⟩
  have HRR := hide hRR
  clear hRR
  have HBAD : Hid (∀ er ln col, RR = .bad er ln col → er ≠ 0) := fun er ln col z => fmP_bad (HRR.out.trans z)
  have cc : Hid (Calls Tryz.prog 88 #[.slice ta tn tc] W0 (FmoPost W0 RR)) := by have := parseDimacsM_any W0 ta tc Y (HUT.out W0 (HS0.out.exB HRB.out)) (by rw [HY.out]; omega); rw [HY.out, HRR.out] at this; exact this
  rw [HRR.out] at HSE HBE
  clear HRR
  go_upto_region 73 with fail
  go_wp2_with fail
  refine cc.out.mono ?_
  rintro e wz ⟨hxz, hp⟩
  clear cc
  clear q0 q3
  have HXZ := hide hxz
  clear hxz
  rcases RR with ⟨nv, FF⟩ | ⟨er, lN, col⟩
  · obtain ⟨v5, n5, rfl, hlp⟩ := hp
    unfold fltV
    obtain ⟨a5, c5, hv5⟩ : ∃ a c, v5 = .slice a n5 c := by obtain ⟨Vq, q1, _⟩ := hlp.ro; exact own_form q1
    subst hv5
    have HLN := hide hlp.hn
    have HLP := hide hlp
    clear hlp HBAD
    go_upto_region 74 with fail
    have HXA : Hid (Ex (fun _ => False) W0 ((wz.alloc (.cells #[.int .i64 nv, .slice a5 n5 c5] 29)).alloc (.cells #[.int .i64 0, .int .i64 0, .int .i64 0] 41))) := (HXZ.out.alloc _).alloc _
    have f0 : ((wz.alloc (.cells #[.int .i64 nv, .slice a5 n5 c5] 29)).alloc (.cells #[.int .i64 0, .int .i64 0, .int .i64 0] 41)).cell? ⟨wz.heap.size, 0, none⟩ = some (.int .i64 nv) := (Ex.of (S := fun _ => False) (be1 (wz.alloc (.cells #[.int .i64 nv, .slice a5 n5 c5] 29)) _)).cell (fun z => z) (new_cells wz [.int .i64 nv, .slice a5 n5 c5] 29 0 _ rfl)
    have f1 : ((wz.alloc (.cells #[.int .i64 nv, .slice a5 n5 c5] 29)).alloc (.cells #[.int .i64 0, .int .i64 0, .int .i64 0] 41)).cell? ⟨wz.heap.size, 1, none⟩ = some (.slice a5 n5 c5) := (Ex.of (S := fun _ => False) (be1 (wz.alloc (.cells #[.int .i64 nv, .slice a5 n5 c5] 29)) _)).cell (fun z => z) (new_cells wz [.int .i64 nv, .slice a5 n5 c5] 29 1 _ rfl)
    have g0 : ((wz.alloc (.cells #[.int .i64 nv, .slice a5 n5 c5] 29)).alloc (.cells #[.int .i64 0, .int .i64 0, .int .i64 0] 41)).cell? ⟨(wz.alloc (.cells #[.int .i64 nv, .slice a5 n5 c5] 29)).heap.size, 0, none⟩ = some (.int .i64 0) := new_cells (wz.alloc (.cells #[.int .i64 nv, .slice a5 n5 c5] 29)) [.int .i64 0, .int .i64 0, .int .i64 0] 41 0 _ rfl
    have g1 : ((wz.alloc (.cells #[.int .i64 nv, .slice a5 n5 c5] 29)).alloc (.cells #[.int .i64 0, .int .i64 0, .int .i64 0] 41)).cell? ⟨(wz.alloc (.cells #[.int .i64 nv, .slice a5 n5 c5] 29)).heap.size, 1, none⟩ = some (.int .i64 0) := new_cells (wz.alloc (.cells #[.int .i64 nv, .slice a5 n5 c5] 29)) [.int .i64 0, .int .i64 0, .int .i64 0] 41 1 _ rfl
    have g2 : ((wz.alloc (.cells #[.int .i64 nv, .slice a5 n5 c5] 29)).alloc (.cells #[.int .i64 0, .int .i64 0, .int .i64 0] 41)).cell? ⟨(wz.alloc (.cells #[.int .i64 nv, .slice a5 n5 c5] 29)).heap.size, 2, none⟩ = some (.int .i64 0) := new_cells (wz.alloc (.cells #[.int .i64 nv, .slice a5 n5 c5] 29)) [.int .i64 0, .int .i64 0, .int .i64 0] 41 2 _ rfl
    have HOW : Hid (o < wz.heap.size ∧ m < wz.heap.size) := ⟨(HS0.out.lowE HXZ.out).lt.2.2, (HS0.out.lowE HXZ.out).mn.lt⟩
    have hsz : (wz.alloc (.cells #[.int .i64 nv, .slice a5 n5 c5] 29)).heap.size = wz.heap.size + 1 := szAl _ _
    rw [hsz] at g0 g1 g2
    clear hsz
    obtain ⟨ba, hba⟩ : ∃ x, wz.heap.size = x := ⟨_, rfl⟩
    have HNE : Hid (ba ≠ o ∧ ba + 1 ≠ o ∧ ba ≠ m ∧ ba + 1 ≠ m) := by have := HOW.out; rw [hba] at this; show _ ∧ _; omega
    rw [hba] at g0 g1 g2 f0 f1 ⊢
    clear hba HOW
    have HLA := hide (HLP.out.under (S := fun _ => False) (((Ex.refl (fun _ => False) wz).alloc (.cells #[.int .i64 nv, .slice a5 n5 c5] 29)).alloc (.cells #[.int .i64 0, .int .i64 0, .int .i64 0] 41)) (fun _ z => z.elim))
    clear HLP
    have HS1 := hide (HS0.out.lowE HXA.out)
    generalize ((wz.alloc (.cells #[.int .i64 nv, .slice a5 n5 c5] 29)).alloc (.cells #[.int .i64 0, .int .i64 0, .int .i64 0] 41)) = wf at *
    clear HXZ
    have o0 := HS1.out.sc.o0
    have o1 := HS1.out.sc.o1
    have o2 := HS1.out.sc.o2
    have hof := HS1.out.sc.of
    go_upto_region 75 with fail
    have gz : (((wf.setCell ⟨o, 0, none⟩ (.int .i64 0)).setCell ⟨o, 1, none⟩ (.int .i64 0)).setCell ⟨o, 2, none⟩ (.int .i64 0)).cell? ⟨ba + 1, 0, none⟩ = some (.int .i64 0) := set_oth (set_oth (set_oth g0 (.inl HNE.out.2.1)) (.inl HNE.out.2.1)) (.inl HNE.out.2.1)
    have f0' : (((wf.setCell ⟨o, 0, none⟩ (.int .i64 0)).setCell ⟨o, 1, none⟩ (.int .i64 0)).setCell ⟨o, 2, none⟩ (.int .i64 0)).cell? ⟨ba, 0, none⟩ = _ := set_oth (set_oth (set_oth f0 (.inl HNE.out.1)) (.inl HNE.out.1)) (.inl HNE.out.1)
    have f1' : (((wf.setCell ⟨o, 0, none⟩ (.int .i64 0)).setCell ⟨o, 1, none⟩ (.int .i64 0)).setCell ⟨o, 2, none⟩ (.int .i64 0)).cell? ⟨ba, 1, none⟩ = _ := set_oth (set_oth (set_oth f1 (.inl HNE.out.1)) (.inl HNE.out.1)) (.inl HNE.out.1)
    have HS2 := hide (HS1.out.fa (0) (0) (0))
    obtain ⟨V6, S6, hs6⟩ := HS0.out.lateF HLA.out HXA.out 0 0 0
    have HS6 := hide (hs6.num0 nv)
    rw [set_swap _ _ _ _ _ _ (by decide)] at HS6
    clear hs6 HLA HXA HS0 HS1 o0 o1 o2 hof g0 g1 g2 f0 f1
    generalize ((wf.setCell ⟨o, 0, none⟩ (.int .i64 0)).setCell ⟨o, 1, none⟩ (.int .i64 0)).setCell ⟨o, 2, none⟩ (.int .i64 0) = W3 at *
    go_upto_region 76 with fail
    have d0 := HS2.out.mn.c0
    have d1 : W3.cell? ⟨m, 1, none⟩ = some (V 0) := HS2.out.mn.c 0 (by decide)
    have cf := HS2.out.mn.fz
    clear HS2
    go_upto_region 77 with fail
    have v1 : ((W3.setCell ⟨m, 0, none⟩ (.int .i64 nv)).setCell ⟨m, 1, none⟩ (.slice a5 n5 c5)).cell? ⟨m, 1, none⟩ = some (.slice a5 n5 c5) := World.cell?_setCell_same _ _ _ (set_oth d1 (.inr (by decide)))
    clear gz f0' f1' d0 d1 cf
    generalize ((W3.setCell ⟨m, 0, none⟩ (.int .i64 nv)).setCell ⟨m, 1, none⟩ (.slice a5 n5 c5)) = W6 at *
    have o3 := HS6.out.sc.o3
    have hof := HS6.out.sc.of
    go_upto_region 78 with fail
    have HS7 := hide (HS6.out.on ((n5 : Int)))
    clear HS6
    generalize W6.setCell ⟨o, 3, none⟩ (.int .i64 ((n5 : Int))) = W7 at *
    clear o3 hof v1
    have c0 : W7.cell? ⟨m, 0, none⟩ = some (.int .i64 (nv)) := HS7.out.mn.c0
    have o4 := HS7.out.sc.o4
    have hof := HS7.out.sc.of
    go_upto_region 151 with fail
    have HS8 := hide (HS7.out.om (nv))
    clear HS7
    generalize W7.setCell ⟨o, 4, none⟩ (.int .i64 (nv)) = W8 at *
    clear o4 hof c0
    obtain ⟨bo, hbo⟩ : ∃ x : Ob, ({ ({ ({ (ob0 : Ob) with er := 0, ln := 0, col := 0 } : Ob) with n := (n5 : Int) } : Ob) with m := nv }) = x := ⟨_, rfl⟩
    have HSQ : Hid (s' = { s with nv := nv, F := FF }) := HSE.out.symm
    have HBQ : Hid (b' = bo) := by show _ = _; rw [← hbo]; exact (by rw [← HBE.out]; show ({ ob0 with n := (FF.length : Int), m := nv } : Ob) = _; rw [HLN.out] <;> rfl)
    rw [hbo] at HS8
    clear hbo HSE HBE
    have o0 := HS8.out.sc.o0
    have o1 := HS8.out.sc.o1
    have o2 := HS8.out.sc.o2
    have o3 := HS8.out.sc.o3
    have o4 := HS8.out.sc.o4
    have o5 := HS8.out.sc.o5
    have t0 := HS8.out.sc.t0
    have t1 := HS8.out.sc.t1
    have t2 := HS8.out.sc.t2
    have t3 := HS8.out.sc.t3
    have t4 := HS8.out.sc.t4
    have t5 := HS8.out.sc.t5
    have htf := HS8.out.sc.tf
    have hot : o ≠ t := fun z => HS8.out.ne.2.2.1 z.symm
    have HF := hide HS8.out.fin
    have HC := hide (fin_cells HS8.out.sc)
    clear HS8
    go_wp2_with (with_reducible refine bodyPost_ret (v := ?v) ?hr ?hd ?hp)
    case v => exact obV bo (.slice none 0 0)
    case hr =>
      change (results _ _).run _ (fin6 W8 t bo (.slice none 0 0)) = .ok _ (fin6 W8 t bo (.slice none 0 0))
      obtain ⟨y0, y1, y2, y3, y4, y5⟩ := HC.out
      clear HF HC
      generalize fin6 W8 t bo (.slice none 0 0) = WF at *
      simp [results, Tryz.results10, go_sem, y0, y1, y2, y3, y4, y5, obV]
    case hd => rfl
    case hp => rw [HSQ.out, HBQ.out]; exact HF.out
  · have heb : (er == 0) = false := by simpa using HBAD.out er lN col rfl
    subst hp
    unfold fltV
    obtain ⟨fa, fc, hvf, hlf, hcf, hmf⟩ := HS0.out.f
    obtain ⟨nf, hnf⟩ : ∃ z, s.F.length = z := ⟨_, rfl⟩
    rw [hnf] at hvf hcf
    have HVf := hide hvf
    have HOf := hide hlf
    have HNf := hide hnf
    have HCf := hide (And.intro hcf hmf)
    clear hvf hlf hcf hmf hnf
    go_upto_region 74 with fail
    have HXA : Hid (Ex (fun _ => False) W0 ((wz.alloc (.cells #[.int .i64 0, .slice none 0 0] 29)).alloc (.cells #[.int .i64 er, .int .i64 lN, .int .i64 col] 41))) := (HXZ.out.alloc _).alloc _
    have f0 : ((wz.alloc (.cells #[.int .i64 0, .slice none 0 0] 29)).alloc (.cells #[.int .i64 er, .int .i64 lN, .int .i64 col] 41)).cell? ⟨wz.heap.size, 0, none⟩ = some (.int .i64 0) := (Ex.of (S := fun _ => False) (be1 (wz.alloc (.cells #[.int .i64 0, .slice none 0 0] 29)) _)).cell (fun z => z) (new_cells wz [.int .i64 0, .slice none 0 0] 29 0 _ rfl)
    have f1 : ((wz.alloc (.cells #[.int .i64 0, .slice none 0 0] 29)).alloc (.cells #[.int .i64 er, .int .i64 lN, .int .i64 col] 41)).cell? ⟨wz.heap.size, 1, none⟩ = some (.slice none 0 0) := (Ex.of (S := fun _ => False) (be1 (wz.alloc (.cells #[.int .i64 0, .slice none 0 0] 29)) _)).cell (fun z => z) (new_cells wz [.int .i64 0, .slice none 0 0] 29 1 _ rfl)
    have g0 : ((wz.alloc (.cells #[.int .i64 0, .slice none 0 0] 29)).alloc (.cells #[.int .i64 er, .int .i64 lN, .int .i64 col] 41)).cell? ⟨(wz.alloc (.cells #[.int .i64 0, .slice none 0 0] 29)).heap.size, 0, none⟩ = some (.int .i64 er) := new_cells (wz.alloc (.cells #[.int .i64 0, .slice none 0 0] 29)) [.int .i64 er, .int .i64 lN, .int .i64 col] 41 0 _ rfl
    have g1 : ((wz.alloc (.cells #[.int .i64 0, .slice none 0 0] 29)).alloc (.cells #[.int .i64 er, .int .i64 lN, .int .i64 col] 41)).cell? ⟨(wz.alloc (.cells #[.int .i64 0, .slice none 0 0] 29)).heap.size, 1, none⟩ = some (.int .i64 lN) := new_cells (wz.alloc (.cells #[.int .i64 0, .slice none 0 0] 29)) [.int .i64 er, .int .i64 lN, .int .i64 col] 41 1 _ rfl
    have g2 : ((wz.alloc (.cells #[.int .i64 0, .slice none 0 0] 29)).alloc (.cells #[.int .i64 er, .int .i64 lN, .int .i64 col] 41)).cell? ⟨(wz.alloc (.cells #[.int .i64 0, .slice none 0 0] 29)).heap.size, 2, none⟩ = some (.int .i64 col) := new_cells (wz.alloc (.cells #[.int .i64 0, .slice none 0 0] 29)) [.int .i64 er, .int .i64 lN, .int .i64 col] 41 2 _ rfl
    have HOW : Hid (o < wz.heap.size ∧ m < wz.heap.size) := ⟨(HS0.out.lowE HXZ.out).lt.2.2, (HS0.out.lowE HXZ.out).mn.lt⟩
    have hsz : (wz.alloc (.cells #[.int .i64 0, .slice none 0 0] 29)).heap.size = wz.heap.size + 1 := szAl _ _
    rw [hsz] at g0 g1 g2
    clear hsz
    obtain ⟨ba, hba⟩ : ∃ x, wz.heap.size = x := ⟨_, rfl⟩
    have HNE : Hid (ba ≠ o ∧ ba + 1 ≠ o ∧ ba ≠ m ∧ ba + 1 ≠ m) := by have := HOW.out; rw [hba] at this; show _ ∧ _; omega
    rw [hba] at g0 g1 g2 f0 f1 ⊢
    clear hba HOW
    have HS1 := hide (HS0.out.lowE HXA.out)
    generalize ((wz.alloc (.cells #[.int .i64 0, .slice none 0 0] 29)).alloc (.cells #[.int .i64 er, .int .i64 lN, .int .i64 col] 41)) = wf at *
    clear HXZ HXA HS0
    have o0 := HS1.out.sc.o0
    have o1 := HS1.out.sc.o1
    have o2 := HS1.out.sc.o2
    have hof := HS1.out.sc.of
    go_upto_region 75 with fail
    have gz : (((wf.setCell ⟨o, 0, none⟩ (.int .i64 er)).setCell ⟨o, 1, none⟩ (.int .i64 lN)).setCell ⟨o, 2, none⟩ (.int .i64 col)).cell? ⟨ba + 1, 0, none⟩ = some (.int .i64 er) := set_oth (set_oth (set_oth g0 (.inl HNE.out.2.1)) (.inl HNE.out.2.1)) (.inl HNE.out.2.1)
    have HS2 := hide (HS1.out.fa (er) (lN) (col))
    clear HS1 o0 o1 o2 hof g0 g1 g2 f0 f1
    generalize ((wf.setCell ⟨o, 0, none⟩ (.int .i64 er)).setCell ⟨o, 1, none⟩ (.int .i64 lN)).setCell ⟨o, 2, none⟩ (.int .i64 col) = W3 at *
    go_upto_region 77 with fail
    clear gz heb
    have v1 := HS2.out.vf HVf.out
    have o3 := HS2.out.sc.o3
    have hof := HS2.out.sc.of
    go_upto_region 78 with fail
    have HS7 := hide (HS2.out.on ((nf : Int)))
    clear HS2
    generalize W3.setCell ⟨o, 3, none⟩ (.int .i64 ((nf : Int))) = W7 at *
    clear o3 hof v1
    have c0 : W7.cell? ⟨m, 0, none⟩ = some (.int .i64 (s.nv)) := HS7.out.mn.c0
    have o4 := HS7.out.sc.o4
    have hof := HS7.out.sc.of
    go_upto_region 151 with fail
    have HS8 := hide (HS7.out.om (s.nv))
    clear HS7
    generalize W7.setCell ⟨o, 4, none⟩ (.int .i64 (s.nv)) = W8 at *
    clear o4 hof c0
    obtain ⟨bo, hbo⟩ : ∃ x : Ob, ({ ({ ({ (ob0 : Ob) with er := er, ln := lN, col := col } : Ob) with n := (nf : Int) } : Ob) with m := s.nv }) = x := ⟨_, rfl⟩
    have HSQ : Hid (s' = s) := HSE.out.symm
    have HBQ : Hid (b' = bo) := by show _ = _; rw [← hbo]; exact (by rw [← HBE.out]; show ({ ob0 with er := er, ln := lN, col := col, n := (s.F.length : Int), m := s.nv } : Ob) = _; rw [HNf.out] <;> rfl)
    rw [hbo] at HS8
    clear hbo HSE HBE
    have o0 := HS8.out.sc.o0
    have o1 := HS8.out.sc.o1
    have o2 := HS8.out.sc.o2
    have o3 := HS8.out.sc.o3
    have o4 := HS8.out.sc.o4
    have o5 := HS8.out.sc.o5
    have t0 := HS8.out.sc.t0
    have t1 := HS8.out.sc.t1
    have t2 := HS8.out.sc.t2
    have t3 := HS8.out.sc.t3
    have t4 := HS8.out.sc.t4
    have t5 := HS8.out.sc.t5
    have htf := HS8.out.sc.tf
    have hot : o ≠ t := fun z => HS8.out.ne.2.2.1 z.symm
    have HF := hide HS8.out.fin
    have HC := hide (fin_cells HS8.out.sc)
    clear HS8
    go_wp2_with (with_reducible refine bodyPost_ret (v := ?v) ?hr ?hd ?hp)
    case v => exact obV bo (.slice none 0 0)
    case hr =>
      change (results _ _).run _ (fin6 W8 t bo (.slice none 0 0)) = .ok _ (fin6 W8 t bo (.slice none 0 0))
      obtain ⟨y0, y1, y2, y3, y4, y5⟩ := HC.out
      clear HF HC
      generalize fin6 W8 t bo (.slice none 0 0) = WF at *
      simp [results, Tryz.results10, go_sem, y0, y1, y2, y3, y4, y5, obV]
    case hd => rfl
    case hp => rw [HSQ.out, HBQ.out]; exact HF.out
set_option linter.unusedSimpArgs false in
set_option maxRecDepth 100000 in
set_option maxHeartbeats 32000000 in
/-- cnflaw.modelBench.step: OpParseDrat -/
theorem mstep_18 (w : World) (B m z : Nat) (X : Nat → Prop) (V : Nat → Value) (S : Nat → Nat → Prop) (s : Mst) (h : MN w B m X V S (QM B s) s.nv s.sv) (hB : B ≤ w.heap.size) (hX : ∀ k, X k → k < w.heap.size) (hok : MsOk z s) (hz : z ≤ 65536) (v : OpV) (hk : v.kd = 18) (ha : -9223372036854775808 ≤ v.a ∧ v.a ≤ 9223372036854775807) (Y : List Int) (hY : Y.length = v.tn) (hUT : ∀ w', Ex (fun k => B ≤ k) w w' → UL w' v.ta Y) (htn : v.tn ≤ 65536) :
    Calls Tryz.prog 10 #[.pointer (some ⟨m, 0, none⟩), opZ v] w (MpPost w (fp m S) B m X ((dr18 s (drP Y)).1) ((dr18 s (drP Y)).2)) := by
  have HS0 := hide (mw_new v h hB hX)
  have HRB : Hid (∀ k, fp m S k → B ≤ k) := fun k z => z.elim (fun z => by rw [z]; exact h.mB) (fun ⟨i, hi, y⟩ => (h.rg i hi k y).1)
  unfold opZ
  have HOK := hide hok
  have HZ := hide hz
  obtain ⟨s', hs'⟩ : ∃ x : Mst, ((dr18 s (drP Y)).1) = x := ⟨_, rfl⟩
  obtain ⟨b', hb'⟩ : ∃ x : Ob, ((dr18 s (drP Y)).2) = x := ⟨_, rfl⟩
  rw [hs', hb']
  obtain ⟨kd, va, la, ln, lc, VX, ta, tn, tc, VT⟩ := v
  dsimp only at hk HS0 ha hs' hb' ⊢
  subst hk
  have HSE := hide hs'
  have HBE := hide hb'
  dsimp only at hY hUT htn
  have HY := hide hY
  have HUT := hide hUT
  have htnb := htn
  clear hY hUT htn
  clear h hok hz hB hX hs' hb'
  generalize fp m S = R at *
  go_enter Tryz.func10, Tryz.ntmps10
  go_upto_region 2 with fail
  generalize (((w.alloc (.cells #[.int .i64 18, .int .i64 va, .slice la ln lc, .slice ta tn tc] 37)).alloc (.cells #[.int .i64 0, .int .i64 0, .int .i64 0, .int .i64 0, .int .i64 0, .slice none 0 0] 43)).alloc (.cells #[.int .i64 0, .int .i64 0, .int .i64 0, .int .i64 0, .int .i64 0, .slice none 0 0] 43)) = W0 at *
  generalize w.heap.size + 1 + 1 = o at *
  generalize w.heap.size + 1 = t at *
  generalize w.heap.size = q at *
  have q0 : W0.cell? ⟨q, 0, none⟩ = some (.int .i64 18) := HS0.out.sc.q0
  have q3 : W0.cell? ⟨q, 3, none⟩ = some (.slice ta tn tc) := HS0.out.sc.q3
  obtain ⟨RR, hRR⟩ : ∃ x, drP Y = x := ⟨_, rfl⟩
  have HRR := hide hRR
  clear hRR
  have HBAD : Hid (∀ er ln col, RR = .bad er ln col → er ≠ 0) := fun er ln col z => drP_bad (HRR.out.trans z)
  have cc : Hid (Calls Tryz.prog 90 #[.slice ta tn tc] W0 (DroPost W0 RR)) := by have := parseDratM_any W0 ta tc Y (HUT.out W0 (HS0.out.exB HRB.out)) (by rw [HY.out]; omega); rw [HY.out, HRR.out] at this; exact this
  rw [HRR.out] at HSE HBE
  clear HRR
  go_upto_region 92 with fail
  go_wp2_with fail
  refine cc.out.mono ?_
  rintro e wz ⟨hxz, hp⟩
  clear cc
  clear q0 q3
  have HXZ := hide hxz
  clear hxz
  rcases RR with ⟨PP⟩ | ⟨er, lN, col⟩
  · obtain ⟨v5, n5, rfl, hlp⟩ := hp
    unfold fltV
    obtain ⟨a5, c5, hv5⟩ : ∃ a c, v5 = .slice a n5 c := by obtain ⟨Vq, q1, _⟩ := hlp.ro; exact own_form q1
    subst hv5
    have HLN := hide hlp.hn
    have HLP := hide hlp
    clear hlp HBAD
    go_upto_region 93 with fail
    have HXA : Hid (Ex (fun _ => False) W0 (wz.alloc (.cells #[.int .i64 0, .int .i64 0, .int .i64 0] 41))) := (HXZ.out).alloc _
    have g0 : (wz.alloc (.cells #[.int .i64 0, .int .i64 0, .int .i64 0] 41)).cell? ⟨wz.heap.size, 0, none⟩ = some (.int .i64 0) := new_cells wz [.int .i64 0, .int .i64 0, .int .i64 0] 41 0 _ rfl
    have g1 : (wz.alloc (.cells #[.int .i64 0, .int .i64 0, .int .i64 0] 41)).cell? ⟨wz.heap.size, 1, none⟩ = some (.int .i64 0) := new_cells wz [.int .i64 0, .int .i64 0, .int .i64 0] 41 1 _ rfl
    have g2 : (wz.alloc (.cells #[.int .i64 0, .int .i64 0, .int .i64 0] 41)).cell? ⟨wz.heap.size, 2, none⟩ = some (.int .i64 0) := new_cells wz [.int .i64 0, .int .i64 0, .int .i64 0] 41 2 _ rfl
    have HOW : Hid (o < wz.heap.size ∧ m < wz.heap.size) := ⟨(HS0.out.lowE HXZ.out).lt.2.2, (HS0.out.lowE HXZ.out).mn.lt⟩
    obtain ⟨ba, hba⟩ : ∃ x, wz.heap.size = x := ⟨_, rfl⟩
    have HNE : Hid (ba ≠ o ∧ ba ≠ m) := by have := HOW.out; rw [hba] at this; show _ ∧ _; omega
    rw [hba] at g0 g1 g2 ⊢
    clear hba HOW
    have HLA := hide (HLP.out.under (S := fun _ => False) ((Ex.refl (fun _ => False) wz).alloc (.cells #[.int .i64 0, .int .i64 0, .int .i64 0] 41)) (fun _ z => z.elim))
    clear HLP
    have HS1 := hide (HS0.out.lowE HXA.out)
    generalize (wz.alloc (.cells #[.int .i64 0, .int .i64 0, .int .i64 0] 41)) = wf at *
    clear HXZ
    have o0 := HS1.out.sc.o0
    have o1 := HS1.out.sc.o1
    have o2 := HS1.out.sc.o2
    have hof := HS1.out.sc.of
    go_upto_region 94 with fail
    have gz : (((wf.setCell ⟨o, 0, none⟩ (.int .i64 0)).setCell ⟨o, 1, none⟩ (.int .i64 0)).setCell ⟨o, 2, none⟩ (.int .i64 0)).cell? ⟨ba, 0, none⟩ = some (.int .i64 0) := set_oth (set_oth (set_oth g0 (.inl HNE.out.1)) (.inl HNE.out.1)) (.inl HNE.out.1)
    have HS2 := hide (HS1.out.fa (0) (0) (0))
    obtain ⟨V6, S6, hs6⟩ := HS0.out.lateP HLA.out HXA.out 0 0 0
    have HS6 := hide hs6
    clear hs6 HLA HXA HS0 HS1 o0 o1 o2 hof g0 g1 g2
    generalize ((wf.setCell ⟨o, 0, none⟩ (.int .i64 0)).setCell ⟨o, 1, none⟩ (.int .i64 0)).setCell ⟨o, 2, none⟩ (.int .i64 0) = W3 at *
    go_upto_region 95 with fail
    have d1 : W3.cell? ⟨m, 3, none⟩ = some (V 1) := HS2.out.mn.c 1 (by decide)
    have cf := HS2.out.mn.fz
    clear HS2
    go_upto_region 96 with fail
    have v1 : (W3.setCell ⟨m, 3, none⟩ (.slice a5 n5 c5)).cell? ⟨m, 3, none⟩ = some (.slice a5 n5 c5) := World.cell?_setCell_same _ _ _ d1
    clear gz d1 cf
    generalize (W3.setCell ⟨m, 3, none⟩ (.slice a5 n5 c5)) = W6 at *
    have o3 := HS6.out.sc.o3
    have hof := HS6.out.sc.of
    go_upto_region 151 with fail
    have HS7 := hide (HS6.out.on ((n5 : Int)))
    clear HS6
    generalize W6.setCell ⟨o, 3, none⟩ (.int .i64 ((n5 : Int))) = W7 at *
    clear o3 hof v1
    obtain ⟨bo, hbo⟩ : ∃ x : Ob, ({ ({ (ob0 : Ob) with er := 0, ln := 0, col := 0 } : Ob) with n := (n5 : Int) }) = x := ⟨_, rfl⟩
    have HSQ : Hid (s' = { s with P := PP }) := HSE.out.symm
    have HBQ : Hid (b' = bo) := by show _ = _; rw [← hbo]; exact (by rw [← HBE.out]; show ({ ob0 with n := (PP.length : Int) } : Ob) = _; rw [HLN.out] <;> rfl)
    rw [hbo] at HS7
    clear hbo HSE HBE
    have o0 := HS7.out.sc.o0
    have o1 := HS7.out.sc.o1
    have o2 := HS7.out.sc.o2
    have o3 := HS7.out.sc.o3
    have o4 := HS7.out.sc.o4
    have o5 := HS7.out.sc.o5
    have t0 := HS7.out.sc.t0
    have t1 := HS7.out.sc.t1
    have t2 := HS7.out.sc.t2
    have t3 := HS7.out.sc.t3
    have t4 := HS7.out.sc.t4
    have t5 := HS7.out.sc.t5
    have htf := HS7.out.sc.tf
    have hot : o ≠ t := fun z => HS7.out.ne.2.2.1 z.symm
    have HF := hide HS7.out.fin
    have HC := hide (fin_cells HS7.out.sc)
    clear HS7
    go_wp2_with (with_reducible refine bodyPost_ret (v := ?v) ?hr ?hd ?hp)
    case v => exact obV bo (.slice none 0 0)
    case hr =>
      change (results _ _).run _ (fin6 W7 t bo (.slice none 0 0)) = .ok _ (fin6 W7 t bo (.slice none 0 0))
      obtain ⟨y0, y1, y2, y3, y4, y5⟩ := HC.out
      clear HF HC
      generalize fin6 W7 t bo (.slice none 0 0) = WF at *
      simp [results, Tryz.results10, go_sem, y0, y1, y2, y3, y4, y5, obV]
    case hd => rfl
    case hp => rw [HSQ.out, HBQ.out]; exact HF.out
  · have heb : (er == 0) = false := by simpa using HBAD.out er lN col rfl
    subst hp
    unfold fltV
    obtain ⟨pa, pc, hvp, hlp, hcp, hmp⟩ := HS0.out.p
    obtain ⟨np, hnp⟩ : ∃ z, s.P.length = z := ⟨_, rfl⟩
    rw [hnp] at hvp hcp
    have HVp := hide hvp
    have HOp := hide hlp
    have HNp := hide hnp
    have HCp := hide (And.intro hcp hmp)
    clear hvp hlp hcp hmp hnp
    go_upto_region 93 with fail
    have HXA : Hid (Ex (fun _ => False) W0 (wz.alloc (.cells #[.int .i64 er, .int .i64 lN, .int .i64 col] 41))) := (HXZ.out).alloc _
    have g0 : (wz.alloc (.cells #[.int .i64 er, .int .i64 lN, .int .i64 col] 41)).cell? ⟨wz.heap.size, 0, none⟩ = some (.int .i64 er) := new_cells wz [.int .i64 er, .int .i64 lN, .int .i64 col] 41 0 _ rfl
    have g1 : (wz.alloc (.cells #[.int .i64 er, .int .i64 lN, .int .i64 col] 41)).cell? ⟨wz.heap.size, 1, none⟩ = some (.int .i64 lN) := new_cells wz [.int .i64 er, .int .i64 lN, .int .i64 col] 41 1 _ rfl
    have g2 : (wz.alloc (.cells #[.int .i64 er, .int .i64 lN, .int .i64 col] 41)).cell? ⟨wz.heap.size, 2, none⟩ = some (.int .i64 col) := new_cells wz [.int .i64 er, .int .i64 lN, .int .i64 col] 41 2 _ rfl
    have HOW : Hid (o < wz.heap.size ∧ m < wz.heap.size) := ⟨(HS0.out.lowE HXZ.out).lt.2.2, (HS0.out.lowE HXZ.out).mn.lt⟩
    obtain ⟨ba, hba⟩ : ∃ x, wz.heap.size = x := ⟨_, rfl⟩
    have HNE : Hid (ba ≠ o ∧ ba ≠ m) := by have := HOW.out; rw [hba] at this; show _ ∧ _; omega
    rw [hba] at g0 g1 g2 ⊢
    clear hba HOW
    have HS1 := hide (HS0.out.lowE HXA.out)
    generalize (wz.alloc (.cells #[.int .i64 er, .int .i64 lN, .int .i64 col] 41)) = wf at *
    clear HXZ HXA HS0
    have o0 := HS1.out.sc.o0
    have o1 := HS1.out.sc.o1
    have o2 := HS1.out.sc.o2
    have hof := HS1.out.sc.of
    go_upto_region 94 with fail
    have gz : (((wf.setCell ⟨o, 0, none⟩ (.int .i64 er)).setCell ⟨o, 1, none⟩ (.int .i64 lN)).setCell ⟨o, 2, none⟩ (.int .i64 col)).cell? ⟨ba, 0, none⟩ = some (.int .i64 er) := set_oth (set_oth (set_oth g0 (.inl HNE.out.1)) (.inl HNE.out.1)) (.inl HNE.out.1)
    have HS2 := hide (HS1.out.fa (er) (lN) (col))
    clear HS1 o0 o1 o2 hof g0 g1 g2
    generalize ((wf.setCell ⟨o, 0, none⟩ (.int .i64 er)).setCell ⟨o, 1, none⟩ (.int .i64 lN)).setCell ⟨o, 2, none⟩ (.int .i64 col) = W3 at *
    go_upto_region 96 with fail
    clear gz heb
    have v1 := HS2.out.vp HVp.out
    have o3 := HS2.out.sc.o3
    have hof := HS2.out.sc.of
    go_upto_region 151 with fail
    have HS7 := hide (HS2.out.on ((np : Int)))
    clear HS2
    generalize W3.setCell ⟨o, 3, none⟩ (.int .i64 ((np : Int))) = W7 at *
    clear o3 hof v1
    obtain ⟨bo, hbo⟩ : ∃ x : Ob, ({ ({ (ob0 : Ob) with er := er, ln := lN, col := col } : Ob) with n := (np : Int) }) = x := ⟨_, rfl⟩
    have HSQ : Hid (s' = s) := HSE.out.symm
    have HBQ : Hid (b' = bo) := by show _ = _; rw [← hbo]; exact (by rw [← HBE.out]; show ({ ob0 with er := er, ln := lN, col := col, n := (s.P.length : Int) } : Ob) = _; rw [HNp.out] <;> rfl)
    rw [hbo] at HS7
    clear hbo HSE HBE
    have o0 := HS7.out.sc.o0
    have o1 := HS7.out.sc.o1
    have o2 := HS7.out.sc.o2
    have o3 := HS7.out.sc.o3
    have o4 := HS7.out.sc.o4
    have o5 := HS7.out.sc.o5
    have t0 := HS7.out.sc.t0
    have t1 := HS7.out.sc.t1
    have t2 := HS7.out.sc.t2
    have t3 := HS7.out.sc.t3
    have t4 := HS7.out.sc.t4
    have t5 := HS7.out.sc.t5
    have htf := HS7.out.sc.tf
    have hot : o ≠ t := fun z => HS7.out.ne.2.2.1 z.symm
    have HF := hide HS7.out.fin
    have HC := hide (fin_cells HS7.out.sc)
    clear HS7
    go_wp2_with (with_reducible refine bodyPost_ret (v := ?v) ?hr ?hd ?hp)
    case v => exact obV bo (.slice none 0 0)
    case hr =>
      change (results _ _).run _ (fin6 W7 t bo (.slice none 0 0)) = .ok _ (fin6 W7 t bo (.slice none 0 0))
      obtain ⟨y0, y1, y2, y3, y4, y5⟩ := HC.out
      clear HF HC
      generalize fin6 W7 t bo (.slice none 0 0) = WF at *
      simp [results, Tryz.results10, go_sem, y0, y1, y2, y3, y4, y5, obV]
    case hd => rfl
    case hp => rw [HSQ.out, HBQ.out]; exact HF.out
end Go.Proofs.Qxb6500773aGreat
