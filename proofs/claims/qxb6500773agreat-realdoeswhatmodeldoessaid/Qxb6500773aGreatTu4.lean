import Derived.Test.Qxb6500773aGreatTx
import Derived.Test.Qxb6500773aGreatLo5
namespace Go.Proofs.Qxb6500773aGreat
open Go.RowKit

set_option linter.unusedSimpArgs false in
set_option maxRecDepth 100000 in
set_option maxHeartbeats 32000000 in
/-- cnflaw.realBench.step: OpPrintDimacs -/
theorem step_15 (w : World) (B r z : Nat) (P : Nat → Nat) (S : Nat → Nat → Prop) (s : St) (h : BN w B r P S (QS B s)) (hB : B ≤ w.heap.size) (hok : StOk z s) (hz : z ≤ 65536) (v : OpV) (hk : v.kd = 15) (ha : -9223372036854775808 ≤ v.a ∧ v.a ≤ 9223372036854775807) :
    Calls Tryz.prog 9 #[.pointer (some ⟨r, 0, none⟩), opZ v] w (SpPost w (fp r S) B r (s) ({ ob0 with X := foT s.f.nv s.f.L s.f.E })) := by
  have HS0 := hide (sw_new v h hB)
  unfold opZ
  have HOK := hide hok
  have HZ := hide hz
  have hs' : s = s := rfl
  obtain ⟨b', hb'⟩ : ∃ x : Ob, ({ ob0 with X := foT s.f.nv s.f.L s.f.E }) = x := ⟨_, rfl⟩
  rw [hb']
  obtain ⟨kd, va, la, ln, lc, VX, ta, tn, tc, VT⟩ := v
  dsimp only at hk HS0 ha hs' hb' ⊢
  subst hk
  have HSE := hide hs'
  have HBE := hide hb'
  clear h hok hz hB hs' hb'
  go_enter Tryz.func9, Tryz.ntmps9
  go_upto_region 2 with fail
  generalize (((w.alloc (.cells #[.int .i64 15, .int .i64 va, .slice la ln lc, .slice ta tn tc] 37)).alloc (.cells #[.int .i64 0, .int .i64 0, .int .i64 0, .int .i64 0, .int .i64 0, .slice none 0 0] 43)).alloc (.cells #[.int .i64 0, .int .i64 0, .int .i64 0, .int .i64 0, .int .i64 0, .slice none 0 0] 43)) = W0 at *
  generalize w.heap.size + 1 + 1 = o at *
  generalize w.heap.size + 1 = t at *
  generalize w.heap.size = q at *
  have q0 : W0.cell? ⟨q, 0, none⟩ = some (.int .i64 15) := HS0.out.sc.q0
  obtain ⟨T, hT⟩ : ∃ x, foT s.f.nv s.f.L s.f.E = x := ⟨_, rfl⟩
  have HT := hide hT
  clear hT
  have p0 := HS0.out.bn.ptr 0 (by decide)
  obtain ⟨fa, fe, fff, fs⟩ := HS0.out.f
  have cc := hide (printDimacs_any W0 B (P 0) fa fe s.f.nv s.f.L s.f.E fff HOK.out.f.eok (fun x hx => (HOK.out.f.lit x hx).1) HOK.out.f.nv (by have := HOK.out.f.len; have := HZ.out; omega))
  rw [HT.out] at cc
  go_upto_region 71 with fail
  go_wp2_with fail
  refine cc.out.mono ?_
  rintro e wz ⟨ta1, tc1, rfl, hbb, hb2⟩
  have HW1 := HS0
  have HTX := hide hbb
  have HS1 := hide (HS0.out.low hb2)
  clear HS0
  clear q0 p0 fff fs cc hbb hb2
  have o5 := HS1.out.sc.o5
  have hof := HS1.out.sc.of
  go_upto_region 129 with fail
  have HS2 := hide (HW1.out.tx2 HS1.out HTX.out)
  clear HS1
  generalize wz.setCell ⟨o, 5, none⟩ (.slice ta1 T.length tc1) = W2 at *
  clear o5 hof HW1 HTX
  obtain ⟨bo, hbo⟩ : ∃ x : Ob, ({ (ob0 : Ob) with X := T }) = x := ⟨_, rfl⟩
  have HSQ : Hid (s = s) := rfl
  have HBQ : Hid (b' = bo) := by show _ = _; rw [← hbo]; exact (by rw [← HBE.out, ← HT.out])
  rw [hbo] at HS2
  clear hbo HSE HBE
  have o0 := HS2.out.sc.o0
  have o1 := HS2.out.sc.o1
  have o2 := HS2.out.sc.o2
  have o3 := HS2.out.sc.o3
  have o4 := HS2.out.sc.o4
  have o5 := HS2.out.sc.o5
  have t0 := HS2.out.sc.t0
  have t1 := HS2.out.sc.t1
  have t2 := HS2.out.sc.t2
  have t3 := HS2.out.sc.t3
  have t4 := HS2.out.sc.t4
  have t5 := HS2.out.sc.t5
  have htf := HS2.out.sc.tf
  have hot : o ≠ t := fun z => HS2.out.ne.2.2.1 z.symm
  have HF := hide HS2.out.fin
  have HC := hide (fin_cells HS2.out.sc)
  clear HS2
  go_wp2_with (with_reducible refine bodyPost_ret (v := ?v) ?hr ?hd ?hp)
  case v => exact obV bo (.slice ta1 T.length tc1)
  case hr =>
    change (results _ _).run _ (fin6 W2 t bo (.slice ta1 T.length tc1)) = .ok _ (fin6 W2 t bo (.slice ta1 T.length tc1))
    obtain ⟨y0, y1, y2, y3, y4, y5⟩ := HC.out
    clear HF HC
    generalize fin6 W2 t bo (.slice ta1 T.length tc1) = WF at *
    simp [results, Tryz.results9, go_sem, y0, y1, y2, y3, y4, y5, obV]
  case hd => rfl
  case hp => rw [HBQ.out]; exact HF.out
set_option linter.unusedSimpArgs false in
set_option maxRecDepth 100000 in
set_option maxHeartbeats 32000000 in
/-- cnflaw.realBench.step: OpProofAdd -/
theorem step_16 (w : World) (B r z : Nat) (P : Nat → Nat) (S : Nat → Nat → Prop) (s : St) (h : BN w B r P S (QS B s)) (hB : B ≤ w.heap.size) (hok : StOk z s) (hz : z ≤ 65536) (v : OpV) (hk : v.kd = 16) (ha : -9223372036854775808 ≤ v.a ∧ v.a ≤ 9223372036854775807) (X : List Int) (hX : X.length = v.ln) (hIL : ∀ w', Ex (fun k => B ≤ k) w w' → IL w' v.la X) (hBT : ∀ w', Ex (fun k => B ≤ k) w w' → BT w' v.ta v.tn v.T) (hln : v.ln ≤ 65536) (htn : v.tn ≤ 65536) :
    Calls Tryz.prog 9 #[.pointer (some ⟨r, 0, none⟩), opZ v] w (SpPost w (fp r S) B r (if ncE X = 0 then { s with p := ⟨s.p.L ++ (X.map fun d => (fromP d).1), s.p.E ++ [((s.p.L ++ (X.map fun d => (fromP d).1)).length : Int)], s.p.D ++ [false]⟩ } else s) (if ncE X = 0 then { ob0 with n := ((s.p.E.length + 1 : Nat) : Int) } else { ob0 with er := ncE X, n := s.p.E.length })) := by
  have HS0 := hide (sw_new v h hB)
  unfold opZ
  have HOK := hide hok
  have HZ := hide hz
  obtain ⟨s', hs'⟩ : ∃ x : St, (if ncE X = 0 then { s with p := ⟨s.p.L ++ (X.map fun d => (fromP d).1), s.p.E ++ [((s.p.L ++ (X.map fun d => (fromP d).1)).length : Int)], s.p.D ++ [false]⟩ } else s) = x := ⟨_, rfl⟩
  obtain ⟨b', hb'⟩ : ∃ x : Ob, (if ncE X = 0 then { ob0 with n := ((s.p.E.length + 1 : Nat) : Int) } else { ob0 with er := ncE X, n := s.p.E.length }) = x := ⟨_, rfl⟩
  rw [hs', hb']
  obtain ⟨kd, va, la, ln, lc, VX, ta, tn, tc, VT⟩ := v
  dsimp only at hk HS0 ha hs' hb' ⊢
  subst hk
  dsimp only at hX hIL hBT hln htn
  have HSE := hide hs'
  have HBE := hide hb'
  have HX := hide (And.intro hX (And.intro hln htn))
  have HIL := hide hIL
  have HBT := hide hBT
  clear hX hIL hBT hln htn
  clear h hok hz hB hs' hb'
  go_enter Tryz.func9, Tryz.ntmps9
  go_upto_region 2 with fail
  generalize (((w.alloc (.cells #[.int .i64 16, .int .i64 va, .slice la ln lc, .slice ta tn tc] 37)).alloc (.cells #[.int .i64 0, .int .i64 0, .int .i64 0, .int .i64 0, .int .i64 0, .slice none 0 0] 43)).alloc (.cells #[.int .i64 0, .int .i64 0, .int .i64 0, .int .i64 0, .int .i64 0, .slice none 0 0] 43)) = W0 at *
  generalize w.heap.size + 1 + 1 = o at *
  generalize w.heap.size + 1 = t at *
  generalize w.heap.size = q at *
  have q0 : W0.cell? ⟨q, 0, none⟩ = some (.int .i64 16) := HS0.out.sc.q0
  have q2 : W0.cell? ⟨q, 2, none⟩ = some (.slice la ln lc) := HS0.out.sc.q2
  have cc := hide (newClause_any W0 la lc X (HIL.out _ HS0.out.exB) (by have := HX.out; omega))
  rw [HX.out.1] at cc
  go_upto_region 73 with fail
  go_wp2_with fail
  refine cc.out.mono ?_
  rintro e wz hp
  obtain ⟨a1, n1, c1, e1, he, hb1, hcs⟩ : ∃ (a1 : Option Addr) (n1 c1 : Nat) (e1 : Int), e = .returned (.tuple #[.slice a1 n1 c1, .int .i64 e1]) ∧ Below W0.heap.size W0 wz ∧ e1 = ncE X ∧ (e1 = 0 → n1 = X.length ∧ wz.ownsRow W0.heap.size 64 1 (.slice a1 n1 c1) n1 (row32 (X.map fun d => (fromP d).1))) := by
    obtain ⟨hb, ⟨hk, he⟩ | ⟨hk, a1, c1, he, hr⟩⟩ := hp
    · exact ⟨none, 0, 0, _, he, hb, rfl, fun z => absurd z hk⟩
    · exact ⟨a1, X.length, c1, 0, he, hb, hk.symm, fun _ => ⟨rfl, hr⟩⟩
  subst he
  have HP0 := HS0
  have HSZ : Hid (∀ i, i < 6 → ∀ j, S i j → j < W0.heap.size) := fun i hi j hj => (HS0.out.bn.rg i hi j hj).2
  have HBW := hide HS0.out.szB
  have HWX := hide HS0.out.ex.size
  have HS1 := hide (HS0.out.low hb1)
  clear HS0
  have HNC := hide hcs
  clear q0 q2 cc hp hb1 hcs HP0
  generalize hwz : wz = wn at *
  clear hwz wz
  have HE1 := hide HNC.out.1
  by_cases her : e1 = 0
  · obtain ⟨hn1, hrow⟩ := HNC.out.2 her
    have HER : Hid (ncE X = 0) := by show _ = _; rw [← HE1.out]; exact her
    have HLK := hide (ncE_zero HER.out)
    have hcl : n1 = (X.map fun d => (fromP d).1).length := by rw [List.length_map]; exact hn1
    generalize hCC : (X.map fun d => (fromP d).1) = CC at *
    have HCC := hide hCC
    have HCN : Hid (CC.length ≤ 65536) := by have := HX.out; show _ ≤ _; omega
    have p2 := HS1.out.bn.ptr 2 (by decide)
    obtain ⟨pa, pe, pd, ppf, ps⟩ := HS1.out.p
    have cc := hide (pfAddZ_any wn B (P 2) pa pe pd s.p.L s.p.E s.p.D a1 c1 CC ppf HS1.out.szB (by have := HOK.out.p.len; have := HZ.out; have := HCN.out; omega) (by have := HOK.out.p.len; have := HZ.out; omega) (by have := HOK.out.p.len; have := HOK.out.p.dl; have := HZ.out; omega) (row_cl hrow) (fun x hx => by have := HLK.out x hx; unfold LitOk at this; unfold I32; omega))
    rw [← hcl] at cc
    subst her
    clear hn1 hrow hCC hcl HNC
    go_upto_region 75 with fail
    go_wp2_with fail
    refine cc.out.mono ?_
    rintro e wz hp
    rcases hp with ⟨zz, -, -⟩ | ⟨-, he, hx, hr⟩
    · exact absurd (chkP_lit HLK.out) zz
    subst he
    obtain ⟨S9, hs2⟩ := HS1.out.pt ps (F := ⟨s.p.L ++ CC, s.p.E ++ [((s.p.L ++ CC).length : Int)], s.p.D ++ [false]⟩) ⟨hx, hr⟩
    have HS2 := hide hs2
    clear hs2 HS1
    clear p2 ppf ps cc hx hr
    generalize hwz : wz = w9 at *
    clear hwz wz
    have o0 := HS2.out.sc.o0
    have hof := HS2.out.sc.of
    go_upto_region 77 with fail
    have HS3 := hide (HS2.out.er (0))
    clear HS2
    generalize w9.setCell ⟨o, 0, none⟩ (.int .i64 (0)) = W3 at *
    clear o0 hof
    have p2 := HS3.out.bn.ptr 2 (by decide)
    obtain ⟨pa, pe, pd, ppf, ps⟩ := HS3.out.p
    have cc := hide (numSteps_any W3 B (P 2) pa pe _ _ ppf.ar)
    have hel : (s.p.E ++ [((s.p.L ++ CC).length : Int)]).length = s.p.E.length + 1 := by simp
    try dsimp only at cc
    rw [hel] at cc
    clear hel
    obtain ⟨nn, hnn⟩ : ∃ x : Int, ((s.p.E.length + 1 : Nat) : Int) = x := ⟨_, rfl⟩
    rw [hnn] at cc
    have Hnn := hide hnn
    clear hnn
    go_wp2_with fail
    refine cc.out.mono ?_
    rintro e wz ⟨rfl, hw⟩
    rw [hw]
    clear hw wz
    clear p2 ppf ps cc
    have o3 := HS3.out.sc.o3
    have hof := HS3.out.sc.of
    go_upto_region 129 with fail
    have HS4 := hide (HS3.out.on (nn))
    clear HS3
    generalize W3.setCell ⟨o, 3, none⟩ (.int .i64 (nn)) = W4 at *
    clear o3 hof
    obtain ⟨bo, hbo⟩ : ∃ x : Ob, ({ ({ (ob0 : Ob) with er := 0 } : Ob) with n := nn }) = x := ⟨_, rfl⟩
    have HSQ : Hid (s' = { s with p := ⟨s.p.L ++ CC, s.p.E ++ [((s.p.L ++ CC).length : Int)], s.p.D ++ [false]⟩ }) := (by show _ = _; rw [← HSE.out, if_pos HER.out])
    have HBQ : Hid (b' = bo) := by show _ = _; rw [← hbo]; exact (by rw [← HBE.out, if_pos HER.out, ← Hnn.out] <;> rfl)
    rw [hbo] at HS4
    clear hbo HSE HBE
    have o0 := HS4.out.sc.o0
    have o1 := HS4.out.sc.o1
    have o2 := HS4.out.sc.o2
    have o3 := HS4.out.sc.o3
    have o4 := HS4.out.sc.o4
    have o5 := HS4.out.sc.o5
    have t0 := HS4.out.sc.t0
    have t1 := HS4.out.sc.t1
    have t2 := HS4.out.sc.t2
    have t3 := HS4.out.sc.t3
    have t4 := HS4.out.sc.t4
    have t5 := HS4.out.sc.t5
    have htf := HS4.out.sc.tf
    have hot : o ≠ t := fun z => HS4.out.ne.2.2.1 z.symm
    have HF := hide HS4.out.fin
    have HC := hide (fin_cells HS4.out.sc)
    clear HS4
    go_wp2_with (with_reducible refine bodyPost_ret (v := ?v) ?hr ?hd ?hp)
    case v => exact obV bo (.slice none 0 0)
    case hr =>
      change (results _ _).run _ (fin6 W4 t bo (.slice none 0 0)) = .ok _ (fin6 W4 t bo (.slice none 0 0))
      obtain ⟨y0, y1, y2, y3, y4, y5⟩ := HC.out
      clear HF HC
      generalize fin6 W4 t bo (.slice none 0 0) = WF at *
      simp [results, Tryz.results9, go_sem, y0, y1, y2, y3, y4, y5, obV]
    case hd => rfl
    case hp => rw [HSQ.out, HBQ.out]; exact HF.out
  · have heb : (e1 == 0) = false := by simpa using her
    have HER : Hid (¬ ncE X = 0) := by show ¬ _; rw [← HE1.out]; exact her
    clear her HNC
    go_upto_region 76 with fail
    have o0 := HS1.out.sc.o0
    have hof := HS1.out.sc.of
    go_upto_region 77 with fail
    have HS2 := hide (HS1.out.er (e1))
    clear HS1
    generalize wn.setCell ⟨o, 0, none⟩ (.int .i64 (e1)) = W2 at *
    clear o0 hof heb
    have p2 := HS2.out.bn.ptr 2 (by decide)
    obtain ⟨pa, pe, pd, ppf, ps⟩ := HS2.out.p
    have cc := hide (numSteps_any W2 B (P 2) pa pe _ _ ppf.ar)
    go_wp2_with fail
    refine cc.out.mono ?_
    rintro e wz ⟨rfl, hw⟩
    rw [hw]
    clear hw wz
    clear p2 ppf ps cc
    have o3 := HS2.out.sc.o3
    have hof := HS2.out.sc.of
    go_upto_region 129 with fail
    have HS3 := hide (HS2.out.on (s.p.E.length))
    clear HS2
    generalize W2.setCell ⟨o, 3, none⟩ (.int .i64 (s.p.E.length)) = W3 at *
    clear o3 hof
    obtain ⟨bo, hbo⟩ : ∃ x : Ob, ({ ({ (ob0 : Ob) with er := e1 } : Ob) with n := s.p.E.length }) = x := ⟨_, rfl⟩
    have HSQ : Hid (s' = s) := (by show _ = _; rw [← HSE.out, if_neg HER.out])
    have HBQ : Hid (b' = bo) := by show _ = _; rw [← hbo]; exact (by rw [← HBE.out, if_neg HER.out, HE1.out] <;> rfl)
    rw [hbo] at HS3
    clear hbo HSE HBE
    have o0 := HS3.out.sc.o0
    have o1 := HS3.out.sc.o1
    have o2 := HS3.out.sc.o2
    have o3 := HS3.out.sc.o3
    have o4 := HS3.out.sc.o4
    have o5 := HS3.out.sc.o5
    have t0 := HS3.out.sc.t0
    have t1 := HS3.out.sc.t1
    have t2 := HS3.out.sc.t2
    have t3 := HS3.out.sc.t3
    have t4 := HS3.out.sc.t4
    have t5 := HS3.out.sc.t5
    have htf := HS3.out.sc.tf
    have hot : o ≠ t := fun z => HS3.out.ne.2.2.1 z.symm
    have HF := hide HS3.out.fin
    have HC := hide (fin_cells HS3.out.sc)
    clear HS3
    go_wp2_with (with_reducible refine bodyPost_ret (v := ?v) ?hr ?hd ?hp)
    case v => exact obV bo (.slice none 0 0)
    case hr =>
      change (results _ _).run _ (fin6 W3 t bo (.slice none 0 0)) = .ok _ (fin6 W3 t bo (.slice none 0 0))
      obtain ⟨y0, y1, y2, y3, y4, y5⟩ := HC.out
      clear HF HC
      generalize fin6 W3 t bo (.slice none 0 0) = WF at *
      simp [results, Tryz.results9, go_sem, y0, y1, y2, y3, y4, y5, obV]
    case hd => rfl
    case hp => rw [HSQ.out, HBQ.out]; exact HF.out
set_option linter.unusedSimpArgs false in
set_option maxRecDepth 100000 in
set_option maxHeartbeats 32000000 in
/-- cnflaw.realBench.step: OpProofDelete -/
theorem step_17 (w : World) (B r z : Nat) (P : Nat → Nat) (S : Nat → Nat → Prop) (s : St) (h : BN w B r P S (QS B s)) (hB : B ≤ w.heap.size) (hok : StOk z s) (hz : z ≤ 65536) (v : OpV) (hk : v.kd = 17) (ha : -9223372036854775808 ≤ v.a ∧ v.a ≤ 9223372036854775807) (X : List Int) (hX : X.length = v.ln) (hIL : ∀ w', Ex (fun k => B ≤ k) w w' → IL w' v.la X) (hBT : ∀ w', Ex (fun k => B ≤ k) w w' → BT w' v.ta v.tn v.T) (hln : v.ln ≤ 65536) (htn : v.tn ≤ 65536) :
    Calls Tryz.prog 9 #[.pointer (some ⟨r, 0, none⟩), opZ v] w (SpPost w (fp r S) B r (if ncE X = 0 then { s with p := ⟨s.p.L ++ (X.map fun d => (fromP d).1), s.p.E ++ [((s.p.L ++ (X.map fun d => (fromP d).1)).length : Int)], s.p.D ++ [true]⟩ } else s) (if ncE X = 0 then { ob0 with n := ((s.p.E.length + 1 : Nat) : Int) } else { ob0 with er := ncE X, n := s.p.E.length })) := by
  have HS0 := hide (sw_new v h hB)
  unfold opZ
  have HOK := hide hok
  have HZ := hide hz
  obtain ⟨s', hs'⟩ : ∃ x : St, (if ncE X = 0 then { s with p := ⟨s.p.L ++ (X.map fun d => (fromP d).1), s.p.E ++ [((s.p.L ++ (X.map fun d => (fromP d).1)).length : Int)], s.p.D ++ [true]⟩ } else s) = x := ⟨_, rfl⟩
  obtain ⟨b', hb'⟩ : ∃ x : Ob, (if ncE X = 0 then { ob0 with n := ((s.p.E.length + 1 : Nat) : Int) } else { ob0 with er := ncE X, n := s.p.E.length }) = x := ⟨_, rfl⟩
  rw [hs', hb']
  obtain ⟨kd, va, la, ln, lc, VX, ta, tn, tc, VT⟩ := v
  dsimp only at hk HS0 ha hs' hb' ⊢
  subst hk
  dsimp only at hX hIL hBT hln htn
  have HSE := hide hs'
  have HBE := hide hb'
  have HX := hide (And.intro hX (And.intro hln htn))
  have HIL := hide hIL
  have HBT := hide hBT
  clear hX hIL hBT hln htn
  clear h hok hz hB hs' hb'
  go_enter Tryz.func9, Tryz.ntmps9
  go_upto_region 2 with fail
  generalize (((w.alloc (.cells #[.int .i64 17, .int .i64 va, .slice la ln lc, .slice ta tn tc] 37)).alloc (.cells #[.int .i64 0, .int .i64 0, .int .i64 0, .int .i64 0, .int .i64 0, .slice none 0 0] 43)).alloc (.cells #[.int .i64 0, .int .i64 0, .int .i64 0, .int .i64 0, .int .i64 0, .slice none 0 0] 43)) = W0 at *
  generalize w.heap.size + 1 + 1 = o at *
  generalize w.heap.size + 1 = t at *
  generalize w.heap.size = q at *
  have q0 : W0.cell? ⟨q, 0, none⟩ = some (.int .i64 17) := HS0.out.sc.q0
  have q2 : W0.cell? ⟨q, 2, none⟩ = some (.slice la ln lc) := HS0.out.sc.q2
  have cc := hide (newClause_any W0 la lc X (HIL.out _ HS0.out.exB) (by have := HX.out; omega))
  rw [HX.out.1] at cc
  go_upto_region 79 with fail
  go_wp2_with fail
  refine cc.out.mono ?_
  rintro e wz hp
  obtain ⟨a1, n1, c1, e1, he, hb1, hcs⟩ : ∃ (a1 : Option Addr) (n1 c1 : Nat) (e1 : Int), e = .returned (.tuple #[.slice a1 n1 c1, .int .i64 e1]) ∧ Below W0.heap.size W0 wz ∧ e1 = ncE X ∧ (e1 = 0 → n1 = X.length ∧ wz.ownsRow W0.heap.size 64 1 (.slice a1 n1 c1) n1 (row32 (X.map fun d => (fromP d).1))) := by
    obtain ⟨hb, ⟨hk, he⟩ | ⟨hk, a1, c1, he, hr⟩⟩ := hp
    · exact ⟨none, 0, 0, _, he, hb, rfl, fun z => absurd z hk⟩
    · exact ⟨a1, X.length, c1, 0, he, hb, hk.symm, fun _ => ⟨rfl, hr⟩⟩
  subst he
  have HP0 := HS0
  have HSZ : Hid (∀ i, i < 6 → ∀ j, S i j → j < W0.heap.size) := fun i hi j hj => (HS0.out.bn.rg i hi j hj).2
  have HBW := hide HS0.out.szB
  have HWX := hide HS0.out.ex.size
  have HS1 := hide (HS0.out.low hb1)
  clear HS0
  have HNC := hide hcs
  clear q0 q2 cc hp hb1 hcs HP0
  generalize hwz : wz = wn at *
  clear hwz wz
  have HE1 := hide HNC.out.1
  by_cases her : e1 = 0
  · obtain ⟨hn1, hrow⟩ := HNC.out.2 her
    have HER : Hid (ncE X = 0) := by show _ = _; rw [← HE1.out]; exact her
    have HLK := hide (ncE_zero HER.out)
    have hcl : n1 = (X.map fun d => (fromP d).1).length := by rw [List.length_map]; exact hn1
    generalize hCC : (X.map fun d => (fromP d).1) = CC at *
    have HCC := hide hCC
    have HCN : Hid (CC.length ≤ 65536) := by have := HX.out; show _ ≤ _; omega
    have p2 := HS1.out.bn.ptr 2 (by decide)
    obtain ⟨pa, pe, pd, ppf, ps⟩ := HS1.out.p
    have cc := hide (pfDelZ_any wn B (P 2) pa pe pd s.p.L s.p.E s.p.D a1 c1 CC ppf HS1.out.szB (by have := HOK.out.p.len; have := HZ.out; have := HCN.out; omega) (by have := HOK.out.p.len; have := HZ.out; omega) (by have := HOK.out.p.len; have := HOK.out.p.dl; have := HZ.out; omega) (row_cl hrow) (fun x hx => by have := HLK.out x hx; unfold LitOk at this; unfold I32; omega))
    rw [← hcl] at cc
    subst her
    clear hn1 hrow hCC hcl HNC
    go_upto_region 81 with fail
    go_wp2_with fail
    refine cc.out.mono ?_
    rintro e wz hp
    rcases hp with ⟨zz, -, -⟩ | ⟨-, he, hx, hr⟩
    · exact absurd (chkP_lit HLK.out) zz
    subst he
    obtain ⟨S9, hs2⟩ := HS1.out.pt ps (F := ⟨s.p.L ++ CC, s.p.E ++ [((s.p.L ++ CC).length : Int)], s.p.D ++ [true]⟩) ⟨hx, hr⟩
    have HS2 := hide hs2
    clear hs2 HS1
    clear p2 ppf ps cc hx hr
    generalize hwz : wz = w9 at *
    clear hwz wz
    have o0 := HS2.out.sc.o0
    have hof := HS2.out.sc.of
    go_upto_region 83 with fail
    have HS3 := hide (HS2.out.er (0))
    clear HS2
    generalize w9.setCell ⟨o, 0, none⟩ (.int .i64 (0)) = W3 at *
    clear o0 hof
    have p2 := HS3.out.bn.ptr 2 (by decide)
    obtain ⟨pa, pe, pd, ppf, ps⟩ := HS3.out.p
    have cc := hide (numSteps_any W3 B (P 2) pa pe _ _ ppf.ar)
    have hel : (s.p.E ++ [((s.p.L ++ CC).length : Int)]).length = s.p.E.length + 1 := by simp
    try dsimp only at cc
    rw [hel] at cc
    clear hel
    obtain ⟨nn, hnn⟩ : ∃ x : Int, ((s.p.E.length + 1 : Nat) : Int) = x := ⟨_, rfl⟩
    rw [hnn] at cc
    have Hnn := hide hnn
    clear hnn
    go_wp2_with fail
    refine cc.out.mono ?_
    rintro e wz ⟨rfl, hw⟩
    rw [hw]
    clear hw wz
    clear p2 ppf ps cc
    have o3 := HS3.out.sc.o3
    have hof := HS3.out.sc.of
    go_upto_region 129 with fail
    have HS4 := hide (HS3.out.on (nn))
    clear HS3
    generalize W3.setCell ⟨o, 3, none⟩ (.int .i64 (nn)) = W4 at *
    clear o3 hof
    obtain ⟨bo, hbo⟩ : ∃ x : Ob, ({ ({ (ob0 : Ob) with er := 0 } : Ob) with n := nn }) = x := ⟨_, rfl⟩
    have HSQ : Hid (s' = { s with p := ⟨s.p.L ++ CC, s.p.E ++ [((s.p.L ++ CC).length : Int)], s.p.D ++ [true]⟩ }) := (by show _ = _; rw [← HSE.out, if_pos HER.out])
    have HBQ : Hid (b' = bo) := by show _ = _; rw [← hbo]; exact (by rw [← HBE.out, if_pos HER.out, ← Hnn.out] <;> rfl)
    rw [hbo] at HS4
    clear hbo HSE HBE
    have o0 := HS4.out.sc.o0
    have o1 := HS4.out.sc.o1
    have o2 := HS4.out.sc.o2
    have o3 := HS4.out.sc.o3
    have o4 := HS4.out.sc.o4
    have o5 := HS4.out.sc.o5
    have t0 := HS4.out.sc.t0
    have t1 := HS4.out.sc.t1
    have t2 := HS4.out.sc.t2
    have t3 := HS4.out.sc.t3
    have t4 := HS4.out.sc.t4
    have t5 := HS4.out.sc.t5
    have htf := HS4.out.sc.tf
    have hot : o ≠ t := fun z => HS4.out.ne.2.2.1 z.symm
    have HF := hide HS4.out.fin
    have HC := hide (fin_cells HS4.out.sc)
    clear HS4
    go_wp2_with (with_reducible refine bodyPost_ret (v := ?v) ?hr ?hd ?hp)
    case v => exact obV bo (.slice none 0 0)
    case hr =>
      change (results _ _).run _ (fin6 W4 t bo (.slice none 0 0)) = .ok _ (fin6 W4 t bo (.slice none 0 0))
      obtain ⟨y0, y1, y2, y3, y4, y5⟩ := HC.out
      clear HF HC
      generalize fin6 W4 t bo (.slice none 0 0) = WF at *
      simp [results, Tryz.results9, go_sem, y0, y1, y2, y3, y4, y5, obV]
    case hd => rfl
    case hp => rw [HSQ.out, HBQ.out]; exact HF.out
  · have heb : (e1 == 0) = false := by simpa using her
    have HER : Hid (¬ ncE X = 0) := by show ¬ _; rw [← HE1.out]; exact her
    clear her HNC
    go_upto_region 82 with fail
    have o0 := HS1.out.sc.o0
    have hof := HS1.out.sc.of
    go_upto_region 83 with fail
    have HS2 := hide (HS1.out.er (e1))
    clear HS1
    generalize wn.setCell ⟨o, 0, none⟩ (.int .i64 (e1)) = W2 at *
    clear o0 hof heb
    have p2 := HS2.out.bn.ptr 2 (by decide)
    obtain ⟨pa, pe, pd, ppf, ps⟩ := HS2.out.p
    have cc := hide (numSteps_any W2 B (P 2) pa pe _ _ ppf.ar)
    go_wp2_with fail
    refine cc.out.mono ?_
    rintro e wz ⟨rfl, hw⟩
    rw [hw]
    clear hw wz
    clear p2 ppf ps cc
    have o3 := HS2.out.sc.o3
    have hof := HS2.out.sc.of
    go_upto_region 129 with fail
    have HS3 := hide (HS2.out.on (s.p.E.length))
    clear HS2
    generalize W2.setCell ⟨o, 3, none⟩ (.int .i64 (s.p.E.length)) = W3 at *
    clear o3 hof
    obtain ⟨bo, hbo⟩ : ∃ x : Ob, ({ ({ (ob0 : Ob) with er := e1 } : Ob) with n := s.p.E.length }) = x := ⟨_, rfl⟩
    have HSQ : Hid (s' = s) := (by show _ = _; rw [← HSE.out, if_neg HER.out])
    have HBQ : Hid (b' = bo) := by show _ = _; rw [← hbo]; exact (by rw [← HBE.out, if_neg HER.out, HE1.out] <;> rfl)
    rw [hbo] at HS3
    clear hbo HSE HBE
    have o0 := HS3.out.sc.o0
    have o1 := HS3.out.sc.o1
    have o2 := HS3.out.sc.o2
    have o3 := HS3.out.sc.o3
    have o4 := HS3.out.sc.o4
    have o5 := HS3.out.sc.o5
    have t0 := HS3.out.sc.t0
    have t1 := HS3.out.sc.t1
    have t2 := HS3.out.sc.t2
    have t3 := HS3.out.sc.t3
    have t4 := HS3.out.sc.t4
    have t5 := HS3.out.sc.t5
    have htf := HS3.out.sc.tf
    have hot : o ≠ t := fun z => HS3.out.ne.2.2.1 z.symm
    have HF := hide HS3.out.fin
    have HC := hide (fin_cells HS3.out.sc)
    clear HS3
    go_wp2_with (with_reducible refine bodyPost_ret (v := ?v) ?hr ?hd ?hp)
    case v => exact obV bo (.slice none 0 0)
    case hr =>
      change (results _ _).run _ (fin6 W3 t bo (.slice none 0 0)) = .ok _ (fin6 W3 t bo (.slice none 0 0))
      obtain ⟨y0, y1, y2, y3, y4, y5⟩ := HC.out
      clear HF HC
      generalize fin6 W3 t bo (.slice none 0 0) = WF at *
      simp [results, Tryz.results9, go_sem, y0, y1, y2, y3, y4, y5, obV]
    case hd => rfl
    case hp => rw [HSQ.out, HBQ.out]; exact HF.out
set_option linter.unusedSimpArgs false in
set_option maxRecDepth 100000 in
set_option maxHeartbeats 32000000 in
/-- cnflaw.realBench.step: OpParseDrat -/
theorem step_18 (w : World) (B r z : Nat) (P : Nat → Nat) (S : Nat → Nat → Prop) (s : St) (h : BN w B r P S (QS B s)) (hB : B ≤ w.heap.size) (hok : StOk z s) (hz : z ≤ 65536) (v : OpV) (hk : v.kd = 18) (ha : -9223372036854775808 ≤ v.a ∧ v.a ≤ 9223372036854775807) (X : List Int) (hX : X.length = v.ln) (hIL : ∀ w', Ex (fun k => B ≤ k) w w' → IL w' v.la X) (hBT : ∀ w', Ex (fun k => B ≤ k) w w' → BT w' v.ta v.tn v.T) (hln : v.ln ≤ 65536) (htn : v.tn ≤ 65536) :
    Calls Tryz.prog 9 #[.pointer (some ⟨r, 0, none⟩), opZ v] w (fun e w' => ∃ s' b', DrR v.T v.tn s s' b' ∧ SpPost w (fp r S) B r s' b' e w') := by
  have HS0 := hide (sw_new v h hB)
  unfold opZ
  have HOK := hide hok
  have HZ := hide hz
  have hs' : True := trivial
  have hb' : True := trivial
  obtain ⟨kd, va, la, ln, lc, VX, ta, tn, tc, VT⟩ := v
  dsimp only at hk HS0 ha ⊢
  subst hk
  dsimp only at hX hIL hBT hln htn
  have HSE := hide hs'
  have HBE := hide hb'
  have HX := hide (And.intro hX (And.intro hln htn))
  have HIL := hide hIL
  have HBT := hide hBT
  clear hX hIL hBT hln htn
  clear h hok hz hB hs' hb'
  go_enter Tryz.func9, Tryz.ntmps9
  go_upto_region 2 with fail
  generalize (((w.alloc (.cells #[.int .i64 18, .int .i64 va, .slice la ln lc, .slice ta tn tc] 37)).alloc (.cells #[.int .i64 0, .int .i64 0, .int .i64 0, .int .i64 0, .int .i64 0, .slice none 0 0] 43)).alloc (.cells #[.int .i64 0, .int .i64 0, .int .i64 0, .int .i64 0, .int .i64 0, .slice none 0 0] 43)) = W0 at *
  generalize w.heap.size + 1 + 1 = o at *
  generalize w.heap.size + 1 = t at *
  generalize w.heap.size = q at *
  have q0 : W0.cell? ⟨q, 0, none⟩ = some (.int .i64 18) := HS0.out.sc.q0
  have q3 : W0.cell? ⟨q, 3, none⟩ = some (.slice ta tn tc) := HS0.out.sc.q3
  have cc := hide (parseDrat_any W0 ta tn tc VT (HBT.out _ HS0.out.exB) (by have := HX.out; omega))
  go_upto_region 85 with fail
  go_wp2_with fail
  refine cc.out.mono ?_
  rintro e wz hp
  obtain ⟨st, hrun, hdok, hb1, ⟨er, lN, col, hst, her, he⟩ | ⟨hst, b9, ga, ge, gd, he, hff, hb9⟩⟩ := hp
  · subst he
    unfold faV
    have HWY := hide (And.intro hrun (And.intro hdok (And.intro hst her)))
    clear hrun hdok hst
    have heb : (er == 0) = false := by simpa using her
    clear her
    have HS1 := hide (HS0.out.low hb1)
    clear HS0
    clear q0 q3 cc hb1
    go_upto_region 86 with fail
    have HOW : Hid (o < wz.heap.size) := HS1.out.lt.2.2
    have HS2 := hide (HS1.out.low (be1 wz (.cells #[.int .i64 er, .int .i64 lN, .int .i64 col] 41)))
    clear HS1
    have g0 : (wz.alloc (.cells #[.int .i64 er, .int .i64 lN, .int .i64 col] 41)).cell? ⟨wz.heap.size, 0, none⟩ = some (.int .i64 er) := new_cells wz [.int .i64 er, .int .i64 lN, .int .i64 col] 41 0 _ rfl
    have g1 : (wz.alloc (.cells #[.int .i64 er, .int .i64 lN, .int .i64 col] 41)).cell? ⟨wz.heap.size, 1, none⟩ = some (.int .i64 lN) := new_cells wz [.int .i64 er, .int .i64 lN, .int .i64 col] 41 1 _ rfl
    have g2 : (wz.alloc (.cells #[.int .i64 er, .int .i64 lN, .int .i64 col] 41)).cell? ⟨wz.heap.size, 2, none⟩ = some (.int .i64 col) := new_cells wz [.int .i64 er, .int .i64 lN, .int .i64 col] 41 2 _ rfl
    skip
    obtain ⟨fb, hfb⟩ : ∃ x, wz.heap.size = x := ⟨_, rfl⟩
    have hfo : fb ≠ o := by rw [← hfb]; have := HOW.out; omega
    rw [hfb] at g0 g1 g2 ⊢
    clear hfb
    generalize wz.alloc (.cells #[.int .i64 er, .int .i64 lN, .int .i64 col] 41) = wf at *
    have o0 := HS2.out.sc.o0
    have o1 := HS2.out.sc.o1
    have o2 := HS2.out.sc.o2
    have hof := HS2.out.sc.of
    go_upto_region 87 with fail
    have gz : (((wf.setCell ⟨o, 0, none⟩ (.int .i64 er)).setCell ⟨o, 1, none⟩ (.int .i64 lN)).setCell ⟨o, 2, none⟩ (.int .i64 col)).cell? ⟨fb, 0, none⟩ = some (.int .i64 er) := set_oth (set_oth (set_oth g0 (.inl hfo)) (.inl hfo)) (.inl hfo)
    have HS3 := hide (HS2.out.fa (er) (lN) (col))
    clear HS2
    generalize ((wf.setCell ⟨o, 0, none⟩ (.int .i64 (er))).setCell ⟨o, 1, none⟩ (.int .i64 (lN))).setCell ⟨o, 2, none⟩ (.int .i64 (col)) = W3 at *
    clear o0 o1 o2 hof g0 g1 g2
    go_upto_region 89 with fail
    clear gz heb
    have p2 := HS3.out.bn.ptr 2 (by decide)
    obtain ⟨pa, pe, pd, ppf, ps⟩ := HS3.out.p
    have cc := hide (numSteps_any W3 B (P 2) pa pe _ _ ppf.ar)
    go_wp2_with fail
    refine cc.out.mono ?_
    rintro e wz ⟨rfl, hw⟩
    rw [hw]
    clear hw wz
    clear p2 ppf ps cc
    have o3 := HS3.out.sc.o3
    have hof := HS3.out.sc.of
    go_upto_region 129 with fail
    obtain ⟨el, hel⟩ : ∃ x : Int, (s.p.E.length : Int) = x := ⟨_, rfl⟩
    try dsimp only
    rw [hel]
    have HEL := hide hel
    clear hel
    have HS4 := hide (HS3.out.on (el))
    clear HS3
    generalize W3.setCell ⟨o, 3, none⟩ (.int .i64 (el)) = W4 at *
    clear o3 hof
    obtain ⟨bo, hbo⟩ : ∃ x : Ob, ({ ({ (ob0 : Ob) with er := er, ln := lN, col := col } : Ob) with n := el }) = x := ⟨_, rfl⟩
    have HREL := hide ((show DrR VT tn s s ({ ({ (ob0 : Ob) with er := er, ln := lN, col := col } : Ob) with n := el }) from ⟨st, HWY.out.1, HWY.out.2.1, .inl ⟨er, lN, col, HWY.out.2.2.1, HWY.out.2.2.2, rfl, by rw [HEL.out] <;> rfl⟩⟩))
    rw [hbo] at HREL
    rw [hbo] at HS4
    clear hbo HSE HBE
    have o0 := HS4.out.sc.o0
    have o1 := HS4.out.sc.o1
    have o2 := HS4.out.sc.o2
    have o3 := HS4.out.sc.o3
    have o4 := HS4.out.sc.o4
    have o5 := HS4.out.sc.o5
    have t0 := HS4.out.sc.t0
    have t1 := HS4.out.sc.t1
    have t2 := HS4.out.sc.t2
    have t3 := HS4.out.sc.t3
    have t4 := HS4.out.sc.t4
    have t5 := HS4.out.sc.t5
    have htf := HS4.out.sc.tf
    have hot : o ≠ t := fun z => HS4.out.ne.2.2.1 z.symm
    have HF := hide HS4.out.fin
    have HC := hide (fin_cells HS4.out.sc)
    clear HS4
    go_wp2_with (with_reducible refine bodyPost_ret (v := ?v) ?hr ?hd ?hp)
    case v => exact obV bo (.slice none 0 0)
    case hr =>
      change (results _ _).run _ (fin6 W4 t bo (.slice none 0 0)) = .ok _ (fin6 W4 t bo (.slice none 0 0))
      obtain ⟨y0, y1, y2, y3, y4, y5⟩ := HC.out
      clear HF HC
      generalize fin6 W4 t bo (.slice none 0 0) = WF at *
      simp [results, Tryz.results9, go_sem, y0, y1, y2, y3, y4, y5, obV]
    case hd => rfl
    case hp => exact ⟨_, _, HREL.out, HF.out⟩
  · subst he
    unfold faV
    have HWY := hide (And.intro hrun (And.intro hdok hst))
    clear hrun hdok hst
    have HFF := hide hff
    have HB9 := hide hb9
    have HEX1 := hide (Ex.of (S := fun _ => False) hb1)
    clear hff hb9
    have HSO := HS0
    have HMS : Hid (∀ i, i < 6 → ∀ j, S i j → j < W0.heap.size) := fun i hi j hj => (HS0.out.bn.rg i hi j hj).2
    have HMM : Hid (q < W0.heap.size ∧ t < W0.heap.size ∧ o < W0.heap.size ∧ r < W0.heap.size) := ⟨HS0.out.lt.1, HS0.out.lt.2.1, HS0.out.lt.2.2, HS0.out.bn.rlt⟩
    have HMB := hide HS0.out.szB
    have HMX := hide HS0.out.ex.size
    clear HSO
    have HS1 := hide (HS0.out.low hb1)
    clear HS0
    clear q0 q3 cc hb1
    go_upto_region 86 with fail
    have HOW : Hid (o < wz.heap.size) := HS1.out.lt.2.2
    have HS2 := hide (HS1.out.low (be1 wz (.cells #[.int .i64 0, .int .i64 0, .int .i64 0] 41)))
    clear HS1
    have g0 : (wz.alloc (.cells #[.int .i64 0, .int .i64 0, .int .i64 0] 41)).cell? ⟨wz.heap.size, 0, none⟩ = some (.int .i64 0) := new_cells wz [.int .i64 0, .int .i64 0, .int .i64 0] 41 0 _ rfl
    have g1 : (wz.alloc (.cells #[.int .i64 0, .int .i64 0, .int .i64 0] 41)).cell? ⟨wz.heap.size, 1, none⟩ = some (.int .i64 0) := new_cells wz [.int .i64 0, .int .i64 0, .int .i64 0] 41 1 _ rfl
    have g2 : (wz.alloc (.cells #[.int .i64 0, .int .i64 0, .int .i64 0] 41)).cell? ⟨wz.heap.size, 2, none⟩ = some (.int .i64 0) := new_cells wz [.int .i64 0, .int .i64 0, .int .i64 0] 41 2 _ rfl
    skip
    replace HFF := hide (HFF.out.below (be1 wz (.cells #[.int .i64 0, .int .i64 0, .int .i64 0] 41)))
    obtain ⟨fb, hfb⟩ : ∃ x, wz.heap.size = x := ⟨_, rfl⟩
    have hfo : fb ≠ o := by rw [← hfb]; have := HOW.out; omega
    rw [hfb] at g0 g1 g2 ⊢
    clear hfb
    generalize wz.alloc (.cells #[.int .i64 0, .int .i64 0, .int .i64 0] 41) = wf at *
    have o0 := HS2.out.sc.o0
    have o1 := HS2.out.sc.o1
    have o2 := HS2.out.sc.o2
    have hof := HS2.out.sc.of
    go_upto_region 87 with fail
    have gz : (((wf.setCell ⟨o, 0, none⟩ (.int .i64 0)).setCell ⟨o, 1, none⟩ (.int .i64 0)).setCell ⟨o, 2, none⟩ (.int .i64 0)).cell? ⟨fb, 0, none⟩ = some (.int .i64 0) := set_oth (set_oth (set_oth g0 (.inl hfo)) (.inl hfo)) (.inl hfo)
    have HEO : Hid (Ex (fun k => k = o) wf (((wf.setCell ⟨o, 0, none⟩ (.int .i64 0)).setCell ⟨o, 1, none⟩ (.int .i64 0)).setCell ⟨o, 2, none⟩ (.int .i64 0))) := (((Ex.refl (fun k => k = o) wf).set (p := o) rfl _).set (p := o) rfl _).set (p := o) rfl _
    replace HFF := hide (HFF.out.keepZ HEO.out (fun (z : b9 = o) => by have := HB9.out; have := HMM.out; omega) (fun k hk (z : k = o) => by have := (HFF.out.ar.r0.lt k hk).1; have := HMM.out; omega) (fun k hk (z : k = o) => by have := (HFF.out.ar.r1.lt k hk).1; have := HMM.out; omega) (fun k hk (z : k = o) => by have := (HFF.out.r2.lt k hk).1; have := HMM.out; omega))
    clear HEO
    have HS3 := hide (HS2.out.fa (0) (0) (0))
    clear HS2
    generalize ((wf.setCell ⟨o, 0, none⟩ (.int .i64 (0))).setCell ⟨o, 1, none⟩ (.int .i64 (0))).setCell ⟨o, 2, none⟩ (.int .i64 (0)) = W3 at *
    clear o0 o1 o2 hof g0 g1 g2
    have p2 := HS3.out.bn.ptr 2 (by decide)
    have hrz := HS3.out.bn.fz
    go_upto_region 89 with fail
    obtain ⟨P9, S9, hs4⟩ := HS3.out.putP HMS.out HMM.out HMB.out (i := 2) (by decide) (F := ⟨st.L, st.E, st.D⟩) HFF.out HB9.out HMX.out (qs_p B s _)
    have HS4 := hide hs4
    clear hs4 HS3
    generalize W3.setCell ⟨r, 2, none⟩ (.pointer (some ⟨b9, 0, none⟩)) = W9 at *
    clear p2 hrz gz HFF HB9 HEX1
    have p2 := HS4.out.bn.ptr 2 (by decide)
    obtain ⟨pa, pe, pd, ppf, ps⟩ := HS4.out.p
    have cc := hide (numSteps_any W9 B (P9 2) pa pe _ _ ppf.ar)
    go_wp2_with fail
    refine cc.out.mono ?_
    rintro e wz ⟨rfl, hw⟩
    rw [hw]
    clear hw wz
    clear p2 ppf ps cc
    have o3 := HS4.out.sc.o3
    have hof := HS4.out.sc.of
    go_upto_region 129 with fail
    obtain ⟨el, hel⟩ : ∃ x : Int, (st.E.length : Int) = x := ⟨_, rfl⟩
    try dsimp only
    rw [hel]
    have HEL := hide hel
    clear hel
    have HS5 := hide (HS4.out.on (el))
    clear HS4
    generalize W9.setCell ⟨o, 3, none⟩ (.int .i64 (el)) = W5 at *
    clear o3 hof
    obtain ⟨bo, hbo⟩ : ∃ x : Ob, ({ ({ (ob0 : Ob) with er := 0, ln := 0, col := 0 } : Ob) with n := el }) = x := ⟨_, rfl⟩
    have HREL := hide ((show DrR VT tn s ({ s with p := ⟨st.L, st.E, st.D⟩ }) ({ ({ (ob0 : Ob) with er := 0, ln := 0, col := 0 } : Ob) with n := el }) from ⟨st, HWY.out.1, HWY.out.2.1, .inr ⟨HWY.out.2.2, rfl, by rw [HEL.out] <;> rfl⟩⟩))
    rw [hbo] at HREL
    rw [hbo] at HS5
    clear hbo HSE HBE
    have o0 := HS5.out.sc.o0
    have o1 := HS5.out.sc.o1
    have o2 := HS5.out.sc.o2
    have o3 := HS5.out.sc.o3
    have o4 := HS5.out.sc.o4
    have o5 := HS5.out.sc.o5
    have t0 := HS5.out.sc.t0
    have t1 := HS5.out.sc.t1
    have t2 := HS5.out.sc.t2
    have t3 := HS5.out.sc.t3
    have t4 := HS5.out.sc.t4
    have t5 := HS5.out.sc.t5
    have htf := HS5.out.sc.tf
    have hot : o ≠ t := fun z => HS5.out.ne.2.2.1 z.symm
    have HF := hide HS5.out.fin
    have HC := hide (fin_cells HS5.out.sc)
    clear HS5
    go_wp2_with (with_reducible refine bodyPost_ret (v := ?v) ?hr ?hd ?hp)
    case v => exact obV bo (.slice none 0 0)
    case hr =>
      change (results _ _).run _ (fin6 W5 t bo (.slice none 0 0)) = .ok _ (fin6 W5 t bo (.slice none 0 0))
      obtain ⟨y0, y1, y2, y3, y4, y5⟩ := HC.out
      clear HF HC
      generalize fin6 W5 t bo (.slice none 0 0) = WF at *
      simp [results, Tryz.results9, go_sem, y0, y1, y2, y3, y4, y5, obV]
    case hd => rfl
    case hp => exact ⟨_, _, HREL.out, HF.out⟩
set_option linter.unusedSimpArgs false in
set_option maxRecDepth 100000 in
set_option maxHeartbeats 32000000 in
/-- cnflaw.realBench.step: OpPrintDrat -/
theorem step_19 (w : World) (B r z : Nat) (P : Nat → Nat) (S : Nat → Nat → Prop) (s : St) (h : BN w B r P S (QS B s)) (hB : B ≤ w.heap.size) (hok : StOk z s) (hz : z ≤ 65536) (v : OpV) (hk : v.kd = 19) (ha : -9223372036854775808 ≤ v.a ∧ v.a ≤ 9223372036854775807) :
    Calls Tryz.prog 9 #[.pointer (some ⟨r, 0, none⟩), opZ v] w (SpPost w (fp r S) B r (s) ({ ob0 with X := drT s.p.L s.p.E s.p.D s.p.E.length })) := by
  have HS0 := hide (sw_new v h hB)
  unfold opZ
  have HOK := hide hok
  have HZ := hide hz
  have hs' : s = s := rfl
  obtain ⟨b', hb'⟩ : ∃ x : Ob, ({ ob0 with X := drT s.p.L s.p.E s.p.D s.p.E.length }) = x := ⟨_, rfl⟩
  rw [hb']
  obtain ⟨kd, va, la, ln, lc, VX, ta, tn, tc, VT⟩ := v
  dsimp only at hk HS0 ha hs' hb' ⊢
  subst hk
  have HSE := hide hs'
  have HBE := hide hb'
  clear h hok hz hB hs' hb'
  go_enter Tryz.func9, Tryz.ntmps9
  go_upto_region 2 with fail
  generalize (((w.alloc (.cells #[.int .i64 19, .int .i64 va, .slice la ln lc, .slice ta tn tc] 37)).alloc (.cells #[.int .i64 0, .int .i64 0, .int .i64 0, .int .i64 0, .int .i64 0, .slice none 0 0] 43)).alloc (.cells #[.int .i64 0, .int .i64 0, .int .i64 0, .int .i64 0, .int .i64 0, .slice none 0 0] 43)) = W0 at *
  generalize w.heap.size + 1 + 1 = o at *
  generalize w.heap.size + 1 = t at *
  generalize w.heap.size = q at *
  have q0 : W0.cell? ⟨q, 0, none⟩ = some (.int .i64 19) := HS0.out.sc.q0
  obtain ⟨T, hT⟩ : ∃ x, drT s.p.L s.p.E s.p.D s.p.E.length = x := ⟨_, rfl⟩
  have HT := hide hT
  clear hT
  have p2 := HS0.out.bn.ptr 2 (by decide)
  obtain ⟨pa, pe, pd, ppf, ps⟩ := HS0.out.p
  have cc := hide (printDrat_any W0 B (P 2) pa pe pd s.p.L s.p.E s.p.D ppf HOK.out.p.eok HOK.out.p.dl HOK.out.p.lit (by have := HOK.out.p.len; have := HZ.out; omega))
  rw [HT.out] at cc
  go_upto_region 91 with fail
  go_wp2_with fail
  refine cc.out.mono ?_
  rintro e wz ⟨ta1, tc1, rfl, hbb, hb2⟩
  have HW1 := HS0
  have HTX := hide hbb
  have HS1 := hide (HS0.out.low hb2)
  clear HS0
  clear q0 p2 ppf ps cc hbb hb2
  have o5 := HS1.out.sc.o5
  have hof := HS1.out.sc.of
  go_upto_region 129 with fail
  have HS2 := hide (HW1.out.tx2 HS1.out HTX.out)
  clear HS1
  generalize wz.setCell ⟨o, 5, none⟩ (.slice ta1 T.length tc1) = W2 at *
  clear o5 hof HW1 HTX
  obtain ⟨bo, hbo⟩ : ∃ x : Ob, ({ (ob0 : Ob) with X := T }) = x := ⟨_, rfl⟩
  have HSQ : Hid (s = s) := rfl
  have HBQ : Hid (b' = bo) := by show _ = _; rw [← hbo]; exact (by rw [← HBE.out, ← HT.out])
  rw [hbo] at HS2
  clear hbo HSE HBE
  have o0 := HS2.out.sc.o0
  have o1 := HS2.out.sc.o1
  have o2 := HS2.out.sc.o2
  have o3 := HS2.out.sc.o3
  have o4 := HS2.out.sc.o4
  have o5 := HS2.out.sc.o5
  have t0 := HS2.out.sc.t0
  have t1 := HS2.out.sc.t1
  have t2 := HS2.out.sc.t2
  have t3 := HS2.out.sc.t3
  have t4 := HS2.out.sc.t4
  have t5 := HS2.out.sc.t5
  have htf := HS2.out.sc.tf
  have hot : o ≠ t := fun z => HS2.out.ne.2.2.1 z.symm
  have HF := hide HS2.out.fin
  have HC := hide (fin_cells HS2.out.sc)
  clear HS2
  go_wp2_with (with_reducible refine bodyPost_ret (v := ?v) ?hr ?hd ?hp)
  case v => exact obV bo (.slice ta1 T.length tc1)
  case hr =>
    change (results _ _).run _ (fin6 W2 t bo (.slice ta1 T.length tc1)) = .ok _ (fin6 W2 t bo (.slice ta1 T.length tc1))
    obtain ⟨y0, y1, y2, y3, y4, y5⟩ := HC.out
    clear HF HC
    generalize fin6 W2 t bo (.slice ta1 T.length tc1) = WF at *
    simp [results, Tryz.results9, go_sem, y0, y1, y2, y3, y4, y5, obV]
  case hd => rfl
  case hp => rw [HBQ.out]; exact HF.out
set_option linter.unusedSimpArgs false in
set_option maxRecDepth 100000 in
set_option maxHeartbeats 32000000 in
/-- cnflaw.realBench.step: OpAssignAll -/
theorem step_20 (w : World) (B r z : Nat) (P : Nat → Nat) (S : Nat → Nat → Prop) (s : St) (h : BN w B r P S (QS B s)) (hB : B ≤ w.heap.size) (hok : StOk z s) (hz : z ≤ 65536) (v : OpV) (hk : v.kd = 20) (ha : -9223372036854775808 ≤ v.a ∧ v.a ≤ 9223372036854775807) (X : List Int) (hX : X.length = v.ln) (hIL : ∀ w', Ex (fun k => B ≤ k) w w' → IL w' v.la X) (hBT : ∀ w', Ex (fun k => B ≤ k) w w' → BT w' v.ta v.tn v.T) (hln : v.ln ≤ 65536) (htn : v.tn ≤ 65536) :
    Calls Tryz.prog 9 #[.pointer (some ⟨r, 0, none⟩), opZ v] w (SpPost w (fp r S) B r (if ncE X = 0 then { s with a := ⟨setsN s.a.V s.a.k (X.map fun d => (fromP d).1), setsP s.a.V (X.map fun d => (fromP d).1)⟩ } else s) (if ncE X = 0 then { ob0 with n := setsN s.a.V s.a.k (X.map fun d => (fromP d).1) } else { ob0 with er := ncE X, n := s.a.k })) := by
  have HS0 := hide (sw_new v h hB)
  unfold opZ
  have HOK := hide hok
  have HZ := hide hz
  obtain ⟨s', hs'⟩ : ∃ x : St, (if ncE X = 0 then { s with a := ⟨setsN s.a.V s.a.k (X.map fun d => (fromP d).1), setsP s.a.V (X.map fun d => (fromP d).1)⟩ } else s) = x := ⟨_, rfl⟩
  obtain ⟨b', hb'⟩ : ∃ x : Ob, (if ncE X = 0 then { ob0 with n := setsN s.a.V s.a.k (X.map fun d => (fromP d).1) } else { ob0 with er := ncE X, n := s.a.k }) = x := ⟨_, rfl⟩
  rw [hs', hb']
  obtain ⟨kd, va, la, ln, lc, VX, ta, tn, tc, VT⟩ := v
  dsimp only at hk HS0 ha hs' hb' ⊢
  subst hk
  dsimp only at hX hIL hBT hln htn
  have HSE := hide hs'
  have HBE := hide hb'
  have HX := hide (And.intro hX (And.intro hln htn))
  have HIL := hide hIL
  have HBT := hide hBT
  clear hX hIL hBT hln htn
  clear h hok hz hB hs' hb'
  go_enter Tryz.func9, Tryz.ntmps9
  go_upto_region 2 with fail
  generalize (((w.alloc (.cells #[.int .i64 20, .int .i64 va, .slice la ln lc, .slice ta tn tc] 37)).alloc (.cells #[.int .i64 0, .int .i64 0, .int .i64 0, .int .i64 0, .int .i64 0, .slice none 0 0] 43)).alloc (.cells #[.int .i64 0, .int .i64 0, .int .i64 0, .int .i64 0, .int .i64 0, .slice none 0 0] 43)) = W0 at *
  generalize w.heap.size + 1 + 1 = o at *
  generalize w.heap.size + 1 = t at *
  generalize w.heap.size = q at *
  have q0 : W0.cell? ⟨q, 0, none⟩ = some (.int .i64 20) := HS0.out.sc.q0
  have q2 : W0.cell? ⟨q, 2, none⟩ = some (.slice la ln lc) := HS0.out.sc.q2
  have cc := hide (newClause_any W0 la lc X (HIL.out _ HS0.out.exB) (by have := HX.out; omega))
  rw [HX.out.1] at cc
  go_upto_region 93 with fail
  go_wp2_with fail
  refine cc.out.mono ?_
  rintro e wz hp
  obtain ⟨a1, n1, c1, e1, he, hb1, hcs⟩ : ∃ (a1 : Option Addr) (n1 c1 : Nat) (e1 : Int), e = .returned (.tuple #[.slice a1 n1 c1, .int .i64 e1]) ∧ Below W0.heap.size W0 wz ∧ e1 = ncE X ∧ (e1 = 0 → n1 = X.length ∧ wz.ownsRow W0.heap.size 64 1 (.slice a1 n1 c1) n1 (row32 (X.map fun d => (fromP d).1))) := by
    obtain ⟨hb, ⟨hk, he⟩ | ⟨hk, a1, c1, he, hr⟩⟩ := hp
    · exact ⟨none, 0, 0, _, he, hb, rfl, fun z => absurd z hk⟩
    · exact ⟨a1, X.length, c1, 0, he, hb, hk.symm, fun _ => ⟨rfl, hr⟩⟩
  subst he
  have HP0 := HS0
  have HSZ : Hid (∀ i, i < 6 → ∀ j, S i j → j < W0.heap.size) := fun i hi j hj => (HS0.out.bn.rg i hi j hj).2
  have HOQ : Hid (o < W0.heap.size) := HS0.out.lt.2.2
  have HBW := hide HS0.out.szB
  have HWX := hide HS0.out.ex.size
  have HS1 := hide (HS0.out.low hb1)
  clear HS0
  have HNC := hide hcs
  clear q0 q2 cc hp hb1 hcs HP0
  generalize hwz : wz = wn at *
  clear hwz wz
  have o0 := HS1.out.sc.o0
  have hof := HS1.out.sc.of
  go_upto_region 95 with fail
  have HS2 := hide (HS1.out.er (e1))
  clear HS1
  have HNC2 : Hid (e1 = 0 → n1 = X.length ∧ (wn.setCell ⟨o, 0, none⟩ (.int .i64 (e1))).ownsRow W0.heap.size 64 1 (.slice a1 n1 c1) n1 (row32 (X.map fun d => (fromP d).1))) := fun z => ⟨(HNC.out.2 z).1, own_kept (HNC.out.2 z).2 ((Ex.refl (fun k => k = o) wn).set (p := o) rfl _) (fun j hj (y : j = o) => by have := ((HNC.out.2 z).2.lt j hj).1; have := HOQ.out; omega)⟩
  generalize wn.setCell ⟨o, 0, none⟩ (.int .i64 (e1)) = W2 at *
  clear o0 hof
  have HE1 := hide HNC.out.1
  clear HNC
  by_cases her : e1 = 0
  · obtain ⟨hn1, hrow⟩ := HNC2.out her
    have HER : Hid (ncE X = 0) := by show _ = _; rw [← HE1.out]; exact her
    have HLK := hide (ncE_zero HER.out)
    have hcl : n1 = (X.map fun d => (fromP d).1).length := by rw [List.length_map]; exact hn1
    generalize hCC : (X.map fun d => (fromP d).1) = CC at *
    have p1 := HS2.out.bn.ptr 1 (by decide)
    obtain ⟨av, aat, aso⟩ := HS2.out.a
    have cc := hide (setAll_any W2 B (P 1) av s.a.k s.a.V aat HOK.out.a HS2.out.szB a1 c1 CC (row_cl hrow) HLK.out (by have := HX.out; omega) (fun g off ea => by
      have hg := hrow.lt g (by rw [ea]; rfl)
      have h1 : S 1 (P 1) := (aso _).2 (.inl rfl)
      have h2 := HSZ.out 1 (by decide) _ h1
      refine ⟨by omega, fun z => ?_, hg.2⟩
      have := HSZ.out 1 (by decide) g ((aso g).2 (.inr z))
      omega))
    rw [← hcl] at cc
    clear hn1 hrow hCC hcl HNC2
    subst her
    go_upto_region 96 with fail
    go_wp2_with fail
    refine cc.out.mono ?_
    rintro e wz hp
    have he := hp.1
    subst he
    obtain ⟨S9, hs3⟩ := HS2.out.ag aso hp
    have HS3 := hide hs3
    clear hs3 HS2
    clear p1 aat aso cc hp
    generalize hwz : wz = w9 at *
    clear hwz wz
    obtain ⟨kk, hkk⟩ : ∃ x, setsN s.a.V s.a.k CC = x := ⟨_, rfl⟩
    have Hkk := hide hkk
    clear hkk
    rw [Hkk.out] at HS3
    have p1 := HS3.out.bn.ptr 1 (by decide)
    obtain ⟨av, aat, aso⟩ := HS3.out.a
    have cc := hide (assignedA_any w9 B (P 1) av _ _ aat)
    go_upto_region 97 with fail
    go_wp2_with fail
    refine cc.out.mono ?_
    rintro e wz ⟨rfl, hw⟩
    rw [hw]
    clear hw wz
    clear p1 aat aso cc
    have o3 := HS3.out.sc.o3
    have hof := HS3.out.sc.of
    go_upto_region 129 with fail
    have HS4 := hide (HS3.out.on (kk))
    clear HS3
    generalize w9.setCell ⟨o, 3, none⟩ (.int .i64 (kk)) = W4 at *
    clear o3 hof
    obtain ⟨bo, hbo⟩ : ∃ x : Ob, ({ ({ (ob0 : Ob) with er := 0 } : Ob) with n := kk }) = x := ⟨_, rfl⟩
    have HSQ : Hid (s' = { s with a := ⟨kk, setsP s.a.V CC⟩ }) := (by show _ = _; rw [← HSE.out, if_pos HER.out, ← Hkk.out])
    have HBQ : Hid (b' = bo) := by show _ = _; rw [← hbo]; exact (by rw [← HBE.out, if_pos HER.out, ← Hkk.out] <;> rfl)
    rw [hbo] at HS4
    clear hbo HSE HBE
    have o0 := HS4.out.sc.o0
    have o1 := HS4.out.sc.o1
    have o2 := HS4.out.sc.o2
    have o3 := HS4.out.sc.o3
    have o4 := HS4.out.sc.o4
    have o5 := HS4.out.sc.o5
    have t0 := HS4.out.sc.t0
    have t1 := HS4.out.sc.t1
    have t2 := HS4.out.sc.t2
    have t3 := HS4.out.sc.t3
    have t4 := HS4.out.sc.t4
    have t5 := HS4.out.sc.t5
    have htf := HS4.out.sc.tf
    have hot : o ≠ t := fun z => HS4.out.ne.2.2.1 z.symm
    have HF := hide HS4.out.fin
    have HC := hide (fin_cells HS4.out.sc)
    clear HS4
    go_wp2_with (with_reducible refine bodyPost_ret (v := ?v) ?hr ?hd ?hp)
    case v => exact obV bo (.slice none 0 0)
    case hr =>
      change (results _ _).run _ (fin6 W4 t bo (.slice none 0 0)) = .ok _ (fin6 W4 t bo (.slice none 0 0))
      obtain ⟨y0, y1, y2, y3, y4, y5⟩ := HC.out
      clear HF HC
      generalize fin6 W4 t bo (.slice none 0 0) = WF at *
      simp [results, Tryz.results9, go_sem, y0, y1, y2, y3, y4, y5, obV]
    case hd => rfl
    case hp => rw [HSQ.out, HBQ.out]; exact HF.out
  · have heb : (e1 == 0) = false := by simpa using her
    have HER : Hid (¬ ncE X = 0) := by show ¬ _; rw [← HE1.out]; exact her
    clear her HNC2
    have p1 := HS2.out.bn.ptr 1 (by decide)
    obtain ⟨av, aat, aso⟩ := HS2.out.a
    have cc := hide (assignedA_any W2 B (P 1) av _ _ aat)
    go_upto_region 97 with fail
    go_wp2_with fail
    refine cc.out.mono ?_
    rintro e wz ⟨rfl, hw⟩
    rw [hw]
    clear hw wz
    clear p1 aat aso cc heb
    have o3 := HS2.out.sc.o3
    have hof := HS2.out.sc.of
    go_upto_region 129 with fail
    have HS3 := hide (HS2.out.on (s.a.k))
    clear HS2
    generalize W2.setCell ⟨o, 3, none⟩ (.int .i64 (s.a.k)) = W3 at *
    clear o3 hof
    obtain ⟨bo, hbo⟩ : ∃ x : Ob, ({ ({ (ob0 : Ob) with er := e1 } : Ob) with n := s.a.k }) = x := ⟨_, rfl⟩
    have HSQ : Hid (s' = s) := (by show _ = _; rw [← HSE.out, if_neg HER.out])
    have HBQ : Hid (b' = bo) := by show _ = _; rw [← hbo]; exact (by rw [← HBE.out, if_neg HER.out, HE1.out] <;> rfl)
    rw [hbo] at HS3
    clear hbo HSE HBE
    have o0 := HS3.out.sc.o0
    have o1 := HS3.out.sc.o1
    have o2 := HS3.out.sc.o2
    have o3 := HS3.out.sc.o3
    have o4 := HS3.out.sc.o4
    have o5 := HS3.out.sc.o5
    have t0 := HS3.out.sc.t0
    have t1 := HS3.out.sc.t1
    have t2 := HS3.out.sc.t2
    have t3 := HS3.out.sc.t3
    have t4 := HS3.out.sc.t4
    have t5 := HS3.out.sc.t5
    have htf := HS3.out.sc.tf
    have hot : o ≠ t := fun z => HS3.out.ne.2.2.1 z.symm
    have HF := hide HS3.out.fin
    have HC := hide (fin_cells HS3.out.sc)
    clear HS3
    go_wp2_with (with_reducible refine bodyPost_ret (v := ?v) ?hr ?hd ?hp)
    case v => exact obV bo (.slice none 0 0)
    case hr =>
      change (results _ _).run _ (fin6 W3 t bo (.slice none 0 0)) = .ok _ (fin6 W3 t bo (.slice none 0 0))
      obtain ⟨y0, y1, y2, y3, y4, y5⟩ := HC.out
      clear HF HC
      generalize fin6 W3 t bo (.slice none 0 0) = WF at *
      simp [results, Tryz.results9, go_sem, y0, y1, y2, y3, y4, y5, obV]
    case hd => rfl
    case hp => rw [HSQ.out, HBQ.out]; exact HF.out
set_option linter.unusedSimpArgs false in
set_option maxRecDepth 100000 in
set_option maxHeartbeats 32000000 in
/-- cnflaw.realBench.step: OpTotal -/
theorem step_21 (w : World) (B r z : Nat) (P : Nat → Nat) (S : Nat → Nat → Prop) (s : St) (h : BN w B r P S (QS B s)) (hB : B ≤ w.heap.size) (hok : StOk z s) (hz : z ≤ 65536) (v : OpV) (hk : v.kd = 21) (ha : -9223372036854775808 ≤ v.a ∧ v.a ≤ 9223372036854775807) :
    Calls Tryz.prog 9 #[.pointer (some ⟨r, 0, none⟩), opZ v] w (SpPost w (fp r S) B r (s) ({ ob0 with n := if totalP s.a.V v.a = true then 1 else 0 })) := by
  have HS0 := hide (sw_new v h hB)
  unfold opZ
  have HOK := hide hok
  have HZ := hide hz
  have hs' : s = s := rfl
  obtain ⟨b', hb'⟩ : ∃ x : Ob, ({ ob0 with n := if totalP s.a.V v.a = true then 1 else 0 }) = x := ⟨_, rfl⟩
  rw [hb']
  obtain ⟨kd, va, la, ln, lc, VX, ta, tn, tc, VT⟩ := v
  dsimp only at hk HS0 ha hs' hb' ⊢
  subst hk
  have HSE := hide hs'
  have HBE := hide hb'
  clear h hok hz hB hs' hb'
  go_enter Tryz.func9, Tryz.ntmps9
  go_upto_region 2 with fail
  generalize (((w.alloc (.cells #[.int .i64 21, .int .i64 va, .slice la ln lc, .slice ta tn tc] 37)).alloc (.cells #[.int .i64 0, .int .i64 0, .int .i64 0, .int .i64 0, .int .i64 0, .slice none 0 0] 43)).alloc (.cells #[.int .i64 0, .int .i64 0, .int .i64 0, .int .i64 0, .int .i64 0, .slice none 0 0] 43)) = W0 at *
  generalize w.heap.size + 1 + 1 = o at *
  generalize w.heap.size + 1 = t at *
  generalize w.heap.size = q at *
  have q0 : W0.cell? ⟨q, 0, none⟩ = some (.int .i64 21) := HS0.out.sc.q0
  obtain ⟨bb, hbb⟩ : ∃ x, totalP s.a.V va = x := ⟨_, rfl⟩
  have Hbb := hide hbb
  clear hbb
  obtain ⟨R, hR⟩ : ∃ x : Int, (if bb = true then 1 else 0) = x := ⟨_, rfl⟩
  have HR := hide hR
  clear hR
  go_upto_region 99 with fail
  have HC0 := hide (HS0.out.low ((Below.refl _ _).drew))
  refine wp_region_held_drew (S := fun w' => PQ w' r q P ⟨21, va, la, ln, lc, VX, ta, tn, tc, VT⟩) (by kernel_rfl) HS0.out.pq (fun hHeld => ?_)
  refine wpAnyH_take (i := 0) (v := ?_) rfl (by kernel_rfl) (by kernel_rfl) (by kernel_rfl) (fun _ _ _ h => h) (Or.inl ⟨by rfl, ?_⟩) (by assumption) ?_
  rotate_left
  · (intro w hSw; (try dsimp only at hSw); go_simp; try (with_reducible rfl))
  try simp only [Act.put, List.getElem_toArray, List.getElem_cons_zero, List.getElem_cons_succ, List.setIfInBounds_toArray, List.set_cons_zero, List.set_cons_succ]
  refine wpAnyH_take (i := 1) (v := ?_) rfl (by kernel_rfl) (by kernel_rfl) (by kernel_rfl) (fun _ _ _ h => h) (Or.inl ⟨by rfl, ?_⟩) (by assumption) ?_
  rotate_left
  · (intro w hSw; (try dsimp only at hSw); go_simp; try (with_reducible rfl))
  try simp only [Act.put, List.getElem_toArray, List.getElem_cons_zero, List.getElem_cons_succ, List.setIfInBounds_toArray, List.set_cons_zero, List.set_cons_succ]
  refine wpAnyH_take (i := 2) (v := ?_) rfl (by kernel_rfl) (by kernel_rfl) (by kernel_rfl) (fun _ _ _ h => h) (Or.inl ⟨by rfl, ?_⟩) (by assumption) ?_
  rotate_left
  · (intro w hSw; (try dsimp only at hSw); go_simp; try (with_reducible rfl))
  try simp only [Act.put, List.getElem_toArray, List.getElem_cons_zero, List.getElem_cons_succ, List.setIfInBounds_toArray, List.set_cons_zero, List.set_cons_succ]
  refine wpAnyH_take (i := 3) (v := ?_) rfl (by kernel_rfl) (by kernel_rfl) (by kernel_rfl) (fun _ _ _ h => h) (Or.inl ⟨by rfl, ?_⟩) (by assumption) ?_
  rotate_left
  · (intro w hSw; (try dsimp only at hSw); (obtain ⟨zp, zq1, zq2⟩ := hSw; have zz := zp 1 (by decide)); go_simp; try (with_reducible rfl))
  try simp only [Act.put, List.getElem_toArray, List.getElem_cons_zero, List.getElem_cons_succ, List.setIfInBounds_toArray, List.set_cons_zero, List.set_cons_succ]
  refine wpAnyH_take (i := 4) (v := ?_) rfl (by kernel_rfl) (by kernel_rfl) (by kernel_rfl) (fun _ _ _ h => h) (Or.inl ⟨by rfl, ?_⟩) (by assumption) ?_
  rotate_left
  · (intro w hSw; (try dsimp only at hSw); go_simp; try (with_reducible rfl))
  try simp only [Act.put, List.getElem_toArray, List.getElem_cons_zero, List.getElem_cons_succ, List.setIfInBounds_toArray, List.set_cons_zero, List.set_cons_succ]
  refine wpAnyH_take (i := 5) (v := ?_) rfl (by kernel_rfl) (by kernel_rfl) (by kernel_rfl) (fun _ _ _ h => h) (Or.inl ⟨by rfl, ?_⟩) (by assumption) ?_
  rotate_left
  · (intro w hSw; (try dsimp only at hSw); (obtain ⟨zp, zq1, zq2⟩ := hSw; dsimp only at zq1 zq2); go_simp; try (with_reducible rfl))
  try simp only [Act.put, List.getElem_toArray, List.getElem_cons_zero, List.getElem_cons_succ, List.setIfInBounds_toArray, List.set_cons_zero, List.set_cons_succ]
  refine wpAnyH_ready (rs := [6]) (by kernel_rfl) (by simp) ?_
  refine (AllReadyH.cons rfl (fun K hK => ?_) AllReadyH.nil)
  · obtain ⟨av, aat, aso⟩ := HC0.out.a
    have cc := hide (total_any W0.drew B (P 1) av s.a.k s.a.V aat HOK.out.a.len va ha)
    rw [Hbb.out] at cc
    clear aat aso
    refine step_call rfl 58 #[.pointer (some ⟨P 1, 0, none⟩), .int .i64 va] (by simp [go_sem]) (cc.out) ?_
    rintro e w1 ⟨rfl, hw⟩
    rw [hw]
    clear hw w1 cc
    generalize hWd : W0.drew = wd at *
    clear hWd
    refine ⟨_, rfl, ?_⟩
    refine hK.out _ _ ?_ (fun hHeld => ?_)
    · (first | exact HC1.out.pq | exact HC0.out.pq)
    clear hK K
    try simp only [Act.put, List.getElem_toArray, List.getElem_cons_zero, List.getElem_cons_succ, List.setIfInBounds_toArray, List.set_cons_zero, List.set_cons_succ]
    refine wpAnyH_ready (rs := [7]) (by kernel_rfl) (by simp) ?_
    refine (AllReadyH.cons rfl (fun K hK => ?_) AllReadyH.nil)
    · have cc := hide (truth_any wd bb)
      rw [HR.out] at cc
      refine step_call rfl 44 #[.bool bb] (by simp [go_sem]) (cc.out) ?_
      rintro e w1 ⟨rfl, hw⟩
      rw [hw]
      clear hw w1 cc
      have HC1 := hide (HC0.out.on R)
      have o3 := HC0.out.sc.o3
      have hof := HC0.out.sc.of
      refine ⟨_, rfl, ?_⟩
      refine hK.out _ _ ?_ (fun hHeld => ?_)
      · (first | exact HC1.out.pq | exact HC0.out.pq)
      clear hK K
      try simp only [Act.put, List.getElem_toArray, List.getElem_cons_zero, List.getElem_cons_succ, List.setIfInBounds_toArray, List.set_cons_zero, List.set_cons_succ]
      refine wpAnyH_take (i := 8) (v := ?_) rfl (by kernel_rfl) (by kernel_rfl) (by kernel_rfl) (fun _ _ _ h => h) (Or.inl ⟨by rfl, ?_⟩) (by assumption) ?_
      rotate_left
      · (intro w hSw; (try dsimp only at hSw); go_simp; try (with_reducible rfl))
      try simp only [Act.put, List.getElem_toArray, List.getElem_cons_zero, List.getElem_cons_succ, List.setIfInBounds_toArray, List.set_cons_zero, List.set_cons_succ]
      refine wpAnyH_ready (rs := [9]) (by kernel_rfl) (by simp) ?_
      refine (AllReadyH.cons rfl (fun K hK => ?_) AllReadyH.nil)
      · go_simp
        refine hK.out _ _ ?_ (fun hHeld => ?_)
        · (first | exact HC1.out.pq | exact HC0.out.pq)
        clear hK K
        try simp only [Act.put, List.getElem_toArray, List.getElem_cons_zero, List.getElem_cons_succ, List.setIfInBounds_toArray, List.set_cons_zero, List.set_cons_succ]
        refine wpAnyH_done (by kernel_rfl) ?_ _
        clear o3 hof HC0 HS0 q0
        generalize wd.setCell ⟨o, 3, none⟩ (.int .i64 R) = W1 at *
        obtain ⟨bo, hbo⟩ : ∃ x : Ob, ({ (ob0 : Ob) with n := R }) = x := ⟨_, rfl⟩
        have HSQ : Hid (s = s) := rfl
        have HBQ : Hid (b' = bo) := by show _ = _; rw [← hbo]; exact (by rw [← HBE.out, ← HR.out, ← Hbb.out])
        rw [hbo] at HC1
        clear hbo HSE HBE
        have o0 := HC1.out.sc.o0
        have o1 := HC1.out.sc.o1
        have o2 := HC1.out.sc.o2
        have o3 := HC1.out.sc.o3
        have o4 := HC1.out.sc.o4
        have o5 := HC1.out.sc.o5
        have t0 := HC1.out.sc.t0
        have t1 := HC1.out.sc.t1
        have t2 := HC1.out.sc.t2
        have t3 := HC1.out.sc.t3
        have t4 := HC1.out.sc.t4
        have t5 := HC1.out.sc.t5
        have htf := HC1.out.sc.tf
        have hot : o ≠ t := fun z => HC1.out.ne.2.2.1 z.symm
        have HF := hide HC1.out.fin
        have HC := hide (fin_cells HC1.out.sc)
        clear HC1
        go_wp2_with (with_reducible refine bodyPost_ret (v := ?v) ?hr ?hd ?hp)
        case v => exact obV bo (.slice none 0 0)
        case hr =>
          change (results _ _).run _ (fin6 W1 t bo (.slice none 0 0)) = .ok _ (fin6 W1 t bo (.slice none 0 0))
          obtain ⟨y0, y1, y2, y3, y4, y5⟩ := HC.out
          clear HF HC
          generalize fin6 W1 t bo (.slice none 0 0) = WF at *
          simp [results, Tryz.results9, go_sem, y0, y1, y2, y3, y4, y5, obV]
        case hd => rfl
        case hp => rw [HBQ.out]; exact HF.out
end Go.Proofs.Qxb6500773aGreat
