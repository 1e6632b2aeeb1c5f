import Derived.Test.Qxb6500774aTe4
namespace Go.Proofs.Qxb6500774a
open Go.RowKit
set_option linter.unusedVariables false
set_option linter.unusedSimpArgs false

structure BR (b : Nat) (w : World) (r : Nat) (f : XP) (v : SLc) : Prop where
  te : RC w r 0 f
  c7 : w.cell? ⟨r, 7, none⟩ = some (.slice v.q v.n v.c)
  nd : ¬ PD w b r
theorem BR.lt {b r : Nat} {w : World} {v : SLc} {f : XP} (h : BR b w r f v) : r < w.heap.size := World.block_lt_of_cell? _ _ h.c7
theorem BR.go {b r : Nat} {w w' : World} {v : SLc} {f : XP} (h : BR b w r f v) (g : PGo b w w') : BR b w' r f v := ⟨h.te.keep g.ex h.nd, g.ex.cell h.nd h.c7, nd_go h.nd h.lt g⟩
theorem BR.new {w : World} {b : Nat} {X : List Int} {i : Int} (h : PR w b X i) (f1 : XP) (vb : SLc) : BR b (w.alloc (.cells #[.int .i64 f1.k, .string f1.x, .int .i64 f1.n, .string f1.m, .slice f1.q f1.ql f1.qc, .int .i64 f1.li, .int .i64 f1.co, .slice vb.q vb.n vb.c] 117)) w.heap.size f1 vb := by
  have n := fun j u h => new_cells w [.int .i64 f1.k, .string f1.x, .int .i64 f1.n, .string f1.m, .slice f1.q f1.ql f1.qc, .int .i64 f1.li, .int .i64 f1.co, .slice vb.q vb.n vb.c] 117 j u h
  exact ⟨⟨n 0 _ rfl, n 1 _ rfl, n 2 _ rfl, n 3 _ rfl, n 4 _ rfl, n 5 _ rfl, n 6 _ rfl⟩, n 7 _ rfl, h.ndAl _⟩
theorem SS.hdA {w : World} {D : Nat → Prop} {A : S} {F : List (List Value)} (h : SS w D A true F) : (A = .nil ∧ F = []) ∨ ∃ e L r f v FL F', A = .arm e L r ∧ F = (xL f ++ [slV v]) :: F' ∧ ET w D e f ∧ RW w D FL v ∧ SS w D L false FL ∧ SS w D r true F' := by
  cases A with
  | nil => exact .inl ⟨rfl, h⟩
  | arm e L r =>
    obtain ⟨_, f, vl, FL, F', h1, h2, h3, h4, h5⟩ := h
    exact .inr ⟨e, L, r, f, vl, FL, F', rfl, h1, h2, h3, h4, h5⟩
  | asg t e l c r => exact absurd h.1 (by decide)
  | call x ag l c r => exact absurd h.1 (by decide)
  | iff A L l c r => exact absurd h.1 (by decide)
  | fr x a e L l c r => exact absurd h.1 (by decide)
  | rung e cs l c r => exact absurd h.1 (by decide)
theorem pr_arm (e : E) (L r : S) (n k : Nat) : pr (.arm e L r) n (decide (k = 0)) = (if decide (k = 0) = true then [] else mrg n ++ [69, 76, 83]) ++ ([73, 70, 32] ++ prE e 0) ++ [32, 84, 72, 69, 78, 10] ++ pr L (n + 1) true ++ pr r n (decide (k + 1 = 0)) := by
  rw [show decide (k + 1 = 0) = false by simp]
  rfl
set_option linter.unusedSimpArgs false in
set_option linter.unusedVariables false in
set_option maxRecDepth 100000 in
set_option maxHeartbeats 32000000 in
theorem st_iff (A L : S) (l c : Int) (r : S) (hga : gS A) (hok : SOK A) (hne : A.isNil = false) (hLS : LST L) : STC (.iff A L l c r) := by
  intro w b X n f F hpr hss hl hn
  obtain ⟨_, vv, vl, FA, FL, F', hF, hrw, hrl, hsa, hsl, _⟩ := hss
  injection hF with hf1 hF
  have hf := spL_inj hf1
  subst hf
  obtain ⟨vq, vn, vc⟩ := vv
  have HV : Hid (vn = FA.length) := hrw.1
  have HVC : Hid (vn ≤ vc ∧ vc ≤ maxLen) := hrw.2.1
  have hn0 : 0 < vn := by
    have h2 := HV.out
    rcases hsa.hdA with ⟨z1, z2⟩ | ⟨e, LB, A2, f1, vb, FB, F2, hA2, hF2, _⟩
    · rw [z1] at hne; cases hne
    · rw [hF2] at h2; simp at h2; omega
  obtain ⟨g, hgq, hgd, hrv⟩ := hrw.2.2 hn0
  have hgq : vq = some ⟨g, 0, none⟩ := hgq
  subst hgq
  have HLEN : Hid (∀ V ∈ FA, V.length = 8) := hsa.len
  have HGSA := hide hga
  have HOKA := hide hok
  have HLS := hide hLS
  have hn2 : n + max (max (sdep A) (1 + sdep L)) (sdep r) ≤ 1000000 := hn
  have HNA : Hid (n + sdep A ≤ 1000000) := by
    have := Nat.le_max_left (max (sdep A) (1 + sdep L)) (sdep r)
    have := Nat.le_max_left (sdep A) (1 + sdep L)
    show _ ≤ _
    omega
  have HNL : Hid (n + 1 + sdep L ≤ 1000000) := by
    have := Nat.le_max_left (max (sdep A) (1 + sdep L)) (sdep r)
    have := Nat.le_max_right (sdep A) (1 + sdep L)
    show _ ≤ _
    omega
  have HL := hide hl
  have HN := hide hn
  have ex1 : Ex (fun _ => False) w (w.alloc (spO ⟨2, nb, nl, ⟨some ⟨g, 0, none⟩, vn, vc⟩, vl, nl, nl, nl, l, c⟩)) := (Ex.refl _ _).alloc _
  have HP1 := hide (hpr.low ex1)
  have HSA1 := hide (hsa.go (hpr.low ex1).2)
  have HRV1 := hide (RV.go hrv hgd (hpr.low ex1).2)
  have HRL1 := hide (hrl.go (hpr.low ex1).2)
  have HSL1 := hide (hsl.go (hpr.low ex1).2)
  have HB1 := hide (BS.new hpr ⟨2, nb, nl, ⟨some ⟨g, 0, none⟩, vn, vc⟩, vl, nl, nl, nl, l, c⟩)
  clear hpr hl hn ex1 hf1 hF hga hne hok hLS hrw hrl hsa hsl hrv hgd hn0 hn2
  obtain ⟨w1, hw1⟩ : ∃ wz, w.alloc (spO ⟨2, nb, nl, ⟨some ⟨g, 0, none⟩, vn, vc⟩, vl, nl, nl, nl, l, c⟩) = wz := ⟨_, rfl⟩
  rw [hw1] at HP1 HB1 HSA1 HRV1 HRL1 HSL1
  have HW1 := hide hw1
  unfold spO nl at HW1
  dsimp only at HW1
  clear hw1
  unfold spV nl
  dsimp only
  obtain ⟨TT, hTT⟩ : ∃ T, X ++ hdT (.iff A L l c r) n = T := ⟨_, rfl⟩
  have HTT := hide hTT
  rw [hTT]
  clear hTT
  unfold hdT at HTT HL
  go_enter Try.func69, Try.ntmps69
  go_upto_region 1 with fail
  rw [HW1.out]
  generalize w.heap.size = r3 at *
  clear HW1
  have k0 := HB1.out.te.c0
  dsimp only at k0
  have HG1 := hide HP1.out.2
  have k3 := HB1.out.te.c3
  dsimp only at k3
  obtain ⟨RE, hRE⟩ : ∃ R, (if L.isNil = true then [] else mrg n ++ [69, 76, 83, 69, 10] ++ pr L (n + 1) true) ++ (mrg n ++ [69, 78, 68, 95, 73, 70]) = R := ⟨_, rfl⟩
  have HRE := hide hRE
  clear hRE
  have HR0 : Hid (∃ (k : Nat) (A1 : S) (F1 : List (List Value)) (Y : List Int), Value.int .i64 0 = .int .i64 k ∧ k ≤ vn ∧ PR w1 b Y n ∧ PGo b w w1 ∧ SS w1 (PD w1 b) A1 true F1 ∧ FA.drop k = F1 ∧ (RV w1 g FA.flatten ∧ g < w1.heap.size ∧ ¬ PD w1 b g) ∧ BS b w1 r3 ⟨2, nb, nl, ⟨some ⟨g, 0, none⟩, vn, vc⟩, vl, nl, nl, nl, l, c⟩ ∧ RW w1 (PD w1 b) FL vl ∧ SS w1 (PD w1 b) L false FL ∧ SOK A1 ∧ gS A1 ∧ sdep A1 ≤ sdep A ∧ Y ++ pr A1 n (decide (k = 0)) ++ RE = TT) := ⟨0, A, FA, X, rfl, Nat.zero_le _, HP1.out.1, HG1.out, HSA1.out, rfl, HRV1.out, HB1.out, HRL1.out, HSL1.out, HOKA.out, HGSA.out, Nat.le_refl _, by rw [← HTT.out, ← HRE.out]; simp only [List.append_assoc]; rfl⟩
  have HLTT : Hid (TT.length ≤ 1099511627776) := by rw [← HTT.out]; exact HL.out
  clear HP1 HG1 HB1 HSA1 HRV1 HRL1 HSL1 HOKA HGSA HTT
  go_upto_region 14 with fail
  go_wp2_with fail
  clear k3 k0
  go_loopw [59] (fun v59 wr => ∃ (k : Nat) (A1 : S) (F1 : List (List Value)) (Y : List Int), v59 = .int .i64 k ∧ k ≤ vn ∧ PR wr b Y n ∧ PGo b w wr ∧ SS wr (PD wr b) A1 true F1 ∧ FA.drop k = F1 ∧ (RV wr g FA.flatten ∧ g < wr.heap.size ∧ ¬ PD wr b g) ∧ BS b wr r3 ⟨2, nb, nl, ⟨some ⟨g, 0, none⟩, vn, vc⟩, vl, nl, nl, nl, l, c⟩ ∧ RW wr (PD wr b) FL vl ∧ SS wr (PD wr b) L false FL ∧ SOK A1 ∧ gS A1 ∧ sdep A1 ≤ sdep A ∧ Y ++ pr A1 n (decide (k = 0)) ++ RE = TT) (fun v59 _ => vn - (intOf v59).toNat)
  case atStart => exact HR0.out
  case round =>
    clear HR0
    obtain ⟨k, A1, F1, Y, rfl, hk, h1, h2, h3, h4, h5, h6, h7, h8, h9, h10, h11, h12⟩ := hrel
    have HP := hide h1
    have HG := hide h2
    have HSR0 := hide h3
    have HF1 := hide h4
    have HRV0 := hide h5
    have HBS0 := hide h6
    have HRWE0 := hide h7
    have HSSE0 := hide h8
    have HOK := hide h9
    have HGS := hide h10
    have HDP := hide h11
    have HTX := hide h12
    clear h1 h2 h3 h4 h5 h6 h7 h8 h9 h10 h11 h12
    by_cases hlt : k < vn
    · have d1 : decide ((k : Int) < (vn : Int)) = true := decide_eq_true (by omega)
      have d2 : decide (k < vn) = true := decide_eq_true hlt
      have hwk : IntKind.i64.wrap ((k : Int) + 1) = ((k + 1 : Nat) : Int) := wrk (by have := HVC.out; unfold maxLen at this; omega)
      obtain ⟨V, hV⟩ : ∃ V, FA[k]? = some V := ⟨_, List.getElem?_eq_getElem (by rw [← HV.out]; exact hlt)⟩
      have hd : FA.drop k = V :: FA.drop (k + 1) := by
        obtain ⟨h, e⟩ := List.getElem?_eq_some_iff.1 hV
        rw [List.drop_eq_getElem_cons h, e]
      rcases HSR0.out.hdA with ⟨z1, z2⟩ | ⟨e, LB, A2, f1, vb, FB, F2, hA2, hF2, het, hrb, hsb, hsr⟩
      · rw [z2, hd] at HF1; exact absurd HF1.out (by intro q; cases q)
      obtain ⟨hVe, hF3⟩ : V = xL f1 ++ [slV vb] ∧ FA.drop (k + 1) = F2 := by
        have := HF1.out
        rw [hd, hF2] at this
        injection this with q1 q2
        exact ⟨q1, q2⟩
      subst hVe
      subst hA2
      have HF3 := hide hF3
      have HI1 := hide (pexpr_any e HGS.out.1)
      have HGS2 : Hid (gS A2) := HGS.out.2.2
      have HLB : Hid (LST LB) := HOK.out.1
      have HOK2 : Hid (SOK A2) := HOK.out.2
      have HDP2 : Hid (sdep A2 ≤ sdep A) := Nat.le_trans (sdep_tl (.arm e LB A2)) HDP.out
      have HNB : Hid (n + 1 + sdep LB ≤ 1000000) := by
        have h : max (1 + sdep LB) (sdep A2) ≤ sdep A := HDP.out
        have := Nat.le_max_left (1 + sdep LB) (sdep A2)
        have := HNA.out
        show _ ≤ _
        omega
      rw [pr_arm] at HTX
      have HLX : Hid ((Y ++ ((if decide (k = 0) = true then [] else mrg n ++ [69, 76, 83]) ++ ([73, 70, 32] ++ prE e 0) ++ [32, 84, 72, 69, 78, 10] ++ pr LB (n + 1) true ++ pr A2 n (decide (k + 1 = 0))) ++ RE).length ≤ 1099511627776) := by rw [HTX.out]; exact HLTT.out
      have e0 := HRV0.out.1.at HLEN.out hV (j := 0) (by decide) (v := .int .i64 f1.k) rfl
      have e1 := HRV0.out.1.at HLEN.out hV (j := 1) (by decide) (v := .string f1.x) rfl
      have e2 := HRV0.out.1.at HLEN.out hV (j := 2) (by decide) (v := .int .i64 f1.n) rfl
      have e3 := HRV0.out.1.at HLEN.out hV (j := 3) (by decide) (v := .string f1.m) rfl
      have e4 := HRV0.out.1.at HLEN.out hV (j := 4) (by decide) (v := .slice f1.q f1.ql f1.qc) rfl
      have e5 := HRV0.out.1.at HLEN.out hV (j := 5) (by decide) (v := .int .i64 f1.li) rfl
      have e6 := HRV0.out.1.at HLEN.out hV (j := 6) (by decide) (v := .int .i64 f1.co) rfl
      have e7 := HRV0.out.1.at HLEN.out hV (j := 7) (by decide) (v := .slice vb.q vb.n vb.c) rfl
      rw [Nat.add_zero] at e0
      have ex2 : Ex (fun _ => False) wr (wr.alloc (.cells #[.int .i64 f1.k, .string f1.x, .int .i64 f1.n, .string f1.m, .slice f1.q f1.ql f1.qc, .int .i64 f1.li, .int .i64 f1.co, .slice vb.q vb.n vb.c] 117)) := (Ex.refl _ _).alloc _
      have HP2 := hide (HP.out.low ex2)
      have HBR3 := hide (BR.new HP.out f1 vb)
      have HG3 := hide (HG.out.trans HP2.out.2)
      have HETC3 := hide (het.go HP2.out.2)
      have HRWB3 := hide (hrb.go HP2.out.2)
      have HSSB3 := hide (hsb.go HP2.out.2)
      have HSR3 := hide (hsr.go HP2.out.2)
      have HRV3 := hide (RV.go HRV0.out.1 HRV0.out.2 HP2.out.2)
      have HBS3 := hide (HBS0.out.go HP2.out.2)
      have HRWE3 := hide (HRWE0.out.go HP2.out.2)
      have HSSE3 := hide (HSSE0.out.go HP2.out.2)
      have HP3 := hide HP2.out.1
      clear hd hF2 het hrb hsb hsr hF3 hV HSR0 HF1 HGS HRV0 HBS0 HRWE0 HSSE0 HP HG ex2 HP2 HOK HDP
      go_upto_region 17 with fail
      generalize wr.alloc (.cells #[.int .i64 f1.k, .string f1.x, .int .i64 f1.n, .string f1.m, .slice f1.q f1.ql f1.qc, .int .i64 f1.li, .int .i64 f1.co, .slice vb.q vb.n vb.c] 117) = w3 at *
      clear e0 e1 e2 e3 e4 e5 e6 e7
      generalize wr.heap.size = r7 at *
      by_cases hk0 : k = 0
      · subst hk0
        rw [if_pos (by decide)] at HTX HLX
        have HC := hide (HI1.out w3 b (Y) n ⟨#[73, 70, 32]⟩ f1 0 HP3.out HETC3.out (by have := HLX.out; rw [show strL ⟨#[73, 70, 32]⟩ = [73, 70, 32] from rfl]; simp only [List.length_append] at this ⊢; omega) (by decide) (by decide))
        rw [show strL ⟨#[73, 70, 32]⟩ = [73, 70, 32] from rfl] at HC
        unfold xV at HC
        have q0 := HBR3.out.te.c0
        have q1 := HBR3.out.te.c1
        have q2 := HBR3.out.te.c2
        have q3 := HBR3.out.te.c3
        have q4 := HBR3.out.te.c4
        have q5 := HBR3.out.te.c5
        have q6 := HBR3.out.te.c6
        go_upto_region 19 with fail
        go_wp2_with fail
        refine HC.out.mono ?_
        rintro e9 w5 ⟨rfl, hp9, hg9⟩
        have HP5 := hide hp9
        have HG5 := hide (HG3.out.trans hg9)
        have HSR5 := hide (HSR3.out.go hg9)
        have HRV5 := hide (RV.go HRV3.out.1 HRV3.out.2 hg9)
        have HBS5 := hide (HBS3.out.go hg9)
        have HRWE5 := hide (HRWE3.out.go hg9)
        have HSSE5 := hide (HSSE3.out.go hg9)
        have HBR5 := hide (HBR3.out.go hg9)
        have HRWB5 := hide (HRWB3.out.go hg9)
        have HSSB5 := hide (HSSB3.out.go hg9)
        clear hp9 hg9 HP3 HG3 HC HETC3 q0 q1 q2 q3 q4 q5 q6 HSR3 HRV3 HBS3 HRWE3 HSSE3 HBR3 HRWB3 HSSB3
        simp only []
        have HT := hide (text_any w5 b (Y ++ [73, 70, 32] ++ prE e 0) n ⟨#[32, 84, 72, 69, 78, 10]⟩ HP5.out (by have := HLX.out; rw [show strL ⟨#[32, 84, 72, 69, 78, 10]⟩ = [32, 84, 72, 69, 78, 10] from rfl]; simp only [List.length_append] at this ⊢; omega))
        rw [show strL ⟨#[32, 84, 72, 69, 78, 10]⟩ = [32, 84, 72, 69, 78, 10] from rfl] at HT
        go_upto_region 20 with fail
        go_wp2_with fail
        refine HT.out.mono ?_
        rintro e9 w6 ⟨rfl, hp9, hg9⟩
        have HP6 := hide hp9
        have HG6 := hide (HG5.out.trans hg9)
        have HSR6 := hide (HSR5.out.go hg9)
        have HRV6 := hide (RV.go HRV5.out.1 HRV5.out.2 hg9)
        have HBS6 := hide (HBS5.out.go hg9)
        have HRWE6 := hide (HRWE5.out.go hg9)
        have HSSE6 := hide (HSSE5.out.go hg9)
        have HBR6 := hide (HBR5.out.go hg9)
        have HRWB6 := hide (HRWB5.out.go hg9)
        have HSSB6 := hide (HSSB5.out.go hg9)
        clear hp9 hg9 HP5 HG5 HT HSR5 HRV5 HBS5 HRWE5 HSSE5 HBR5 HRWB5 HSSB5
        simp only []
        have HC := hide (HLB.out w6 b (Y ++ [73, 70, 32] ++ prE e 0 ++ [32, 84, 72, 69, 78, 10]) n vb FB HP6.out HRWB6.out HSSB6.out (by have := HLX.out; simp only [List.length_append] at this ⊢; omega) HNB.out)
        unfold slV at HC
        have k7 := HBR6.out.c7
        go_upto_region 21 with fail
        go_wp2_with fail
        refine HC.out.mono ?_
        rintro e9 w7 ⟨rfl, hp9, hg9⟩
        have HP7 := hide hp9
        have HG7 := hide (HG6.out.trans hg9)
        have HSR7 := hide (HSR6.out.go hg9)
        have HRV7 := hide (RV.go HRV6.out.1 HRV6.out.2 hg9)
        have HBS7 := hide (HBS6.out.go hg9)
        have HRWE7 := hide (HRWE6.out.go hg9)
        have HSSE7 := hide (HSSE6.out.go hg9)
        clear hp9 hg9 HP6 HG6 HC HBR6 HRWB6 HSSB6 k7 HSR6 HRV6 HBS6 HRWE6 HSSE6
        simp only []
        have HTX2 : Hid (Y ++ [73, 70, 32] ++ prE e 0 ++ [32, 84, 72, 69, 78, 10] ++ pr LB (n + 1) true ++ pr A2 n (decide (0 + 1 = 0)) ++ RE = TT) := by
          show _ = _
          rw [← HTX.out]
          simp only [List.append_assoc, List.nil_append, List.append_nil]
        clear HTX
        go_wp2
        go_roundw
        case rel => exact ⟨0 + 1, A2, F2, _, by go_num, by omega, HP7.out, HG7.out, HSR7.out, HF3.out, HRV7.out, HBS7.out, HRWE7.out, HSSE7.out, HOK2.out, HGS2.out, HDP2.out, HTX2.out⟩
        case measure => simp [intOf]; omega
      · have d3 : decide ((0 : Int) < (k : Int)) = true := decide_eq_true (by omega)
        have d4 : decide (0 < k) = true := decide_eq_true (by omega)
        rw [if_neg (by simpa using hk0)] at HTX HLX
        have HT := hide (line_any w3 b Y n ⟨#[69, 76, 83]⟩ HP3.out (by have := HNB.out; omega) (by have := HLX.out; rw [show strL ⟨#[69, 76, 83]⟩ = [69, 76, 83] from rfl]; simp only [List.length_append, mrg_len] at this ⊢; omega))
        rw [show strL ⟨#[69, 76, 83]⟩ = [69, 76, 83] from rfl] at HT
        go_upto_region 18 with fail
        go_wp2_with fail
        refine HT.out.mono ?_
        rintro e9 w4 ⟨rfl, hp9, hg9⟩
        have HP4 := hide hp9
        have HG4 := hide (HG3.out.trans hg9)
        have HSR4 := hide (HSR3.out.go hg9)
        have HRV4 := hide (RV.go HRV3.out.1 HRV3.out.2 hg9)
        have HBS4 := hide (HBS3.out.go hg9)
        have HRWE4 := hide (HRWE3.out.go hg9)
        have HSSE4 := hide (HSSE3.out.go hg9)
        have HBR4 := hide (HBR3.out.go hg9)
        have HETC4 := hide (HETC3.out.go hg9)
        have HRWB4 := hide (HRWB3.out.go hg9)
        have HSSB4 := hide (HSSB3.out.go hg9)
        clear hp9 hg9 HP3 HG3 HT HSR3 HRV3 HBS3 HRWE3 HSSE3 HBR3 HETC3 HRWB3 HSSB3
        simp only []
        have HC := hide (HI1.out w4 b (Y ++ mrg n ++ [69, 76, 83]) n ⟨#[73, 70, 32]⟩ f1 0 HP4.out HETC4.out (by have := HLX.out; rw [show strL ⟨#[73, 70, 32]⟩ = [73, 70, 32] from rfl]; simp only [List.length_append] at this ⊢; omega) (by decide) (by decide))
        rw [show strL ⟨#[73, 70, 32]⟩ = [73, 70, 32] from rfl] at HC
        unfold xV at HC
        have q0 := HBR4.out.te.c0
        have q1 := HBR4.out.te.c1
        have q2 := HBR4.out.te.c2
        have q3 := HBR4.out.te.c3
        have q4 := HBR4.out.te.c4
        have q5 := HBR4.out.te.c5
        have q6 := HBR4.out.te.c6
        go_upto_region 19 with fail
        go_wp2_with fail
        refine HC.out.mono ?_
        rintro e9 w5 ⟨rfl, hp9, hg9⟩
        have HP5 := hide hp9
        have HG5 := hide (HG4.out.trans hg9)
        have HSR5 := hide (HSR4.out.go hg9)
        have HRV5 := hide (RV.go HRV4.out.1 HRV4.out.2 hg9)
        have HBS5 := hide (HBS4.out.go hg9)
        have HRWE5 := hide (HRWE4.out.go hg9)
        have HSSE5 := hide (HSSE4.out.go hg9)
        have HBR5 := hide (HBR4.out.go hg9)
        have HRWB5 := hide (HRWB4.out.go hg9)
        have HSSB5 := hide (HSSB4.out.go hg9)
        clear hp9 hg9 HP4 HG4 HC HETC4 q0 q1 q2 q3 q4 q5 q6 HSR4 HRV4 HBS4 HRWE4 HSSE4 HBR4 HRWB4 HSSB4
        simp only []
        have HT := hide (text_any w5 b (Y ++ mrg n ++ [69, 76, 83] ++ [73, 70, 32] ++ prE e 0) n ⟨#[32, 84, 72, 69, 78, 10]⟩ HP5.out (by have := HLX.out; rw [show strL ⟨#[32, 84, 72, 69, 78, 10]⟩ = [32, 84, 72, 69, 78, 10] from rfl]; simp only [List.length_append] at this ⊢; omega))
        rw [show strL ⟨#[32, 84, 72, 69, 78, 10]⟩ = [32, 84, 72, 69, 78, 10] from rfl] at HT
        go_upto_region 20 with fail
        go_wp2_with fail
        refine HT.out.mono ?_
        rintro e9 w6 ⟨rfl, hp9, hg9⟩
        have HP6 := hide hp9
        have HG6 := hide (HG5.out.trans hg9)
        have HSR6 := hide (HSR5.out.go hg9)
        have HRV6 := hide (RV.go HRV5.out.1 HRV5.out.2 hg9)
        have HBS6 := hide (HBS5.out.go hg9)
        have HRWE6 := hide (HRWE5.out.go hg9)
        have HSSE6 := hide (HSSE5.out.go hg9)
        have HBR6 := hide (HBR5.out.go hg9)
        have HRWB6 := hide (HRWB5.out.go hg9)
        have HSSB6 := hide (HSSB5.out.go hg9)
        clear hp9 hg9 HP5 HG5 HT HSR5 HRV5 HBS5 HRWE5 HSSE5 HBR5 HRWB5 HSSB5
        simp only []
        have HC := hide (HLB.out w6 b (Y ++ mrg n ++ [69, 76, 83] ++ [73, 70, 32] ++ prE e 0 ++ [32, 84, 72, 69, 78, 10]) n vb FB HP6.out HRWB6.out HSSB6.out (by have := HLX.out; simp only [List.length_append] at this ⊢; omega) HNB.out)
        unfold slV at HC
        have k7 := HBR6.out.c7
        go_upto_region 21 with fail
        go_wp2_with fail
        refine HC.out.mono ?_
        rintro e9 w7 ⟨rfl, hp9, hg9⟩
        have HP7 := hide hp9
        have HG7 := hide (HG6.out.trans hg9)
        have HSR7 := hide (HSR6.out.go hg9)
        have HRV7 := hide (RV.go HRV6.out.1 HRV6.out.2 hg9)
        have HBS7 := hide (HBS6.out.go hg9)
        have HRWE7 := hide (HRWE6.out.go hg9)
        have HSSE7 := hide (HSSE6.out.go hg9)
        clear hp9 hg9 HP6 HG6 HC HBR6 HRWB6 HSSB6 k7 HSR6 HRV6 HBS6 HRWE6 HSSE6
        simp only []
        have HTX2 : Hid (Y ++ mrg n ++ [69, 76, 83] ++ [73, 70, 32] ++ prE e 0 ++ [32, 84, 72, 69, 78, 10] ++ pr LB (n + 1) true ++ pr A2 n (decide (k + 1 = 0)) ++ RE = TT) := by
          show _ = _
          rw [← HTX.out]
          simp only [List.append_assoc, List.nil_append, List.append_nil]
        clear HTX
        go_wp2
        go_roundw
        case rel => exact ⟨k + 1, A2, F2, _, by go_num, by omega, HP7.out, HG7.out, HSR7.out, HF3.out, HRV7.out, HBS7.out, HRWE7.out, HSSE7.out, HOK2.out, HGS2.out, HDP2.out, HTX2.out⟩
        case measure => simp [intOf]; omega
    · obtain rfl : k = vn := by omega
      have d1 : decide ((k : Int) < (k : Int)) = false := decide_eq_false (by omega)
      have hF0 : F1 = [] := by rw [← HF1.out, HV.out]; exact List.drop_length
      have hA0 : A1 = .nil := by
        rcases HSR0.out.hdA with ⟨z1, z2⟩ | ⟨e, LB, A2, f1, vb, FB, F2, hA2, hF2, het, hrb, hsb, hsr⟩
        · exact z1
        · rw [hF0] at hF2; cases hF2
      have HY : Hid (Y ++ RE = TT) := by
        have := HTX.out
        rw [hA0, show pr .nil n (decide (k = 0)) = [] from rfl, List.append_nil] at this
        exact this
      have HLX : Hid ((Y ++ RE).length ≤ 1099511627776) := by rw [HY.out]; exact HLTT.out
      rw [← HRE.out] at HY HLX
      have k4 := HBS0.out.te.c4
      dsimp only at k4
      clear hF0 hA0 HTX HSR0 HF1 HRV0 HOK HGS HDP HRE
      have HVN : Hid (vl.n = FL.length) := HRWE0.out.1
      have hnil : L.isNil = decide (vl.n = 0) := by
        rcases HSSE0.out.hd with ⟨z1, z2⟩ | ⟨f, F2, hst, hF2, _⟩
        · rw [z1]
          have : vl.n = 0 := by rw [HVN.out, z2]; rfl
          rw [decide_eq_true this]
          rfl
        · have : ¬ vl.n = 0 := by rw [HVN.out, hF2]; simp
          rw [decide_eq_false this]
          cases L with
          | nil => cases hst
          | _ => rfl
      by_cases hz : vl.n = 0
      · rw [hnil, decide_eq_true hz, if_pos rfl, List.nil_append] at HY HLX
        have d5 : decide ((0 : Int) < (vl.n : Int)) = false := decide_eq_false (by omega)
        have d6 : decide (0 < vl.n) = false := decide_eq_false (by omega)
        clear hnil
        have HT := hide (line_any wr b Y n ⟨#[69, 78, 68, 95, 73, 70]⟩ HP.out (by have := HNA.out; omega) (by have := HLX.out; rw [show strL ⟨#[69, 78, 68, 95, 73, 70]⟩ = [69, 78, 68, 95, 73, 70] from rfl]; simp only [List.length_append, mrg_len] at this ⊢; omega))
        rw [show strL ⟨#[69, 78, 68, 95, 73, 70]⟩ = [69, 78, 68, 95, 73, 70] from rfl, List.append_assoc, HY.out] at HT
        go_upto_region 26 with fail
        go_wp2_with fail
        refine HT.out.mono ?_
        rintro e9 w4 ⟨rfl, hp9, hg9⟩
        have HP4 := hide hp9
        have HG4 := hide (HG.out.trans hg9)
        clear hp9 hg9 HP HG HT
        simp only []
        go_wp2
        exact bodyPost_ret (v := .tuple #[]) (by simp [results, Try.results69]) rfl ⟨rfl, HP4.out, HG4.out⟩
      · rw [hnil, decide_eq_false hz, if_neg (by decide)] at HY HLX
        have d5 : decide ((0 : Int) < (vl.n : Int)) = true := decide_eq_true (by omega)
        have d6 : decide (0 < vl.n) = true := decide_eq_true (by omega)
        clear hnil
        have HT := hide (line_any wr b Y n ⟨#[69, 76, 83, 69, 10]⟩ HP.out (by have := HNA.out; omega) (by have := HLX.out; rw [show strL ⟨#[69, 76, 83, 69, 10]⟩ = [69, 76, 83, 69, 10] from rfl]; simp only [List.length_append, mrg_len] at this ⊢; omega))
        rw [show strL ⟨#[69, 76, 83, 69, 10]⟩ = [69, 76, 83, 69, 10] from rfl] at HT
        go_upto_region 24 with fail
        go_wp2_with fail
        refine HT.out.mono ?_
        rintro e9 w4 ⟨rfl, hp9, hg9⟩
        have HP4 := hide hp9
        have HG4 := hide (HG.out.trans hg9)
        have HBS4 := hide (HBS0.out.go hg9)
        have HRWE4 := hide (HRWE0.out.go hg9)
        have HSSE4 := hide (HSSE0.out.go hg9)
        clear hp9 hg9 HP HG HT HBS0 HRWE0 HSSE0 k4
        simp only []
        have HC := hide (HLS.out w4 b (Y ++ mrg n ++ [69, 76, 83, 69, 10]) n vl FL HP4.out HRWE4.out HSSE4.out (by have := HLX.out; simp only [List.length_append] at this ⊢; omega) HNL.out)
        unfold slV at HC
        have k4 := HBS4.out.te.c4
        dsimp only at k4
        go_upto_region 25 with fail
        go_wp2_with fail
        refine HC.out.mono ?_
        rintro e9 w5 ⟨rfl, hp9, hg9⟩
        have HP5 := hide hp9
        have HG5 := hide (HG4.out.trans hg9)
        clear hp9 hg9 HP4 HG4 HC HBS4 HRWE4 HSSE4 k4
        simp only []
        have HT := hide (line_any w5 b (Y ++ mrg n ++ [69, 76, 83, 69, 10] ++ pr L (n + 1) true) n ⟨#[69, 78, 68, 95, 73, 70]⟩ HP5.out (by have := HNA.out; omega) (by have := HLX.out; rw [show strL ⟨#[69, 78, 68, 95, 73, 70]⟩ = [69, 78, 68, 95, 73, 70] from rfl]; simp only [List.length_append, mrg_len] at this ⊢; omega))
        rw [show strL ⟨#[69, 78, 68, 95, 73, 70]⟩ = [69, 78, 68, 95, 73, 70] from rfl, show Y ++ mrg n ++ [69, 76, 83, 69, 10] ++ pr L (n + 1) true ++ mrg n ++ [69, 78, 68, 95, 73, 70] = TT by rw [← HY.out]; simp only [List.append_assoc]] at HT
        go_upto_region 26 with fail
        go_wp2_with fail
        refine HT.out.mono ?_
        rintro e9 w6 ⟨rfl, hp9, hg9⟩
        have HP6 := hide hp9
        have HG6 := hide (HG5.out.trans hg9)
        clear hp9 hg9 HP5 HG5 HT
        simp only []
        go_wp2
        exact bodyPost_ret (v := .tuple #[]) (by simp [results, Try.results69]) rfl ⟨rfl, HP6.out, HG6.out⟩
end Go.Proofs.Qxb6500774a
