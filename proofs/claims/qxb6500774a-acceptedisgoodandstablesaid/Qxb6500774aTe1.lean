import Derived.Test.Qxb6500774aTe0
namespace Go.Proofs.Qxb6500774a
open Go.RowKit
set_option linter.unusedVariables false
set_option linter.unusedSimpArgs false

theorem wrk {k : Nat} (h : k < 9223372036854775807) : IntKind.i64.wrap ((k : Int) + 1) = ((k + 1 : Nat) : Int) := by rw [IntKind.wrap_i64]; omega
theorem wr1 (n : Nat) (h : n ≤ 1000000) : IntKind.i64.wrap ((n : Int) + 1) = (n : Int) + 1 := by rw [IntKind.wrap_i64]; omega
theorem wr2 (n : Nat) (h : n ≤ 1000000) : wrap64 ((n : Int) + 1) = (n : Int) + 1 := by unfold wrap64; omega
theorem wr3 (n : Nat) (h : n ≤ 1000000) : wrap64 ((n : Int) + 1 - 1) = (n : Int) := by unfold wrap64; omega
theorem wr4 (n : Nat) (h : n ≤ 1000000) : IntKind.i64.wrap ((n : Int) + 1 - 1) = (n : Int) := by rw [IntKind.wrap_i64]; omega
set_option linter.unusedSimpArgs false in
set_option linter.unusedVariables false in
set_option maxRecDepth 100000 in
set_option maxHeartbeats 32000000 in
theorem lst_pos (A : S) (hA : SOK A) (w : World) (b : Nat) (X : List Int) (n : Nat) (g vn vc : Nat) (F : List (List Value)) (hpr : PR w b X n) (hv : vn = F.length) (hvc : vn ≤ vc ∧ vc ≤ maxLen) (hgd : g < w.heap.size ∧ ¬ PD w b g) (hrv : RV w g F.flatten) (hss : SS w (PD w b) A false F) (hl : (X ++ pr A (n + 1) true).length ≤ 1099511627776) (hn : n + 1 + sdep A ≤ 1000000) :
    Calls Try.prog 32 #[.pointer (some ⟨b, 0, none⟩), .slice (some ⟨g, 0, none⟩) vn vc] w (PRPost w b (X ++ pr A (n + 1) true) n) := by
  have HL := hide hl
  have HLEN : Hid (∀ V ∈ F, V.length = 10) := hss.len
  have HVC := hide hvc
  have hn0 : n ≤ 1000000 := by omega
  have hw1 := wr1 n hn0
  have hw2 := wr2 n hn0
  have hw3 := wr3 n hn0
  have hw4 := wr4 n hn0
  clear hn0
  have c1 := hpr.c1
  have fz1 := hpr.fz 1
  have HI := hide (hpr.ind ((n : Int) + 1))
  have HV := hide hv
  have HR0 : Hid (∃ (k : Nat) (A1 : S) (F1 : List (List Value)) (Y : List Int), Value.int .i64 0 = .int .i64 k ∧ k ≤ vn ∧ PR (w.setCell ⟨b, 1, none⟩ (.int .i64 ((n : Int) + 1))) b Y ((n : Int) + 1) ∧ PGo b w (w.setCell ⟨b, 1, none⟩ (.int .i64 ((n : Int) + 1))) ∧ SS (w.setCell ⟨b, 1, none⟩ (.int .i64 ((n : Int) + 1))) (PD (w.setCell ⟨b, 1, none⟩ (.int .i64 ((n : Int) + 1))) b) A1 false F1 ∧ F.drop k = F1 ∧ (RV (w.setCell ⟨b, 1, none⟩ (.int .i64 ((n : Int) + 1))) g F.flatten ∧ g < ((w.setCell ⟨b, 1, none⟩ (.int .i64 ((n : Int) + 1)))).heap.size ∧ ¬ PD (w.setCell ⟨b, 1, none⟩ (.int .i64 ((n : Int) + 1))) b g) ∧ SOK A1 ∧ sdep A1 ≤ sdep A ∧ Y ++ pr A1 (n + 1) true = X ++ pr A (n + 1) true) := ⟨0, A, F, X, rfl, Nat.zero_le _, HI.out.1, HI.out.2, hss.go HI.out.2, rfl, hrv.go hgd HI.out.2, hA, Nat.le_refl _, rfl⟩
  have HN1 := hide hn
  clear hpr hrv hss hl hA hv hn hgd hvc
  go_enter Try.func32, Try.ntmps32
  go_wp2_with fail
  generalize hN1 : (n : Int) + 1 = n1 at *
  have HNE := hide hN1
  clear hN1
  generalize w.setCell ⟨b, 1, none⟩ (.int .i64 n1) = w1 at *
  clear c1 fz1 HI
  go_loopw [15] (fun v15 wr => ∃ (k : Nat) (A1 : S) (F1 : List (List Value)) (Y : List Int), v15 = .int .i64 k ∧ k ≤ vn ∧ PR wr b Y n1 ∧ PGo b w wr ∧ SS wr (PD wr b) A1 false F1 ∧ F.drop k = F1 ∧ (RV wr g F.flatten ∧ g < wr.heap.size ∧ ¬ PD wr b g) ∧ SOK A1 ∧ sdep A1 ≤ sdep A ∧ Y ++ pr A1 (n + 1) true = X ++ pr A (n + 1) true) (fun v15 _ => vn - (intOf v15).toNat)
  case atStart => exact HR0.out
  case round =>
    clear HR0
    obtain ⟨k, A1, F1, Y, rfl, hk, h1, h2, h3, h4, h5, h6, h6b, h7⟩ := hrel
    have HDP := hide h6b
    have HP := hide h1
    have HG := hide h2
    have HSS := hide h3
    have HF1 := hide h4
    have HRV := hide h5
    have HOK := hide h6
    have HTX := hide h7
    clear h1 h2 h3 h4 h5 h6 h6b h7
    by_cases hlt : k < vn
    · have d1 : decide ((k : Int) < (vn : Int)) = true := decide_eq_true (by omega)
      have d2 : decide (k < vn) = true := decide_eq_true hlt
      have hwk : IntKind.i64.wrap ((k : Int) + 1) = ((k + 1 : Nat) : Int) := wrk (by have := HVC.out; unfold maxLen at this; clear hw1 hw2 hw3 hw4; omega)
      obtain ⟨V, hV⟩ : ∃ V, F[k]? = some V := ⟨_, List.getElem?_eq_getElem (by rw [← HV.out]; exact hlt)⟩
      have hd : F.drop k = V :: F.drop (k + 1) := by
        obtain ⟨h, e⟩ := List.getElem?_eq_some_iff.1 hV
        rw [List.drop_eq_getElem_cons h, e]
      rcases HSS.out.hd with ⟨z1, z2⟩ | ⟨f, F2, hst, hF2, hss2⟩
      · rw [z2, hd] at HF1; exact absurd HF1.out (by intro q; cases q)
      obtain ⟨hVe, hF3⟩ : V = spL f ∧ F.drop (k + 1) = F2 := by
        have := HF1.out
        rw [hd, hF2] at this
        injection this with q1 q2
        exact ⟨q1, q2⟩
      subst hVe
      have HPRH : Hid (pr A1 (n + 1) true = mrg (n + 1) ++ hdT A1 (n + 1) ++ [59, 10] ++ pr A1.tl (n + 1) true) := pr_head A1 (n + 1) true hst
      have HSTC := hide (HOK.out.hd hst)
      have HS2 : Hid (SS wr (PD wr b) A1 false (spL f :: F2)) := by
        have := HSS.out
        rw [hF2] at this
        exact this
      have HTL := hide hss2
      have HF3 := hide hF3
      rw [HPRH.out] at HTX
      have HLX : Hid ((Y ++ (mrg (n + 1) ++ hdT A1 (n + 1) ++ [59, 10] ++ pr A1.tl (n + 1) true)).length ≤ 1099511627776) := by rw [HTX.out]; exact HL.out
      have e0 := HRV.out.1.at HLEN.out hV (j := 0) (by decide) (v := .int .i64 f.k) rfl
      have e1 := HRV.out.1.at HLEN.out hV (j := 1) (by decide) (v := .string f.x) rfl
      have e2 := HRV.out.1.at HLEN.out hV (j := 2) (by decide) (v := .slice f.ex.q f.ex.n f.ex.c) rfl
      have e3 := HRV.out.1.at HLEN.out hV (j := 3) (by decide) (v := .slice f.ar.q f.ar.n f.ar.c) rfl
      have e4 := HRV.out.1.at HLEN.out hV (j := 4) (by decide) (v := .slice f.el.q f.el.n f.el.c) rfl
      have e5 := HRV.out.1.at HLEN.out hV (j := 5) (by decide) (v := .slice f.bo.q f.bo.n f.bo.c) rfl
      have e6 := HRV.out.1.at HLEN.out hV (j := 6) (by decide) (v := .slice f.ag.q f.ag.n f.ag.c) rfl
      have e7 := HRV.out.1.at HLEN.out hV (j := 7) (by decide) (v := .slice f.co.q f.co.n f.co.c) rfl
      have e8 := HRV.out.1.at HLEN.out hV (j := 8) (by decide) (v := .int .i64 f.li) rfl
      have e9 := HRV.out.1.at HLEN.out hV (j := 9) (by decide) (v := .int .i64 f.cl) rfl
      rw [Nat.add_zero] at e0
      clear hd hst hF2 hss2 hF3 hV HSS HF1 HPRH HOK
      have ex2 : Ex (fun _ => False) wr (wr.alloc (spO f)) := (Ex.refl _ _).alloc _
      have HP2 := hide (HP.out.low ex2)
      have HB2 := hide (BS.new HP.out f)
      have HG2 := hide (HG.out.trans HP2.out.2)
      have HS3 := hide (HS2.out.go HP2.out.2)
      have HTL3 := hide (HTL.out.go HP2.out.2)
      have HRV3 := hide (RV.go HRV.out.1 HRV.out.2 HP2.out.2)
      clear ex2 HS2 HTL HRV HG HP
      obtain ⟨w2, hw2'⟩ : ∃ x, wr.alloc (spO f) = x := ⟨_, rfl⟩
      rw [hw2'] at HP2 HB2 HG2 HS3 HTL3 HRV3
      have HW2 := hide hw2'
      unfold spO at HW2
      clear hw2'
      go_upto_region 4 with fail
      rw [HW2.out]
      clear HW2 e0 e1 e2 e3 e4 e5 e6 e7 e8 e9
      generalize wr.heap.size = r5 at *
      have HLI : Hid (Calls Try.prog 68 #[.pointer (some ⟨b, 0, none⟩), .string ⟨#[]⟩] w2 (PRPost w2 b (Y ++ mrg (n + 1)) n1)) := by
        have h := line_any w2 b Y (n + 1) ⟨#[]⟩ (by rw [show (((n + 1 : Nat)) : Int) = n1 from HNE.out]; exact HP2.out.1) (by have := HN1.out; omega) (by have := HLX.out; simp only [List.length_append, mrg_len] at this; rw [show strL ⟨#[]⟩ = [] from rfl]; simp only [List.length_nil]; omega)
        rw [show strL ⟨#[]⟩ = [] from rfl, List.append_nil, show (((n + 1 : Nat)) : Int) = n1 from HNE.out] at h
        exact h
      go_wp2_with fail
      refine HLI.out.mono ?_
      rintro e9 w3 ⟨rfl, hp3, hg3⟩
      have HP3 := hide hp3
      have HG3 := hide (HG2.out.trans hg3)
      have HB3 := hide (HB2.out.go hg3)
      have HS4 := hide (HS3.out.go hg3)
      have HTL4 := hide (HTL3.out.go hg3)
      have HRV4 := hide (RV.go HRV3.out.1 HRV3.out.2 hg3)
      clear hp3 hg3 HP2 HG2 HB2 HS3 HTL3 HRV3 HLI
      simp only []
      have HC : Hid (Calls Try.prog 69 #[.pointer (some ⟨b, 0, none⟩), spV f] w3 (PRPost w3 b (Y ++ mrg (n + 1) ++ hdT A1 (n + 1)) n1)) := by
        have h := HSTC.out.1 w3 b (Y ++ mrg (n + 1)) (n + 1) f F2 (by rw [show (((n + 1 : Nat)) : Int) = n1 from HNE.out]; exact HP3.out) HS4.out (by have := HLX.out; simp only [List.length_append] at this ⊢; omega) (by have := HN1.out; have := HDP.out; omega)
        rw [show (((n + 1 : Nat)) : Int) = n1 from HNE.out] at h
        exact h
      unfold spV at HC
      have t0 := HB3.out.te.c0
      have t1 := HB3.out.te.c1
      have t2 := HB3.out.te.c2
      have t3 := HB3.out.te.c3
      have t4 := HB3.out.te.c4
      have t5 := HB3.out.te.c5
      have t6 := HB3.out.te.c6
      have t7 := HB3.out.te.c7
      have t8 := HB3.out.te.c8
      have t9 := HB3.out.te.c9
      go_upto_region 5 with fail
      go_wp2_with fail
      refine HC.out.mono ?_
      rintro e9 w4 ⟨rfl, hp4, hg4⟩
      have HP4 := hide hp4
      have HG4 := hide (HG3.out.trans hg4)
      have HTL5 := hide (HTL4.out.go hg4)
      have HRV5 := hide (RV.go HRV4.out.1 HRV4.out.2 hg4)
      clear hp4 hg4 HP3 HG3 HB3 HS4 HTL4 HRV4 HC t0 t1 t2 t3 t4 t5 t6 t7 t8 t9
      simp only []
      have HT := hide (text_any w4 b (Y ++ mrg (n + 1) ++ hdT A1 (n + 1)) n1 ⟨#[59, 10]⟩ HP4.out (by have := HLX.out; rw [show strL ⟨#[59, 10]⟩ = [59, 10] from rfl]; simp only [List.length_append] at this ⊢; omega))
      rw [show strL ⟨#[59, 10]⟩ = [59, 10] from rfl] at HT
      go_upto_region 6 with fail
      go_wp2_with fail
      refine HT.out.mono ?_
      rintro e9 w5 ⟨rfl, hp5, hg5⟩
      have HP5 := hide hp5
      have HG5 := hide (HG4.out.trans hg5)
      have HTL6 := hide (HTL5.out.go hg5)
      have HRV6 := hide (RV.go HRV5.out.1 HRV5.out.2 hg5)
      have HTX2 : Hid (Y ++ mrg (n + 1) ++ hdT A1 (n + 1) ++ [59, 10] ++ pr A1.tl (n + 1) true = X ++ pr A (n + 1) true) := by
        show _ = _
        rw [← HTX.out]
        simp only [List.append_assoc]
      clear hp5 hg5 HP4 HG4 HTL5 HRV5 HT HTX
      simp only []
      go_wp2
      go_roundw
      case rel => exact ⟨k + 1, A1.tl, F2, _, by go_num, by omega, HP5.out, HG5.out, HTL6.out, HF3.out, HRV6.out, HSTC.out.2, Nat.le_trans (sdep_tl A1) HDP.out, HTX2.out⟩
      case measure => simp [intOf]; omega
    · obtain rfl : k = vn := by omega
      have d1 : decide ((k : Int) < (k : Int)) = false := decide_eq_false (by omega)
      have hF0 : F1 = [] := by rw [← HF1.out, HV.out]; exact List.drop_length
      have hA0 : A1 = .nil := by
        rcases HSS.out.hd with ⟨z1, z2⟩ | ⟨f, F2, hst, hF2, hss2⟩
        · exact z1
        · rw [hF0] at hF2; cases hF2
      have HY : Hid (Y = X ++ pr A (n + 1) true) := by
        have := HTX.out
        rw [hA0] at this
        rw [← this]
        exact (List.append_nil Y).symm
      have c1 := HP.out.c1
      have fz1 := HP.out.fz 1
      have HI := hide (HP.out.ind (n : Int))
      rw [HY.out] at HI
      have HG2 := hide (HG.out.trans HI.out.2)
      clear hF0 hA0 HTX HY HP HG HSS HF1 HRV HOK
      go_wp2
      exact bodyPost_ret (v := .tuple #[]) (by simp [results, Try.results32]) rfl ⟨rfl, HI.out.1, HG2.out⟩
set_option linter.unusedSimpArgs false in
set_option linter.unusedVariables false in
set_option maxRecDepth 100000 in
set_option maxHeartbeats 32000000 in
theorem lst_zero (w : World) (b : Nat) (X : List Int) (n : Nat) (q : Option Addr) (vc : Nat) (hpr : PR w b X n) (hn : n + 1 ≤ 1000000) :
    Calls Try.prog 32 #[.pointer (some ⟨b, 0, none⟩), .slice q 0 vc] w (PRPost w b X n) := by
  have hn0 : n ≤ 1000000 := by omega
  have hw1 := wr1 n hn0
  have hw2 := wr2 n hn0
  have hw3 := wr3 n hn0
  have hw4 := wr4 n hn0
  clear hn0
  have c1 := hpr.c1
  have fz1 := hpr.fz 1
  have HI := hide (hpr.ind ((n : Int) + 1))
  have HP := hide hpr
  clear hpr
  go_enter Try.func32, Try.ntmps32
  go_wp2_with fail
  have HP1 := hide HI.out.1
  have HG1 := hide HI.out.2
  generalize hN1 : (n : Int) + 1 = n1 at *
  have HNE := hide hN1
  clear hN1
  generalize w.setCell ⟨b, 1, none⟩ (.int .i64 n1) = w1 at *
  clear c1 fz1 HI HP
  go_loopw [15] (fun v15 wr => v15 = .int .i64 0 ∧ w1 = wr) (fun _ _ => 0)
  case atStart => exact ⟨rfl, rfl⟩
  case round =>
    obtain ⟨rfl, rfl⟩ := hrel
    have c1 := HP1.out.c1
    have fz1 := HP1.out.fz 1
    have HI := hide (HP1.out.ind (n : Int))
    have HG2 := hide (HG1.out.trans HI.out.2)
    clear HP1 HG1
    go_wp2
    exact bodyPost_ret (v := .tuple #[]) (by simp [results, Try.results32]) rfl ⟨rfl, HI.out.1, HG2.out⟩
theorem lst_of (A : S) (hA : SOK A) : LST A := by
  intro w b X n v F hpr hrw hss hl hn
  obtain ⟨q, vn, vc⟩ := v
  have hv : vn = F.length := hrw.1
  by_cases h0 : vn = 0
  · subst h0
    have hF : F = [] := List.eq_nil_of_length_eq_zero hv.symm
    have hA0 : A = .nil := by
      rcases hss.hd with ⟨z1, z2⟩ | ⟨f, F2, hst, hF2, hss2⟩
      · exact z1
      · rw [hF] at hF2; cases hF2
    subst hA0
    rw [show X ++ pr .nil (n + 1) true = X from List.append_nil X]
    exact lst_zero w b X n q vc hpr (by omega)
  · obtain ⟨g, hq, hgd, hrv⟩ := hrw.2.2 (Nat.pos_of_ne_zero h0)
    have hq : q = some ⟨g, 0, none⟩ := hq
    subst hq
    exact lst_pos A hA w b X n g vn vc F hpr hv hrw.2.1 hgd hrv hss hl hn
end Go.Proofs.Qxb6500774a
