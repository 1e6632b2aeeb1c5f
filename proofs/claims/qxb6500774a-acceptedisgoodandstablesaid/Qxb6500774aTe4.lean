import Derived.Test.Qxb6500774aTe3
namespace Go.Proofs.Qxb6500774a
open Go.RowKit
set_option linter.unusedVariables false
set_option linter.unusedSimpArgs false

set_option linter.unusedSimpArgs false in
set_option linter.unusedVariables false in
set_option maxRecDepth 100000 in
set_option maxHeartbeats 32000000 in
theorem st_call0 (x : ByteArray) (l c : Int) (r : S)  : STC (.call x [] l c r) := by
  intro w b X n f F hpr hss hl hn
  obtain ⟨_, vv, A, F', hF, hrw, hpa, _⟩ := hss
  injection hF with hf1 hF
  have hf := spL_inj hf1
  subst hf
  obtain ⟨vq, vn, vc⟩ := vv
  have hn0 : vn = 0 := by
    have h1 : A.length = 0 := hpa.len.1
    have h2 : vn = A.length := hrw.1
    omega
  subst hn0
  have HSX0 : Hid (strL (x ++ ⟨#[40]⟩) = strL x ++ [40]) := by show _ = _; rw [strL_app]; rfl
  have hsz1 : ¬ 9223372036854775807 < x.size + 1 := by
    have := hl
    unfold hdT at this
    simp only [List.length_append, ← strL_len] at this
    omega
  have HL := hide hl
  have HN := hide hn
  have ex1 : Ex (fun _ => False) w (w.alloc (spO ⟨1, x, nl, nl, nl, nl, ⟨vq, 0, vc⟩, nl, l, c⟩)) := (Ex.refl _ _).alloc _
  have HP1 := hide (hpr.low ex1)
  have HB1 := hide (BS.new hpr ⟨1, x, nl, nl, nl, nl, ⟨vq, 0, vc⟩, nl, l, c⟩)
  clear hpr hl hn ex1 hf1 hF hrw hpa
  obtain ⟨w1, hw1⟩ : ∃ wz, w.alloc (spO ⟨1, x, nl, nl, nl, nl, ⟨vq, 0, vc⟩, nl, l, c⟩) = wz := ⟨_, rfl⟩
  rw [hw1] at HP1 HB1 
  have HW1 := hide hw1
  unfold spO nl at HW1
  dsimp only at HW1
  clear hw1
  unfold spV nl
  dsimp only
  obtain ⟨TT, hTT⟩ : ∃ T, X ++ hdT (.call x [] l c r) n = T := ⟨_, rfl⟩
  have HTT := hide hTT
  rw [hTT]
  clear hTT
  unfold hdT at HTT HL
  go_enter Try.func69, Try.ntmps69
  go_upto_region 1 with fail
  rw [HW1.out]
  generalize w.heap.size = r3 at *
  clear HW1
  have k0 := HB1.out.te.c0
  dsimp only at k0
  have HG1 := hide HP1.out.2
  have HT := hide (text_any w1 b X n (x ++ ⟨#[40]⟩) HP1.out.1 (by have := HL.out; rw [HSX0.out]; simp only [List.length_append] at this ⊢; omega))
  rw [HSX0.out] at HT
  have k1 := HB1.out.te.c1
  dsimp only at k1
  go_upto_region 6 with fail
  go_wp2_with fail
  refine HT.out.mono ?_
  rintro e9 w2 ⟨rfl, hp9, hg9⟩
  have HP2 := hide hp9
  have HG2 := hide (HG1.out.trans hg9)
  have HB2 := hide (HB1.out.go hg9)
  clear hp9 hg9 HP1 HG1 HB1 HT k0 k1
  simp only []
  have k6 := HB2.out.te.c6
  dsimp only at k6
  go_wp2_with fail
  clear k6
  go_loopw [36] (fun v36 wr => v36 = .int .i64 0 ∧ w2 = wr) (fun _ _ => 0)
  case atStart => exact ⟨rfl, rfl⟩
  case round =>
    obtain ⟨rfl, rfl⟩ := hrel
    have HT := hide (text_any w2 b (X ++ (strL x ++ [40])) n ⟨#[41]⟩ HP2.out (by have := HL.out; rw [show strL ⟨#[41]⟩ = [41] from rfl]; simp only [List.length_append] at this ⊢; omega))
    rw [show strL ⟨#[41]⟩ = [41] from rfl, show X ++ (strL x ++ [40]) ++ [41] = TT by rw [← HTT.out, show prA [] true = [] from rfl]; simp only [List.append_assoc, List.append_nil]] at HT
    go_upto_region 12 with fail
    go_wp2_with fail
    refine HT.out.mono ?_
    rintro e9 w4 ⟨rfl, hp9, hg9⟩
    have HP4 := hide hp9
    have HG4 := hide (HG2.out.trans hg9)
    clear hp9 hg9 HP2 HG2 HT
    simp only []
    go_wp2
    exact bodyPost_ret (v := .tuple #[]) (by simp [results, Try.results69]) rfl ⟨rfl, HP4.out, HG4.out⟩
theorem prC_go (y : ByteArray) (e : E) (L : List (ByteArray × E)) (k : Nat) : prC ((y, e) :: L) (decide (k = 0)) = (if decide (k = 0) = true then [] else [44, 32]) ++ strL y ++ (if y.toList = [] then [] else [32]) ++ prE e 0 ++ prC L (decide (k + 1 = 0)) := by
  rw [show decide (k + 1 = 0) = false by simp]
  rfl
set_option linter.unusedSimpArgs false in
set_option linter.unusedVariables false in
set_option maxRecDepth 100000 in
set_option maxHeartbeats 32000000 in
theorem st_rung (e : E) (cs : List (ByteArray × E)) (l c : Int) (r : S) (hge : gE e) (hga : ∀ y ∈ cs, gE y.2) (hne : cs ≠ []) : STC (.rung e cs l c r) := by
  intro w b X n f F hpr hss hl hn
  obtain ⟨_, g, f0, vv, A, F', hF, hg0, hk0, he0, hrw, hpa, _⟩ := hss
  injection hF with hf1 hF
  have hf := spL_inj hf1
  subst hf
  obtain ⟨vq, vn, vc⟩ := vv
  have HV : Hid (vn = A.length) := hrw.1
  have HVC : Hid (vn ≤ vc ∧ vc ≤ maxLen) := hrw.2.1
  have hn0 : 0 < vn := by
    have h1 := hpa.len.1
    have h2 := HV.out
    cases cs with
    | nil => exact absurd rfl hne
    | cons z L => simp at h1; omega
  obtain ⟨g2, hgq, hgd, hrv⟩ := hrw.2.2 hn0
  have hgq : vq = some ⟨g2, 0, none⟩ := hgq
  subst hgq
  have HLEN : Hid (∀ V ∈ A, V.length = 8) := hpa.len.2
  have HGA := hide hga
  have HI0 := hide (pexpr_any e hge)
  have HL := hide hl
  have HN := hide hn
  have ex1 : Ex (fun _ => False) w (w.alloc (spO ⟨4, nb, ⟨some ⟨g, 0, none⟩, 1, 1⟩, nl, nl, nl, nl, ⟨some ⟨g2, 0, none⟩, vn, vc⟩, l, c⟩)) := (Ex.refl _ _).alloc _
  have HP1 := hide (hpr.low ex1)
  have HPA1 := hide (hpa.go (hpr.low ex1).2)
  have HRV1 := hide (RV.go hrv hgd (hpr.low ex1).2)
  have HK1 := hide (RC.go hk0 hg0 (hpr.low ex1).2)
  have HE1 := hide (he0.go (hpr.low ex1).2)
  have HB1 := hide (BS.new hpr ⟨4, nb, ⟨some ⟨g, 0, none⟩, 1, 1⟩, nl, nl, nl, nl, ⟨some ⟨g2, 0, none⟩, vn, vc⟩, l, c⟩)
  clear hpr hl hn ex1 hf1 hF hga hne hge hrw hpa hrv hgd hn0 hg0 hk0 he0
  obtain ⟨w1, hw1⟩ : ∃ wz, w.alloc (spO ⟨4, nb, ⟨some ⟨g, 0, none⟩, 1, 1⟩, nl, nl, nl, nl, ⟨some ⟨g2, 0, none⟩, vn, vc⟩, l, c⟩) = wz := ⟨_, rfl⟩
  rw [hw1] at HP1 HB1 HPA1 HRV1 HK1 HE1
  have HW1 := hide hw1
  unfold spO nl at HW1
  dsimp only at HW1
  clear hw1
  unfold spV nl
  dsimp only
  obtain ⟨TT, hTT⟩ : ∃ T, X ++ hdT (.rung e cs l c r) n = T := ⟨_, rfl⟩
  have HTT := hide hTT
  rw [hTT]
  clear hTT
  unfold hdT at HTT HL
  go_enter Try.func69, Try.ntmps69
  go_upto_region 1 with fail
  rw [HW1.out]
  generalize w.heap.size = r3 at *
  clear HW1
  have k0 := HB1.out.te.c0
  dsimp only at k0
  have HG1 := hide HP1.out.2
  have HC := hide (HI0.out w1 b X n ⟨#[82, 85, 78, 71, 32]⟩ f0 0 HP1.out.1 HE1.out (by have := HL.out; rw [show strL ⟨#[82, 85, 78, 71, 32]⟩ = [82, 85, 78, 71, 32] from rfl]; simp only [List.length_append] at this ⊢; omega) (by decide) (by decide))
  rw [show strL ⟨#[82, 85, 78, 71, 32]⟩ = [82, 85, 78, 71, 32] from rfl] at HC
  unfold xV at HC
  have q0 := HK1.out.1.c0
  have q1 := HK1.out.1.c1
  have q2 := HK1.out.1.c2
  have q3 := HK1.out.1.c3
  have q4 := HK1.out.1.c4
  have q5 := HK1.out.1.c5
  have q6 := HK1.out.1.c6
  have k2 := HB1.out.te.c2
  dsimp only at k2
  go_upto_region 34 with fail
  go_wp2_with fail
  refine HC.out.mono ?_
  rintro e9 w2 ⟨rfl, hp9, hg9⟩
  have HP2 := hide hp9
  have HG2 := hide (HG1.out.trans hg9)
  have HB2 := hide (HB1.out.go hg9)
  have HPA2 := hide (HPA1.out.go hg9)
  have HRV2 := hide (RV.go HRV1.out.1 HRV1.out.2 hg9)
  clear hp9 hg9 HP1 HG1 HB1 HPA1 HRV1 HE1 HK1 HC k0 k2 q0 q1 q2 q3 q4 q5 q6
  simp only []
  have HT := hide (text_any w2 b (X ++ [82, 85, 78, 71, 32] ++ prE e 0) n ⟨#[32, 61, 62, 32]⟩ HP2.out (by have := HL.out; rw [show strL ⟨#[32, 61, 62, 32]⟩ = [32, 61, 62, 32] from rfl]; simp only [List.length_append] at this ⊢; omega))
  rw [show strL ⟨#[32, 61, 62, 32]⟩ = [32, 61, 62, 32] from rfl] at HT
  go_upto_region 35 with fail
  go_wp2_with fail
  refine HT.out.mono ?_
  rintro e9 w3a ⟨rfl, hp9, hg9⟩
  have HP3 := hide hp9
  have HG3 := hide (HG2.out.trans hg9)
  have HB3 := hide (HB2.out.go hg9)
  have HPA3 := hide (HPA2.out.go hg9)
  have HRV3 := hide (RV.go HRV2.out.1 HRV2.out.2 hg9)
  clear hp9 hg9 HP2 HG2 HB2 HPA2 HRV2 HT
  simp only []
  have k7 := HB3.out.te.c7
  dsimp only at k7
  have HR0 : Hid (∃ (k : Nat) (L1 : List (ByteArray × E)) (A1 : List (List Value)) (Y : List Int), Value.int .i64 0 = .int .i64 k ∧ k ≤ vn ∧ PR w3a b Y n ∧ PGo b w w3a ∧ PA w3a (PD w3a b) L1 A1 ∧ A.drop k = A1 ∧ (RV w3a g2 A.flatten ∧ g2 < w3a.heap.size ∧ ¬ PD w3a b g2) ∧ (∀ y ∈ L1, gE y.2) ∧ Y ++ prC L1 (decide (k = 0)) = TT) := ⟨0, cs, A, _, rfl, Nat.zero_le _, HP3.out, HG3.out, HPA3.out, rfl, HRV3.out, HGA.out, by rw [← HTT.out]; simp only [List.append_assoc]; rfl⟩
  clear HP3 HG3 HPA3 HRV3
  go_wp2_with fail
  clear k7
  go_loopw [130] (fun v36 wr => ∃ (k : Nat) (L1 : List (ByteArray × E)) (A1 : List (List Value)) (Y : List Int), v36 = .int .i64 k ∧ k ≤ vn ∧ PR wr b Y n ∧ PGo b w wr ∧ PA wr (PD wr b) L1 A1 ∧ A.drop k = A1 ∧ (RV wr g2 A.flatten ∧ g2 < wr.heap.size ∧ ¬ PD wr b g2) ∧ (∀ y ∈ L1, gE y.2) ∧ Y ++ prC L1 (decide (k = 0)) = TT) (fun v36 _ => vn - (intOf v36).toNat)
  case atStart => exact HR0.out
  case round =>
    clear HR0
    obtain ⟨k, L1, F1, Y, rfl, hk, h1, h2, h3, h4, h5, h6, h7⟩ := hrel
    have HP := hide h1
    have HG := hide h2
    have HPA := hide h3
    have HF1 := hide h4
    have HRV := hide h5
    have HGE0 := hide h6
    have HTX := hide h7
    clear h1 h2 h3 h4 h5 h6 h7
    by_cases hlt : k < vn
    · have d1 : decide ((k : Int) < (vn : Int)) = true := decide_eq_true (by omega)
      have d2 : decide (k < vn) = true := decide_eq_true hlt
      have hwk : IntKind.i64.wrap ((k : Int) + 1) = ((k + 1 : Nat) : Int) := wrk (by have := HVC.out; unfold maxLen at this; omega)
      obtain ⟨V, hV⟩ : ∃ V, A[k]? = some V := ⟨_, List.getElem?_eq_getElem (by rw [← HV.out]; exact hlt)⟩
      have hd : A.drop k = V :: A.drop (k + 1) := by
        obtain ⟨h, e⟩ := List.getElem?_eq_some_iff.1 hV
        rw [List.drop_eq_getElem_cons h, e]
      rcases HPA.out.hd with ⟨z1, z2⟩ | ⟨y, e1, f1, F2, L2, hL2, hF2, het, hpa2⟩
      · rw [z2, hd] at HF1; exact absurd HF1.out (by intro q; cases q)
      obtain ⟨hVe, hF3⟩ : V = .string y :: xL f1 ∧ A.drop (k + 1) = F2 := by
        have := HF1.out
        rw [hd, hF2] at this
        injection this with q1 q2
        exact ⟨q1, q2⟩
      subst hVe
      subst hL2
      have HF3 := hide hF3
      have HGE : Hid (∀ y ∈ L2, gE y.2) := fun z hz => HGE0.out z (List.mem_cons_of_mem _ hz)
      have HI1 := hide (pexpr_any e1 (HGE0.out _ (List.mem_cons_self ..)))
      rw [prC_go] at HTX
      have HLX : Hid ((Y ++ ((if decide (k = 0) = true then [] else [44, 32]) ++ strL y ++ (if y.toList = [] then [] else [32]) ++ prE e1 0 ++ prC L2 (decide (k + 1 = 0)))).length ≤ 1099511627776) := by
        rw [HTX.out, ← HTT.out]
        exact HL.out
      have HE0 := hide het
      have HPA0 := hide hpa2
      have e0 := HRV.out.1.at HLEN.out hV (j := 0) (by decide) (v := .string y) rfl
      have e1 := HRV.out.1.at HLEN.out hV (j := 1) (by decide) (v := .int .i64 f1.k) rfl
      have e2 := HRV.out.1.at HLEN.out hV (j := 2) (by decide) (v := .string f1.x) rfl
      have e3 := HRV.out.1.at HLEN.out hV (j := 3) (by decide) (v := .int .i64 f1.n) rfl
      have e4 := HRV.out.1.at HLEN.out hV (j := 4) (by decide) (v := .string f1.m) rfl
      have e5 := HRV.out.1.at HLEN.out hV (j := 5) (by decide) (v := .slice f1.q f1.ql f1.qc) rfl
      have e6 := HRV.out.1.at HLEN.out hV (j := 6) (by decide) (v := .int .i64 f1.li) rfl
      have e7 := HRV.out.1.at HLEN.out hV (j := 7) (by decide) (v := .int .i64 f1.co) rfl
      rw [Nat.add_zero] at e0
      have ex2 : Ex (fun _ => False) wr (wr.alloc (.cells #[.string y, .int .i64 f1.k, .string f1.x, .int .i64 f1.n, .string f1.m, .slice f1.q f1.ql f1.qc, .int .i64 f1.li, .int .i64 f1.co] 121)) := (Ex.refl _ _).alloc _
      have HP2 := hide (HP.out.low ex2)
      have HA2 := hide (BA.new HP.out y f1 121)
      have HG2 := hide (HG.out.trans HP2.out.2)
      have HE2 := hide (HE0.out.go HP2.out.2)
      have HPA2 := hide (HPA0.out.go HP2.out.2)
      have HRV2 := hide (RV.go HRV.out.1 HRV.out.2 HP2.out.2)
      clear hd hF2 het hpa2 hF3 hV HPA HF1 HGE0 HE0 HPA0 HRV HP HG ex2
      go_upto_region 39 with fail
      generalize wr.alloc (.cells #[.string y, .int .i64 f1.k, .string f1.x, .int .i64 f1.n, .string f1.m, .slice f1.q f1.ql f1.qc, .int .i64 f1.li, .int .i64 f1.co] 121) = w3 at *
      clear e0 e1 e2 e3 e4 e5 e6 e7
      generalize wr.heap.size = r5 at *
      obtain ⟨cm, hcm⟩ : ∃ c, (if k = 0 then ⟨#[]⟩ else ⟨#[44, 32]⟩ : ByteArray) = c := ⟨_, rfl⟩
      have HCM : Hid (strL cm = if decide (k = 0) = true then [] else [44, 32]) := by rw [← hcm]; exact cm_len k
      have HSX : Hid (strL (cm ++ y) = (if decide (k = 0) = true then [] else [44, 32]) ++ strL y) := by show _ = _; rw [strL_app, HCM.out]
      have hs1 : ¬ 9223372036854775807 < cm.size + y.size := by
        have := HLX.out
        rw [← HCM.out] at this
        simp only [List.length_append, ← strL_len] at this
        omega
      have HPd := hide (HP2.out.1.low ((Ex.refl (fun _ => False) w3).drew))
      have HAd := hide (HA2.out.go HPd.out.2)
      have HGd := hide (HG2.out.trans HPd.out.2)
      have HEd := hide (HE2.out.go HPd.out.2)
      have HPAd := hide (HPA2.out.go HPd.out.2)
      have HRVd := hide (RV.go HRV2.out.1 HRV2.out.2 HPd.out.2)
      have HC := hide (text_any w3.drew b Y n (cm ++ y) HPd.out.1 (by have := HLX.out; rw [HSX.out]; simp only [List.length_append] at this ⊢; omega))
      clear HP2 HA2 HG2 HE2 HPA2 HRV2
      refine wp_region_until (fun w6 => w6.cell? ⟨r5, 0, none⟩ = some (.string y)) 6 (by kernel_rfl) (HAd.out.c0) (fun hHeld => ?_)
      generalize w3.drew = wd at *
      refine wpAnyU_take (i := 0) (v := ?_) [6] rfl (by kernel_rfl) (by kernel_rfl) (by kernel_rfl) (by kernel_rfl) (fun _ _ _ h => h) (Or.inl ⟨by rfl, ?_⟩) (by assumption) ?_
      rotate_left
      · (intro w hSw; (try dsimp only at hSw); (skip); go_simp; try (with_reducible rfl))
      try simp only [Act.put, List.getElem_toArray, List.getElem_cons_zero, List.getElem_cons_succ, List.setIfInBounds_toArray, List.set_cons_zero, List.set_cons_succ]
      refine wpAnyU_take (i := 1) (v := ?_) [2, 6] rfl (by kernel_rfl) (by kernel_rfl) (by kernel_rfl) (by kernel_rfl) (fun _ _ _ h => h) (Or.inl ⟨by rfl, ?_⟩) (by assumption) ?_
      rotate_left
      · (intro w hSw; (try dsimp only at hSw); (skip); go_simp; try (with_reducible rfl))
      try simp only [Act.put, List.getElem_toArray, List.getElem_cons_zero, List.getElem_cons_succ, List.setIfInBounds_toArray, List.set_cons_zero, List.set_cons_succ]
      refine wpAnyU_take (i := 3) (v := ?_) [4, 5, 6] rfl (by kernel_rfl) (by kernel_rfl) (by kernel_rfl) (by kernel_rfl) (fun _ _ _ h => h) (Or.inl ⟨by rfl, ?_⟩) (by assumption) ?_
      rotate_left
      · (intro w hSw; (try dsimp only at hSw); (skip); go_simp; try (with_reducible rfl))
      try simp only [Act.put, List.getElem_toArray, List.getElem_cons_zero, List.getElem_cons_succ, List.setIfInBounds_toArray, List.set_cons_zero, List.set_cons_succ]
      refine wpAnyU_take (i := 4) (v := ?_) [5, 6] rfl (by kernel_rfl) (by kernel_rfl) (by kernel_rfl) (by kernel_rfl) (fun _ _ _ h => h) (Or.inl ⟨by rfl, ?_⟩) (by assumption) ?_
      rotate_left
      · (intro w hSw; (try dsimp only at hSw); (have z0 := hSw); go_simp; try (with_reducible rfl))
      try simp only [Act.put, List.getElem_toArray, List.getElem_cons_zero, List.getElem_cons_succ, List.setIfInBounds_toArray, List.set_cons_zero, List.set_cons_succ]
      refine wpAnyU_ready (rs := [2]) (by kernel_rfl) (by simp) ?_
      refine (AllReadyU.cons rfl (fun K hK => ?_) AllReadyU.nil)
      · refine step_call rfl 84 _ (by simp [go_sem]) (comma_any wd k) ?_
        rintro e9 wq ⟨rfl, hwq⟩
        subst wq
        rw [hcm]
        refine ⟨_, rfl, ?_⟩
        refine hK.out _ _ ?_ (fun hHeld => ?_)
        · exact HAd.out.c0
        clear hK K
        try simp only [Act.put, List.getElem_toArray, List.getElem_cons_zero, List.getElem_cons_succ, List.setIfInBounds_toArray, List.set_cons_zero, List.set_cons_succ]
        refine wpAnyU_take (i := 5) (v := ?_) [6] rfl (by kernel_rfl) (by kernel_rfl) (by kernel_rfl) (by kernel_rfl) (fun _ _ _ h => h) (Or.inl ⟨by rfl, ?_⟩) (by assumption) ?_
        rotate_left
        · (intro w hSw; (try dsimp only at hSw); (skip); go_simp; try (with_reducible rfl))
        try simp only [Act.put, List.getElem_toArray, List.getElem_cons_zero, List.getElem_cons_succ, List.setIfInBounds_toArray, List.set_cons_zero, List.set_cons_succ]
        refine wpAnyU_ready (rs := [6]) (by kernel_rfl) (by simp) ?_
        refine AllReadyU.last rfl (fun K hK => ?_)
        refine step_call rfl 29 _ (by simp [go_sem]) HC.out ?_
        rintro e9 w4 ⟨rfl, hp9, hg9⟩
        have HP4 := hide hp9
        have HG4 := hide (HGd.out.trans hg9)
        have HA4 := hide (HAd.out.go hg9)
        have HE4 := hide (HEd.out.go hg9)
        have HPA4 := hide (HPAd.out.go hg9)
        have HRV4 := hide (RV.go HRVd.out.1 HRVd.out.2 hg9)
        clear hp9 hg9 HPd HGd HAd HEd HC HPAd HRVd
        refine ⟨_, rfl, ?_⟩
        refine hK.out _ _ ?_
        clear hK K
        try simp only [Act.put, List.getElem_toArray, List.getElem_cons_zero, List.getElem_cons_succ, List.setIfInBounds_toArray, List.set_cons_zero, List.set_cons_succ]
        refine wpAnyU_done (by kernel_rfl) ?_ _
        rw [HSX.out] at HP4
        have a0 := HA4.out.c0
        by_cases hy : y.toList = []
        · have dy : (y.toList == []) = true := by rw [hy]; rfl
          have dy2 : (y.toList != []) = false := by rw [bne, dy]; rfl
          rw [if_pos hy] at HTX HLX
          clear hy
          have HC := hide (HI1.out w4 b (Y ++ ((if decide (k = 0) = true then [] else [44, 32]) ++ strL y)) n ⟨#[]⟩ f1 0 HP4.out HE4.out (by have := HLX.out; rw [show strL ⟨#[]⟩ = [] from rfl, List.append_nil]; simp only [List.length_append] at this ⊢; omega) (by decide) (by decide))
          rw [show strL ⟨#[]⟩ = [] from rfl, List.append_nil] at HC
          unfold xV at HC
          have q0 := HA4.out.te.c0
          have q1 := HA4.out.te.c1
          have q2 := HA4.out.te.c2
          have q3 := HA4.out.te.c3
          have q4 := HA4.out.te.c4
          have q5 := HA4.out.te.c5
          have q6 := HA4.out.te.c6
          go_upto_region 42 with fail
          go_wp2_with fail
          refine HC.out.mono ?_
          rintro e9 w6 ⟨rfl, hp9, hg9⟩
          have HP6 := hide hp9
          have HG6 := hide (HG4.out.trans hg9)
          have HPA6 := hide (HPA4.out.go hg9)
          have HRV6 := hide (RV.go HRV4.out.1 HRV4.out.2 hg9)
          have HTX2 : Hid (Y ++ ((if decide (k = 0) = true then [] else [44, 32]) ++ strL y) ++ prE e1 0 ++ prC L2 (decide (k + 1 = 0)) = TT) := by
            show _ = _
            rw [← HTX.out]
            simp only [List.append_assoc, List.nil_append, List.append_nil]
          clear hp9 hg9 HP4 HG4 HA4 HE4 HPA4 HRV4 HC HTX q0 q1 q2 q3 q4 q5 q6
          simp only []
          go_wp2
          go_roundw
          case rel => exact ⟨k + 1, L2, F2, _, by go_num, by omega, HP6.out, HG6.out, HPA6.out, HF3.out, HRV6.out, HGE.out, HTX2.out⟩
          case measure => simp [intOf]; omega
        · have dy : (y.toList == []) = false := by simpa using hy
          have dy2 : (y.toList != []) = true := by rw [bne, dy]; rfl
          rw [if_neg hy] at HTX HLX
          clear hy
          have HT := hide (text_any w4 b (Y ++ ((if decide (k = 0) = true then [] else [44, 32]) ++ strL y)) n ⟨#[32]⟩ HP4.out (by have := HLX.out; rw [show strL ⟨#[32]⟩ = [32] from rfl]; simp only [List.length_append] at this ⊢; omega))
          rw [show strL ⟨#[32]⟩ = [32] from rfl] at HT
          go_upto_region 41 with fail
          go_wp2_with fail
          refine HT.out.mono ?_
          rintro e9 w5 ⟨rfl, hp9, hg9⟩
          have HP5 := hide hp9
          have HG5 := hide (HG4.out.trans hg9)
          have HA5 := hide (HA4.out.go hg9)
          have HE5 := hide (HE4.out.go hg9)
          have HPA5 := hide (HPA4.out.go hg9)
          have HRV5 := hide (RV.go HRV4.out.1 HRV4.out.2 hg9)
          clear hp9 hg9 HP4 HG4 HA4 HE4 HPA4 HRV4 HT a0
          simp only []
          have HC := hide (HI1.out w5 b (Y ++ ((if decide (k = 0) = true then [] else [44, 32]) ++ strL y) ++ [32]) n ⟨#[]⟩ f1 0 HP5.out HE5.out (by have := HLX.out; rw [show strL ⟨#[]⟩ = [] from rfl, List.append_nil]; simp only [List.length_append] at this ⊢; omega) (by decide) (by decide))
          rw [show strL ⟨#[]⟩ = [] from rfl, List.append_nil] at HC
          unfold xV at HC
          have q0 := HA5.out.te.c0
          have q1 := HA5.out.te.c1
          have q2 := HA5.out.te.c2
          have q3 := HA5.out.te.c3
          have q4 := HA5.out.te.c4
          have q5 := HA5.out.te.c5
          have q6 := HA5.out.te.c6
          go_upto_region 42 with fail
          go_wp2_with fail
          refine HC.out.mono ?_
          rintro e9 w6 ⟨rfl, hp9, hg9⟩
          have HP6 := hide hp9
          have HG6 := hide (HG5.out.trans hg9)
          have HPA6 := hide (HPA5.out.go hg9)
          have HRV6 := hide (RV.go HRV5.out.1 HRV5.out.2 hg9)
          have HTX2 : Hid (Y ++ ((if decide (k = 0) = true then [] else [44, 32]) ++ strL y) ++ [32] ++ prE e1 0 ++ prC L2 (decide (k + 1 = 0)) = TT) := by
            show _ = _
            rw [← HTX.out]
            simp only [List.append_assoc, List.nil_append, List.append_nil]
          clear hp9 hg9 HP5 HG5 HA5 HE5 HPA5 HRV5 HC HTX q0 q1 q2 q3 q4 q5 q6
          simp only []
          go_wp2
          go_roundw
          case rel => exact ⟨k + 1, L2, F2, _, by go_num, by omega, HP6.out, HG6.out, HPA6.out, HF3.out, HRV6.out, HGE.out, HTX2.out⟩
          case measure => simp [intOf]; omega
    · obtain rfl : k = vn := by omega
      have d1 : decide ((k : Int) < (k : Int)) = false := decide_eq_false (by omega)
      have hF0 : F1 = [] := by rw [← HF1.out, HV.out]; exact List.drop_length
      have hL0 : L1 = [] := by
        rcases HPA.out.hd with ⟨z1, z2⟩ | ⟨y, e1, f1, F2, L2, hL2, hF2, het, hpa2⟩
        · exact z1
        · rw [hF0] at hF2; cases hF2
      have HY : Hid (Y = TT) := by
        have := HTX.out
        rw [hL0, show prC [] (decide (k = 0)) = [] from rfl, List.append_nil] at this
        exact this
      rw [HY.out] at HP
      clear hF0 hL0 HTX HPA HF1 HRV HGE0
      go_wp2
      exact bodyPost_ret (v := .tuple #[]) (by simp [results, Try.results69]) rfl ⟨rfl, HP.out, HG.out⟩
end Go.Proofs.Qxb6500774a
