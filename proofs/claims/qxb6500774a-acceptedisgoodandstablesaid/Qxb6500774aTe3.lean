import Derived.Test.Qxb6500774aTe2
namespace Go.Proofs.Qxb6500774a
open Go.RowKit
set_option linter.unusedVariables false
set_option linter.unusedSimpArgs false

structure BA (b : Nat) (w : World) (r : Nat) (y : ByteArray) (f : XP) : Prop where
  c0 : w.cell? ⟨r, 0, none⟩ = some (.string y)
  te : RC w r 1 f
  nd : ¬ PD w b r
theorem BA.lt {b r : Nat} {w : World} {y : ByteArray} {f : XP} (h : BA b w r y f) : r < w.heap.size := World.block_lt_of_cell? _ _ h.c0
theorem BA.go {b r : Nat} {w w' : World} {y : ByteArray} {f : XP} (h : BA b w r y f) (g : PGo b w w') : BA b w' r y f := ⟨g.ex.cell h.nd h.c0, h.te.keep g.ex h.nd, nd_go h.nd h.lt g⟩
theorem BA.new {w : World} {b : Nat} {X : List Int} {i : Int} (h : PR w b X i) (y : ByteArray) (f1 : XP) (t : Nat) : BA b (w.alloc (.cells #[.string y, .int .i64 f1.k, .string f1.x, .int .i64 f1.n, .string f1.m, .slice f1.q f1.ql f1.qc, .int .i64 f1.li, .int .i64 f1.co] t)) w.heap.size y f1 := by
  have n := fun j u h => new_cells w [.string y, .int .i64 f1.k, .string f1.x, .int .i64 f1.n, .string f1.m, .slice f1.q f1.ql f1.qc, .int .i64 f1.li, .int .i64 f1.co] t j u h
  exact ⟨n 0 _ rfl, ⟨n 1 _ rfl, n 2 _ rfl, n 3 _ rfl, n 4 _ rfl, n 5 _ rfl, n 6 _ rfl, n 7 _ rfl⟩, h.ndAl _⟩
theorem PA.hd {w : World} {D : Nat → Prop} {L : List (ByteArray × E)} {F : List (List Value)} (h : PA w D L F) : (L = [] ∧ F = []) ∨ ∃ y e f F' L', L = (y, e) :: L' ∧ F = (.string y :: xL f) :: F' ∧ ET w D e f ∧ PA w D L' F' := by
  cases L with
  | nil => exact .inl ⟨rfl, h⟩
  | cons p L =>
    obtain ⟨f, F', h1, h2, h3⟩ := h
    exact .inr ⟨p.1, p.2, f, F', L, rfl, h1, h2, h3⟩
theorem cm_len (k : Nat) : (strL (if k = 0 then ⟨#[]⟩ else ⟨#[44, 32]⟩ : ByteArray)) = if decide (k = 0) = true then [] else [44, 32] := by
  by_cases h : k = 0
  · rw [if_pos h, if_pos (by simpa using h)]; rfl
  · rw [if_neg h, if_neg (by simpa using h)]; rfl
theorem prA_go (y : ByteArray) (e : E) (L : List (ByteArray × E)) (k : Nat) : prA ((y, e) :: L) (decide (k = 0)) = (if decide (k = 0) = true then [] else [44, 32]) ++ strL y ++ [32, 58, 61, 32] ++ prE e 0 ++ prA L (decide (k + 1 = 0)) := by
  rw [show decide (k + 1 = 0) = false by simp]
  rfl
set_option linter.unusedSimpArgs false in
set_option linter.unusedVariables false in
set_option maxRecDepth 100000 in
set_option maxHeartbeats 32000000 in
theorem st_call (x : ByteArray) (ag : List (ByteArray × E)) (l c : Int) (r : S) (hga : ∀ y ∈ ag, gE y.2) (hne : ag ≠ []) : STC (.call x ag l c r) := by
  intro w b X n f F hpr hss hl hn
  obtain ⟨_, vv, A, F', hF, hrw, hpa, _⟩ := hss
  injection hF with hf1 hF
  have hf := spL_inj hf1
  subst hf
  obtain ⟨vq, vn, vc⟩ := vv
  have HV : Hid (vn = A.length) := hrw.1
  have HVC : Hid (vn ≤ vc ∧ vc ≤ maxLen) := hrw.2.1
  have hn0 : 0 < vn := by
    have h1 := hpa.len.1
    have h2 := HV.out
    cases ag with
    | nil => exact absurd rfl hne
    | cons z L => simp at h1; omega
  obtain ⟨g, hgq, hgd, hrv⟩ := hrw.2.2 hn0
  have hgq : vq = some ⟨g, 0, none⟩ := hgq
  subst hgq
  have HLEN : Hid (∀ V ∈ A, V.length = 8) := hpa.len.2
  have HGA := hide hga
  have HSX0 : Hid (strL (x ++ ⟨#[40]⟩) = strL x ++ [40]) := by show _ = _; rw [strL_app]; rfl
  have hsz1 : ¬ 9223372036854775807 < x.size + 1 := by
    have := hl
    unfold hdT at this
    simp only [List.length_append, ← strL_len] at this
    omega
  have HL := hide hl
  have HN := hide hn
  have ex1 : Ex (fun _ => False) w (w.alloc (spO ⟨1, x, nl, nl, nl, nl, ⟨some ⟨g, 0, none⟩, vn, vc⟩, nl, l, c⟩)) := (Ex.refl _ _).alloc _
  have HP1 := hide (hpr.low ex1)
  have HPA1 := hide (hpa.go (hpr.low ex1).2)
  have HRV1 := hide (RV.go hrv hgd (hpr.low ex1).2)
  have HB1 := hide (BS.new hpr ⟨1, x, nl, nl, nl, nl, ⟨some ⟨g, 0, none⟩, vn, vc⟩, nl, l, c⟩)
  clear hpr hl hn ex1 hf1 hF hga hne hrw hpa hrv hgd hn0
  obtain ⟨w1, hw1⟩ : ∃ wz, w.alloc (spO ⟨1, x, nl, nl, nl, nl, ⟨some ⟨g, 0, none⟩, vn, vc⟩, nl, l, c⟩) = wz := ⟨_, rfl⟩
  rw [hw1] at HP1 HB1 HPA1 HRV1
  have HW1 := hide hw1
  unfold spO nl at HW1
  dsimp only at HW1
  clear hw1
  unfold spV nl
  dsimp only
  obtain ⟨TT, hTT⟩ : ∃ T, X ++ hdT (.call x ag l c r) n = T := ⟨_, rfl⟩
  have HTT := hide hTT
  rw [hTT]
  clear hTT
  unfold hdT at HTT HL
  go_enter Try.func69, Try.ntmps69
  go_upto_region 1 with fail
  rw [HW1.out]
  generalize w.heap.size = r3 at *
  clear HW1
  have k0 := HB1.out.te.c0
  dsimp only at k0
  have HG1 := hide HP1.out.2
  have HT := hide (text_any w1 b X n (x ++ ⟨#[40]⟩) HP1.out.1 (by have := HL.out; rw [HSX0.out]; simp only [List.length_append] at this ⊢; omega))
  rw [HSX0.out] at HT
  have k1 := HB1.out.te.c1
  dsimp only at k1
  go_upto_region 6 with fail
  go_wp2_with fail
  refine HT.out.mono ?_
  rintro e9 w2 ⟨rfl, hp9, hg9⟩
  have HP2 := hide hp9
  have HG2 := hide (HG1.out.trans hg9)
  have HB2 := hide (HB1.out.go hg9)
  have HPA2 := hide (HPA1.out.go hg9)
  have HRV2 := hide (RV.go HRV1.out.1 HRV1.out.2 hg9)
  clear hp9 hg9 HP1 HG1 HB1 HPA1 HRV1 HT k0 k1
  simp only []
  have k6 := HB2.out.te.c6
  dsimp only at k6
  have HR0 : Hid (∃ (k : Nat) (L1 : List (ByteArray × E)) (A1 : List (List Value)) (Y : List Int), Value.int .i64 0 = .int .i64 k ∧ k ≤ vn ∧ PR w2 b Y n ∧ PGo b w w2 ∧ PA w2 (PD w2 b) L1 A1 ∧ A.drop k = A1 ∧ (RV w2 g A.flatten ∧ g < w2.heap.size ∧ ¬ PD w2 b g) ∧ (∀ y ∈ L1, gE y.2) ∧ Y ++ prA L1 (decide (k = 0)) ++ [41] = TT) := ⟨0, ag, A, _, rfl, Nat.zero_le _, HP2.out, HG2.out, HPA2.out, rfl, HRV2.out, HGA.out, by rw [← HTT.out]; simp only [List.append_assoc]; rfl⟩
  clear HP2 HG2 HPA2 HRV2
  go_wp2_with fail
  clear k6
  go_loopw [36] (fun v36 wr => ∃ (k : Nat) (L1 : List (ByteArray × E)) (A1 : List (List Value)) (Y : List Int), v36 = .int .i64 k ∧ k ≤ vn ∧ PR wr b Y n ∧ PGo b w wr ∧ PA wr (PD wr b) L1 A1 ∧ A.drop k = A1 ∧ (RV wr g A.flatten ∧ g < wr.heap.size ∧ ¬ PD wr b g) ∧ (∀ y ∈ L1, gE y.2) ∧ Y ++ prA L1 (decide (k = 0)) ++ [41] = TT) (fun v36 _ => vn - (intOf v36).toNat)
  case atStart => exact HR0.out
  case round =>
    clear HR0
    obtain ⟨k, L1, F1, Y, rfl, hk, h1, h2, h3, h4, h5, h6, h7⟩ := hrel
    have HP := hide h1
    have HG := hide h2
    have HPA := hide h3
    have HF1 := hide h4
    have HRV := hide h5
    have HGE0 := hide h6
    have HTX := hide h7
    clear h1 h2 h3 h4 h5 h6 h7
    by_cases hlt : k < vn
    · have d1 : decide ((k : Int) < (vn : Int)) = true := decide_eq_true (by omega)
      have d2 : decide (k < vn) = true := decide_eq_true hlt
      have hwk : IntKind.i64.wrap ((k : Int) + 1) = ((k + 1 : Nat) : Int) := wrk (by have := HVC.out; unfold maxLen at this; omega)
      obtain ⟨V, hV⟩ : ∃ V, A[k]? = some V := ⟨_, List.getElem?_eq_getElem (by rw [← HV.out]; exact hlt)⟩
      have hd : A.drop k = V :: A.drop (k + 1) := by
        obtain ⟨h, e⟩ := List.getElem?_eq_some_iff.1 hV
        rw [List.drop_eq_getElem_cons h, e]
      rcases HPA.out.hd with ⟨z1, z2⟩ | ⟨y, e, f1, F2, L2, hL2, hF2, het, hpa2⟩
      · rw [z2, hd] at HF1; exact absurd HF1.out (by intro q; cases q)
      obtain ⟨hVe, hF3⟩ : V = .string y :: xL f1 ∧ A.drop (k + 1) = F2 := by
        have := HF1.out
        rw [hd, hF2] at this
        injection this with q1 q2
        exact ⟨q1, q2⟩
      subst hVe
      subst hL2
      have HF3 := hide hF3
      have HGE : Hid (∀ y ∈ L2, gE y.2) := fun z hz => HGE0.out z (List.mem_cons_of_mem _ hz)
      have HI1 := hide (pexpr_any e (HGE0.out _ (List.mem_cons_self ..)))
      rw [prA_go] at HTX
      have HLX : Hid ((Y ++ ((if decide (k = 0) = true then [] else [44, 32]) ++ strL y ++ [32, 58, 61, 32] ++ prE e 0 ++ prA L2 (decide (k + 1 = 0))) ++ [41]).length ≤ 1099511627776) := by
        rw [HTX.out, ← HTT.out]
        exact HL.out
      have HE0 := hide het
      have HPA0 := hide hpa2
      have e0 := HRV.out.1.at HLEN.out hV (j := 0) (by decide) (v := .string y) rfl
      have e1 := HRV.out.1.at HLEN.out hV (j := 1) (by decide) (v := .int .i64 f1.k) rfl
      have e2 := HRV.out.1.at HLEN.out hV (j := 2) (by decide) (v := .string f1.x) rfl
      have e3 := HRV.out.1.at HLEN.out hV (j := 3) (by decide) (v := .int .i64 f1.n) rfl
      have e4 := HRV.out.1.at HLEN.out hV (j := 4) (by decide) (v := .string f1.m) rfl
      have e5 := HRV.out.1.at HLEN.out hV (j := 5) (by decide) (v := .slice f1.q f1.ql f1.qc) rfl
      have e6 := HRV.out.1.at HLEN.out hV (j := 6) (by decide) (v := .int .i64 f1.li) rfl
      have e7 := HRV.out.1.at HLEN.out hV (j := 7) (by decide) (v := .int .i64 f1.co) rfl
      rw [Nat.add_zero] at e0
      have ex2 : Ex (fun _ => False) wr (wr.alloc (.cells #[.string y, .int .i64 f1.k, .string f1.x, .int .i64 f1.n, .string f1.m, .slice f1.q f1.ql f1.qc, .int .i64 f1.li, .int .i64 f1.co] 115)) := (Ex.refl _ _).alloc _
      have HP2 := hide (HP.out.low ex2)
      have HA2 := hide (BA.new HP.out y f1 115)
      have HG2 := hide (HG.out.trans HP2.out.2)
      have HE2 := hide (HE0.out.go HP2.out.2)
      have HPA2 := hide (HPA0.out.go HP2.out.2)
      have HRV2 := hide (RV.go HRV.out.1 HRV.out.2 HP2.out.2)
      clear hd hF2 het hpa2 hF3 hV HPA HF1 HGE0 HE0 HPA0 HRV HP HG ex2
      go_upto_region 10 with fail
      generalize wr.alloc (.cells #[.string y, .int .i64 f1.k, .string f1.x, .int .i64 f1.n, .string f1.m, .slice f1.q f1.ql f1.qc, .int .i64 f1.li, .int .i64 f1.co] 115) = w3 at *
      clear e0 e1 e2 e3 e4 e5 e6 e7
      generalize wr.heap.size = r5 at *
      obtain ⟨cm, hcm⟩ : ∃ c, (if k = 0 then ⟨#[]⟩ else ⟨#[44, 32]⟩ : ByteArray) = c := ⟨_, rfl⟩
      have HCM : Hid (strL cm = if decide (k = 0) = true then [] else [44, 32]) := by rw [← hcm]; exact cm_len k
      have HSX : Hid (strL (cm ++ y ++ ⟨#[32, 58, 61, 32]⟩) = (if decide (k = 0) = true then [] else [44, 32]) ++ strL y ++ [32, 58, 61, 32]) := by show _ = _; rw [strL_app, strL_app, HCM.out]; rfl
      have hz : cm.size + y.size + 4 ≤ 1099511627776 := by
        have := HLX.out
        rw [← HCM.out] at this
        simp only [List.length_append, ← strL_len] at this
        have h4 : ([32, 58, 61, 32] : List Int).length = 4 := rfl
        omega
      have hs1 : ¬ 9223372036854775807 < cm.size + y.size := by omega
      have hs2 : ¬ 9223372036854775807 < cm.size + y.size + 4 := by omega
      have hs3 : ¬ 9223372036854775807 < (cm ++ y).size + 4 := by rw [app_size]; omega
      clear hz
      have HPd := hide (HP2.out.1.low ((Ex.refl (fun _ => False) w3).drew))
      have HAd := hide (HA2.out.go HPd.out.2)
      have HGd := hide (HG2.out.trans HPd.out.2)
      have HEd := hide (HE2.out.go HPd.out.2)
      have HPAd := hide (HPA2.out.go HPd.out.2)
      have HRVd := hide (RV.go HRV2.out.1 HRV2.out.2 HPd.out.2)
      have HC := hide (HI1.out w3.drew b Y n (cm ++ y ++ ⟨#[32, 58, 61, 32]⟩) f1 0 HPd.out.1 HEd.out (by have := HLX.out; rw [HSX.out]; simp only [List.length_append] at this ⊢; omega) (by decide) (by decide))
      unfold xV at HC
      clear HP2 HA2 HG2 HE2 HPA2 HRV2
      refine wp_region_until (fun w6 => w6.cell? ⟨r5, 0, none⟩ = some (.string y) ∧ RC w6 r5 1 f1) 9 (by kernel_rfl) (⟨HAd.out.c0, HAd.out.te⟩) (fun hHeld => ?_)
      generalize w3.drew = wd at *
      refine wpAnyU_take (i := 0) (v := ?_) [9] rfl (by kernel_rfl) (by kernel_rfl) (by kernel_rfl) (by kernel_rfl) (fun _ _ _ h => h) (Or.inl ⟨by rfl, ?_⟩) (by assumption) ?_
      rotate_left
      · (intro w hSw; (try dsimp only at hSw); (skip); go_simp; try (with_reducible rfl))
      try simp only [Act.put, List.getElem_toArray, List.getElem_cons_zero, List.getElem_cons_succ, List.setIfInBounds_toArray, List.set_cons_zero, List.set_cons_succ]
      refine wpAnyU_take (i := 1) (v := ?_) [2, 9] rfl (by kernel_rfl) (by kernel_rfl) (by kernel_rfl) (by kernel_rfl) (fun _ _ _ h => h) (Or.inl ⟨by rfl, ?_⟩) (by assumption) ?_
      rotate_left
      · (intro w hSw; (try dsimp only at hSw); (skip); go_simp; try (with_reducible rfl))
      try simp only [Act.put, List.getElem_toArray, List.getElem_cons_zero, List.getElem_cons_succ, List.setIfInBounds_toArray, List.set_cons_zero, List.set_cons_succ]
      refine wpAnyU_take (i := 3) (v := ?_) [4, 5, 6, 9] rfl (by kernel_rfl) (by kernel_rfl) (by kernel_rfl) (by kernel_rfl) (fun _ _ _ h => h) (Or.inl ⟨by rfl, ?_⟩) (by assumption) ?_
      rotate_left
      · (intro w hSw; (try dsimp only at hSw); (skip); go_simp; try (with_reducible rfl))
      try simp only [Act.put, List.getElem_toArray, List.getElem_cons_zero, List.getElem_cons_succ, List.setIfInBounds_toArray, List.set_cons_zero, List.set_cons_succ]
      refine wpAnyU_take (i := 4) (v := ?_) [5, 6, 9] rfl (by kernel_rfl) (by kernel_rfl) (by kernel_rfl) (by kernel_rfl) (fun _ _ _ h => h) (Or.inl ⟨by rfl, ?_⟩) (by assumption) ?_
      rotate_left
      · (intro w hSw; (try dsimp only at hSw); (obtain ⟨k1, hrc⟩ := hSw; have q0 := hrc.c0; have q1 := hrc.c1; have q2 := hrc.c2; have q3 := hrc.c3; have q4 := hrc.c4; have q5 := hrc.c5; have q6 := hrc.c6); go_simp; try (with_reducible rfl))
      try simp only [Act.put, List.getElem_toArray, List.getElem_cons_zero, List.getElem_cons_succ, List.setIfInBounds_toArray, List.set_cons_zero, List.set_cons_succ]
      refine wpAnyU_take (i := 7) (v := ?_) [8, 9] rfl (by kernel_rfl) (by kernel_rfl) (by kernel_rfl) (by kernel_rfl) (fun _ _ _ h => h) (Or.inl ⟨by rfl, ?_⟩) (by assumption) ?_
      rotate_left
      · (intro w hSw; (try dsimp only at hSw); (skip); go_simp; try (with_reducible rfl))
      try simp only [Act.put, List.getElem_toArray, List.getElem_cons_zero, List.getElem_cons_succ, List.setIfInBounds_toArray, List.set_cons_zero, List.set_cons_succ]
      refine wpAnyU_take (i := 8) (v := ?_) [9] rfl (by kernel_rfl) (by kernel_rfl) (by kernel_rfl) (by kernel_rfl) (fun _ _ _ h => h) (Or.inl ⟨by rfl, ?_⟩) (by assumption) ?_
      rotate_left
      · (intro w hSw; (try dsimp only at hSw); (obtain ⟨k1, hrc⟩ := hSw; have q0 := hrc.c0; have q1 := hrc.c1; have q2 := hrc.c2; have q3 := hrc.c3; have q4 := hrc.c4; have q5 := hrc.c5; have q6 := hrc.c6); go_simp; try (with_reducible rfl))
      try simp only [Act.put, List.getElem_toArray, List.getElem_cons_zero, List.getElem_cons_succ, List.setIfInBounds_toArray, List.set_cons_zero, List.set_cons_succ]
      refine wpAnyU_ready (rs := [2]) (by kernel_rfl) (by simp) ?_
      refine (AllReadyU.cons rfl (fun K hK => ?_) AllReadyU.nil)
      · refine step_call rfl 84 _ (by simp [go_sem]) (comma_any wd k) ?_
        rintro e9 wq ⟨rfl, hwq⟩
        subst wq
        rw [hcm]
        refine ⟨_, rfl, ?_⟩
        refine hK.out _ _ ?_ (fun hHeld => ?_)
        · exact ⟨HAd.out.c0, HAd.out.te⟩
        clear hK K
        try simp only [Act.put, List.getElem_toArray, List.getElem_cons_zero, List.getElem_cons_succ, List.setIfInBounds_toArray, List.set_cons_zero, List.set_cons_succ]
        refine wpAnyU_take (i := 5) (v := ?_) [6, 9] rfl (by kernel_rfl) (by kernel_rfl) (by kernel_rfl) (by kernel_rfl) (fun _ _ _ h => h) (Or.inl ⟨by rfl, ?_⟩) (by assumption) ?_
        rotate_left
        · (intro w hSw; (try dsimp only at hSw); (skip); go_simp; try (with_reducible rfl))
        try simp only [Act.put, List.getElem_toArray, List.getElem_cons_zero, List.getElem_cons_succ, List.setIfInBounds_toArray, List.set_cons_zero, List.set_cons_succ]
        refine wpAnyU_take (i := 6) (v := ?_) [9] rfl (by kernel_rfl) (by kernel_rfl) (by kernel_rfl) (by kernel_rfl) (fun _ _ _ h => h) (Or.inl ⟨by rfl, ?_⟩) (by assumption) ?_
        rotate_left
        · (intro w hSw; (try dsimp only at hSw); (skip); go_simp; try (with_reducible rfl))
        try simp only [Act.put, List.getElem_toArray, List.getElem_cons_zero, List.getElem_cons_succ, List.setIfInBounds_toArray, List.set_cons_zero, List.set_cons_succ]
        refine wpAnyU_ready (rs := [9]) (by kernel_rfl) (by simp) ?_
        refine AllReadyU.last rfl (fun K hK => ?_)
        refine step_call rfl 31 _ (by simp [go_sem]) HC.out ?_
        rintro e9 w4 ⟨rfl, hp9, hg9⟩
        have HP4 := hide hp9
        have HG4 := hide (HGd.out.trans hg9)
        have HPA4 := hide (HPAd.out.go hg9)
        have HRV4 := hide (RV.go HRVd.out.1 HRVd.out.2 hg9)
        clear hp9 hg9 HPd HGd HAd HEd HC HPAd HRVd
        refine ⟨_, rfl, ?_⟩
        refine hK.out _ _ ?_
        clear hK K
        try simp only [Act.put, List.getElem_toArray, List.getElem_cons_zero, List.getElem_cons_succ, List.setIfInBounds_toArray, List.set_cons_zero, List.set_cons_succ]
        refine wpAnyU_done (by kernel_rfl) ?_ _
        have HTX2 : Hid (Y ++ strL (cm ++ y ++ ⟨#[32, 58, 61, 32]⟩) ++ prE e 0 ++ prA L2 (decide (k + 1 = 0)) ++ [41] = TT) := by
          show _ = _
          rw [← HTX.out, HSX.out]
          simp only [List.append_assoc]
        clear HTX
        go_wp2
        go_roundw
        case rel => exact ⟨k + 1, L2, F2, _, by go_num, by omega, HP4.out, HG4.out, HPA4.out, HF3.out, HRV4.out, HGE.out, HTX2.out⟩
        case measure => simp [intOf]; omega
    · obtain rfl : k = vn := by omega
      have d1 : decide ((k : Int) < (k : Int)) = false := decide_eq_false (by omega)
      have hF0 : F1 = [] := by rw [← HF1.out, HV.out]; exact List.drop_length
      have hL0 : L1 = [] := by
        rcases HPA.out.hd with ⟨z1, z2⟩ | ⟨y, e, f1, F2, L2, hL2, hF2, het, hpa2⟩
        · exact z1
        · rw [hF0] at hF2; cases hF2
      have HY : Hid (Y ++ [41] = TT) := by
        have := HTX.out
        rw [hL0, show prA [] (decide (k = 0)) = [] from rfl, List.append_nil] at this
        exact this
      have HT := hide (text_any wr b Y n ⟨#[41]⟩ HP.out (by
        have h1 : (Y ++ [41]).length ≤ 1099511627776 := by rw [HY.out, ← HTT.out]; exact HL.out
        rw [List.length_append] at h1
        exact h1))
      rw [show strL ⟨#[41]⟩ = [41] from rfl, HY.out] at HT
      clear hF0 hL0 HTX HPA HF1 HRV HGE0
      go_upto_region 12 with fail
      go_wp2_with fail
      refine HT.out.mono ?_
      rintro e9 w4 ⟨rfl, hp9, hg9⟩
      have HP4 := hide hp9
      have HG4 := hide (HG.out.trans hg9)
      clear hp9 hg9 HP HG HT
      simp only []
      go_wp2
      exact bodyPost_ret (v := .tuple #[]) (by simp [results, Try.results69]) rfl ⟨rfl, HP4.out, HG4.out⟩
end Go.Proofs.Qxb6500774a
