import Derived.Test.Qxb6500774aGc1
namespace Go.Proofs.Qxb6500774a
open Go.RowKit
set_option linter.unusedVariables false
set_option linter.unusedSimpArgs false

theorem SS.low {w w' : World} {A : S} {t : Bool} {F : List (List Value)} (h : SS w ND A t F) (ex : Ex (fun _ => False) w w') : SS w' ND A t F := h.keep ex (fun _ z => z.elim) (fun _ z => z.elim)
theorem PA.low {w w' : World} {L : List (ByteArray × E)} {F : List (List Value)} (h : PA w ND L F) (ex : Ex (fun _ => False) w w') : PA w' ND L F := h.keep ex (fun _ z => z.elim) (fun _ z => z.elim)
def GST (A : S) : Prop := ∀ (w : World) (v : SLc) (F : List (List Value)), RW w ND F v → SS w ND A false F → Calls Try.prog 28 #[slV v] w (RdB w true)
def HST (A : S) : Prop := ∀ (w : World) (f : SP) (F : List (List Value)), SS w ND A false (spL f :: F) → Calls Try.prog 66 #[spV f] w (RdB w true)
def GOK : S → Prop
  | .nil => True
  | .asg t e l c r => HST (.asg t e l c r) ∧ GOK r
  | .call x ag l c r => HST (.call x ag l c r) ∧ GOK r
  | .iff A L l c r => HST (.iff A L l c r) ∧ GOK r
  | .arm _ L r => GST L ∧ GOK r
  | .fr x a e L l c r => HST (.fr x a e L l c r) ∧ GOK r
  | .rung e cs l c r => HST (.rung e cs l c r) ∧ GOK r
theorem GOK.hd {A : S} (h : GOK A) (hs : A.isSt = true) : HST A ∧ GOK A.tl := by
  cases A with
  | nil => cases hs
  | arm e L r => cases hs
  | asg t e l c r => exact h
  | call x ag l c r => exact h
  | iff A L l c r => exact h
  | fr x a e L l c r => exact h
  | rung e cs l c r => exact h
set_option linter.unusedSimpArgs false in
set_option linter.unusedVariables false in
set_option maxRecDepth 100000 in
set_option maxHeartbeats 32000000 in
theorem gst_of (A : S) (hA : GOK A) : GST A := by
  intro w v F hrw hss
  have HLEN : Hid (∀ V ∈ F, V.length = 10) := hss.len
  have HRW := hide hrw
  have HS0 := hide hss
  have HA := hide hA
  have HV : Hid (v.n = F.length) := hrw.1
  have HVC := hide hrw.2.1
  clear hrw hss hA
  unfold slV
  obtain ⟨n, hn⟩ : ∃ n, v.n = n := ⟨_, rfl⟩
  rw [hn] at HV HVC ⊢
  have HNV := hide hn
  clear hn
  go_enter Try.func28, Try.ntmps28
  go_wp2_with fail
  go_loopw [7] (fun s7 wr => ∃ (k : Nat) (A1 : S) (F1 : List (List Value)), k ≤ n ∧ s7 = .int .i64 k ∧ Ex (fun _ => False) w wr ∧ SS w ND A1 false F1 ∧ F.drop k = F1 ∧ GOK A1) (fun s7 _ => n - (intOf s7).toNat)
  case atStart => exact ⟨0, A, F, Nat.zero_le _, rfl, Ex.refl _ _, HS0.out, rfl, HA.out⟩
  case round =>
    clear HS0 HA
    obtain ⟨k, A1, F1, hk, rfl, h1, h2, h3, h4⟩ := hrel
    have HX := hide h1
    have HSS := hide h2
    have HF1 := hide h3
    have HOK := hide h4
    clear h1 h2 h3 h4
    by_cases hlt : k < n
    · have d1 : decide ((k : Int) < (n : Int)) = true := decide_eq_true (by omega)
      have d2 : decide (k < n) = true := decide_eq_true hlt
      have hwk : IntKind.i64.wrap ((k : Int) + 1) = ((k + 1 : Nat) : Int) := wrk (by have := HVC.out; unfold maxLen at this; omega)
      obtain ⟨V, hV⟩ : ∃ V, F[k]? = some V := ⟨_, List.getElem?_eq_getElem (by rw [← HV.out]; exact hlt)⟩
      have hd : F.drop k = V :: F.drop (k + 1) := by
        obtain ⟨h, e⟩ := List.getElem?_eq_some_iff.1 hV
        rw [List.drop_eq_getElem_cons h, e]
      rcases HSS.out.hd with ⟨z1, z2⟩ | ⟨f, F2, hst, hF2, hss2⟩
      · rw [z2, hd] at HF1; exact absurd HF1.out (by intro q; cases q)
      obtain ⟨hVe, hF3⟩ : V = spL f ∧ F.drop (k + 1) = F2 := by
        have := HF1.out
        rw [hd, hF2] at this
        injection this with q1 q2
        exact ⟨q1, q2⟩
      subst hVe
      have HSTC := hide (HOK.out.hd hst)
      have HS2 : Hid (SS w ND A1 false (spL f :: F2)) := by
        have := HSS.out
        rw [hF2] at this
        exact this
      have HTL := hide hss2
      have HF3 := hide hF3
      obtain ⟨g, hq, _, hrv⟩ := HRW.out.2.2 (show 0 < v.n by rw [HNV.out]; omega)
      rw [hq]
      have HRV := hide (hrv.keep HX.out (fun z => z))
      have e0 := HRV.out.at HLEN.out hV (j := 0) (by decide) (v := .int .i64 f.k) rfl
      have e1 := HRV.out.at HLEN.out hV (j := 1) (by decide) (v := .string f.x) rfl
      have e2 := HRV.out.at HLEN.out hV (j := 2) (by decide) (v := .slice f.ex.q f.ex.n f.ex.c) rfl
      have e3 := HRV.out.at HLEN.out hV (j := 3) (by decide) (v := .slice f.ar.q f.ar.n f.ar.c) rfl
      have e4 := HRV.out.at HLEN.out hV (j := 4) (by decide) (v := .slice f.el.q f.el.n f.el.c) rfl
      have e5 := HRV.out.at HLEN.out hV (j := 5) (by decide) (v := .slice f.bo.q f.bo.n f.bo.c) rfl
      have e6 := HRV.out.at HLEN.out hV (j := 6) (by decide) (v := .slice f.ag.q f.ag.n f.ag.c) rfl
      have e7 := HRV.out.at HLEN.out hV (j := 7) (by decide) (v := .slice f.co.q f.co.n f.co.c) rfl
      have e8 := HRV.out.at HLEN.out hV (j := 8) (by decide) (v := .int .i64 f.li) rfl
      have e9 := HRV.out.at HLEN.out hV (j := 9) (by decide) (v := .int .i64 f.cl) rfl
      rw [Nat.add_zero] at e0
      clear hd hst hF2 hss2 hF3 hV HSS HF1 HOK hrv hq HRV
      have ex2 : Ex (fun _ => False) wr (wr.alloc (spO f)) := (Ex.refl _ _).alloc _
      have HE2 := hide (HX.out.trans ex2)
      have HB2 := hide (SK.new wr f)
      clear ex2 HX
      obtain ⟨w2, hw2⟩ : ∃ x, wr.alloc (spO f) = x := ⟨_, rfl⟩
      rw [hw2] at HE2 HB2
      have HW2 := hide hw2
      unfold spO at HW2
      clear hw2
      go_upto_region 4 with fail
      rw [HW2.out]
      clear HW2 e0 e1 e2 e3 e4 e5 e6 e7 e8 e9
      generalize wr.heap.size = r4 at *
      have t0 := HB2.out.c0
      have t1 := HB2.out.c1
      have t2 := HB2.out.c2
      have t3 := HB2.out.c3
      have t4 := HB2.out.c4
      have t5 := HB2.out.c5
      have t6 := HB2.out.c6
      have t7 := HB2.out.c7
      have t8 := HB2.out.c8
      have t9 := HB2.out.c9
      have HCW := hide (HSTC.out.1 w2 f F2 (HS2.out.low HE2.out))
      unfold spV at HCW
      go_wp2_with (go_at_call 66; refine HCW.out.mono ?_; rintro e9 w3 ⟨rfl, hex3⟩; have HE3 := hide (HE2.out.trans hex3); clear hex3 HE2 HB2 t0 t1 t2 t3 t4 t5 t6 t7 t8 t9 HCW; simp only [])
      go_roundw
      case rel => exact ⟨k + 1, A1.tl, F2, by omega, by go_num, HE3.out, HTL.out, HF3.out, HSTC.out.2⟩
      case measure => simp [intOf]; omega
    · obtain rfl : k = n := by omega
      have d1 : decide ((k : Int) < (k : Int)) = false := decide_eq_false (by omega)
      clear HSS HF1 HOK
      go_wp2
      go_ret
      exact ⟨rfl, HX.out⟩
theorem PA.view {w : World} : ∀ {L : List (ByteArray × E)} {F : List (List Value)}, PA w ND L F → ∃ GS : List (ByteArray × XP), F = GS.map gL ∧ GS.length = L.length ∧ ∀ (i : Nat) y, GS[i]? = some y → ∃ z, L[i]? = some z ∧ y.1 = z.1 ∧ ET w ND z.2 y.2 := by
  intro L
  induction L with
  | nil => rintro F rfl; exact ⟨[], rfl, rfl, fun i y h => by simp at h⟩
  | cons z L ih =>
    obtain ⟨x, e⟩ := z
    rintro F ⟨f, F', rfl, h2, h3⟩
    obtain ⟨GS, a1, a2, a3⟩ := ih h3
    refine ⟨(x, f) :: GS, by rw [a1]; rfl, by simp [a2], fun i y h => ?_⟩
    cases i with
    | zero => simp at h; subst h; exact ⟨(x, e), rfl, rfl, h2⟩
    | succ i =>
      obtain ⟨z, b1, b2⟩ := a3 i y (by simpa using h)
      exact ⟨z, by simpa using b1, b2⟩
theorem sz_mem : ∀ {L : List (ByteArray × E)} {z : ByteArray × E} {i : Nat}, L[i]? = some z → (strL z.1).length ≤ szP L ∧ sz z.2 ≤ szP L := by
  intro L
  induction L with
  | nil => intro z i h; simp at h
  | cons y L ih =>
    intro z i h
    obtain ⟨x, e⟩ := y
    simp only [szP]
    cases i with
    | zero => simp at h; subst h; dsimp only; omega
    | succ i => have := ih (z := z) (i := i) (by simpa using h); omega
theorem arms_view {w : World} : ∀ (A : S) (FA : List (List Value)), SS w ND A true FA → gS A → szS A ≤ 4611686018427387904 → GOK A → ∃ AS : List (XP × SLc), FA = AS.map aL ∧ (A.isNil = false → 1 ≤ AS.length) ∧ ∀ (i : Nat) y, AS[i]? = some y → (∀ W, Ex (fun _ => False) w W → Calls Try.prog 27 #[xV y.1] W (RdB W true)) ∧ ∀ W, Ex (fun _ => False) w W → Calls Try.prog 28 #[slV y.2] W (RdB W true)
  | .nil, FA, h, _, _, _ => ⟨[], h, (fun z => by cases z), fun i y h => by simp at h⟩
  | .arm e L r, FA, h, hg, hs, hk => by
    obtain ⟨_, f, vl, FL, F', rfl, h2, h3, h4, h5⟩ := h
    simp only [szS] at hs
    obtain ⟨AS, a1, a2, a3⟩ := arms_view r F' h5 hg.2.2 (by omega) hk.2
    refine ⟨(f, vl) :: AS, by rw [a1]; rfl, (fun _ => by simp), fun i y hy => ?_⟩
    cases i with
    | zero =>
      simp at hy
      subst hy
      exact ⟨fun W hW => goodE e hg.1 (by omega) W f (h2.low hW), fun W hW => hk.1 W vl FL (h3.low hW) (h4.low hW)⟩
    | succ i => exact a3 i y (by simpa using hy)
  | .asg t e l c r, FA, h, _, _, _ => by cases h.1
  | .call x ag l c r, FA, h, _, _, _ => by cases h.1
  | .iff A L l c r, FA, h, _, _, _ => by cases h.1
  | .fr x a e L l c r, FA, h, _, _, _ => by cases h.1
  | .rung e cs l c r, FA, h, _, _, _ => by cases h.1
theorem spL_injc {f g : SP} {F G : List (List Value)} (h : spL f :: F = spL g :: G) : f = g ∧ F = G := by
  injection h with h1 h2
  exact ⟨spL_inj h1, h2⟩
theorem nil_row (w : World) {α : Type} (F : α → List Value) : RW w ND (([] : List α).map F) nl := RW.nil w ND
theorem gnil (w : World) : ∀ W, Ex (fun _ => False) w W → Calls Try.prog 28 #[slV nl] W (RdB W true) := fun W _ => gst_of .nil trivial W nl [] (RW.nil W ND) rfl
theorem two_ex {w : World} {e1 e2 : E} {f1 f2 : XP} (g1 : gE e1) (g2 : gE e2) (s1 : sz e1 ≤ 4611686018427387904) (s2 : sz e2 ≤ 4611686018427387904) (t1 : ET w ND e1 f1) (t2 : ET w ND e2 f2) : ∀ (i : Nat) y, [f1, f2][i]? = some y → ∀ W, Ex (fun _ => False) w W → Calls Try.prog 27 #[xV y] W (RdB W true) := fun i y hy => by
  match i, hy with
  | 0, hy => injection hy with hy; subst hy; exact fun W hW => goodE e1 g1 s1 W _ (t1.low hW)
  | 1, hy => injection hy with hy; subst hy; exact fun W hW => goodE e2 g2 s2 W _ (t2.low hW)
  | i + 2, hy => simp at hy
theorem gok : ∀ (A : S), gS A → szS A ≤ 4611686018427387904 → GOK A
  | .nil, _, _ => trivial
  | .asg t e l c r, hg, hs => by
    simp only [szS] at hs
    refine ⟨?_, gok r hg.2.2.2 (by omega)⟩
    intro w f F h
    obtain ⟨_, g, f1, f2, F', h1, h2, h3, h4, h5, h6, h7⟩ := h
    obtain ⟨rfl, rfl⟩ := spL_injc h1
    exact good_st _ [f1, f2] [] [] [] w ⟨rfl, ⟨Nat.le_refl _, (by show (2 : Nat) ≤ maxLen; decide)⟩, fun _ => ⟨g, rfl, h2, h3.rv2 h4⟩⟩ (nil_row w _) (nil_row w _) (nil_row w _) (two_ex hg.1 hg.2.1 (by omega) (by omega) h5 h6) (fun i y h => by simp at h) (fun i y h => by simp at h) (fun i y h => by simp at h) (gnil w) (gnil w) (.inl ⟨g, f1, f2, l, c, rfl, rfl, h5.pl hg.2.2.1⟩)
  | .call x ag l c r, hg, hs => by
    simp only [szS] at hs
    refine ⟨?_, gok r hg.2.2 (by omega)⟩
    intro w f F h
    obtain ⟨_, v, A, F', h1, h2, h3, h4⟩ := h
    obtain ⟨rfl, rfl⟩ := spL_injc h1
    obtain ⟨GS, a1, a2, a3⟩ := h3.view
    subst a1
    refine good_st _ [] [] GS [] w (nil_row w _) (nil_row w _) h2 (nil_row w _) (fun i y h => by simp at h) (fun i y h => by simp at h) (fun i y hy => ?_) (fun i y h => by simp at h) (gnil w) (gnil w) (.inr (.inl ⟨x, v, l, c, rfl, hg.1, by rw [strL_len]; omega⟩))
    obtain ⟨z, b1, b2, b3⟩ := a3 i y hy
    have hz := hg.2.1 z (List.mem_of_getElem? b1)
    have hm := sz_mem b1
    exact ⟨by rw [b2]; exact hz.1, by rw [b2, strL_len]; omega, fun W hW => goodE z.2 hz.2 (by omega) W _ (b3.low hW)⟩
  | .iff A L l c r, hg, hs => by
    simp only [szS] at hs
    have kA := gok A hg.1 (by omega)
    have kL := gst_of L (gok L hg.2.1 (by omega))
    refine ⟨?_, gok r hg.2.2.2 (by omega)⟩
    intro w f F h
    obtain ⟨_, va, vl, FA, FL, F', h1, h2, h3, h4, h5, h6⟩ := h
    obtain ⟨rfl, rfl⟩ := spL_injc h1
    obtain ⟨AS, a1, a2, a3⟩ := arms_view A FA h4 hg.1 (by omega) kA
    subst a1
    exact good_st _ [] AS [] [] w (nil_row w _) h2 (nil_row w _) (nil_row w _) (fun i y h => by simp at h) a3 (fun i y h => by simp at h) (fun i y h => by simp at h) (fun W hW => kL W vl FL (h3.low hW) (h5.low hW)) (gnil w) (.inr (.inr (.inl ⟨va, vl, l, c, rfl, by have := h2.1; rw [List.length_map] at this; rw [this]; exact a2 hg.2.2.1⟩)))
  | .arm e L r, hg, hs => by
    simp only [szS] at hs
    exact ⟨gst_of L (gok L hg.2.1 (by omega)), gok r hg.2.2 (by omega)⟩
  | .fr x a e L l c r, hg, hs => by
    simp only [szS] at hs
    have kL := gst_of L (gok L hg.2.2.2.1 (by omega))
    refine ⟨?_, gok r hg.2.2.2.2 (by omega)⟩
    intro w f F h
    obtain ⟨_, g, f1, f2, vl, FL, F', h1, h2, h3, h4, h5, h6, h7, h8, h9⟩ := h
    obtain ⟨rfl, rfl⟩ := spL_injc h1
    exact good_st _ [f1, f2] [] [] [] w ⟨rfl, ⟨Nat.le_refl _, (by show (2 : Nat) ≤ maxLen; decide)⟩, fun _ => ⟨g, rfl, h2, h3.rv2 h4⟩⟩ (nil_row w _) (nil_row w _) (nil_row w _) (two_ex hg.2.1 hg.2.2.1 (by omega) (by omega) h5 h6) (fun i y h => by simp at h) (fun i y h => by simp at h) (fun i y h => by simp at h) (gnil w) (fun W hW => kL W vl FL (h7.low hW) (h8.low hW)) (.inr (.inr (.inr (.inl ⟨x, g, vl, l, c, rfl, hg.1, by rw [strL_len]; omega⟩))))
  | .rung e cs l c r, hg, hs => by
    simp only [szS] at hs
    refine ⟨?_, gok r hg.2.2.2 (by omega)⟩
    intro w f F h
    obtain ⟨_, g, f1, v, A, F', h1, h2, h3, h4, h5, h6, h7⟩ := h
    obtain ⟨rfl, rfl⟩ := spL_injc h1
    obtain ⟨GS, a1, a2, a3⟩ := h6.view
    subst a1
    refine good_st _ [f1] [] [] GS w ⟨rfl, ⟨Nat.le_refl _, (by show (1 : Nat) ≤ maxLen; decide)⟩, fun _ => ⟨g, rfl, h2, h3.rv⟩⟩ (nil_row w _) (nil_row w _) h5 (fun i y hy => ?_) (fun i y h => by simp at h) (fun i y h => by simp at h) (fun i y hy => ?_) (gnil w) (gnil w) (.inr (.inr (.inr (.inr ⟨g, v, l, c, rfl, by have := h5.1; rw [List.length_map] at this; rw [this, a2]; cases cs with | nil => exact absurd rfl hg.2.2.1 | cons z L => simp⟩))))
    · match i, hy with
      | 0, hy => injection hy with hy; subst hy; exact fun W hW => goodE e hg.1 (by omega) W _ (h4.low hW)
      | i + 1, hy => simp at hy
    · obtain ⟨z, b1, b2, b3⟩ := a3 i y hy
      have hz := hg.2.1 z (List.mem_of_getElem? b1)
      have hm := sz_mem b1
      exact ⟨by rw [b2]; exact hz.1, fun W hW => goodE z.2 hz.2.1 (by omega) W _ (b3.low hW), b3.pl hz.2.2⟩
/-- good statements are called good -/
theorem goodStmts_yes (A : S) (hg : gS A) (hs : szS A ≤ 4611686018427387904) : GST A := gst_of A (gok A hg hs)
end Go.Proofs.Qxb6500774a
