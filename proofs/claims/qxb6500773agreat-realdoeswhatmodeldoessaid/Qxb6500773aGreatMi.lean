import Derived.Test.Qxb6500773aGreatMh
namespace Go.Proofs.Qxb6500773aGreat
open Go.RowKit

/-- a row of steps -/
def SL (w : World) (a : Option Addr) (P : List (Bool × List Int)) : Prop := ∀ (j : Nat) (s : Bool × List Int), P[j]? = some s → ∃ g off a1 c1, a = some ⟨g, off, none⟩ ∧ w.cell? ⟨g, off + j * 2, none⟩ = some (.bool s.1) ∧ w.cell? ⟨g, off + j * 2 + 1, none⟩ = some (.slice a1 s.2.length c1) ∧ IL w a1 s.2 ∧ s.2.length ≤ c1 ∧ c1 ≤ maxLen
theorem SL.keep {w w' : World} {a : Option Addr} {P : List (Bool × List Int)} (h : SL w a P) (k : Ex (fun _ => False) w w') : SL w' a P := fun j C hx => by
  obtain ⟨g, off, a1, c1, e, hc, hc2, hi, h1⟩ := h j C hx
  exact ⟨g, off, a1, c1, e, k.cell (fun z => z) hc, k.cell (fun z => z) hc2, hi.keep k (fun _ _ _ z => z), h1⟩
def SB (P : List (Bool × List Int)) : Prop := ∀ s ∈ P, s.2.length ≤ 1000000000 ∧ ∀ x ∈ s.2, I64 x
def sameQ : List (Bool × List Int) → List (Bool × List Int) → Bool
  | [], [] => true
  | C :: F, D :: G => if C.1 = D.1 then if cmP C.2 D.2 = 0 then sameQ F G else false else false
  | _, _ => false
def ssP (F : List (Bool × List Int)) (G : List (Bool × List Int)) : Bool := if F.length = G.length then sameQ F G else false
set_option linter.unusedSimpArgs false in
set_option maxRecDepth 100000 in
set_option maxHeartbeats 8000000 in
/-- cnfm.SameSteps -/
theorem sameSM_any (w : World) (af : Option Addr) (cf : Nat) (F : List (Bool × List Int)) (ag : Option Addr) (cg : Nat) (G : List (Bool × List Int)) (hF : SL w af F) (hG : SL w ag G) (hl : F.length ≤ 1000000000) (hlG : G.length ≤ 1000000000) (hB : SB F) (hBG : SB G) :
    Calls Tryz.prog 97 #[.slice af F.length cf, .slice ag G.length cg] w (ExPost w (.bool (ssP F G))) := by
  have HR : Hid ((if F.length = G.length then sameQ (F.drop 0) (G.drop 0) else false) = ssP F G) := rfl
  obtain ⟨R, hR⟩ : ∃ R, ssP F G = R := ⟨_, rfl⟩
  rw [hR] at HR ⊢
  clear hR
  obtain ⟨n, hn⟩ : ∃ n, F.length = n := ⟨_, rfl⟩
  have HN := hide hn
  rw [hn] at hl HR ⊢
  clear hn
  obtain ⟨q, hq⟩ : ∃ q, G.length = q := ⟨_, rfl⟩
  have HQ := hide hq
  rw [hq] at hlG HR ⊢
  clear hq
  have HL := hide hB
  have HLG := hide hBG
  have HF := hide hF
  have HG := hide hG
  clear hB hBG hF hG
  by_cases hnq : n = q
  · rw [if_pos hnq] at HR
    subst hnq
    go_enter Tryz.func97, Tryz.ntmps97
    go_wp2_with fail
    go_loopw [5, 13] (fun _ s13 wx => ∃ (i : Nat), s13 = .int .i64 i ∧ i ≤ n ∧ Hid (sameQ (F.drop i) (G.drop i) = R) ∧ Hid (Ex (fun _ => False) w wx)) (fun _ s13 _ => n - (intOf s13).toNat)
    case atStart => exact ⟨0, rfl, Nat.zero_le _, HR, Ex.refl _ _⟩
    case round =>
      clear HR
      obtain ⟨i, rfl, hi, HS, HE⟩ := hrel
      have hw1 : wrap64 ((i : Int) + 1) = ((i + 1 : Nat) : Int) := by unfold wrap64; omega
      by_cases hlt : i < n
      · have hib : decide ((i : Int) < (n : Int)) = true := decide_eq_true (by omega)
        have hii : (i : Int) < (n : Int) := by omega
        obtain ⟨⟨b1, C⟩, hx⟩ : ∃ x, F[i]? = some x := ⟨_, List.getElem?_eq_getElem (by rw [HN.out]; exact hlt)⟩
        obtain ⟨⟨b2, D⟩, hy⟩ : ∃ x, G[i]? = some x := ⟨_, List.getElem?_eq_getElem (by rw [HQ.out]; exact hlt)⟩
        obtain ⟨g1, o1, a1, c1, ea1, x0, x1, hil1, hc1, hm1⟩ := (HF.out.keep HE.out) i _ hx
        obtain ⟨g2, o2, a2, c2, ea2, y0, y1, hil2, hc2, hm2⟩ := (HG.out.keep HE.out) i _ hy
        subst ea1 ea2
        dsimp only at x0 x1 y0 y1 hil1 hil2 hc1 hc2
        rw [drop_consG hx, drop_consG hy] at HS
        have HS2 : Hid ((if b1 = b2 then if cmP C D = 0 then sameQ (F.drop (i + 1)) (G.drop (i + 1)) else false else false) = R) := HS.out
        have HCM : Hid (∀ m, Calls Tryz.prog 93 #[.slice a1 C.length c1, .slice a2 D.length c2] (wr.drewN m) (DrPost (wr.drewN m) (.int .i64 (cmP C D)))) := fun m =>
          compareM_any C D (wr.drewN m) a1 c1 a2 c2 (hil1.dr m) (hil2.dr m) hc1 hc2 hm1 hm2 (HL.out _ (List.mem_of_getElem? hx)).2 (HLG.out _ (List.mem_of_getElem? hy)).2
        have HEm : Hid (∀ m, Ex (fun _ => False) w (wr.drewN m)) := fun m => HE.out.drewN m
        clear hx hy hil1 hil2 hc1 hc2 hm1 hm2 HS
        generalize cmP C D = cm at *
        generalize C.length = lc at *
        generalize D.length = ld at *
        by_cases hbb : b1 = b2
        · rw [if_pos hbb] at HS2
          subst hbb
          by_cases hcm : cm = 0
          · have hcb : (cm != 0) = false := by simp [hcm]
            rw [if_pos hcm] at HS2
            clear hcm
            go_upto_region 6 with fail
            go_quiet (first | (go_at_call 93; exact Calls.quiet_of (HCM.out _)))
            rename Nat => nq
            have HE2 := hide (HEm.out nq)
            generalize wr.drewN nq = w2 at *
            go_wp2
            go_roundw
            case rel => exact ⟨i + 1, by go_num, by omega, HS2, HE2⟩
            case measure => (simp [intOf]; try omega)
          · have hcb : (cm != 0) = true := by simp [hcm]
            rw [if_neg hcm] at HS2
            clear hcm
            go_upto_region 6 with fail
            go_quiet (first | (go_at_call 93; exact Calls.quiet_of (HCM.out _)))
            rename Nat => nq
            have HE2 := hide (HEm.out nq)
            generalize wr.drewN nq = w2 at *
            go_wp2
            exact bodyPost_ret (v := .bool false) (by simp [results, Tryz.results97, go_sem]) rfl ⟨by rw [HS2.out], HE2.out⟩
        · have hbn : (b1 == b2) = false := by simp [hbb]
          rw [if_neg hbb] at HS2
          clear hbb
          go_upto_region 6 with fail
          go_quiet (fail)
          rename Nat => nq
          have HE2 := hide (HEm.out nq)
          generalize wr.drewN nq = w2 at *
          go_wp2
          exact bodyPost_ret (v := .bool false) (by simp [results, Tryz.results97, go_sem]) rfl ⟨by rw [HS2.out], HE2.out⟩
      · have hib : decide ((i : Int) < (n : Int)) = false := decide_eq_false (by omega)
        rw [List.drop_of_length_le (by rw [HN.out]; omega), List.drop_of_length_le (by rw [HQ.out]; omega)] at HS
        have HS2 : Hid (true = R) := HS.out
        clear HS
        go_wp2
        exact bodyPost_ret (v := .bool true) (by simp [results, Tryz.results97, go_sem]) rfl ⟨by rw [HS2.out], HE.out⟩
  · rw [if_neg hnq] at HR
    have hnb : ((n : Int) != (q : Int)) = true := by simp; omega
    go_enter Tryz.func97, Tryz.ntmps97
    go_wp2
    exact bodyPost_ret (v := .bool false) (by simp [results, Tryz.results97, go_sem]) rfl ⟨by rw [HR.out], Ex.refl _ _⟩
end Go.Proofs.Qxb6500773aGreat
