import Derived.Test.Qxb6500773aGreatZ7
namespace Go.Proofs.Qxb6500773aGreat
open Go.RowKit

def eqvP (V U : List Int) : Nat → Nat → Bool
  | _, 0 => true
  | i, m + 1 => if varP V (i : Int) = varP U (i : Int) then eqvP V U (i + 1) m else false
def eqaP (V U : List Int) (k q : Int) : Bool := if k = q then eqvP V U 1 (if V.length - 1 < U.length - 1 then U.length - 1 else V.length - 1) else false
set_option linter.unusedSimpArgs false in
set_option maxRecDepth 100000 in
set_option maxHeartbeats 8000000 in
/-- cnf.Assignment.Equal -/
theorem equalA_any (w : World) (B b : Nat) (va : Value) (k : Int) (V : List Int) (h : AT w B b va k V) (hl : V.length ≤ 16777216) (B' b' : Nat) (vb : Value) (q : Int) (U : List Int) (h' : AT w B' b' vb q U) (hl' : U.length ≤ 16777216) :
    Calls Tryz.prog 72 #[.pointer (some ⟨b, 0, none⟩), .pointer (some ⟨b', 0, none⟩)] w fun e w' => e = .returned (.bool (eqaP V U k q)) ∧ ∃ m, w' = w.drewN m := by
  have c1 := h.c1
  have d1 := h'.c1
  have HV := fun (W : World) (e : Ex (fun _ => False) w W) (v : Int) hv => varA_any W B b va k V (h.keep e (fun z => z) (fun _ _ z => z)) v hv
  have HU := fun (W : World) (e : Ex (fun _ => False) w W) (v : Int) hv => varA_any W B' b' vb q U (h'.keep e (fun z => z) (fun _ _ z => z)) v hv
  have HN := fun (W : World) (e : Ex (fun _ => False) w W) => numVarsA_any W B b va k V (h.keep e (fun z => z) (fun _ _ z => z)) hl
  have HM := fun (W : World) (e : Ex (fun _ => False) w W) => numVarsA_any W B' b' vb q U (h'.keep e (fun z => z) (fun _ _ z => z)) hl'
  have HV := hide HV
  have HU := hide HU
  have HN := hide HN
  have HM := hide HM
  have HQ : Hid (eqaP V U k q = if k = q then eqvP V U 1 (if V.length - 1 < U.length - 1 then U.length - 1 else V.length - 1) else false) := rfl
  obtain ⟨R, hR⟩ : ∃ R, eqaP V U k q = R := ⟨_, rfl⟩
  rw [hR] at HQ ⊢
  have hn : V.length - 1 ≤ 16777215 := by omega
  have hm : U.length - 1 ≤ 16777215 := by omega
  generalize V.length - 1 = n at *
  generalize U.length - 1 = m at *
  clear h h' hR hl hl'
  by_cases hkq : k = q
  · rw [if_pos hkq] at HQ
    subst hkq
    go_enter Tryz.func72, Tryz.ntmps72
    go_upto_region 1 with fail
    go_quiet (fail)
    have HED : Hid (Ex (fun _ => False) w (w.drewN nq)) := (Ex.refl _ w).drewN nq
    have HW : Hid (∃ m, w.drewN nq = w.drewN m) := ⟨nq, rfl⟩
    generalize w.drewN nq = W at *
    go_wp2_with fail
    refine (HN.out W HED.out).mono ?_
    rintro e w' ⟨rfl, hw'⟩
    rw [hw']
    clear hw' w'
    by_cases hlt : n < m
    · have dl : decide ((n : Int) < (m : Int)) = true := decide_eq_true (by omega)
      rw [if_pos hlt] at HQ
      obtain ⟨N, hN⟩ : ∃ N, m = N := ⟨_, rfl⟩
      go_wp2_with fail
      refine (HM.out W HED.out).mono ?_
      rintro e w' ⟨rfl, hw'⟩
      rw [hw']
      clear hw' w'
      go_wp2_with fail
      refine (HM.out W HED.out).mono ?_
      rintro e w' ⟨rfl, hw'⟩
      rw [hw']
      clear hw' w'
      rw [hN] at HQ hm ⊢
      have hN2 : N ≤ 16777215 := hm
      clear hN dl hm
      go_wp2_with fail
      go_loopw [6] (fun s6 wr => ∃ (i : Nat), s6 = .int .i64 i ∧ 1 ≤ i ∧ i ≤ N + 1 ∧ Hid (R = eqvP V U i (N + 1 - i)) ∧ wr = W) (fun s6 _ => N + 1 - (intOf s6).toNat)
      case atStart => exact ⟨1, rfl, by omega, by omega, HQ, rfl⟩
      case round =>
        obtain ⟨i, rfl, hi1, hi2, HS, rfl⟩ := hrel
        by_cases hi : i ≤ N
        · have hib : decide ((i : Int) ≤ (N : Int)) = true := decide_eq_true (by omega)
          have hw : IntKind.i32.wrap (i : Int) = (i : Int) := by rw [IntKind.wrap_i32]; omega
          rw [show N + 1 - i = (N + 1 - (i + 1)) + 1 by omega, eqvP] at HS
          have HC1 := hide (HV.out wr HED.out (i : Int) (by omega))
          have HC2 := hide (HU.out wr HED.out (i : Int) (by omega))
          generalize varP V (i : Int) = x at *
          generalize varP U (i : Int) = y at *
          by_cases hxy : x = y
          · rw [if_pos hxy] at HS
            subst hxy
            go_wp2_with fail
            refine HC1.out.mono ?_
            rintro e w' ⟨rfl, hw'⟩
            rw [hw']
            clear hw' w'
            go_wp2_with fail
            refine HC2.out.mono ?_
            rintro e w' ⟨rfl, hw'⟩
            rw [hw']
            clear hw' w' HC1 HC2
            go_wp2
            go_roundw
            case rel => exact ⟨i + 1, by go_num, by omega, by omega, HS, trivial⟩
            case measure => (simp [intOf]; try omega)
          · rw [if_neg hxy] at HS
            have hb : (x != y) = true := by simp [hxy]
            clear hxy
            go_wp2_with fail
            refine HC1.out.mono ?_
            rintro e w' ⟨rfl, hw'⟩
            rw [hw']
            clear hw' w'
            go_wp2_with fail
            refine HC2.out.mono ?_
            rintro e w' ⟨rfl, hw'⟩
            rw [hw']
            clear hw' w' HC1 HC2
            go_wp2
            go_ret
            exact ⟨ret_bool HS.out.symm, HW.out⟩
        · have hib : decide ((i : Int) ≤ (N : Int)) = false := decide_eq_false (by omega)
          rw [show N + 1 - i = 0 by omega, eqvP] at HS
          go_wp2
          go_ret
          exact ⟨ret_bool HS.out.symm, HW.out⟩
    · have dl : decide ((n : Int) < (m : Int)) = false := decide_eq_false (by omega)
      rw [if_neg hlt] at HQ
      obtain ⟨N, hN⟩ : ∃ N, n = N := ⟨_, rfl⟩
      go_wp2_with fail
      refine (HM.out W HED.out).mono ?_
      rintro e w' ⟨rfl, hw'⟩
      rw [hw']
      clear hw' w'
      go_upto_region 6 with fail
      have hdN : decide (N < m) = false := decide_eq_false (by rw [← hN]; exact hlt)
      rw [hdN]
      rw [hN] at HQ hn
      have hN2 : N ≤ 16777215 := hn
      clear hdN
      clear hN dl hn
      go_wp2_with fail
      go_loopw [6] (fun s6 wr => ∃ (i : Nat), s6 = .int .i64 i ∧ 1 ≤ i ∧ i ≤ N + 1 ∧ Hid (R = eqvP V U i (N + 1 - i)) ∧ wr = W) (fun s6 _ => N + 1 - (intOf s6).toNat)
      case atStart => exact ⟨1, rfl, by omega, by omega, HQ, rfl⟩
      case round =>
        obtain ⟨i, rfl, hi1, hi2, HS, rfl⟩ := hrel
        by_cases hi : i ≤ N
        · have hib : decide ((i : Int) ≤ (N : Int)) = true := decide_eq_true (by omega)
          have hw : IntKind.i32.wrap (i : Int) = (i : Int) := by rw [IntKind.wrap_i32]; omega
          rw [show N + 1 - i = (N + 1 - (i + 1)) + 1 by omega, eqvP] at HS
          have HC1 := hide (HV.out wr HED.out (i : Int) (by omega))
          have HC2 := hide (HU.out wr HED.out (i : Int) (by omega))
          generalize varP V (i : Int) = x at *
          generalize varP U (i : Int) = y at *
          by_cases hxy : x = y
          · rw [if_pos hxy] at HS
            subst hxy
            go_wp2_with fail
            refine HC1.out.mono ?_
            rintro e w' ⟨rfl, hw'⟩
            rw [hw']
            clear hw' w'
            go_wp2_with fail
            refine HC2.out.mono ?_
            rintro e w' ⟨rfl, hw'⟩
            rw [hw']
            clear hw' w' HC1 HC2
            go_wp2
            go_roundw
            case rel => exact ⟨i + 1, by go_num, by omega, by omega, HS, trivial⟩
            case measure => (simp [intOf]; try omega)
          · rw [if_neg hxy] at HS
            have hb : (x != y) = true := by simp [hxy]
            clear hxy
            go_wp2_with fail
            refine HC1.out.mono ?_
            rintro e w' ⟨rfl, hw'⟩
            rw [hw']
            clear hw' w'
            go_wp2_with fail
            refine HC2.out.mono ?_
            rintro e w' ⟨rfl, hw'⟩
            rw [hw']
            clear hw' w' HC1 HC2
            go_wp2
            go_ret
            exact ⟨ret_bool HS.out.symm, HW.out⟩
        · have hib : decide ((i : Int) ≤ (N : Int)) = false := decide_eq_false (by omega)
          rw [show N + 1 - i = 0 by omega, eqvP] at HS
          go_wp2
          go_ret
          exact ⟨ret_bool HS.out.symm, HW.out⟩
  · rw [if_neg hkq] at HQ
    have hb : (k != q) = true := by simp [hkq]
    go_enter Tryz.func72, Tryz.ntmps72
    go_upto_region 1 with fail
    go_quiet (fail)
    go_wp2
    go_ret
    exact ⟨ret_bool HQ.out.symm, nq, rfl⟩
/-- the literals that hold -/
def trueP (V : List Int) (i : Nat) : List Int := ((List.range i).filter (fun v : Nat => decide (1 ≤ v ∧ V.getD v 0 ≠ 0))).map (fun v : Nat => 2 * (v : Int) + if V.getD v 0 = -1 then 1 else 0)
theorem trueP_succ (V : List Int) (i : Nat) (h : 1 ≤ i) : trueP V (i + 1) = if V.getD i 0 = 0 then trueP V i else trueP V i ++ [2 * (i : Int) + if V.getD i 0 = -1 then 1 else 0] := by
  unfold trueP
  rw [List.range_succ, List.filter_append, List.map_append]
  by_cases h0 : V.getD i 0 = 0
  · rw [if_pos h0]
    rw [List.getD_eq_getElem?_getD] at h0
    have : ([i].filter (fun v => decide (1 ≤ v ∧ V.getD v 0 ≠ 0))) = [] := by simp [h0]
    rw [this]
    simp
  · rw [if_neg h0]
    rw [List.getD_eq_getElem?_getD] at h0
    have : ([i].filter (fun v => decide (1 ≤ v ∧ V.getD v 0 ≠ 0))) = [i] := by simp [h0]; exact h
    rw [this]
    simp
theorem trueP_len (V : List Int) (i : Nat) : (trueP V i).length ≤ i := by
  unfold trueP
  rw [List.length_map]
  have := List.length_filter_le (fun v => decide (1 ≤ v ∧ V.getD v 0 ≠ 0)) (List.range i)
  rw [List.length_range] at this
  exact this
end Go.Proofs.Qxb6500773aGreat
