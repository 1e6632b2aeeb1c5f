import Derived.Test.Qxb6500773aGreatZ9
namespace Go.Proofs.Qxb6500773aGreat
open Go.RowKit

set_option linter.unusedSimpArgs false in
set_option maxRecDepth 100000 in
set_option maxHeartbeats 8000000 in
/-- cnf.Clause.Equal -/
theorem equalC_any (w : World) (a b : Option Addr) (c d : Nat) (C D : List Int) (hc : CL w a C) (hd : CL w b D) (hl : C.length ≤ 1000000000) (hl' : D.length ≤ 1000000000) :
    Calls Tryz.prog 62 #[.slice a C.length c, .slice b D.length d] w fun e w' => e = .returned (.bool (C == D)) ∧ w' = w := by
  have HC := hide hc
  have HD := hide hd
  obtain ⟨n, hn⟩ : ∃ n, C.length = n := ⟨_, rfl⟩
  obtain ⟨m, hm⟩ : ∃ m, D.length = m := ⟨_, rfl⟩
  have HNL := hide hn
  have HML := hide hm
  rw [hn] at hl ⊢
  rw [hm] at hl' ⊢
  obtain ⟨R, hR⟩ : ∃ R, (C == D) = R := ⟨_, rfl⟩
  have HR := hide hR
  rw [hR]
  clear hc hd hn hm hR
  by_cases hnm : n = m
  · subst hnm
    go_enter Tryz.func62, Tryz.ntmps62
    go_wp2_with fail
    go_loopw [14] (fun s14 wr => ∃ (i : Nat), s14 = .int .i64 i ∧ i ≤ n ∧ Hid (C.take i = D.take i) ∧ wr = w) (fun s14 _ => n - (intOf s14).toNat)
    case atStart => exact ⟨0, rfl, Nat.zero_le _, rfl, rfl⟩
    case round =>
      obtain ⟨i, rfl, hin, HS, rfl⟩ := hrel
      by_cases hi : i < n
      · have hib : decide ((i : Int) < (n : Int)) = true := decide_eq_true (by omega)
        have hii : (i : Int) < (n : Int) := by omega
        obtain ⟨x, hx⟩ : ∃ x, C[i]? = some x := ⟨_, List.getElem?_eq_getElem (by rw [HNL.out]; exact hi)⟩
        obtain ⟨y, hy⟩ : ∃ y, D[i]? = some y := ⟨_, List.getElem?_eq_getElem (by rw [HML.out]; exact hi)⟩
        obtain ⟨g, off, rfl, x0⟩ := HC.out i x hx
        obtain ⟨g', off', rfl, y0⟩ := HD.out i y hy
        by_cases h1 : x = y
        · subst h1
          have HS2 : Hid (C.take (i + 1) = D.take (i + 1)) := by show _ = _; rw [List.take_add_one, List.take_add_one, HS.out, hx, hy]
          clear hx hy
          go_wp2
          go_roundw
          case rel => exact ⟨i + 1, by go_num, by omega, HS2, trivial⟩
          case measure => (simp [intOf]; try omega)
        · have hb : (x != y) = true := by simp [h1]
          have HF : Hid (R = false) := by
            show _ = _
            rw [← HR.out]
            refine beq_eq_false_iff_ne.2 (fun e => h1 ?_)
            rw [e, hy] at hx
            injection hx with hx
            exact hx.symm
          clear hx hy h1
          go_wp2
          go_ret
          exact ⟨ret_bool HF.out.symm, rfl⟩
      · obtain rfl : i = n := by omega
        have hib : decide ((i : Int) < (i : Int)) = false := decide_eq_false (by omega)
        have HF : Hid (R = true) := by
          show _ = _
          rw [← HR.out]
          have := HS.out
          rw [List.take_of_length_le (by rw [HNL.out]; exact Nat.le_refl _), List.take_of_length_le (by rw [HML.out]; exact Nat.le_refl _)] at this
          rw [this]
          exact beq_self_eq_true _
        go_wp2
        go_ret
        exact ⟨ret_bool HF.out.symm, rfl⟩
  · have hb : ((n : Int) != (m : Int)) = true := by simp; omega
    have HF : Hid (R = false) := by
      show _ = _
      rw [← HR.out]
      refine beq_eq_false_iff_ne.2 (fun e => hnm ?_)
      rw [← HNL.out, ← HML.out, e]
    go_enter Tryz.func62, Tryz.ntmps62
    go_wp2
    go_ret
    exact ⟨ret_bool HF.out.symm, rfl⟩
/-- the order of clauses -/
def cmpP : List Int → List Int → Int
  | [], [] => 0
  | [], _ :: _ => -1
  | _ :: _, [] => 1
  | x :: C, y :: D => if x = y then cmpP C D else if x < y then -1 else 1
set_option linter.unusedSimpArgs false in
set_option maxRecDepth 100000 in
set_option maxHeartbeats 8000000 in
/-- cnf.Clause.Compare -/
theorem compare_any (w : World) (a b : Option Addr) (c d : Nat) (C D : List Int) (hc : CL w a C) (hd : CL w b D) (hl : C.length ≤ 1000000000) (hl' : D.length ≤ 1000000000) :
    Calls Tryz.prog 60 #[.slice a C.length c, .slice b D.length d] w fun e w' => e = .returned (.int .i64 (cmpP C D)) ∧ w' = w := by
  have HC := hide hc
  have HD := hide hd
  obtain ⟨n, hn⟩ : ∃ n, C.length = n := ⟨_, rfl⟩
  obtain ⟨m, hm⟩ : ∃ m, D.length = m := ⟨_, rfl⟩
  have HNL := hide hn
  have HML := hide hm
  rw [hn] at hl ⊢
  rw [hm] at hl' ⊢
  obtain ⟨R, hR⟩ : ∃ R, cmpP C D = R := ⟨_, rfl⟩
  have HR := hide hR
  rw [hR]
  clear hc hd hn hm hR
  go_enter Tryz.func60, Tryz.ntmps60
  go_wp2_with fail
  go_loopw [9] (fun sx wr => ∃ (i : Nat), sx = .int .i64 i ∧ i ≤ n ∧ i ≤ m ∧ Hid (cmpP (C.drop i) (D.drop i) = R) ∧ wr = w) (fun sx _ => n - (intOf sx).toNat)
  case atStart => exact ⟨0, rfl, Nat.zero_le _, Nat.zero_le _, HR, rfl⟩
  case round =>
    obtain ⟨i, rfl, hin, him, HS, rfl⟩ := hrel
    by_cases hi : i < n
    · have hib : decide ((i : Int) < (n : Int)) = true := decide_eq_true (by omega)
      have hii : (i : Int) < (n : Int) := by omega
      obtain ⟨x, hx⟩ : ∃ x, C[i]? = some x := ⟨_, List.getElem?_eq_getElem (by rw [HNL.out]; exact hi)⟩
      obtain ⟨g, off, rfl, x0⟩ := HC.out i x hx
      rw [drop_consG hx] at HS
      clear hx
      by_cases hj : i < m
      · have hjj : (i : Int) < (m : Int) := by omega
        have hbe : ((i : Int) == (m : Int)) = false := by simp; omega
        obtain ⟨y, hy⟩ : ∃ y, D[i]? = some y := ⟨_, List.getElem?_eq_getElem (by rw [HML.out]; exact hj)⟩
        obtain ⟨g', off', rfl, y0⟩ := HD.out i y hy
        rw [drop_consG hy, cmpP] at HS
        clear hy
        by_cases h1 : x = y
        · rw [if_pos h1] at HS
          subst h1
          go_wp2
          go_roundw
          case rel => exact ⟨i + 1, by go_num, by omega, by omega, HS, trivial⟩
          case measure => (simp [intOf]; try omega)
        · rw [if_neg h1] at HS
          have hb : (x != y) = true := by simp [h1]
          by_cases h2 : x < y
          · rw [if_pos h2] at HS
            have hb2 : decide (x < y) = true := decide_eq_true h2
            clear h1
            go_wp2
            go_ret
            exact ⟨ret_int HS.out, rfl⟩
          · rw [if_neg h2] at HS
            have hb2 : decide (x < y) = false := decide_eq_false h2
            clear h1
            go_wp2
            go_ret
            exact ⟨ret_int HS.out, rfl⟩
      · obtain rfl : i = m := by omega
        have hD0 : D.drop i = [] := List.drop_of_length_le (by rw [HML.out]; exact Nat.le_refl _)
        rw [hD0, cmpP] at HS
        clear hD0
        go_wp2
        go_ret
        exact ⟨ret_int HS.out, rfl⟩
    · obtain rfl : i = n := by omega
      have hib : decide ((i : Int) < (i : Int)) = false := decide_eq_false (by omega)
      rw [List.drop_of_length_le (by rw [HNL.out]; exact Nat.le_refl _)] at HS
      by_cases hj : i < m
      · have hjb : decide ((i : Int) < (m : Int)) = true := decide_eq_true (by omega)
        obtain ⟨y, hy⟩ : ∃ y, D[i]? = some y := ⟨_, List.getElem?_eq_getElem (by rw [HML.out]; exact hj)⟩
        rw [drop_consG hy, cmpP] at HS
        clear hy
        go_wp2
        go_ret
        exact ⟨ret_int HS.out, rfl⟩
      · obtain rfl : i = m := by omega
        rw [List.drop_of_length_le (by rw [HML.out]; exact Nat.le_refl _), cmpP] at HS
        go_wp2
        go_ret
        exact ⟨ret_int HS.out, rfl⟩
end Go.Proofs.Qxb6500773aGreat
