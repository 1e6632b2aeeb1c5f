import Derived.Test.Qxb6500773aGreatMo
namespace Go.Proofs.Qxb6500773aGreat
open Go.RowKit

def dgM (x : Int) : Bool := !(decide (x < 48) || decide (57 < x))
def digM (X : List Int) : Bool := X.all dgM && decide (0 < X.length)
set_option linter.unusedSimpArgs false in
set_option maxRecDepth 100000 in
set_option maxHeartbeats 8000000 in
/-- cnfm.digits -/
theorem digitsM_any (w : World) (a : Option Addr) (c : Nat) (X : List Int) (h : UL w a X) (hl : X.length ≤ 4000000000000000000) :
    Calls Tryz.prog 141 #[.slice a X.length c] w fun e w' => e = .returned (.bool (digM X)) ∧ w' = w := by
  have HX := hide h
  clear h
  have HR : Hid (((X.drop 0).all dgM && decide (0 < X.length)) = digM X) := rfl
  obtain ⟨R, hR⟩ : ∃ R, digM X = R := ⟨_, rfl⟩
  rw [hR] at HR ⊢
  clear hR
  obtain ⟨n, hn⟩ : ∃ n, X.length = n := ⟨_, rfl⟩
  have HN := hide hn
  rw [hn] at hl HR ⊢
  clear hn
  go_enter Tryz.func141, Tryz.ntmps141
  go_wp2_with fail
  go_loopw [4, 7] (fun _ s wx => ∃ (i : Nat), s = .int .i64 i ∧ i ≤ n ∧ Hid (((X.drop i).all dgM && decide (0 < n)) = R) ∧ w = wx) (fun _ s _ => n - (intOf s).toNat)
  case atStart => exact ⟨0, rfl, Nat.zero_le _, HR, rfl⟩
  case round =>
    clear HR
    obtain ⟨i, rfl, hi, HS, rfl⟩ := hrel
    have hw1 : wrap64 ((i : Int) + 1) = ((i + 1 : Nat) : Int) := by unfold wrap64; omega
    by_cases hlt : i < n
    · have hib : decide ((i : Int) < (n : Int)) = true := decide_eq_true (by omega)
      have hii : (i : Int) < (n : Int) := by omega
      obtain ⟨x, hx⟩ : ∃ x, X[i]? = some x := ⟨_, List.getElem?_eq_getElem (by rw [HN.out]; exact hlt)⟩
      obtain ⟨g, o, ea, x0⟩ := HX.out i x hx
      subst ea
      rw [drop_consG hx, List.all_cons] at HS
      clear hx
      by_cases h1 : x < 48
      · have b1 : decide (x < 48) = true := decide_eq_true h1
        have HQ : Hid (false = R) := by show _ = _; rw [← HS.out]; simp [dgM, b1]
        clear HS h1
        go_wp2
        go_ret
        exact ⟨ret_bool HQ.out, rfl⟩
      · have b1 : decide (x < 48) = false := decide_eq_false h1
        by_cases h2 : 57 < x
        · have b2 : decide (57 < x) = true := decide_eq_true h2
          have HQ : Hid (false = R) := by show _ = _; rw [← HS.out]; simp [dgM, b1, b2]
          clear HS h1 h2
          go_wp2
          go_ret
          exact ⟨ret_bool HQ.out, rfl⟩
        · have b2 : decide (57 < x) = false := decide_eq_false h2
          have HQ : Hid (((X.drop (i + 1)).all dgM && decide (0 < n)) = R) := by show _ = _; rw [← HS.out]; simp [dgM, b1, b2]
          clear HS h1 h2
          go_wp2
          go_roundw
          case rel => exact ⟨i + 1, by go_num, by omega, HQ, trivial⟩
          case measure => (simp [intOf]; try omega)
    · have hib : decide ((i : Int) < (n : Int)) = false := decide_eq_false (by omega)
      rw [List.drop_of_length_le (by rw [HN.out]; omega)] at HS
      have HQ : Hid (decide (0 < n) = R) := by show _ = _; rw [← HS.out]; simp
      clear HS
      go_wp2
      go_ret
      exact ⟨ret_bool HQ.out, rfl⟩
end Go.Proofs.Qxb6500773aGreat
