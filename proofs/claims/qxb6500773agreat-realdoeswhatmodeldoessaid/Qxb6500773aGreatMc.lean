import Derived.Test.Qxb6500773aGreatMb
namespace Go.Proofs.Qxb6500773aGreat
open Go.RowKit

def I64 (x : Int) : Prop := -9223372036854775807 ≤ x ∧ x ≤ 9223372036854775807
/-- the value of a clause, in the model -/
def emP (C A : List Int) : Int := if C.any (fun d => mvP A d == 1) = true then 1 else if C.any (fun d => mvP A d == 0) = true then 0 else -1
set_option linter.unusedSimpArgs false in
set_option maxRecDepth 100000 in
set_option maxHeartbeats 8000000 in
/-- cnfm.EvalClause -/
theorem evalM_any (w : World) (ac : Option Addr) (cc : Nat) (C : List Int) (aa : Option Addr) (ca : Nat) (A : List Int) (hC : IL w ac C) (hA : IL w aa A) (hl : C.length ≤ 1000000000) (hlA : A.length ≤ 1000000000) (hd : ∀ x ∈ C, I64 x) :
    Calls Tryz.prog 81 #[.slice ac C.length cc, .slice aa A.length ca] w fun e w' => e = .returned (.int .i8 (emP C A)) ∧ w' = w := by
  have HC := hide hC
  have HA := hide hA
  have HD := hide hd
  clear hC hA hd
  have HR : Hid ((if (C.drop 0).any (fun d => mvP A d == 1) = true then 1 else if C.any (fun d => mvP A d == 0) = true then 0 else -1) = emP C A) := rfl
  obtain ⟨R, hR⟩ : ∃ R, emP C A = R := ⟨_, rfl⟩
  rw [hR] at HR ⊢
  clear hR
  obtain ⟨n, hn⟩ : ∃ n, C.length = n := ⟨_, rfl⟩
  have HN := hide hn
  rw [hn] at hl ⊢
  clear hn
  obtain ⟨q, hq⟩ : ∃ q, A.length = q := ⟨_, rfl⟩
  have HQ := hide hq
  rw [hq] at hlA ⊢
  clear hq
  go_enter Tryz.func81, Tryz.ntmps81
  go_wp2_with fail
  go_loopw [6, 11] (fun _ s11 wx => ∃ (i : Nat), s11 = .int .i64 i ∧ i ≤ n ∧ Hid ((if (C.drop i).any (fun d => mvP A d == 1) = true then 1 else if C.any (fun d => mvP A d == 0) = true then 0 else -1) = R) ∧ w = wx) (fun _ s11 _ => n - (intOf s11).toNat)
  case atStart => exact ⟨0, rfl, Nat.zero_le _, HR, rfl⟩
  case round =>
    clear HR
    obtain ⟨i, rfl, hi, HS, rfl⟩ := hrel
    have hw1 : wrap64 ((i : Int) + 1) = ((i + 1 : Nat) : Int) := by unfold wrap64; omega
    by_cases hlt : i < n
    · have hib : decide ((i : Int) < (n : Int)) = true := decide_eq_true (by omega)
      have hii : (i : Int) < (n : Int) := by omega
      obtain ⟨x, hx⟩ : ∃ x, C[i]? = some x := ⟨_, List.getElem?_eq_getElem (by rw [HN.out]; exact hlt)⟩
      obtain ⟨g, o, ea, x0⟩ := HC.out i x hx
      subst ea
      rw [drop_consG hx, List.any_cons] at HS
      have c80 := hide (value_any w aa ca A HA.out (by rw [HQ.out]; exact hlA) x (HD.out x (List.mem_of_getElem? hx)))
      rw [HQ.out] at c80
      clear hx
      generalize mvP A x = mv at *
      go_wp2_with fail
      refine c80.out.mono ?_
      rintro e wz ⟨rfl, hw⟩
      rw [hw]
      clear hw wz c80
      by_cases hm : mv = 1
      · have hmb : (mv == 1) = true := by simp [hm]
        rw [hmb, Bool.true_or, if_pos rfl] at HS
        clear hm
        go_wp2
        go_ret
        exact ⟨ret_int HS.out, rfl⟩
      · have hmb : (mv == 1) = false := by simp [hm]
        rw [hmb, Bool.false_or] at HS
        clear hm
        go_wp2
        go_roundw
        case rel => exact ⟨i + 1, by go_num, by omega, HS, trivial⟩
        case measure => (simp [intOf]; try omega)
    · have hib : decide ((i : Int) < (n : Int)) = false := decide_eq_false (by omega)
      have HS0 : Hid ((if (C.drop 0).any (fun d => mvP A d == 0) = true then 0 else -1) = R) := by
        have := HS.out
        rw [List.drop_of_length_le (by rw [HN.out]; omega)] at this
        exact this
      clear HS
      go_wp2_with fail
      go_loopw [8, 22] (fun _ s22 wx => ∃ (i : Nat), s22 = .int .i64 i ∧ i ≤ n ∧ Hid ((if (C.drop i).any (fun d => mvP A d == 0) = true then 0 else -1) = R) ∧ w = wx) (fun _ s22 _ => n - (intOf s22).toNat)
      case atStart => exact ⟨0, rfl, Nat.zero_le _, HS0, rfl⟩
      case round =>
        clear HS0 hw1
        obtain ⟨k, rfl, hk, HS, rfl⟩ := hrel
        have hw1 : wrap64 ((k : Int) + 1) = ((k + 1 : Nat) : Int) := by unfold wrap64; omega
        by_cases hkt : k < n
        · have hkb : decide ((k : Int) < (n : Int)) = true := decide_eq_true (by omega)
          have hkk : (k : Int) < (n : Int) := by omega
          obtain ⟨x, hx⟩ : ∃ x, C[k]? = some x := ⟨_, List.getElem?_eq_getElem (by rw [HN.out]; exact hkt)⟩
          obtain ⟨g, o, ea, x0⟩ := HC.out k x hx
          subst ea
          rw [drop_consG hx, List.any_cons] at HS
          have c80 := hide (value_any w aa ca A HA.out (by rw [HQ.out]; exact hlA) x (HD.out x (List.mem_of_getElem? hx)))
          rw [HQ.out] at c80
          clear hx
          generalize mvP A x = mv at *
          go_wp2_with fail
          refine c80.out.mono ?_
          rintro e wz ⟨rfl, hw⟩
          rw [hw]
          clear hw wz c80
          by_cases hm : mv = 0
          · have hmb : (mv == 0) = true := by simp [hm]
            rw [hmb, Bool.true_or, if_pos rfl] at HS
            clear hm
            go_wp2
            go_ret
            exact ⟨ret_int HS.out, rfl⟩
          · have hmb : (mv == 0) = false := by simp [hm]
            rw [hmb, Bool.false_or] at HS
            clear hm
            go_wp2
            go_roundw
            case rel => exact ⟨k + 1, by go_num, by omega, HS, trivial⟩
            case measure => (simp [intOf]; try omega)
        · have hkb : decide ((k : Int) < (n : Int)) = false := decide_eq_false (by omega)
          have HS1 : Hid (-1 = R) := by
            have := HS.out
            rw [List.drop_of_length_le (by rw [HN.out]; omega)] at this
            exact this
          clear HS
          go_wp2
          go_ret
          exact ⟨ret_int HS1.out, rfl⟩
/-- are the variables from v on, n of them, all valued -/
def mtotP (A : List Int) : Nat → Nat → Bool
  | _, 0 => true
  | v, n + 1 => if mvP A (v : Int) = 0 then false else mtotP A (v + 1) n
set_option linter.unusedSimpArgs false in
set_option maxRecDepth 100000 in
set_option maxHeartbeats 8000000 in
/-- cnfm.Total: the loop ends at the first variable without a value -/
theorem totalM_any (w : World) (aa : Option Addr) (ca : Nat) (A : List Int) (hA : IL w aa A) (hlA : A.length ≤ 1000000000) (n : Int) (hn : -9223372036854775808 ≤ n ∧ n ≤ 9223372036854775807) (N : Nat) (hN : ∃ v : Nat, 1 ≤ v ∧ v ≤ N ∧ mvP A (v : Int) = 0) (hNN : N ≤ 1000000000) :
    Calls Tryz.prog 92 #[.slice aa A.length ca, .int .i64 n] w fun e w' => e = .returned (.bool (mtotP A 1 n.toNat)) ∧ w' = w := by
  have HA := hide hA
  have HNN := hide hN
  clear hA hN
  obtain ⟨R, hR⟩ : ∃ R, mtotP A 1 n.toNat = R := ⟨_, rfl⟩
  have HR := hide hR
  rw [hR]
  clear hR
  obtain ⟨q, hq⟩ : ∃ q, A.length = q := ⟨_, rfl⟩
  have HQ := hide hq
  rw [hq] at hlA ⊢
  clear hq
  go_enter Tryz.func92, Tryz.ntmps92
  go_wp2_with fail
  go_loopw [5] (fun s5 wx => ∃ (v : Nat), s5 = .int .i64 v ∧ 1 ≤ v ∧ v ≤ N + 1 ∧ Hid (∀ u : Nat, 1 ≤ u → u < v → mvP A (u : Int) ≠ 0) ∧ Hid (mtotP A v (n + 1 - v).toNat = R) ∧ wx = w) (fun s5 _ => N + 1 - (intOf s5).toNat)
  case atStart => exact ⟨1, rfl, Nat.le_refl _, by omega, (fun u h1 h2 => by omega), (by show mtotP A 1 _ = _; rw [show n + 1 - ((1 : Nat) : Int) = n by omega]; exact HR.out), rfl⟩
  case round =>
    clear HR
    obtain ⟨v, rfl, hv1, hv2, HP, HS, rfl⟩ := hrel
    have hw1 : wrap64 ((v : Int) + 1) = ((v + 1 : Nat) : Int) := by unfold wrap64; omega
    by_cases hlt : (v : Int) ≤ n
    · have hib : decide ((v : Int) ≤ n) = true := decide_eq_true hlt
      have hvN : v ≤ N := by
        obtain ⟨u, h1, h2, h3⟩ := HNN.out
        by_cases z : u < v
        · exact absurd h3 (HP.out u h1 z)
        · omega
      obtain ⟨m, hm⟩ : ∃ m, (n + 1 - (v : Int)).toNat = m + 1 := ⟨(n - v).toNat, by omega⟩
      have HM : Hid ((n + 1 - ((v + 1 : Nat) : Int)).toNat = m) := by show _ = _; omega
      rw [hm] at HS
      unfold mtotP at HS
      have c80 := hide (value_any wr aa ca A HA.out (by rw [HQ.out]; exact hlA) (v : Int) (by omega))
      rw [HQ.out] at c80
      have HP2 : Hid (mvP A (v : Int) ≠ 0 → ∀ u : Nat, 1 ≤ u → u < v + 1 → mvP A (u : Int) ≠ 0) := fun z u h1 h2 => by
        by_cases e : u = v
        · rw [e]; exact z
        · exact HP.out u h1 (by omega)
      generalize mvP A (v : Int) = mv at *
      clear hm HP
      go_wp2_with fail
      refine c80.out.mono ?_
      rintro e wz ⟨rfl, hw⟩
      rw [hw]
      clear hw wz c80
      by_cases hz : mv = 0
      · have hzb : (mv == 0) = true := by simp [hz]
        rw [if_pos hz] at HS
        clear hz
        go_wp2
        go_ret
        exact ⟨ret_bool HS.out, rfl⟩
      · have hzb : (mv == 0) = false := by simp [hz]
        rw [if_neg hz] at HS
        have HP3 := hide (HP2.out hz)
        clear hz HP2
        go_wp2
        go_roundw
        case rel => exact ⟨v + 1, by go_num, by omega, by omega, HP3, (by show _ = _; rw [HM.out]; exact HS.out), trivial⟩
        case measure => (simp [intOf]; try omega)
    · have hib : decide ((v : Int) ≤ n) = false := decide_eq_false hlt
      have HS1 : Hid (true = R) := by
        have := HS.out
        rw [show (n + 1 - (v : Int)).toNat = 0 by omega] at this
        exact this
      clear HS
      go_wp2
      go_ret
      exact ⟨ret_bool HS1.out, rfl⟩
end Go.Proofs.Qxb6500773aGreat
