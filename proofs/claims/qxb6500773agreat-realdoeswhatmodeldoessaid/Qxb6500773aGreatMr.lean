import Derived.Test.Qxb6500773aGreatMq
namespace Go.Proofs.Qxb6500773aGreat
open Go.RowKit

def nbV (Y : List Int) : Int := Y.foldl (fun v x => v * 10 + (x - 48)) 0
theorem nbV_succ {Y : List Int} {i : Nat} {x : Int} (h : Y[i]? = some x) : nbV (Y.take (i + 1)) = nbV (Y.take i) * 10 + (x - 48) := by
  unfold nbV
  rw [List.take_add_one, h]
  simp [List.foldl_append]
theorem nbV_lt {Y : List Int} (hd : ∀ x ∈ Y, 48 ≤ x ∧ x ≤ 57) : ∀ i, 0 ≤ nbV (Y.take i) ∧ nbV (Y.take i) < 10 ^ i
  | 0 => by simp [nbV]
  | i + 1 => by
    obtain ⟨h1, h2⟩ := nbV_lt hd i
    cases h : Y[i]? with
    | none =>
      have e : Y.take (i + 1) = Y.take i := by rw [List.take_add_one, h]; simp
      rw [e, Int.pow_succ]
      have : (0 : Int) ≤ 10 ^ i := by omega
      omega
    | some x =>
      have := hd x (List.mem_of_getElem? h)
      rw [nbV_succ h, Int.pow_succ]
      omega
theorem nbV_ten {Y : List Int} (hd : ∀ x ∈ Y, 48 ≤ x ∧ x ≤ 57) (hl : Y.length ≤ 10) (i : Nat) : 0 ≤ nbV (Y.take i) ∧ nbV (Y.take i) < 10000000000 := by
  by_cases h : i ≤ 10
  · obtain ⟨h1, h2⟩ := nbV_lt hd i
    refine ⟨h1, Int.lt_of_lt_of_le h2 ?_⟩
    have e : ((10 ^ i : Nat) : Int) = 10 ^ i := by rw [Int.natCast_pow]; rfl
    have := Nat.pow_le_pow_right (n := 10) (by omega) h
    rw [← e]
    have e2 : (10 : Nat) ^ 10 = 10000000000 := by decide
    omega
  · have e : Y.take i = Y.take 10 := by rw [List.take_of_length_le (by omega), List.take_of_length_le hl]
    rw [e]
    obtain ⟨h1, h2⟩ := nbV_lt hd 10
    exact ⟨h1, h2⟩
theorem sgM_mem : ∀ {X : List Int} {x : Int}, x ∈ sgM X → x ∈ X
  | [], x, h => by simp [sgM] at h
  | y :: X, x, h => by
    unfold sgM at h
    split at h
    · exact List.mem_cons_of_mem _ (sgM_mem h)
    · exact h
/-- a number of at most ten digits, -1 beyond the limit -/
def numM (X : List Int) (lim : Int) : Int := if 10 < (sgM X).length then -1 else if lim < nbV (sgM X) then -1 else nbV (sgM X)
set_option linter.unusedSimpArgs false in
set_option maxRecDepth 100000 in
set_option maxHeartbeats 8000000 in
/-- cnfm.number -/
theorem numberM_any (w : World) (a : Option Addr) (c : Nat) (X : List Int) (lim : Int) (h : UL w a X) (hc : X.length ≤ c) (hm : c ≤ maxLen) (hd : ∀ x ∈ X, 48 ≤ x ∧ x ≤ 57) :
    Calls Tryz.prog 142 #[.slice a X.length c, .int .i64 lim] w fun e w' => e = .returned (.int .i64 (numM X lim)) ∧ w' = w := by
  have c158 := hide (significantM_any w a c X h hc hm)
  have HD : Hid (∀ x ∈ sgM X, 48 ≤ x ∧ x ≤ 57) := fun x hx => hd x (sgM_mem hx)
  have HR : Hid ((if 10 < (sgM X).length then -1 else if lim < nbV (sgM X) then -1 else nbV (sgM X)) = numM X lim) := rfl
  generalize numM X lim = R at *
  generalize sgM X = Y at *
  generalize X.length = n0 at *
  clear h hc hm hd
  go_enter Tryz.func142, Tryz.ntmps142
  go_wp2_with fail
  refine c158.out.mono ?_
  rintro e wz ⟨a', c', rfl, hu, hlc, hcm, rfl⟩
  have HU := hide hu
  clear c158 hu
  obtain ⟨n, hn⟩ : ∃ n, Y.length = n := ⟨_, rfl⟩
  have HN := hide hn
  rw [hn] at hlc HR ⊢
  clear hn
  by_cases h10 : 10 < n
  · rw [if_pos h10] at HR
    have hb : decide ((10 : Int) < (n : Int)) = true := decide_eq_true (by omega)
    unfold maxLen at hcm
    go_wp2
    go_ret
    exact ⟨ret_int HR.out, rfl⟩
  · rw [if_neg h10] at HR
    have hb : decide ((10 : Int) < (n : Int)) = false := decide_eq_false (by omega)
    have HT := hide (nbV_ten HD.out (by rw [HN.out]; omega))
    unfold maxLen at hcm
    go_wp2_with fail
    go_loopw [5, 7, 15] (fun s5 _ s15 wx => ∃ (i : Nat) (v : Int), s15 = .int .i64 i ∧ s5 = .int .i64 v ∧ i ≤ n ∧ 0 ≤ v ∧ v < 10000000000 ∧ Hid (nbV (Y.take i) = v) ∧ wz = wx) (fun _ _ s15 _ => n - (intOf s15).toNat)
    case atStart => exact ⟨0, 0, rfl, rfl, Nat.zero_le _, by omega, by omega, rfl, rfl⟩
    case round =>
      obtain ⟨i, v, rfl, rfl, hi, hv0, hv1, HV, rfl⟩ := hrel
      have hw1 : wrap64 ((i : Int) + 1) = ((i + 1 : Nat) : Int) := by unfold wrap64; omega
      by_cases hlt : i < n
      · have hib : decide ((i : Int) < (n : Int)) = true := decide_eq_true (by omega)
        have hii : (i : Int) < (n : Int) := by omega
        obtain ⟨x, hx⟩ : ∃ x, Y[i]? = some x := ⟨_, List.getElem?_eq_getElem (by rw [HN.out]; exact hlt)⟩
        obtain ⟨g, o, ea, x0⟩ := HU.out i x hx
        subst ea
        obtain ⟨hx1, hx2⟩ := HD.out x (List.mem_of_getElem? hx)
        have HS := hide (nbV_succ hx)
        rw [HV.out] at HS
        obtain ⟨hq0, hq1⟩ := HT.out (i + 1)
        rw [HS.out] at hq0 hq1
        clear hx
        go_wp2
        go_roundw
        case rel => exact ⟨i + 1, v * 10 + (x - 48), by go_num, by go_num, by omega, hq0, hq1, HS, trivial⟩
        case measure => (simp [intOf]; try omega)
      · have hib : decide ((i : Int) < (n : Int)) = false := decide_eq_false (by omega)
        rw [List.take_of_length_le (by rw [HN.out]; omega)] at HV
        rw [HV.out] at HR
        by_cases hlv : lim < v
        · have hvb : decide (lim < v) = true := decide_eq_true hlv
          rw [if_pos hlv] at HR
          go_wp2
          go_ret
          exact ⟨ret_int HR.out, rfl⟩
        · have hvb : decide (lim < v) = false := decide_eq_false hlv
          rw [if_neg hlv] at HR
          go_wp2
          go_ret
          exact ⟨ret_int HR.out, rfl⟩
end Go.Proofs.Qxb6500773aGreat
