import Derived.Test.Qxb6500777aBd
namespace Go.Proofs.Qxb6500777a
open Go.RowKit

/-- worldm.wrap -/
theorem wrap_any (w : World) (v n : Int) (hn : 1 ≤ n) (hn2 : n ≤ 1000000) (h0 : -9223372036854775808 ≤ v) (h1 : v < 9223372036854775808) :
    Calls Try.prog 34 #[.int .i64 v, .int .i64 n] w fun e w' => e = .returned (.int .i64 (v % n)) ∧ w' = w := by
  have hnz : ¬ n = 0 := by omega
  have hnb : (n == 0) = false := by simpa using hnz
  have b0 := Int.emod_nonneg v hnz
  have b1 := Int.emod_lt_of_pos v (show 0 < n by omega)
  obtain ⟨r, hr⟩ : ∃ r, v.tmod n = r := ⟨_, rfl⟩
  have hrel : (0 ≤ r ∧ v % n = r) ∨ (r < 0 ∧ v % n = r + n ∧ -n < r) := by
    rcases (by omega : 0 ≤ v ∨ v < 0) with z | z
    · left
      rw [Int.tmod_eq_emod_of_nonneg z] at hr
      exact ⟨by omega, hr⟩
    · have e1 := Int.mul_tdiv_add_tmod v n
      rw [hr] at e1
      have hr2 : r ≤ 0 := by
        have := Int.tmod_nonneg n (a := -v) (by omega)
        rw [Int.neg_tmod, hr] at this; omega
      have hr3 : -n < r := by
        have := Int.tmod_lt_of_pos (-v) (show 0 < n by omega)
        rw [Int.neg_tmod, hr] at this; omega
      rcases (by omega : r = 0 ∨ r < 0) with y | y
      · left
        refine ⟨by omega, ?_⟩
        rw [← e1, y, Int.add_zero, Int.mul_emod_right]
      · right
        refine ⟨y, ?_, hr3⟩
        have : v = (r + n) + n * (v.tdiv n - 1) := by rw [Int.mul_sub]; omega
        rw [this, Int.add_mul_emod_self_left, Int.emod_eq_of_lt (by omega) (by omega)]
  rcases hrel with ⟨r0, e⟩ | ⟨r0, e, r1⟩
  · rw [e]
    clear e b0 b1
    go_enter Try.func34, Try.ntmps34
    go_wp2
    go_ret
    exact ⟨rfl, rfl⟩
  · rw [e]
    clear e b0 b1
    go_enter Try.func34, Try.ntmps34
    go_wp2
    go_ret
    exact ⟨rfl, rfl⟩
def holdP (v lo hi : Int) : Int := if v < lo then lo else if hi < v then hi else v
theorem hold_any (w : World) (v lo hi : Int) : Calls Try.prog 42 #[.int .i64 v, .int .i64 lo, .int .i64 hi] w fun e w' => e = .returned (.int .i64 (holdP v lo hi)) ∧ w' = w := by
  by_cases h1 : v < lo
  · go_enter Try.func42, Try.ntmps42
    go_wp2
    go_ret
    exact ⟨ret_int (by rw [holdP, if_pos h1]), rfl⟩
  · by_cases h2 : hi < v
    · go_enter Try.func42, Try.ntmps42
      go_wp2
      go_ret
      exact ⟨ret_int (by rw [holdP, if_neg (by omega), if_pos h2]), rfl⟩
    · go_enter Try.func42, Try.ntmps42
      go_wp2
      go_ret
      exact ⟨ret_int (by rw [holdP, if_neg (by omega), if_neg (by omega)]), rfl⟩
theorem fdiv_of {a b t m : Int} (hb : 0 < b) (ht : a.tdiv b = t) (hm : t * b = m) : (m ≤ a ∧ a / b = t ∧ (0 ≤ a ∨ m = a)) ∨ (a < m ∧ a / b = t - 1 ∧ a < 0) := by
  rcases (by omega : 0 ≤ a ∨ a < 0) with z | z
  · rw [Int.tdiv_eq_ediv_of_nonneg z] at ht
    have e := Int.mul_ediv_add_emod a b
    have r0 := Int.emod_nonneg a (show b ≠ 0 by omega)
    rw [ht, Int.mul_comm, hm] at e
    exact .inl ⟨by omega, ht, .inl z⟩
  · have e1 := Int.mul_tdiv_add_tmod a b
    have h1 := Int.tmod_nonneg b (a := -a) (by omega)
    have h2 := Int.tmod_lt_of_pos (-a) hb
    rw [Int.neg_tmod] at h1 h2
    obtain ⟨r, hr⟩ : ∃ r, a.tmod b = r := ⟨_, rfl⟩
    rw [ht, Int.mul_comm, hm, hr] at e1
    rw [hr] at h1 h2
    rcases (by omega : r = 0 ∨ r < 0) with y | y
    · refine .inl ⟨by omega, ?_, .inr (by omega)⟩
      have : a = b * t := by rw [Int.mul_comm]; omega
      rw [this, Int.mul_ediv_cancel_left _ (by omega)]
    · refine .inr ⟨by omega, ?_, z⟩
      have e2 : a = (r + b) + b * (t - 1) := by rw [Int.mul_sub, Int.mul_comm b t]; omega
      rw [e2, Int.add_mul_ediv_left _ _ (by omega), Int.ediv_eq_zero_of_lt (by omega) (by omega)]
      omega
/-- fixmathm.floorDiv -/
theorem fdiv_any (w : World) (a b : Int) (hb : 0 < b) (hb2 : b ≤ 1073741824) (a0 : -4000000000000000000 ≤ a) (a1 : a ≤ 4000000000000000000) :
    Calls Try.prog 48 #[.int .i64 a, .int .i64 b] w fun e w' => e = .returned (.int .i64 (a / b)) ∧ w' = w := by
  obtain ⟨t, ht⟩ : ∃ t, a.tdiv b = t := ⟨_, rfl⟩
  obtain ⟨m, hm⟩ : ∃ m, t * b = m := ⟨_, rfl⟩
  have hf := fdiv_of hb ht hm
  have tb : t.natAbs ≤ a.natAbs := by rw [← ht]; exact Int.natAbs_tdiv_le_natAbs a b
  have tb2 : -4000000000000000000 ≤ t ∧ t ≤ 4000000000000000000 := by omega
  have hbz : ¬ b = 0 := by omega
  have hbb : (b == 0) = false := by simpa using hbz
  have mb : -5000000000000000000 ≤ m ∧ m ≤ 5000000000000000000 := by
    rcases hf with ⟨h1, h2, h3⟩ | ⟨h1, h2, h3⟩
    · rcases h3 with z | z
      · have : 0 ≤ t := by rw [← ht]; exact Int.tdiv_nonneg z (by omega)
        have := Int.mul_nonneg this (show 0 ≤ b by omega)
        omega
      · omega
    · have e := Int.mul_ediv_add_emod a b
      have r0 := Int.emod_lt_of_pos a hb
      have r1 := Int.emod_nonneg a (show b ≠ 0 by omega)
      rw [h2, Int.mul_sub, Int.mul_comm b t, hm] at e
      omega
  obtain ⟨m0, m1⟩ := mb
  obtain ⟨t0, t1⟩ := tb2
  rcases hf with ⟨h1, h2, _⟩ | ⟨h1, h2, _⟩
  · rw [h2]
    have h1' : ¬ a < m := by omega
    clear h2 tb
    go_enter Try.func48, Try.ntmps48
    go_wp2
    go_ret
    exact ⟨rfl, rfl⟩
  · rw [h2]
    clear h2 tb
    go_enter Try.func48, Try.ntmps48
    go_wp2
    go_ret
    exact ⟨rfl, rfl⟩
theorem quant_any (w : World) (v g : Int) (hg : 0 < g) (hg2 : g ≤ 1000000) (v0 : -1000000000 ≤ v) (v1 : v ≤ 1000000000) :
    Calls Try.prog 46 #[.int .i64 v, .int .i64 g] w fun e w' => e = .returned (.int .i64 (qzP v g)) ∧ w' = w := by
  have hf := fun w => hide (fdiv_any w v g hg (by omega) (by omega) (by omega))
  have e := Int.mul_ediv_add_emod v g
  have r0 := Int.emod_nonneg v (show g ≠ 0 by omega)
  have r1 := Int.emod_lt_of_pos v hg
  rw [Int.mul_comm] at e
  have hq : qzP v g = v / g * g := rfl
  obtain ⟨q, hqq⟩ : ∃ q, v / g = q := ⟨_, rfl⟩
  rw [hqq] at hf e hq
  obtain ⟨m, hm⟩ : ∃ m, q * g = m := ⟨_, rfl⟩
  rw [hm] at e hq
  rw [hq]
  have m0 : -2000000000 ≤ m := by omega
  have m1 : m ≤ 2000000000 := by omega
  clear hq hqq e r0 r1
  go_enter Try.func46, Try.ntmps46
  go_wp2_with fail
  refine (hf _).out.mono ?_
  rintro e w' ⟨rfl, rfl⟩
  go_wp2
  go_ret
  exact ⟨rfl, rfl⟩
theorem toMap_any (w : World) (v : Int) : Calls Try.prog 47 #[.int .i64 v] w fun e w' => e = .returned (.int .i64 (mapP v)) ∧ w' = w := by
  by_cases h1 : 1048576 < v
  · go_enter Try.func47, Try.ntmps47
    go_wp2
    go_ret
    exact ⟨ret_int (by rw [mapP, if_pos h1]), rfl⟩
  · by_cases h2 : v < -1048576
    · go_enter Try.func47, Try.ntmps47
      go_wp2
      go_ret
      exact ⟨ret_int (by rw [mapP, if_neg (by omega), if_pos h2]), rfl⟩
    · go_enter Try.func47, Try.ntmps47
      go_wp2
      go_ret
      exact ⟨ret_int (by rw [mapP, if_neg (by omega), if_neg (by omega)]), rfl⟩
/-- tracks.grains -/
theorem grains_any (w : World) (g : Int) : Calls Try.prog 80 #[.int .i64 g] w fun e w' => e = .returned (.tuple #[.int .i64 (pgP g), .int .i64 (cgP g), .int .i64 (sgP g)]) ∧ w' = w := by
  by_cases h3 : g = 3
  · subst h3
    go_enter Try.func80, Try.ntmps80
    go_wp2
    exact bodyPost_ret (v := .tuple #[.int .i64 64, .int .i64 32, .int .i64 4]) (by simp [results, Try.results80, go_sem]) rfl ⟨rfl, rfl⟩
  · have b3 : (g == 3) = false := by simpa using h3
    by_cases h2 : g = 2
    · subst h2
      go_enter Try.func80, Try.ntmps80
      go_wp2
      exact bodyPost_ret (v := .tuple #[.int .i64 512, .int .i64 128, .int .i64 32]) (by simp [results, Try.results80, go_sem]) rfl ⟨rfl, rfl⟩
    · have b2 : (g == 2) = false := by simpa using h2
      have e : pgP g = 4096 ∧ cgP g = 512 ∧ sgP g = 256 := by simp [pgP, cgP, sgP, h3, h2]
      rw [e.1, e.2.1, e.2.2]
      clear e h3 h2
      go_enter Try.func80, Try.ntmps80
      go_wp2
      exact bodyPost_ret (v := .tuple #[.int .i64 4096, .int .i64 512, .int .i64 256]) (by simp [results, Try.results80, go_sem]) rfl ⟨rfl, rfl⟩
end Go.Proofs.Qxb6500777a
