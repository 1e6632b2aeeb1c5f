import Derived.Test.Qxb6500775aSgn2
namespace Go.Proofs.Qxb6500775a
open Go.RowKit

theorem clampE_cases (x : Int) : clampE x = 0 ∨ clampE x = 1 := by unfold clampE; split; exact .inr rfl; split; exact .inr rfl; exact .inl rfl
/-- clampWide -/
theorem clampWide_any (w : World) (h l : Int) (hl : Word l) :
    Calls Try.prog 48 #[.agg #[.int .i64 h, .int .u64 l]] w fun e w' => e = .returned (.tuple #[.int .i64 (clampV (v128 h l)), .int .i64 (clampE (v128 h l))]) ∧ Below w.heap.size w w' := by
  have HC := fun w => hide (clampI_any w h l hl)
  have hE := clampE_cases (v128 h l)
  generalize clampV (v128 h l) = V at *
  generalize clampE (v128 h l) = E at *
  rcases hE with rfl | rfl
  · rw [show decide ((0 : Int) = 1) = false from rfl] at HC
    go_enter Try.func48, Try.ntmps48
    go_wp2_with fail
    refine (HC _).out.mono ?_
    rintro e w1 ⟨rfl, hb⟩
    have HB : Hid (Below w.heap.size w w1) := ((Below.refl _ _).alloc (Nat.le_refl _) _).trans (hb.mono (by simp))
    clear hb HC
    go_wp2
    exact bodyPost_ret (v := .tuple #[.int .i64 V, .int .i64 0]) (by simp [results, Try.results48, go_sem]) rfl ⟨rfl, HB.out⟩
  · rw [show decide ((1 : Int) = 1) = true from rfl] at HC
    go_enter Try.func48, Try.ntmps48
    go_wp2_with fail
    refine (HC _).out.mono ?_
    rintro e w1 ⟨rfl, hb⟩
    have HB : Hid (Below w.heap.size w w1) := ((Below.refl _ _).alloc (Nat.le_refl _) _).trans (hb.mono (by simp))
    clear hb HC
    go_wp2
    exact bodyPost_ret (v := .tuple #[.int .i64 V, .int .i64 1]) (by simp [results, Try.results48, go_sem]) rfl ⟨rfl, HB.out⟩
/-- The floor out of Go's quotient. -/
theorem fq_of {n d t r : Int} (hd : d ≠ 0) (ht : n.tdiv d = t) (hr : n.tmod d = r) : fq n d = if r ≠ 0 ∧ (n < 0 ↔ ¬ d < 0) then t - 1 else t := by
  have e1 := Int.mul_tdiv_add_tmod n d
  rw [ht, hr] at e1
  have b1 : r.natAbs < d.natAbs := by rw [← hr, Int.natAbs_tmod]; exact Nat.mod_lt _ (by omega)
  have s1 : 0 ≤ n → 0 ≤ r := fun h => by rw [← hr]; exact Int.tmod_nonneg d h
  have s2 : n ≤ 0 → r ≤ 0 := fun h => by
    have := Int.tmod_nonneg d (a := -n) (by omega)
    rw [Int.neg_tmod, hr] at this; omega
  unfold fq
  split
  · rename_i h0
    split
    · rename_i h1
      have : n = d * (t - 1) + (r + d) := by rw [Int.mul_sub]; omega
      rw [this, Int.mul_add_ediv_left _ _ (by omega), Int.ediv_eq_zero_of_lt (by omega) (by omega)]; omega
    · rename_i h1
      have hr0 : 0 ≤ r := by
        rcases (by omega : 0 ≤ n ∨ n < 0) with z | z
        · exact s1 z
        · have : r = 0 := by
            rcases Classical.em (r = 0) with z1 | z1
            · exact z1
            · exact absurd ⟨z1, by constructor <;> intro <;> omega⟩ h1
          omega
      rw [← e1, Int.mul_add_ediv_left _ _ (by omega), Int.ediv_eq_zero_of_lt hr0 (by omega)]; omega
  · rename_i h0
    have h0' : 0 < -d := by omega
    split
    · rename_i h1
      have : -n = (-d) * (t - 1) + (-r - d) := by rw [Int.mul_sub, Int.neg_mul]; omega
      rw [this, Int.mul_add_ediv_left _ _ (by omega), Int.ediv_eq_zero_of_lt (by omega) (by omega)]; omega
    · rename_i h1
      have hr0 : r ≤ 0 := by
        rcases (by omega : n ≤ 0 ∨ 0 < n) with z | z
        · exact s2 z
        · have : r = 0 := by
            rcases Classical.em (r = 0) with z1 | z1
            · exact z1
            · exact absurd ⟨z1, by constructor <;> intro <;> omega⟩ h1
          omega
      have : -n = (-d) * t + (-r) := by rw [Int.neg_mul]; omega
      rw [this, Int.mul_add_ediv_left _ _ (by omega), Int.ediv_eq_zero_of_lt (by omega) (by omega)]; omega
set_option maxHeartbeats 1000000 in
/-- floorDiv64 -/
theorem floorDiv64_any (w : World) (n d : Int) (hd : d ≠ 0) (n0 : -9223372036854775808 < n) (n1 : n < 9223372036854775808) (d0 : -9223372036854775808 ≤ d) (d1 : d < 9223372036854775808) :
    Calls Try.prog 55 #[.int .i64 n, .int .i64 d] w fun e w' => e = .returned (.int .i64 (fq n d)) ∧ w' = w := by
  obtain ⟨t, ht⟩ : ∃ t, n.tdiv d = t := ⟨_, rfl⟩
  obtain ⟨r, hr⟩ : ∃ r, n.tmod d = r := ⟨_, rfl⟩
  have hf := fq_of hd ht hr
  have tb : t.natAbs ≤ n.natAbs := by rw [← ht]; exact Int.natAbs_tdiv_le_natAbs n d
  have hd2 : ¬ d = 0 := hd
  have hd3 : (d == 0) = false := by simpa using hd
  rw [hf]
  have tb2 : -9223372036854775808 < t ∧ t < 9223372036854775808 := by omega
  by_cases hz : r = 0
  · rw [if_neg (by simp [hz])]
    have hz1 : (r != 0) = false := by simp [hz]
    clear hf tb
    go_enter Try.func55, Try.ntmps55
    go_wp2
    go_ret
    exact ⟨rfl, rfl⟩
  · have hz1 : (r != 0) = true := by simpa using hz
    by_cases hn : n < 0 <;> by_cases hdn : d < 0
    · rw [if_neg (by simp [hn, hdn])]
      clear hf tb
      go_enter Try.func55, Try.ntmps55
      go_wp2
      go_ret
      exact ⟨rfl, rfl⟩
    · rw [if_pos (by simp [hz, hn]; omega)]
      clear hf tb
      go_enter Try.func55, Try.ntmps55
      go_wp2
      go_ret
      exact ⟨rfl, rfl⟩
    · rw [if_pos (by simp [hz, hdn]; omega)]
      clear hf tb
      go_enter Try.func55, Try.ntmps55
      go_wp2
      go_ret
      exact ⟨rfl, rfl⟩
    · rw [if_neg (by simp; omega)]
      clear hf tb
      go_enter Try.func55, Try.ntmps55
      go_wp2
      go_ret
      exact ⟨rfl, rfl⟩
/-- The floor out of magnitudes. -/
theorem fq_abs {n d m e q r : Int} (hd : d ≠ 0) (hm : abs' n = m) (he : abs' d = e) (hq : m / e = q) (hr : m % e = r) : fq n d = if (n < 0 ↔ d < 0) then q else if r = 0 then -q else -(q + 1) := by
  have he0 : 0 < e := by rw [← he]; unfold abs'; split <;> omega
  have e1 := Int.mul_ediv_add_emod m e
  have r0 := Int.emod_nonneg m (show e ≠ 0 by omega)
  have r1 := Int.emod_lt_of_pos m he0
  rw [hq, hr] at e1
  rw [hr] at r0 r1
  unfold abs' at hm he
  unfold fq
  by_cases hn : n < 0 <;> by_cases hdn : d < 0
  · rw [if_pos hn] at hm
    rw [if_pos hdn] at he
    rw [if_neg (by omega), if_pos (by simp [hn, hdn]), hm, he, hq]
  · rw [if_pos hn] at hm
    rw [if_neg hdn] at he
    rw [if_pos (by omega), if_neg (by simp [hn]; omega)]
    subst he
    split
    · rename_i hz
      have : n = d * (-q) + 0 := by rw [Int.mul_neg]; omega
      rw [this, Int.mul_add_ediv_left _ _ (by omega)]; simp
    · rename_i hz
      have : n = d * (-(q + 1)) + (d - r) := by rw [Int.mul_neg, Int.mul_add]; omega
      rw [this, Int.mul_add_ediv_left _ _ (by omega), Int.ediv_eq_zero_of_lt (by omega) (by omega)]; omega
  · rw [if_neg hn] at hm
    rw [if_pos hdn] at he
    rw [if_neg (by omega), if_neg (by simp [hdn]; omega), he]
    split
    · rename_i hz
      have : -n = e * (-q) + 0 := by rw [Int.mul_neg]; omega
      rw [this, Int.mul_add_ediv_left _ _ (by omega)]; simp
    · rename_i hz
      have : -n = e * (-(q + 1)) + (e - r) := by rw [Int.mul_neg, Int.mul_add]; omega
      rw [this, Int.mul_add_ediv_left _ _ (by omega), Int.ediv_eq_zero_of_lt (by omega) (by omega)]; omega
  · rw [if_neg hn] at hm
    rw [if_neg hdn] at he
    rw [if_pos (by omega), if_pos (by simp [hn, hdn]), hm, he, hq]
end Go.Proofs.Qxb6500775a
