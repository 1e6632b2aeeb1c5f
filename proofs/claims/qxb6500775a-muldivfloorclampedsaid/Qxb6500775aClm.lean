import Derived.Test.Qxb6500775aSgn4
import Derived.Test.Qxb6500775aRat
namespace Go.Proofs.Qxb6500775a
open Go.RowKit

def R64 (x : Int) : Prop := -9223372036854775808 ≤ x ∧ x < 9223372036854775808
theorem fq_pos {n d : Int} (h : 0 < d) : fq n d = n / d := if_pos h
theorem mul_in {a b : Int} (h1 : -2147483648 ≤ a ∧ a ≤ 2147483647) (h2 : -2147483648 ≤ b ∧ b ≤ 2147483647) : -4611686018427387904 ≤ a * b ∧ a * b ≤ 4611686018427387904 := by
  have := absmul2 (B := 2147483648) (x := a) (y := b) (by omega) (by omega) (by omega) (by omega)
  omega
set_option maxHeartbeats 1000000 in
theorem FMul_any (w : World) (a b : Int) (ha : R64 a) (hb : R64 b) :
    Calls Try.prog 16 #[.int .i64 a, .int .i64 b] w fun e w' => e = .returned (.tuple #[.int .i64 (clampV (a * b / 65536)), .int .i64 (clampE (a * b / 65536))]) ∧ Below w.heap.size w w' := by
  have wide : Calls Try.prog 16 #[.int .i64 a, .int .i64 b] w (fun e w' => e = .returned (.tuple #[.int .i64 (clampV (a * b / 65536)), .int .i64 (clampE (a * b / 65536))]) ∧ Below w.heap.size w w') ∨ (-2147483648 ≤ a ∧ a ≤ 2147483647) ∧ (-2147483648 ≤ b ∧ b ≤ 2147483647) := by
    by_cases hr : (-2147483648 ≤ a ∧ a ≤ 2147483647) ∧ (-2147483648 ≤ b ∧ b ≤ 2147483647)
    · exact .inr hr
    left
    have hX := absmul2 (B := 9223372036854775808) (x := a) (y := b) ha.1 (by have := ha.2; omega) hb.1 (by have := hb.2; omega)
    have hm := fun w => hide (mulS64_any w a b ha.1 ha.2 hb.1 hb.2)
    obtain ⟨X, hXe⟩ : ∃ X, a * b = X := ⟨_, rfl⟩
    rw [hXe] at hX hm ⊢
    clear hXe
    have hs := fun w => hide (sar16_any w (X / 18446744073709551616) (X % 18446744073709551616) ⟨by omega, by omega⟩)
    rw [v128_parts] at hs
    have hc := fun w => hide (clampWide_any w (X / 65536 / 18446744073709551616) (X / 65536 % 18446744073709551616) ⟨by omega, by omega⟩)
    rw [v128_parts] at hc
    generalize clampV (X / 65536) = V at *
    generalize clampE (X / 65536) = E at *
    generalize X / 65536 / 18446744073709551616 = yh at *
    generalize X / 65536 % 18446744073709551616 = yl at *
    generalize X / 18446744073709551616 = xh at *
    generalize X % 18446744073709551616 = xl at *
    clear hX
    have i1 := fun w => hide (inRange_any w a)
    have i2 := fun w => hide (inRange_any w b)
    by_cases h1 : -2147483648 ≤ a ∧ a ≤ 2147483647
    · have h2 : ¬ (-2147483648 ≤ b ∧ b ≤ 2147483647) := fun h => hr ⟨h1, h⟩
      rw [decide_eq_true h1] at i1
      rw [decide_eq_false h2] at i2
      clear hr h1 h2
      go_enter Try.func16, Try.ntmps16
      go_wp2_with fail
      refine (i1 _).out.mono ?_
      rintro e w1 ⟨rfl, rfl⟩
      go_wp2_with fail
      refine (i2 _).out.mono ?_
      rintro e w1 ⟨rfl, rfl⟩
      go_wp2_with fail
      refine (hm _).out.mono ?_
      rintro e w2 ⟨rfl, b2⟩
      have HB2 := hide b2
      clear b2
      go_wp2_with fail
      refine (hs _).out.mono ?_
      rintro e w3 ⟨rfl, b3⟩
      have HB3 := hide (lec HB2.out b3)
      clear b3 HB2
      go_wp2_with fail
      refine (hc _).out.mono ?_
      rintro e w4 ⟨rfl, b4⟩
      have HB4 := hide (lec HB3.out b4)
      clear b4 HB3
      go_wp2
      exact bodyPost_ret (v := .tuple #[.int .i64 V, .int .i64 E]) (by simp [results, Try.results16, go_sem]) rfl ⟨rfl, HB4.out⟩
    · rw [decide_eq_false h1] at i1
      clear hr h1 i2
      go_enter Try.func16, Try.ntmps16
      go_wp2_with fail
      refine (i1 _).out.mono ?_
      rintro e w1 ⟨rfl, rfl⟩
      go_wp2_with fail
      refine (hm _).out.mono ?_
      rintro e w2 ⟨rfl, b2⟩
      have HB2 := hide b2
      clear b2
      go_wp2_with fail
      refine (hs _).out.mono ?_
      rintro e w3 ⟨rfl, b3⟩
      have HB3 := hide (lec HB2.out b3)
      clear b3 HB2
      go_wp2_with fail
      refine (hc _).out.mono ?_
      rintro e w4 ⟨rfl, b4⟩
      have HB4 := hide (lec HB3.out b4)
      clear b4 HB3
      go_wp2
      exact bodyPost_ret (v := .tuple #[.int .i64 V, .int .i64 E]) (by simp [results, Try.results16, go_sem]) rfl ⟨rfl, HB4.out⟩
  rcases wide with h | ⟨h1, h2⟩
  · exact h
  · have hX := mul_in h1 h2
    have i1 := fun w => hide (inRange_any w a)
    have i2 := fun w => hide (inRange_any w b)
    rw [decide_eq_true h1] at i1
    rw [decide_eq_true h2] at i2
    obtain ⟨X, hXe⟩ : ∃ X, a * b = X := ⟨_, rfl⟩
    rw [hXe] at hX ⊢
    have hc := fun w => hide (clampFix_any w (X / 65536))
    generalize clampV (X / 65536) = V at *
    generalize clampE (X / 65536) = E at *
    clear ha hb h1 h2
    have hXw : IntKind.i64.wrap X = X := by rw [IntKind.wrap_i64]; omega
    go_enter Try.func16, Try.ntmps16
    go_wp2_with fail
    refine (i1 _).out.mono ?_
    rintro e w1 ⟨rfl, rfl⟩
    go_wp2_with fail
    refine (i2 _).out.mono ?_
    rintro e w1 ⟨rfl, rfl⟩
    go_wp2_with fail
    refine (hc _).out.mono ?_
    rintro e w4 ⟨rfl, rfl⟩
    go_wp2
    exact bodyPost_ret (v := .tuple #[.int .i64 V, .int .i64 E]) (by simp [results, Try.results16, go_sem]) rfl ⟨rfl, Below.refl _ _⟩
theorem FDiv_zero (w : World) (a : Int) :
    Calls Try.prog 19 #[.int .i64 a, .int .i64 0] w fun e w' => e = .returned (.tuple #[.int .i64 (endP (sgn a)), .int .i64 2]) ∧ w' = w := by
  go_enter Try.func19, Try.ntmps19
  go_wp2_with fail
  refine (SignF_any _ a).mono ?_
  rintro e w1 ⟨rfl, rfl⟩
  go_wp2_with fail
  refine (endBySign_any _ _).mono ?_
  rintro e w1 ⟨rfl, rfl⟩
  go_wp2
  exact bodyPost_ret (v := .tuple #[.int .i64 (endP (sgn a)), .int .i64 2]) (by simp [results, Try.results19, go_sem]) rfl ⟨rfl, rfl⟩
set_option maxHeartbeats 1000000 in
theorem FDiv_any (w : World) (a b : Int) (ha : R64 a) (hb : R64 b) (hz : b ≠ 0) :
    Calls Try.prog 19 #[.int .i64 a, .int .i64 b] w fun e w' => e = .returned (.tuple #[.int .i64 (clampV (fq (a * 65536) b)), .int .i64 (clampE (fq (a * 65536) b))]) ∧ Below w.heap.size w w' := by
  have hzb : (b == 0) = false := by simpa using hz
  obtain ⟨a0, a1⟩ := ha
  obtain ⟨b0, b1⟩ := hb
  by_cases hs : -140737488355328 < a ∧ a < 140737488355328
  · have hf := fun w => hide (floorDiv64_any w (a * 65536) b hz (by omega) (by omega) b0 b1)
    obtain ⟨F, hF⟩ : ∃ F, fq (a * 65536) b = F := ⟨_, rfl⟩
    rw [hF] at hf ⊢
    clear hF
    have hc := fun w => hide (clampFix_any w F)
    generalize clampV F = V at *
    generalize clampE F = E at *
    obtain ⟨s1, s2⟩ := hs
    go_enter Try.func19, Try.ntmps19
    go_wp2_with fail
    refine (hf _).out.mono ?_
    rintro e w1 ⟨rfl, rfl⟩
    go_wp2_with fail
    refine (hc _).out.mono ?_
    rintro e w4 ⟨rfl, rfl⟩
    go_wp2
    exact bodyPost_ret (v := .tuple #[.int .i64 V, .int .i64 E]) (by simp [results, Try.results19, go_sem]) rfl ⟨rfl, Below.refl _ _⟩
  · have h1 := fun w => hide (from64_any w a a0 a1)
    have h2 := fun w => hide (shl16_any w a a0 a1)
    have h3 := fun w => hide (divFloor_any w (a * 65536 / 18446744073709551616) (a * 65536 % 18446744073709551616) b ⟨by omega, by omega⟩ (by rw [v128_parts]; omega) (by rw [v128_parts]; omega) hz b0 b1)
    rw [v128_parts] at h3
    have hc := fun w => hide (clampWide_any w (fq (a * 65536) b / 18446744073709551616) (fq (a * 65536) b % 18446744073709551616) ⟨by omega, by omega⟩)
    rw [v128_parts] at hc
    generalize clampV (fq (a * 65536) b) = V at *
    generalize clampE (fq (a * 65536) b) = E at *
    generalize fq (a * 65536) b / 18446744073709551616 = fh at *
    generalize fq (a * 65536) b % 18446744073709551616 = fl at *
    generalize a * 65536 / 18446744073709551616 = sh at *
    generalize a * 65536 % 18446744073709551616 = sl at *
    generalize a / 18446744073709551616 = ah at *
    generalize a % 18446744073709551616 = al at *
    have hs' : ¬ -140737488355328 < a ∨ (-140737488355328 < a ∧ ¬ a < 140737488355328) := by omega
    clear hs
    rcases hs' with hs | ⟨hs, hs2⟩
    all_goals
      go_enter Try.func19, Try.ntmps19
      go_wp2_with fail
      refine (h1 _).out.mono ?_
      rintro e w1 ⟨rfl, b1'⟩
      have HB1 := hide b1'
      clear b1'
      go_wp2_with fail
      refine (h2 _).out.mono ?_
      rintro e w2 ⟨rfl, b2⟩
      have HB2 := hide (belAl (lec HB1.out b2) (.cells #[.int .i64 sh, .int .u64 sl] 78))
      clear b2 HB1
      go_wp2_with fail
      refine (h3 _).out.mono ?_
      rintro e w3 ⟨rfl, b3⟩
      have HB3 := hide (lec HB2.out b3)
      clear b3 HB2
      go_wp2_with fail
      refine (hc _).out.mono ?_
      rintro e w4 ⟨rfl, b4⟩
      have HB4 := hide (lec HB3.out b4)
      clear b4 HB3
      go_wp2
      exact bodyPost_ret (v := .tuple #[.int .i64 V, .int .i64 E]) (by simp [results, Try.results19, go_sem]) rfl ⟨rfl, HB4.out⟩
theorem sgn_mul (a b : Int) : sgn a * sgn b = sgn (a * b) := by
  rcases (by omega : a = 0 ∨ 0 < a ∨ a < 0) with rfl | h | h
  · simp [sgn]
  · rcases (by omega : b = 0 ∨ 0 < b ∨ b < 0) with rfl | k | k
    · simp [sgn]
    · rw [sgn_pos h, sgn_pos k, sgn_pos (Int.mul_pos h k)]; rfl
    · rw [sgn_pos h, sgn_neg k, sgn_neg (Int.mul_neg_of_pos_of_neg h k)]; rfl
  · rcases (by omega : b = 0 ∨ 0 < b ∨ b < 0) with rfl | k | k
    · simp [sgn]
    · rw [sgn_neg h, sgn_pos k, sgn_neg (Int.mul_neg_of_neg_of_pos h k)]; rfl
    · rw [sgn_neg h, sgn_neg k, sgn_pos (Int.mul_pos_of_neg_of_neg h k)]; rfl
theorem sgn_rng (a : Int) : -1 ≤ sgn a ∧ sgn a ≤ 1 := by unfold sgn; split <;> (try split) <;> omega
theorem FMulDiv_zero (w : World) (a b : Int) :
    Calls Try.prog 22 #[.int .i64 a, .int .i64 b, .int .i64 0] w fun e w' => e = .returned (.tuple #[.int .i64 (endP (sgn (a * b))), .int .i64 2]) ∧ w' = w := by
  have h1 := fun w => hide (SignF_any w a)
  have h2 := fun w => hide (SignF_any w b)
  have h3 := sgn_mul a b
  have h4 := fun w => hide (endBySign_any w (sgn (a * b)))
  have r3 := sgn_rng (a * b)
  generalize sgn (a * b) = t at *
  generalize sgn a = s1 at *
  generalize sgn b = s2 at *
  have h3w : IntKind.i64.wrap t = t := by rw [IntKind.wrap_i64]; omega
  go_enter Try.func22, Try.ntmps22
  go_wp2_with fail
  refine (h1 _).out.mono ?_
  rintro e w1 ⟨rfl, rfl⟩
  go_wp2_with fail
  refine (h2 _).out.mono ?_
  rintro e w1 ⟨rfl, rfl⟩
  go_wp2_with fail
  refine (h4 _).out.mono ?_
  rintro e w1 ⟨rfl, rfl⟩
  go_wp2
  exact bodyPost_ret (v := .tuple #[.int .i64 (endP t), .int .i64 2]) (by simp [results, Try.results22, go_sem]) rfl ⟨rfl, rfl⟩
set_option maxHeartbeats 1000000 in
theorem FMulDiv_any (w : World) (a b c : Int) (ha : R64 a) (hb : R64 b) (hc : R64 c) (hz : c ≠ 0) :
    Calls Try.prog 22 #[.int .i64 a, .int .i64 b, .int .i64 c] w fun e w' => e = .returned (.tuple #[.int .i64 (clampV (fq (a * b) c)), .int .i64 (clampE (fq (a * b) c))]) ∧ Below w.heap.size w w' := by
  have hzb : (c == 0) = false := by simpa using hz
  have i1 := fun w => hide (inRange_any w a)
  have i2 := fun w => hide (inRange_any w b)
  obtain ⟨c0, c1⟩ := hc
  by_cases hr : (-2147483648 ≤ a ∧ a ≤ 2147483647) ∧ (-2147483648 ≤ b ∧ b ≤ 2147483647)
  · obtain ⟨r1, r2⟩ := hr
    have hX := mul_in r1 r2
    rw [decide_eq_true r1] at i1
    rw [decide_eq_true r2] at i2
    obtain ⟨X, hXe⟩ : ∃ X, a * b = X := ⟨_, rfl⟩
    rw [hXe] at hX ⊢
    have hf := fun w => hide (floorDiv64_any w X c hz (by omega) (by omega) c0 c1)
    obtain ⟨F, hF⟩ : ∃ F, fq X c = F := ⟨_, rfl⟩
    rw [hF] at hf ⊢
    clear hF
    have hcc := fun w => hide (clampFix_any w F)
    generalize clampV F = V at *
    generalize clampE F = E at *
    have hXw : IntKind.i64.wrap X = X := by rw [IntKind.wrap_i64]; omega
    clear ha hb r1 r2
    go_enter Try.func22, Try.ntmps22
    go_wp2_with fail
    refine (i1 _).out.mono ?_
    rintro e w1 ⟨rfl, rfl⟩
    go_wp2_with fail
    refine (i2 _).out.mono ?_
    rintro e w1 ⟨rfl, rfl⟩
    go_wp2_with fail
    refine (hf _).out.mono ?_
    rintro e w1 ⟨rfl, rfl⟩
    go_wp2_with fail
    refine (hcc _).out.mono ?_
    rintro e w4 ⟨rfl, rfl⟩
    go_wp2
    exact bodyPost_ret (v := .tuple #[.int .i64 V, .int .i64 E]) (by simp [results, Try.results22, go_sem]) rfl ⟨rfl, Below.refl _ _⟩
  · have hX := absmul2 (B := 9223372036854775808) (x := a) (y := b) ha.1 (by have := ha.2; omega) hb.1 (by have := hb.2; omega)
    have hm := fun w => hide (mulS64_any w a b ha.1 ha.2 hb.1 hb.2)
    obtain ⟨X, hXe⟩ : ∃ X, a * b = X := ⟨_, rfl⟩
    rw [hXe] at hX hm ⊢
    clear hXe
    have h3 := fun w => hide (divFloor_any w (X / 18446744073709551616) (X % 18446744073709551616) c ⟨by omega, by omega⟩ (by rw [v128_parts]; omega) (by rw [v128_parts]; omega) hz c0 c1)
    rw [v128_parts] at h3
    have hcc := fun w => hide (clampWide_any w (fq X c / 18446744073709551616) (fq X c % 18446744073709551616) ⟨by omega, by omega⟩)
    rw [v128_parts] at hcc
    generalize clampV (fq X c) = V at *
    generalize clampE (fq X c) = E at *
    generalize fq X c / 18446744073709551616 = fh at *
    generalize fq X c % 18446744073709551616 = fl at *
    generalize X / 18446744073709551616 = xh at *
    generalize X % 18446744073709551616 = xl at *
    clear hX
    by_cases h1 : -2147483648 ≤ a ∧ a ≤ 2147483647
    · have h2 : ¬ (-2147483648 ≤ b ∧ b ≤ 2147483647) := fun h => hr ⟨h1, h⟩
      rw [decide_eq_true h1] at i1
      rw [decide_eq_false h2] at i2
      clear hr h1 h2
      go_enter Try.func22, Try.ntmps22
      go_wp2_with fail
      refine (i1 _).out.mono ?_
      rintro e w1 ⟨rfl, rfl⟩
      go_wp2_with fail
      refine (i2 _).out.mono ?_
      rintro e w1 ⟨rfl, rfl⟩
      go_wp2_with fail
      refine (hm _).out.mono ?_
      rintro e w2 ⟨rfl, b2⟩
      have HB2 := hide b2
      clear b2
      go_wp2_with fail
      refine (h3 _).out.mono ?_
      rintro e w3 ⟨rfl, b3⟩
      have HB3 := hide (lec HB2.out b3)
      clear b3 HB2
      go_wp2_with fail
      refine (hcc _).out.mono ?_
      rintro e w4 ⟨rfl, b4⟩
      have HB4 := hide (lec HB3.out b4)
      clear b4 HB3
      go_wp2
      exact bodyPost_ret (v := .tuple #[.int .i64 V, .int .i64 E]) (by simp [results, Try.results22, go_sem]) rfl ⟨rfl, HB4.out⟩
    · rw [decide_eq_false h1] at i1
      clear hr h1 i2
      go_enter Try.func22, Try.ntmps22
      go_wp2_with fail
      refine (i1 _).out.mono ?_
      rintro e w1 ⟨rfl, rfl⟩
      go_wp2_with fail
      refine (hm _).out.mono ?_
      rintro e w2 ⟨rfl, b2⟩
      have HB2 := hide b2
      clear b2
      go_wp2_with fail
      refine (h3 _).out.mono ?_
      rintro e w3 ⟨rfl, b3⟩
      have HB3 := hide (lec HB2.out b3)
      clear b3 HB2
      go_wp2_with fail
      refine (hcc _).out.mono ?_
      rintro e w4 ⟨rfl, b4⟩
      have HB4 := hide (lec HB3.out b4)
      clear b4 HB3
      go_wp2
      exact bodyPost_ret (v := .tuple #[.int .i64 V, .int .i64 E]) (by simp [results, Try.results22, go_sem]) rfl ⟨rfl, HB4.out⟩
end Go.Proofs.Qxb6500775a
