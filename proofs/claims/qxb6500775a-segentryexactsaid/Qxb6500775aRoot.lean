import Derived.Test.Qxb6500775aProg
import Derived.WalkKit
import Derived.WalkSpells
import Derived.WalkLawsBesides
import Derived.Deep.Cut
import Derived.Test.Qxb6500775aPlain
namespace Go.Proofs.Qxb6500775a
open Go.RowKit

theorem shl_step (x y : Int) (n k : Nat) (h : y = x * 2 ^ n) : y * 2 ^ k = x * 2 ^ (n + k) := by rw [h, Int.pow_add, Int.mul_assoc]

set_option maxHeartbeats 4000000 in
theorem lz_any (x : Int) (w : World) (h0 : 1 ≤ x) (h1 : x < 18446744073709551616) :
    Calls Try.prog 120 #[.int .u64 x] w fun e w' => w' = w ∧ ∃ n : Nat, n < 64 ∧ e = .returned (.int .u64 n) ∧ 9223372036854775808 ≤ x * 2 ^ n ∧ x * 2 ^ n < 18446744073709551616 := by
  go_enter Try.func120, Try.ntmps120
  go_upto_if 8 with fail
  go_cut [0, 3] from 4 (fun s0 s3 wx => wx = w ∧ ∃ (y : Int) (n : Nat), n ≤ 32 ∧ s0 = .int .u64 y ∧ s3 = .int .u64 n ∧ y = x * 2 ^ n ∧ 4294967296 ≤ y ∧ y < 18446744073709551616)
  case first =>
    by_cases h : x < 4294967296
    · go_wp2
      go_meet
      case rel => exact ⟨rfl, x * 4294967296, 32, by omega, rfl, rfl, by simp, by omega, by omega⟩
    · go_wp2
      go_meet
      case rel => exact ⟨rfl, x, 0, by omega, rfl, rfl, by simp, by omega, by omega⟩
  obtain ⟨rfl, y, n, hn, rfl, rfl, hy, hy1, hy2⟩ := hcut
  have HY : Hid (y = x * 2 ^ n) := hy
  clear hy
  go_upto_if 15 with fail
  go_cut [0, 3] from 4 (fun s0 s3 wx => wx = wc ∧ ∃ (y : Int) (n : Nat), n ≤ 48 ∧ s0 = .int .u64 y ∧ s3 = .int .u64 n ∧ y = x * 2 ^ n ∧ 281474976710656 ≤ y ∧ y < 18446744073709551616)
  case first =>
    by_cases h : y < 281474976710656
    · go_wp2
      go_meet
      case rel => exact ⟨rfl, y * 65536, n + 16, by omega, rfl, by go_num, shl_step x y n 16 HY.out, by omega, by omega⟩
    · go_wp2
      go_meet
      case rel => exact ⟨rfl, y, n, by omega, rfl, rfl, HY.out, by omega, by omega⟩
  clear HY hy1 hy2 hn
  obtain ⟨rfl, y, n, hn, rfl, rfl, hy, hy1, hy2⟩ := hcut
  have HY : Hid (y = x * 2 ^ n) := hy
  clear hy
  go_upto_if 22 with fail
  go_cut [0, 3] from 4 (fun s0 s3 wx => wx = wc ∧ ∃ (y : Int) (n : Nat), n ≤ 56 ∧ s0 = .int .u64 y ∧ s3 = .int .u64 n ∧ y = x * 2 ^ n ∧ 72057594037927936 ≤ y ∧ y < 18446744073709551616)
  case first =>
    by_cases h : y < 72057594037927936
    · go_wp2
      go_meet
      case rel => exact ⟨rfl, y * 256, n + 8, by omega, rfl, by go_num, shl_step x y n 8 HY.out, by omega, by omega⟩
    · go_wp2
      go_meet
      case rel => exact ⟨rfl, y, n, by omega, rfl, rfl, HY.out, by omega, by omega⟩
  clear HY hy1 hy2 hn
  obtain ⟨rfl, y, n, hn, rfl, rfl, hy, hy1, hy2⟩ := hcut
  have HY : Hid (y = x * 2 ^ n) := hy
  clear hy
  go_upto_if 29 with fail
  go_cut [0, 3] from 4 (fun s0 s3 wx => wx = wc ∧ ∃ (y : Int) (n : Nat), n ≤ 60 ∧ s0 = .int .u64 y ∧ s3 = .int .u64 n ∧ y = x * 2 ^ n ∧ 1152921504606846976 ≤ y ∧ y < 18446744073709551616)
  case first =>
    by_cases h : y < 1152921504606846976
    · go_wp2
      go_meet
      case rel => exact ⟨rfl, y * 16, n + 4, by omega, rfl, by go_num, shl_step x y n 4 HY.out, by omega, by omega⟩
    · go_wp2
      go_meet
      case rel => exact ⟨rfl, y, n, by omega, rfl, rfl, HY.out, by omega, by omega⟩
  clear HY hy1 hy2 hn
  obtain ⟨rfl, y, n, hn, rfl, rfl, hy, hy1, hy2⟩ := hcut
  have HY : Hid (y = x * 2 ^ n) := hy
  clear hy
  go_upto_if 36 with fail
  go_cut [0, 3] from 4 (fun s0 s3 wx => wx = wc ∧ ∃ (y : Int) (n : Nat), n ≤ 62 ∧ s0 = .int .u64 y ∧ s3 = .int .u64 n ∧ y = x * 2 ^ n ∧ 4611686018427387904 ≤ y ∧ y < 18446744073709551616)
  case first =>
    by_cases h : y < 4611686018427387904
    · go_wp2
      go_meet
      case rel => exact ⟨rfl, y * 4, n + 2, by omega, rfl, by go_num, shl_step x y n 2 HY.out, by omega, by omega⟩
    · go_wp2
      go_meet
      case rel => exact ⟨rfl, y, n, by omega, rfl, rfl, HY.out, by omega, by omega⟩
  clear HY hy1 hy2 hn
  obtain ⟨rfl, y, n, hn, rfl, rfl, hy, hy1, hy2⟩ := hcut
  have HY : Hid (y = x * 2 ^ n) := hy
  clear hy
  by_cases h : y < 9223372036854775808
  · go_wp2
    go_ret
    exact ⟨rfl, n + 1, by omega, by go_num, by have := shl_step x y n 1 HY.out; simp at this; omega, by have := shl_step x y n 1 HY.out; simp at this; omega⟩
  · go_wp2
    go_ret
    exact ⟨rfl, n, by omega, rfl, by rw [← HY.out]; omega, by rw [← HY.out]; omega⟩

theorem bitLen_any (x : Int) (w : World) (h0 : 1 ≤ x) (h1 : x < 18446744073709551616) :
    Calls Try.prog 97 #[.int .u64 x] w fun e w' => w' = w ∧ ∃ bl : Nat, 1 ≤ bl ∧ bl ≤ 64 ∧ e = .returned (.int .u64 bl) ∧ x < 2 ^ bl ∧ 2 ^ (bl - 1) ≤ x := by
  go_enter Try.func97, Try.ntmps97
  go_wp2_with fail
  refine (lz_any x _ h0 h1).mono ?_
  rintro e w' ⟨rfl, n, hn, rfl, hlo, hhi⟩
  go_wp2
  go_ret
  refine ⟨rfl, 64 - n, by omega, by omega, by go_num, ?_, ?_⟩
  · have e : (2 : Int) ^ 64 = 2 ^ (64 - n) * 2 ^ n := by rw [← Int.pow_add]; congr 1; omega
    have e2 : (2 : Int) ^ 64 = 18446744073709551616 := by decide
    have := Int.pow_pos (n := 2) (m := n) (by decide)
    exact Int.lt_of_mul_lt_mul_right (by omega) (Int.le_of_lt this)
  · have e : (2 : Int) ^ 63 = 2 ^ (64 - n - 1) * 2 ^ n := by rw [← Int.pow_add]; congr 1; omega
    have e2 : (2 : Int) ^ 63 = 9223372036854775808 := by decide
    have := Int.pow_pos (n := 2) (m := n) (by decide)
    exact Int.le_of_mul_le_mul_right (by omega) this

set_option maxHeartbeats 400000 in
theorem isqrt64_any (n : Int) (w : World) (h0 : 0 ≤ n) (h1 : n < 18446744073709551616) :
    Calls Try.prog 59 #[.int .u64 n] w fun e w' => w' = w ∧ ∃ r : Int, 0 ≤ r ∧ r < 4294967296 ∧ e = .returned (.int .u64 r) ∧ r * r ≤ n ∧ n < (r + 1) * (r + 1) := by
  by_cases h2 : n < 2
  · go_enter Try.func59, Try.ntmps59
    go_wp2
    go_ret
    refine ⟨rfl, n, h0, by omega, rfl, ?_, ?_⟩
    · rcases (by omega : n = 0 ∨ n = 1) with rfl | rfl <;> decide
    · rcases (by omega : n = 0 ∨ n = 1) with rfl | rfl <;> decide
  · go_enter Try.func59, Try.ntmps59
    go_wp2_with fail
    refine (bitLen_any n _ (by omega) h1).mono ?_
    rintro e w' ⟨rfl, bl, hb1, hb2, rfl, hhi, hlo⟩
    obtain ⟨x0, hx0⟩ : ∃ x0 : Int, x0 = IntKind.u64.wrap (2 ^ ((bl + 1) / 2)) := ⟨_, rfl⟩
    have hx1 : x0 = 2 ^ ((bl + 1) / 2) := by
      rw [hx0]
      have h1 : (2 : Int) ^ ((bl + 1) / 2) ≤ 2 ^ 32 := two_pow_mono (by omega)
      have h2 : 0 < (2 : Int) ^ ((bl + 1) / 2) := Int.pow_pos (by decide)
      exact IntWalk.u64_in _ ⟨by omega, by omega⟩
    have hx2 : 1 ≤ x0 := by have : 0 < (2 : Int) ^ ((bl + 1) / 2) := Int.pow_pos (by decide)
                            omega
    have hx3 : x0 ≤ 4294967296 := by have h1 : (2 : Int) ^ ((bl + 1) / 2) ≤ 2 ^ 32 := two_pow_mono (by omega)
                                     omega
    have hx4 : n < (x0 + 1) * (x0 + 1) := by
      have h1 : (2 : Int) ^ bl ≤ 2 ^ ((bl + 1) / 2 + (bl + 1) / 2) := two_pow_mono (by omega)
      rw [Int.pow_add, ← hx1] at h1
      have : (x0 + 1) * (x0 + 1) = x0 * x0 + 2 * x0 + 1 := by grind
      omega
    clear hhi hlo hx1
    have HX : Hid (x0 = IntKind.u64.wrap (2 ^ ((bl + 1) / 2))) := hx0
    clear hx0
    go_wp2
    rw [← HX.out]
    go_loop [3] (fun i => ∃ x : Int, 1 ≤ x ∧ x ≤ 4294967296 ∧ i = .int .u64 x ∧ n < (x + 1) * (x + 1)) (fun i => (intOf i).toNat)
    case atStart => exact ⟨x0, hx2, hx3, rfl, hx4⟩
    case round =>
      clear hx2 hx3 hx4 HX
      obtain ⟨x, hx1, hx2, rfl, hx3⟩ := hrel
      have hq := newton_div hx1 hx3
      have hq0 : 0 ≤ n / x := Int.ediv_nonneg h0 (by omega)
      have hN := newton_high (n := n) hx1
      have hL := newton_low (n := n) hx1
      have HN : Hid (n < ((x + n / x) / 2 + 1) * ((x + n / x) / 2 + 1)) := hN
      have HLo : Hid (x ≤ (x + n / x) / 2 → x * x ≤ n) := hL
      have HX3 : Hid (n < (x + 1) * (x + 1)) := hx3
      clear hN hL hx3
      go_wp2
      · go_ret
        have hle := HLo.out (by assumption)
        refine ⟨rfl, x, by omega, ?_, rfl, hle, HX3.out⟩
        have : ¬ 4294967296 ≤ x := fun h => by
          have := Int.mul_le_mul h h (by decide) (by omega)
          omega
        omega
      · refine ⟨⟨(x + n / x) / 2, ?_, by omega, rfl, HN.out⟩, by simp [intOf]; omega⟩
        have h3 := HN.out
        by_cases h4 : (x + n / x) / 2 = 0
        · rw [h4] at h3; omega
        · omega

/-- fixmath.Isqrt. -/
theorem Isqrt_neg (n : Int) (w : World) (h0 : n < 0) :
    Calls Try.prog 23 #[.int .i64 n] w fun e w' => w' = w ∧ e = .returned (.tuple #[.int .i64 0, .int .i64 3]) := by
  go_enter Try.func23, Try.ntmps23
  go_wp2
  go_ret2
  exact ⟨rfl, rfl⟩
theorem Isqrt_any (n : Int) (w : World) (h0 : 0 ≤ n) (h1 : n < 9223372036854775808) :
    Calls Try.prog 23 #[.int .i64 n] w fun e w' => w' = w ∧ ∃ r : Int, 0 ≤ r ∧ r < 4294967296 ∧ e = .returned (.tuple #[.int .i64 r, .int .i64 0]) ∧ r * r ≤ n ∧ n < (r + 1) * (r + 1) := by
  go_enter Try.func23, Try.ntmps23
  go_wp2_with fail
  refine (isqrt64_any n _ h0 (by omega)).mono ?_
  rintro e w' ⟨rfl, r, hr0, hr1, rfl, hlo, hhi⟩
  have HL : Hid (r * r ≤ n ∧ n < (r + 1) * (r + 1)) := ⟨hlo, hhi⟩
  clear hlo hhi
  go_wp2
  go_ret2
  exact ⟨rfl, r, hr0, hr1, rfl, HL.out⟩
end Go.Proofs.Qxb6500775a
