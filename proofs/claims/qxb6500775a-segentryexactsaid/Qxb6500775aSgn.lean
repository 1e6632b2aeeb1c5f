import Derived.Test.Qxb6500775aDiv2
namespace Go.Proofs.Qxb6500775a
open Go.RowKit

/-- The floor of n / d. -/
def fq (n d : Int) : Int := if 0 < d then n / d else (-n) / (-d)
def clampV (x : Int) : Int := if 2147483647 < x then 2147483647 else if x < -2147483648 then -2147483648 else x
def clampE (x : Int) : Int := if 2147483647 < x then 1 else if x < -2147483648 then 1 else 0
theorem ret_tup2 {k1 k2 : IntKind} {a b c d : Int} (h1 : a = c) (h2 : b = d) : Ending.returned (.tuple #[.int k1 a, .int k2 b]) = .returned (.tuple #[.int k1 c, .int k2 d]) := by rw [h1, h2]

theorem inRange_any (w : World) (v : Int) : Calls Try.prog 46 #[.int .i64 v] w fun e w' => e = .returned (.bool (decide (-2147483648 ≤ v ∧ v ≤ 2147483647))) ∧ w' = w := by
  rcases (by omega : v < -2147483648 ∨ (-2147483648 ≤ v ∧ v ≤ 2147483647) ∨ (-2147483648 ≤ v ∧ 2147483647 < v)) with h | ⟨h, h'⟩ | ⟨h, h'⟩
  all_goals
    go_enter Try.func46, Try.ntmps46
    go_wp2
    go_ret
    exact ⟨ret_bool (by rw [Bool.eq_iff_iff]; simp <;> omega), rfl⟩
theorem clampFix_any (w : World) (v : Int) : Calls Try.prog 47 #[.int .i64 v] w fun e w' => e = .returned (.tuple #[.int .i64 (clampV v), .int .i64 (clampE v)]) ∧ w' = w := by
  rcases (by omega : v < -2147483648 ∨ (-2147483648 ≤ v ∧ v ≤ 2147483647) ∨ (-2147483648 ≤ v ∧ 2147483647 < v)) with h | ⟨h, h'⟩ | ⟨h, h'⟩
  · have e1 : clampV v = -2147483648 := by rw [clampV, if_neg (by omega), if_pos h]
    have e2 : clampE v = 1 := by rw [clampE, if_neg (by omega), if_pos h]
    rw [e1, e2]
    have h2 : ¬ 2147483647 < v := by omega
    go_enter Try.func47, Try.ntmps47
    go_wp2
    exact bodyPost_ret (v := .tuple #[.int .i64 (-2147483648), .int .i64 1]) (by simp [results, Try.results47, go_sem]) rfl ⟨rfl, rfl⟩
  · have e1 : clampV v = v := by rw [clampV, if_neg (by omega), if_neg (by omega)]
    have e2 : clampE v = 0 := by rw [clampE, if_neg (by omega), if_neg (by omega)]
    rw [e1, e2]
    go_enter Try.func47, Try.ntmps47
    go_wp2
    exact bodyPost_ret (v := .tuple #[.int .i64 v, .int .i64 0]) (by simp [results, Try.results47, go_sem]) rfl ⟨rfl, rfl⟩
  · have e1 : clampV v = 2147483647 := by rw [clampV, if_pos h']
    have e2 : clampE v = 1 := by rw [clampE, if_pos h']
    rw [e1, e2]
    go_enter Try.func47, Try.ntmps47
    go_wp2
    exact bodyPost_ret (v := .tuple #[.int .i64 2147483647, .int .i64 1]) (by simp [results, Try.results47, go_sem]) rfl ⟨rfl, rfl⟩
def endP (s : Int) : Int := if 0 < s then 2147483647 else if s < 0 then -2147483648 else 0
theorem endBySign_any (w : World) (s : Int) : Calls Try.prog 53 #[.int .i64 s] w fun e w' => e = .returned (.int .i64 (endP s)) ∧ w' = w := by
  rcases (by omega : 0 < s ∨ s < 0 ∨ s = 0) with h | h | h
  · go_enter Try.func53, Try.ntmps53
    go_wp2
    go_ret
    exact ⟨ret_int (by rw [endP, if_pos h]), rfl⟩
  · have h2 : ¬ 0 < s := by omega
    go_enter Try.func53, Try.ntmps53
    go_wp2
    go_ret
    exact ⟨ret_int (by rw [endP, if_neg (by omega), if_pos h]), rfl⟩
  · subst h
    go_enter Try.func53, Try.ntmps53
    go_wp2
    go_ret
    exact ⟨rfl, rfl⟩
theorem sgn_pos {z : Int} (h : 0 < z) : sgn z = 1 := by unfold sgn; rw [if_neg (by omega)]; split <;> omega
theorem sgn_neg {z : Int} (h : z < 0) : sgn z = -1 := by unfold sgn; rw [if_neg (by omega)]; split <;> omega
theorem signOf_any (w : World) (s : Int) : Calls Try.prog 92 #[.int .i64 s] w fun e w' => e = .returned (.int .i64 (sgn s)) ∧ w' = w := by
  rcases (by omega : 0 < s ∨ s < 0 ∨ s = 0) with h | h | h
  · go_enter Try.func92, Try.ntmps92
    go_wp2
    go_ret
    exact ⟨ret_int (sgn_pos h).symm, rfl⟩
  · have h2 : ¬ 0 < s := by omega
    go_enter Try.func92, Try.ntmps92
    go_wp2
    go_ret
    exact ⟨ret_int (sgn_neg h).symm, rfl⟩
  · subst h
    go_enter Try.func92, Try.ntmps92
    go_wp2
    go_ret
    exact ⟨rfl, rfl⟩
theorem SignF_any (w : World) (s : Int) : Calls Try.prog 54 #[.int .i64 s] w fun e w' => e = .returned (.int .i64 (sgn s)) ∧ w' = w := by
  go_enter Try.func54, Try.ntmps54
  go_wp2_with fail
  refine (signOf_any _ s).mono ?_
  rintro e w' ⟨rfl, rfl⟩
  go_wp2
  go_ret
  exact ⟨rfl, rfl⟩
theorem isEnd_any (w : World) (s : Int) : Calls Try.prog 20 #[.int .i64 (endP s), .int .i64 s] w fun e w' => e = .returned (.bool true) ∧ w' = w := by
  rcases (by omega : 0 < s ∨ s < 0 ∨ s = 0) with h | h | h
  · rw [endP, if_pos h]
    go_enter Try.func20, Try.ntmps20
    go_wp2
    go_ret
    exact ⟨rfl, rfl⟩
  · have h2 : ¬ 0 < s := by omega
    rw [endP, if_neg h2, if_pos h]
    go_enter Try.func20, Try.ntmps20
    go_wp2
    go_ret
    exact ⟨rfl, rfl⟩
  · subst h
    rw [show endP 0 = 0 from rfl]
    go_enter Try.func20, Try.ntmps20
    go_wp2
    go_ret
    exact ⟨rfl, rfl⟩
theorem or48 (x y : Int) (hx0 : 0 ≤ x) (hx : x < 281474976710656) (hy0 : 0 ≤ y) (hy : y < 65536) : bits BinOp.or .u64 x (y * 281474976710656) = x + y * 281474976710656 := by
  obtain ⟨a, rfl⟩ := Int.eq_ofNat_of_zero_le hx0
  obtain ⟨b, rfl⟩ := Int.eq_ofNat_of_zero_le hy0
  have e2 : ((b * 281474976710656 : Nat) : Int) = (b : Int) * 281474976710656 := by omega
  have e3 : ((b * 281474976710656 + a : Nat) : Int) = (a : Int) + (b : Int) * 281474976710656 := by rw [Int.natCast_add, e2, Int.add_comm]
  have h := bits_or_u64_nat a (b * 281474976710656) (by omega) (by omega)
  have e : a ||| b * 281474976710656 = b * 281474976710656 + a := by
    rw [Nat.or_comm]
    have := Nat.two_pow_add_eq_or_of_lt (i := 48) (b := a) (by omega) b
    rw [Nat.mul_comm] at this
    exact this.symm
  rw [e, e2, e3] at h
  exact h
theorem orI16 (h y : Int) (hh : h = 0 ∨ h = -1) (y0 : 0 ≤ y) (y1 : y < 65536) : bits BinOp.or .i64 (h * 65536) y = h * 65536 + y := by
  obtain ⟨n, rfl⟩ := Int.eq_ofNat_of_zero_le y0
  have hn : (BitVec.ofInt 64 (n : Int)).toNat = n := by
    rw [BitVec.ofInt_natCast, BitVec.toNat_ofNat]; exact Nat.mod_eq_of_lt (by omega)
  show IntKind.i64.wrap ((BitVec.ofInt 64 (h * 65536) ||| BitVec.ofInt 64 (n : Int)).toNat : Nat) = _
  rw [BitVec.toNat_or, hn, IntKind.wrap_i64]
  rcases hh with rfl | rfl
  · have : (BitVec.ofInt 64 (0 * 65536)).toNat = 0 := by decide
    rw [this, Nat.zero_or]
    omega
  · have e : (BitVec.ofInt 64 (-1 * 65536)).toNat = 2 ^ 16 * 281474976710655 := by decide
    rw [e, ← Nat.two_pow_add_eq_or_of_lt (by omega)]
    omega
theorem absmul2 {B x y : Int} (h1 : -B ≤ x) (h2 : x ≤ B) (h3 : -B ≤ y) (h4 : y ≤ B) : -(B * B) ≤ x * y ∧ x * y ≤ B * B := by
  have a1 : 0 ≤ (B - x) * (B + y) := Int.mul_nonneg (by omega) (by omega)
  have a2 : 0 ≤ (B + x) * (B - y) := Int.mul_nonneg (by omega) (by omega)
  have a3 : 0 ≤ (B - x) * (B - y) := Int.mul_nonneg (by omega) (by omega)
  have a4 : 0 ≤ (B + x) * (B + y) := Int.mul_nonneg (by omega) (by omega)
  simp only [Int.sub_mul, Int.mul_sub, Int.add_mul, Int.mul_add] at a1 a2 a3 a4
  rw [Int.mul_comm x B] at a1 a2 a3 a4
  omega
/-- i128From64 -/
theorem from64_any (w : World) (v : Int) (h0 : -9223372036854775808 ≤ v) (h1 : v < 9223372036854775808) :
    Calls Try.prog 57 #[.int .i64 v] w fun e w' => e = .returned (.agg #[.int .i64 (v / 18446744073709551616), .int .u64 (v % 18446744073709551616)]) ∧ Below w.heap.size w w' := by
  go_enter Try.func57, Try.ntmps57
  go_wp2
  refine bodyPost_ret (v := .agg #[.int .i64 _, .int .u64 _]) (by simp [results, Try.results57, go_sem]; exact ⟨rfl, rfl⟩) rfl ⟨ret_agg2 ?_ ?_, (Below.refl _ _).alloc (Nat.le_refl _) _⟩
  · omega
  · rw [IntKind.wrap_u64]
theorem cmpI128_any (w : World) (ah al bh bl : Int) (h2 : Word al) (h4 : Word bl) :
    Calls Try.prog 118 #[.agg #[.int .i64 ah, .int .u64 al], .agg #[.int .i64 bh, .int .u64 bl]] w fun e w' => e = .returned (.int .i64 (cmp3 (v128 ah al) (v128 bh bl))) ∧ Below w.heap.size w w' := by
  obtain ⟨b0, b1⟩ := h2; obtain ⟨d0, d1⟩ := h4
  rcases (by omega : ah < bh ∨ bh < ah ∨ (ah = bh ∧ al < bl) ∨ (ah = bh ∧ bl < al) ∨ (ah = bh ∧ al = bl)) with h | h | ⟨h, h'⟩ | ⟨h, h'⟩ | ⟨h, h'⟩
  · have hne : (ah != bh) = true := by simp; omega
    go_enter Try.func118, Try.ntmps118
    go_wp2
    go_ret
    exact ⟨ret_int (by rw [cmp3, if_pos (by unfold v128; omega)]), ((Below.refl _ _).alloc (Nat.le_refl _) _).alloc (by simp) _⟩
  · have hne : (ah != bh) = true := by simp; omega
    go_enter Try.func118, Try.ntmps118
    go_wp2
    go_ret
    exact ⟨ret_int (by rw [cmp3, if_neg (by unfold v128; omega), if_pos (by unfold v128; omega)]), ((Below.refl _ _).alloc (Nat.le_refl _) _).alloc (by simp) _⟩
  · subst h
    have hne : (al != bl) = true := by simp; omega
    go_enter Try.func118, Try.ntmps118
    go_wp2
    go_ret
    exact ⟨ret_int (by rw [cmp3, if_pos (by unfold v128; omega)]), ((Below.refl _ _).alloc (Nat.le_refl _) _).alloc (by simp) _⟩
  · subst h
    have hne : (al != bl) = true := by simp; omega
    go_enter Try.func118, Try.ntmps118
    go_wp2
    go_ret
    exact ⟨ret_int (by rw [cmp3, if_neg (by unfold v128; omega), if_pos (by unfold v128; omega)]), ((Below.refl _ _).alloc (Nat.le_refl _) _).alloc (by simp) _⟩
  · subst h; subst h'
    go_enter Try.func118, Try.ntmps118
    go_wp2
    go_ret
    exact ⟨ret_int (by rw [cmp3, if_neg (by omega), if_neg (by omega)]), ((Below.refl _ _).alloc (Nat.le_refl _) _).alloc (by simp) _⟩
/-- mulS64 -/
theorem mulS64_any (w : World) (a b : Int) (a0 : -9223372036854775808 ≤ a) (a1 : a < 9223372036854775808) (b0 : -9223372036854775808 ≤ b) (b1 : b < 9223372036854775808) :
    Calls Try.prog 50 #[.int .i64 a, .int .i64 b] w fun e w' => e = .returned (.agg #[.int .i64 (a * b / 18446744073709551616), .int .u64 (a * b % 18446744073709551616)]) ∧ Below w.heap.size w w' := by
  obtain ⟨A, hA⟩ : ∃ A, IntKind.u64.wrap a = A := ⟨_, rfl⟩
  obtain ⟨B, hB⟩ : ∃ B, IntKind.u64.wrap b = B := ⟨_, rfl⟩
  have HA : Hid (A = a % 18446744073709551616 ∧ B = b % 18446744073709551616) := hide ⟨by rw [← hA, IntKind.wrap_u64], by rw [← hB, IntKind.wrap_u64]⟩
  have wA : Word A := by rw [HA.out.1]; exact ⟨by omega, by omega⟩
  have wB : Word B := by rw [HA.out.2]; exact ⟨by omega, by omega⟩
  have hX := absmul2 (B := 9223372036854775808) (x := a) (y := b) a0 (by omega) b0 (by omega)
  have fin : ∀ ha hb : Int, (ha = 0 ∧ 0 ≤ a ∨ ha = 1 ∧ a < 0) → (hb = 0 ∧ 0 ≤ b ∨ hb = 1 ∧ b < 0) → IntKind.i64.wrap (A * B / 18446744073709551616 - ha * B - hb * A) = a * b / 18446744073709551616 ∧ A * B % 18446744073709551616 = a * b % 18446744073709551616 := by
    intro ha hb h1 h2
    have e1 : A = a + ha * 18446744073709551616 := by have := HA.out.1; omega
    have e2 : B = b + hb * 18446744073709551616 := by have := HA.out.2; omega
    have e3 : A * B = a * b + ((ha * b) + (hb * a) + (ha * hb) * 18446744073709551616) * 18446744073709551616 := by rw [e1, e2]; grind
    have e4 : ha * B = ha * b + (ha * hb) * 18446744073709551616 := by rw [e2]; grind
    have e5 : hb * A = hb * a + (ha * hb) * 18446744073709551616 := by rw [e1]; grind
    rw [IntKind.wrap_i64, e4, e5, e3]
    generalize ha * b = u at *
    generalize hb * a = v at *
    generalize ha * hb = t at *
    generalize a * b = X at *
    omega
  have HF := hide fin
  clear fin hX
  have HW := hide (words_mul wA wB)
  go_enter Try.func50, Try.ntmps50
  go_wp2_with fail
  refine (mulU64_any _ A B wA wB).mono ?_
  rintro e w1 ⟨rfl, hb1⟩
  have c0 : w1.cell? ⟨w.heap.size, 0, none⟩ = some (.int .i64 0) := by rw [bat hb1 0 (by simp)]; simp [go_sem]
  have c1 : w1.cell? ⟨w.heap.size, 1, none⟩ = some (.int .u64 0) := by rw [bat hb1 1 (by simp)]; simp [go_sem]
  have f0 : w1.frozen? ⟨w.heap.size, 0, none⟩ = false := by rw [batf hb1 0 (by simp)]; simp [go_sem]
  have f1 : w1.frozen? ⟨w.heap.size, 1, none⟩ = false := by rw [batf hb1 1 (by simp)]; simp [go_sem]
  have hne : w.heap.size ≠ w1.heap.size := by have := hb1.size; simp at this; omega
  have hle : w.heap.size ≤ w1.heap.size := by have := hb1.size; simp at this; omega
  have HB : Hid (Below w.heap.size w w1) := ((Below.refl _ _).alloc (Nat.le_refl _) _).trans (hb1.mono (by simp))
  clear hb1
  generalize A * B / 18446744073709551616 = ph at *
  generalize A * B % 18446744073709551616 = pl at *
  go_upto_region 2 with fail
  have d0 : (w1.alloc (.cells #[.int .u64 ph, .int .u64 pl] 108)).cell? ⟨w1.heap.size, 0, none⟩ = some (.int .u64 ph) := by simp [go_sem]
  have d1 : (w1.alloc (.cells #[.int .u64 ph, .int .u64 pl] 108)).cell? ⟨w1.heap.size, 1, none⟩ = some (.int .u64 pl) := by simp [go_sem]
  replace c0 := cellAl (.cells #[.int .u64 ph, .int .u64 pl] 108) c0
  replace c1 := cellAl (.cells #[.int .u64 ph, .int .u64 pl] 108) c1
  have g0 : (w1.alloc (.cells #[.int .u64 ph, .int .u64 pl] 108)).frozen? ⟨w.heap.size, 0, none⟩ = false := (((Below.refl w1.heap.size w1).alloc (Nat.le_refl _) _).frozen (p := ⟨w.heap.size, 0, none⟩) (Nat.lt_of_le_of_ne hle hne)).trans f0
  have g1 : (w1.alloc (.cells #[.int .u64 ph, .int .u64 pl] 108)).frozen? ⟨w.heap.size, 1, none⟩ = false := (((Below.refl w1.heap.size w1).alloc (Nat.le_refl _) _).frozen (p := ⟨w.heap.size, 1, none⟩) (Nat.lt_of_le_of_ne hle hne)).trans f1
  replace HB := hide (belAl HB.out (.cells #[.int .u64 ph, .int .u64 pl] 108))
  clear f0 f1 hle
  generalize w1.alloc (.cells #[.int .u64 ph, .int .u64 pl] 108) = W at *
  generalize w1.heap.size = p at *
  generalize hr : w.heap.size = r at *
  by_cases ha : a < 0 <;> by_cases hb : b < 0
  all_goals
    go_wp2
    refine bodyPost_ret (v := .agg #[.int .i64 _, .int .u64 pl]) (by simp [results, Try.results50, go_sem, c0, c1]; rfl) rfl ⟨ret_agg2 ?_ ?_, by first | exact (HB.out.setCell (p := ⟨r, 0, none⟩) (Nat.le_refl r) _).setCell (p := ⟨r, 1, none⟩) (Nat.le_refl r) _ | (rw [hr]; exact (HB.out.setCell (p := ⟨r, 0, none⟩) (Nat.le_refl r) _).setCell (p := ⟨r, 1, none⟩) (Nat.le_refl r) _)⟩
  · rw [← (HF.out 1 1 (by omega) (by omega)).1]; simp only [IntKind.wrap_u64, IntKind.wrap_i64, wrap64]; omega
  · exact (HF.out 1 1 (by omega) (by omega)).2
  · rw [← (HF.out 1 0 (by omega) (by omega)).1]; simp only [IntKind.wrap_u64, IntKind.wrap_i64, wrap64]; omega
  · exact (HF.out 1 0 (by omega) (by omega)).2
  · rw [← (HF.out 0 1 (by omega) (by omega)).1]; simp only [IntKind.wrap_u64, IntKind.wrap_i64, wrap64]; omega
  · exact (HF.out 0 1 (by omega) (by omega)).2
  · rw [← (HF.out 0 0 (by omega) (by omega)).1]; simp only [IntKind.wrap_i64, wrap64]; omega
  · exact (HF.out 0 0 (by omega) (by omega)).2
/-- sarI128 by 16 -/
theorem sar16_any (w : World) (h l : Int) (hl : Word l) :
    Calls Try.prog 49 #[.agg #[.int .i64 h, .int .u64 l], .int .u64 16] w fun e w' => e = .returned (.agg #[.int .i64 (v128 h l / 65536 / 18446744073709551616), .int .u64 (v128 h l / 65536 % 18446744073709551616)]) ∧ Below w.heap.size w w' := by
  obtain ⟨l0, l1⟩ := hl
  go_enter Try.func49, Try.ntmps49
  go_wp2
  refine bodyPost_ret (v := .agg #[.int .i64 _, .int .u64 _]) (by simp [results, Try.results49, go_sem]; exact ⟨rfl, rfl⟩) rfl ⟨ret_agg2 ?_ ?_, ((Below.refl _ _).alloc (Nat.le_refl _) _).alloc (by simp) _⟩
  · unfold v128; omega
  · have e : IntKind.u64.wrap (IntKind.u64.wrap h * 281474976710656) = h % 65536 * 281474976710656 := by rw [IntKind.wrap_u64, IntKind.wrap_u64]; omega
    rw [e, or48 _ _ (by omega) (by omega) (by omega) (by omega)]
    unfold v128; omega
/-- shlI128 by 16 -/
theorem shl16_any (w : World) (a : Int) (a0 : -9223372036854775808 ≤ a) (a1 : a < 9223372036854775808) :
    Calls Try.prog 56 #[.agg #[.int .i64 (a / 18446744073709551616), .int .u64 (a % 18446744073709551616)], .int .u64 16] w fun e w' => e = .returned (.agg #[.int .i64 (a * 65536 / 18446744073709551616), .int .u64 (a * 65536 % 18446744073709551616)]) ∧ Below w.heap.size w w' := by
  go_enter Try.func56, Try.ntmps56
  go_wp2
  refine bodyPost_ret (v := .agg #[.int .i64 _, .int .u64 _]) (by simp [results, Try.results56, go_sem]; exact ⟨rfl, rfl⟩) rfl ⟨ret_agg2 ?_ ?_, ((Below.refl _ _).alloc (Nat.le_refl _) _).alloc (by simp) _⟩
  · rw [orI16 _ _ (by omega) (by omega) (by omega)]; omega
  · rw [IntKind.wrap_u64]; omega
end Go.Proofs.Qxb6500775a
