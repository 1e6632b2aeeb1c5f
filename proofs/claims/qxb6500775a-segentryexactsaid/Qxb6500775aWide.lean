import Derived.Test.Qxb6500775aBig4
namespace Go.Proofs.Qxb6500775a
open Go.RowKit

/-- A word. -/
def Word (x : Int) : Prop := 0 ≤ x ∧ x < 18446744073709551616
theorem word_div {x : Int} (h0 : 0 ≤ x) (h1 : x < 340282366920938463463374607431768211456) : Word (x / 18446744073709551616) := ⟨by omega, by omega⟩
theorem word_mod (x : Int) : Word (x % 18446744073709551616) := ⟨by omega, by omega⟩
theorem or_parts (x y : Int) (hx0 : 0 ≤ x) (hx : x < 4294967296) (hy0 : 0 ≤ y) (hy : y < 4294967296) : bits BinOp.or .u64 x (y * 4294967296) = x + y * 4294967296 := by
  obtain ⟨a, rfl⟩ := Int.eq_ofNat_of_zero_le hx0
  obtain ⟨b, rfl⟩ := Int.eq_ofNat_of_zero_le hy0
  have e2 : ((b * 4294967296 : Nat) : Int) = (b : Int) * 4294967296 := by omega
  have e3 : ((b * 4294967296 + a : Nat) : Int) = (a : Int) + (b : Int) * 4294967296 := by rw [Int.natCast_add, e2, Int.add_comm]
  have h := bits_or_u64_nat a (b * 4294967296) (by omega) (by omega)
  have e : a ||| b * 4294967296 = b * 4294967296 + a := by
    rw [Nat.or_comm]
    have := Nat.two_pow_add_eq_or_of_lt (i := 32) (b := a) (by omega) b
    rw [Nat.mul_comm] at this
    exact this.symm
  rw [e, e2, e3] at h
  exact h
theorem ret_agg2 {k1 k2 : IntKind} {a b c d : Int} (h1 : a = c) (h2 : b = d) : Ending.returned (.agg #[.int k1 a, .int k2 b]) = .returned (.agg #[.int k1 c, .int k2 d]) := by rw [h1, h2]
/-- x = h * 2^64 + l with a word l: h and l are the quotient and the rest. -/
theorem parts_of {x h l : Int} (e : x = h * 18446744073709551616 + l) (h0 : 0 ≤ l) (h1 : l < 18446744073709551616) : h = x / 18446744073709551616 ∧ l = x % 18446744073709551616 := by omega
/-- The full product of two words out of their halves. -/
theorem mul_parts {ah al bh bl ll lh hl hh mid : Int} (h1 : ll = al * bl) (h2 : lh = al * bh) (h3 : hl = ah * bl) (h4 : hh = ah * bh) (hm : mid = ll / 4294967296 + lh % 4294967296 + hl % 4294967296) :
    (ah * 4294967296 + al) * (bh * 4294967296 + bl) = (hh + lh / 4294967296 + hl / 4294967296 + mid / 4294967296) * 18446744073709551616 + (ll % 4294967296 + (mid % 4294967296) * 4294967296) := by
  have e : (ah * 4294967296 + al) * (bh * 4294967296 + bl) = hh * 18446744073709551616 + lh * 4294967296 + hl * 4294967296 + ll := by subst h1 h2 h3 h4; grind
  rw [e]
  omega
theorem half_mul {x y : Int} (hx0 : 0 ≤ x) (hx : x < 4294967296) (hy0 : 0 ≤ y) (hy : y < 4294967296) : 0 ≤ x * y ∧ x * y ≤ 18446744065119617025 := mul_dig hx0 hx hy0 hy
theorem words_mul {x y : Int} (hx : Word x) (hy : Word y) : 0 ≤ x * y ∧ x * y < 340282366920938463463374607431768211456 := by
  refine ⟨Int.mul_nonneg hx.1 hy.1, ?_⟩
  have := Int.mul_le_mul (show x ≤ 18446744073709551615 by have := hx.2; omega) (show y ≤ 18446744073709551615 by have := hy.2; omega) hy.1 (by omega)
  omega

set_option maxHeartbeats 2000000 in
theorem mulU64_any (w : World) (a b : Int) (ha : Word a) (hb : Word b) :
    Calls Try.prog 85 #[.int .u64 a, .int .u64 b] w fun e w' => e = .returned (.agg #[.int .u64 (a * b / 18446744073709551616), .int .u64 (a * b % 18446744073709551616)]) ∧ Below w.heap.size w w' := by
  obtain ⟨ah, hah⟩ : ∃ x, x = a / 4294967296 := ⟨_, rfl⟩
  obtain ⟨al, hal⟩ : ∃ x, x = a % 4294967296 := ⟨_, rfl⟩
  obtain ⟨bh, hbh⟩ : ∃ x, x = b / 4294967296 := ⟨_, rfl⟩
  obtain ⟨bl, hbl⟩ : ∃ x, x = b % 4294967296 := ⟨_, rfl⟩
  obtain ⟨a0, a1⟩ := ha
  obtain ⟨b0, b1⟩ := hb
  have m1 := half_mul (x := al) (y := bl) (by omega) (by omega) (by omega) (by omega)
  have m2 := half_mul (x := al) (y := bh) (by omega) (by omega) (by omega) (by omega)
  have m3 := half_mul (x := ah) (y := bl) (by omega) (by omega) (by omega) (by omega)
  have m4 := half_mul (x := ah) (y := bh) (by omega) (by omega) (by omega) (by omega)
  have ka := and_mask32 a a0 a1
  have kb := and_mask32 b b0 b1
  rw [← hal] at ka
  rw [← hbl] at kb
  have bal : 0 ≤ al ∧ al < 4294967296 := by omega
  have bbl : 0 ≤ bl ∧ bl < 4294967296 := by omega
  have bah : 0 ≤ ah ∧ ah < 4294967296 := by omega
  have bbh : 0 ≤ bh ∧ bh < 4294967296 := by omega
  have eah := hah.symm
  have ebh := hbh.symm
  have ea : a = ah * 4294967296 + al := by omega
  have eb : b = bh * 4294967296 + bl := by omega
  have HA := hide (And.intro ea eb)
  clear hah hal hbh hbl ea eb
  obtain ⟨ll, hll⟩ : ∃ x, x = al * bl := ⟨_, rfl⟩
  obtain ⟨lh, hlh⟩ : ∃ x, x = al * bh := ⟨_, rfl⟩
  obtain ⟨hl, hhl⟩ : ∃ x, x = ah * bl := ⟨_, rfl⟩
  obtain ⟨hh, hhh⟩ : ∃ x, x = ah * bh := ⟨_, rfl⟩
  rw [← hll] at m1
  rw [← hlh] at m2
  rw [← hhl] at m3
  rw [← hhh] at m4
  have ell := hll.symm
  have elh := hlh.symm
  have ehl := hhl.symm
  have ehh := hhh.symm
  have HM := hide (And.intro hll (And.intro hlh (And.intro hhl hhh)))
  clear hll hlh hhl hhh
  have k1 := and_mask32 lh (by omega) (by omega)
  have k2 := and_mask32 hl (by omega) (by omega)
  have k3 := and_mask32 ll (by omega) (by omega)
  go_enter Try.func85, Try.ntmps85
  go_wp2
  have hw : IntKind.u64.wrap ((ll / 4294967296 + lh % 4294967296 + hl % 4294967296) * 4294967296) = ((ll / 4294967296 + lh % 4294967296 + hl % 4294967296) % 4294967296) * 4294967296 := by rw [IntKind.wrap_u64]; omega
  rw [hw, or_parts _ _ (by omega) (by omega) (by omega) (by omega)]
  have e := mul_parts HM.out.1 HM.out.2.1 HM.out.2.2.1 HM.out.2.2.2 rfl
  rw [← HA.out.1, ← HA.out.2] at e
  obtain ⟨e1, e2⟩ := parts_of e (by omega) (by omega)
  exact bodyPost_ret (v := .agg #[.int .u64 _, .int .u64 _]) (by simp [results, Try.results85, go_sem]) rfl ⟨ret_agg2 e1 e2, (Below.refl _ _).alloc (Nat.le_refl _) _⟩
end Go.Proofs.Qxb6500775a
