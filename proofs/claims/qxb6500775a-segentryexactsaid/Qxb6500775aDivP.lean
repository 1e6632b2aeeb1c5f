/- Plain arithmetic of one digit of a long division. No Go in sight. -/
namespace Go.Proofs.Qxb6500775a

/-- One digit: the divisor is normalised, the rest so far is less than it. -/
structure Dgt (dh dl top l Q : Int) : Prop where
  dh0 : 2147483648 ≤ dh
  dh1 : dh < 4294967296
  dl0 : 0 ≤ dl
  dl1 : dl < 4294967296
  t0 : 0 ≤ top
  t1 : top < dh * 4294967296 + dl
  l0 : 0 ≤ l
  l1 : l < 4294967296
  lo : Q * (dh * 4294967296 + dl) ≤ top * 4294967296 + l
  hi : top * 4294967296 + l < (Q + 1) * (dh * 4294967296 + dl)
theorem Dgt.mk' {dh dl top l : Int} (h1 : 2147483648 ≤ dh) (h2 : dh < 4294967296) (h3 : 0 ≤ dl) (h4 : dl < 4294967296) (h5 : 0 ≤ top) (h6 : top < dh * 4294967296 + dl) (h7 : 0 ≤ l) (h8 : l < 4294967296) :
    Dgt dh dl top l ((top * 4294967296 + l) / (dh * 4294967296 + dl)) := by
  refine ⟨h1, h2, h3, h4, h5, h6, h7, h8, ?_, ?_⟩
  · rw [Int.mul_comm]; exact Int.mul_ediv_self_le (by omega)
  · have := Int.lt_mul_ediv_self_add (x := top * 4294967296 + l) (k := dh * 4294967296 + dl) (by omega)
    generalize top * 4294967296 + l = N at *
    generalize dh * 4294967296 + dl = D at *
    rw [Int.add_mul, Int.one_mul, Int.mul_comm (N / D) D]
    omega
theorem Dgt.Q0 {dh dl top l Q : Int} (h : Dgt dh dl top l Q) : 0 ≤ Q := by
  obtain ⟨h1, h2, h3, h4, h5, h6, h7, h8, h9, h10⟩ := h
  by_cases hq : 0 ≤ Q
  · exact hq
  · have := Int.mul_nonpos_of_nonpos_of_nonneg (show Q + 1 ≤ 0 by omega) (show 0 ≤ dh * 4294967296 + dl by omega)
    omega
theorem Dgt.Q1 {dh dl top l Q : Int} (h : Dgt dh dl top l Q) : Q < 4294967296 := by
  obtain ⟨h1, h2, h3, h4, h5, h6, h7, h8, h9, h10⟩ := h
  by_cases hq : Q < 4294967296
  · exact hq
  · have := Int.mul_le_mul_of_nonneg_right (show 4294967296 ≤ Q by omega) (show 0 ≤ dh * 4294967296 + dl by omega)
    omega
/-- q exceeds the digit exactly if the test says so. -/
theorem Dgt.gt_iff {dh dl top l Q q rest : Int} (h : Dgt dh dl top l Q) (hq : q * dh + rest = top) : Q < q ↔ rest * 4294967296 + l < q * dl := by
  obtain ⟨h1, h2, h3, h4, h5, h6, h7, h8, h9, h10⟩ := h
  have e : q * (dh * 4294967296 + dl) = (q * dh) * 4294967296 + q * dl := by grind
  constructor
  · intro hlt
    have := Int.mul_le_mul_of_nonneg_right (show Q + 1 ≤ q by omega) (show 0 ≤ dh * 4294967296 + dl by omega)
    omega
  · intro hlt
    by_cases hc : Q < q
    · exact hc
    · have := Int.mul_le_mul_of_nonneg_right (show q ≤ Q by omega) (show 0 ≤ dh * 4294967296 + dl by omega)
      omega
/-- The first guess. -/
theorem Dgt.guess {dh dl top l Q : Int} (h : Dgt dh dl top l Q) : Q ≤ top / dh ∧ top / dh ≤ 4294967297 ∧ 0 ≤ top - top / dh * dh ∧ top - top / dh * dh < dh := by
  obtain ⟨h1, h2, h3, h4, h5, h6, h7, h8, h9, h10⟩ := h
  have m1 := Int.mul_ediv_self_le (x := top) (k := dh) (by omega)
  have m2 := Int.lt_mul_ediv_self_add (x := top) (k := dh) (by omega)
  rw [Int.mul_comm] at m1 m2
  generalize top / dh = q at *
  refine ⟨?_, ?_, by omega, by omega⟩
  · by_cases hc : Q ≤ q
    · exact hc
    · exfalso
      have k1 := Int.mul_le_mul_of_nonneg_right (show q + 1 ≤ Q by omega) (show 0 ≤ dh * 4294967296 + dl by omega)
      have k2 : (q + 1) * (dh * 4294967296 + dl) = (q * dh + dh) * 4294967296 + (q + 1) * dl := by grind
      have q0 : 0 ≤ q + 1 := by
        by_cases hn : 0 ≤ q + 1
        · exact hn
        · have := Int.mul_nonpos_of_nonpos_of_nonneg (show q ≤ 0 by omega) (show 0 ≤ dh by omega)
          have k4 := Int.mul_le_mul_of_nonneg_right (show q ≤ -2 by omega) (show 0 ≤ dh by omega)
          omega
      have k3 := Int.mul_nonneg q0 h3
      omega
  · by_cases hc : q ≤ 4294967297
    · exact hc
    · exfalso
      have := Int.mul_le_mul_of_nonneg_right (show 4294967298 ≤ q by omega) (show 0 ≤ dh by omega)
      omega
/-- The way out by the break. -/
theorem Dgt.brk {dh dl top l Q q rest : Int} (h : Dgt dh dl top l Q) (hq : q * dh + rest = top) (h1' : q ≤ 4294967296) (hr : 4294967296 ≤ rest) (hQ : Q ≤ q) : q = Q := by
  have hi := h.gt_iff hq
  have : ¬ Q < q := by
    rw [hi]
    have := Int.mul_le_mul_of_nonneg_right h1' h.dl0
    have := h.dl1; have := h.l0
    omega
  omega
theorem or_high_nat (x y n : Nat) (h : y < 2 ^ n) : x * 2 ^ n ||| y = x * 2 ^ n + y := by
  have := Nat.two_pow_add_eq_or_of_lt (i := n) h x
  rw [Nat.mul_comm] at this
  exact this.symm
end Go.Proofs.Qxb6500775a
