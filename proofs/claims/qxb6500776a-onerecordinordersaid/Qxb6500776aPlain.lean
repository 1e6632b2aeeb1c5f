/- Plain arithmetic of digits in base 2^32. No Go in sight. -/
namespace Go.Proofs.Qxb6500776a

/-- The number whose first k digits in base 2^32, least first, are D. -/
def Sm (D : Nat → Int) : Nat → Int
  | 0 => 0
  | k + 1 => Sm D k + D k * 4294967296 ^ k
/-- The first n of D are digits. -/
def Dig (D : Nat → Int) (n : Nat) : Prop := ∀ i, i < n → 0 ≤ D i ∧ D i < 4294967296
def upd (D : Nat → Int) (i : Nat) (v : Int) : Nat → Int := fun j => if j = i then v else D j

theorem Bpow_pos (k : Nat) : 0 < (4294967296 : Int) ^ k := Int.pow_pos (by decide)
theorem Sm_succ (D : Nat → Int) (k : Nat) : Sm D (k + 1) = Sm D k + D k * 4294967296 ^ k := rfl
theorem Sm_congr {D E : Nat → Int} : ∀ {n : Nat}, (∀ i, i < n → D i = E i) → Sm D n = Sm E n
  | 0, _ => rfl
  | n + 1, h => by
    rw [Sm_succ, Sm_succ, Sm_congr (n := n) (fun i hi => h i (by omega)), h n (by omega)]
theorem Sm_upd_ge {D : Nat → Int} {i : Nat} {v : Int} {n : Nat} (h : n ≤ i) : Sm (upd D i v) n = Sm D n :=
  Sm_congr fun j hj => by unfold upd; rw [if_neg (by omega)]
theorem Sm_upd {D : Nat → Int} {i : Nat} {v : Int} : ∀ {n : Nat}, i < n → Sm (upd D i v) n = Sm D n + (v - D i) * 4294967296 ^ i
  | 0, h => by omega
  | n + 1, h => by
    by_cases hi : i = n
    · subst hi
      rw [Sm_succ, Sm_succ, Sm_upd_ge (Nat.le_refl _)]
      have : upd D i v i = v := by simp [upd]
      rw [this]; grind
    · rw [Sm_succ, Sm_succ, Sm_upd (n := n) (by omega)]
      have : upd D i v n = D n := by simp [upd]; omega
      rw [this]; grind
theorem Sm_zero {D : Nat → Int} {n : Nat} (h : ∀ i, i < n → D i = 0) : Sm D n = 0 := by
  induction n with
  | zero => rfl
  | succ n ih => rw [Sm_succ, ih (fun i hi => h i (by omega)), h n (by omega)]; simp
theorem Sm_trim {D : Nat → Int} {m : Nat} : ∀ {n : Nat}, m ≤ n → (∀ i, m ≤ i → i < n → D i = 0) → Sm D n = Sm D m
  | 0, h, _ => by rw [show m = 0 by omega]
  | n + 1, h, hz => by
    by_cases hm : m = n + 1
    · rw [hm]
    · rw [Sm_succ, Sm_trim (n := n) (by omega) (fun i h1 h2 => hz i h1 (by omega)), hz n (by omega) (by omega)]; simp
theorem Sm_nonneg {D : Nat → Int} {n : Nat} (h : Dig D n) : 0 ≤ Sm D n := by
  induction n with
  | zero => exact Int.le_refl _
  | succ n ih =>
    rw [Sm_succ]
    have := ih (fun i hi => h i (by omega))
    have := Int.mul_nonneg (h n (by omega)).1 (Int.le_of_lt (Bpow_pos n))
    omega
theorem Sm_lt {D : Nat → Int} {n : Nat} (h : Dig D n) : Sm D n < 4294967296 ^ n := by
  induction n with
  | zero => show (0 : Int) < 1; decide
  | succ n ih =>
    rw [Sm_succ]
    have h1 := ih (fun i hi => h i (by omega))
    have h2 : D n * 4294967296 ^ n ≤ 4294967295 * 4294967296 ^ n := Int.mul_le_mul_of_nonneg_right (by have := (h n (by omega)).2; omega) (Int.le_of_lt (Bpow_pos n))
    rw [Int.pow_succ]; omega
theorem Sm_top {D : Nat → Int} {n : Nat} (h : Dig D (n + 1)) (ht : D n ≠ 0) : (4294967296 : Int) ^ n ≤ Sm D (n + 1) := by
  rw [Sm_succ]
  have h1 := Sm_nonneg (D := D) (n := n) (fun i hi => h i (by omega))
  have h2 : 1 * 4294967296 ^ n ≤ D n * 4294967296 ^ n := Int.mul_le_mul_of_nonneg_right (by have := (h n (by omega)).1; omega) (Int.le_of_lt (Bpow_pos n))
  omega
theorem Bpow_mono {m n : Nat} (h : m ≤ n) : (4294967296 : Int) ^ m ≤ 4294967296 ^ n := by
  induction n with
  | zero => rw [show m = 0 by omega]; exact Int.le_refl _
  | succ n ih =>
    by_cases e : m = n + 1
    · rw [e]; exact Int.le_refl _
    · have := ih (by omega)
      have := Bpow_pos n
      rw [Int.pow_succ]; omega
/-- Fewer digits (the greater has no zero at its top): less. -/
theorem Sm_lt_len {D E : Nat → Int} {m n : Nat} (hD : Dig D m) (hE : Dig E n) (h : m < n) (ht : E (n - 1) ≠ 0) : Sm D m < Sm E n := by
  obtain ⟨k, rfl⟩ : ∃ k, n = k + 1 := ⟨n - 1, by omega⟩
  have h1 := Sm_lt hD
  have h2 := Sm_top hE (by simpa using ht)
  have h3 := Bpow_mono (show m ≤ k by omega)
  omega
/-- The first digit from the top that parts decides. -/
theorem Sm_lt_top {D E : Nat → Int} {i : Nat} (hi : D i < E i) : ∀ {n : Nat}, Dig D n → Dig E n → i < n → (∀ j, i < j → j < n → D j = E j) → Sm D n < Sm E n
  | 0, _, _, h, _ => by omega
  | n + 1, hD, hE, h, he => by
    rw [Sm_succ, Sm_succ]
    by_cases e : i = n
    · subst e
      have h1 := Sm_lt (D := D) (n := i) (fun j hj => hD j (by omega))
      have h2 := Sm_nonneg (D := E) (n := i) (fun j hj => hE j (by omega))
      have h3 : (D i + 1) * 4294967296 ^ i ≤ E i * 4294967296 ^ i := Int.mul_le_mul_of_nonneg_right (by omega) (Int.le_of_lt (Bpow_pos i))
      rw [Int.add_mul] at h3
      omega
    · have := Sm_lt_top hi (n := n) (fun j hj => hD j (by omega)) (fun j hj => hE j (by omega)) (by omega) (fun j h1 h2 => he j h1 (by omega))
      rw [he n (by omega) (by omega)]
      omega
theorem Sm_eq {D E : Nat → Int} {n : Nat} (h : ∀ j, j < n → D j = E j) : Sm D n = Sm E n := Sm_congr h

/-- D, and zeros from n on. -/
def ext (D : Nat → Int) (n : Nat) : Nat → Int := fun j => if j < n then D j else 0
theorem ext_lt {D : Nat → Int} {n j : Nat} (h : j < n) : ext D n j = D j := if_pos h
theorem ext_ge {D : Nat → Int} {n j : Nat} (h : n ≤ j) : ext D n j = 0 := if_neg (by omega)
theorem Sm_ext {D : Nat → Int} {n l : Nat} (h : n ≤ l) : Sm (ext D n) l = Sm D n := by
  rw [Sm_trim h (fun i h1 _ => ext_ge h1)]
  exact Sm_congr fun i hi => ext_lt hi
theorem upd_same (D : Nat → Int) (i : Nat) (v : Int) : upd D i v i = v := by simp [upd]
theorem upd_other (D : Nat → Int) {i j : Nat} (v : Int) (h : j ≠ i) : upd D i v j = D j := by simp [upd, h]
theorem Dig_upd {D : Nat → Int} {n i : Nat} {v : Int} (h : Dig D n) (h0 : 0 ≤ v) (h1 : v < 4294967296) : Dig (upd D i v) n := by
  intro j hj
  by_cases e : j = i
  · subst e; rw [upd_same]; exact ⟨h0, h1⟩
  · rw [upd_other _ _ e]; exact h j hj
/-- One round of addMag. -/
theorem add_round {F D E : Nat → Int} {k : Nat} {cy s : Int} (h : Sm F k + cy * 4294967296 ^ k = Sm D k + Sm E k) (hs : s = cy + D k + E k) :
    Sm (upd F k (s % 4294967296)) (k + 1) + (s / 4294967296) * 4294967296 ^ (k + 1) = Sm D (k + 1) + Sm E (k + 1) := by
  rw [Sm_succ, Sm_succ, Sm_succ, Sm_upd_ge (Nat.le_refl _), upd_same, Int.pow_succ]
  have e : s % 4294967296 + 4294967296 * (s / 4294967296) = s := by omega
  generalize s % 4294967296 = r at *
  generalize s / 4294967296 = q at *
  generalize (4294967296 : Int) ^ k = P at *
  grind
/-- One round of subMag. -/
theorem sub_round {F D E : Nat → Int} {k : Nat} {cy d : Int} (h : Sm F k = Sm D k - Sm E k + cy * 4294967296 ^ k) :
    Sm (upd F k (D k - E k - cy + d * 4294967296)) (k + 1) = Sm D (k + 1) - Sm E (k + 1) + d * 4294967296 ^ (k + 1) := by
  rw [Sm_succ, Sm_succ, Sm_succ, Sm_upd_ge (Nat.le_refl _), upd_same, Int.pow_succ]
  generalize (4294967296 : Int) ^ k = P at *
  grind
/-- addMag's step. -/
theorem add_step {X Y o c s k : Int} {P : Int} (h : X + c * P = Y) (hs : s = o + 4294967296 * k) : X + o * P + k * (P * 4294967296) = Y + (s - c) * P := by grind
/-- mulMag's inner step. -/
theorem mul_step {new old R a bj c o q r Sb : Int} {i j : Nat} (h1 : new = old + (r - o) * (4294967296 ^ (i+j))) (h2 : old + c * 4294967296 ^ (i+j) = R + a * Sb * 4294967296^i) (hq : a * bj + o + c = 4294967296 * q + r) :
    new + q * (4294967296 ^ (i+(j+1))) = R + a * (Sb + bj * 4294967296^j) * 4294967296^i := by grind

theorem two_pow_mono {m n : Nat} (h : m ≤ n) : (2 : Int) ^ m ≤ 2 ^ n := by
  obtain ⟨k, rfl⟩ := Nat.exists_eq_add_of_le h
  rw [Int.pow_add]
  have h1 : 0 < (2 : Int) ^ m := Int.pow_pos (by decide)
  have h2 : 0 < (2 : Int) ^ k := Int.pow_pos (by decide)
  have := Int.mul_le_mul_of_nonneg_left (show (1 : Int) ≤ 2 ^ k by omega) (Int.le_of_lt h1)
  omega
/-! ### Newton's root -/
theorem newton_div {n x : Int} (hx : 1 ≤ x) (h : n < (x + 1) * (x + 1)) : n / x ≤ x + 2 := by
  have h2 : n < (x + 3) * x := by have : (x + 3) * x = (x + 1) * (x + 1) + (x - 1) := by grind
                                  omega
  have := Int.ediv_lt_of_lt_mul (by omega) h2
  omega
theorem newton_low {n x : Int} (hx : 1 ≤ x) (hy : x ≤ (x + n / x) / 2) : x * x ≤ n := by
  have h1 : x ≤ n / x := by omega
  have h2 : x * x ≤ x * (n / x) := Int.mul_le_mul_of_nonneg_left h1 (by omega)
  have h3 := Int.mul_ediv_self_le (x := n) (k := x) (by omega)
  omega
theorem newton_high {n x : Int} (hx : 1 ≤ x) : n < ((x + n / x) / 2 + 1) * ((x + n / x) / 2 + 1) := by
  have h1 : n < x * (n / x) + x := by
    have := Int.lt_mul_ediv_self_add (x := n) (k := x) (by omega)
    exact this
  generalize n / x = q at *
  have h2 : x + q + 1 ≤ 2 * ((x + q) / 2 + 1) := by omega
  generalize (x + q) / 2 + 1 = y at *
  have hsq : 0 ≤ (x - (q + 1)) * (x - (q + 1)) := by
    rcases Int.le_total 0 (x - (q + 1)) with h | h
    · exact Int.mul_nonneg h h
    · exact Int.mul_nonneg_of_nonpos_of_nonpos h h
  by_cases hs : 0 ≤ x + q + 1
  · have h3 : (x + q + 1) * (x + q + 1) ≤ (2 * y) * (2 * y) := Int.mul_le_mul h2 h2 hs (by omega)
    have e1 : (x + q + 1) * (x + q + 1) = (x - (q + 1)) * (x - (q + 1)) + 4 * (x * q + x) := by grind
    have e2 : (2 * y) * (2 * y) = 4 * (y * y) := by grind
    omega
  · have h4 : x * q + x ≤ 0 := by
      have : x * (q + 1) ≤ 0 := Int.mul_nonpos_of_nonneg_of_nonpos (by omega) (by omega)
      have e : x * (q + 1) = x * q + x := by grind
      omega
    have : 0 ≤ y * y := by
      rcases Int.le_total 0 y with h | h
      · exact Int.mul_nonneg h h
      · exact Int.mul_nonneg_of_nonpos_of_nonpos h h
    omega
end Go.Proofs.Qxb6500776a
