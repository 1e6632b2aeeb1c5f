import Derived.Test.Qxb6500777aProg
import Derived.WalkKit
import Derived.WalkSpells
import Derived.WalkLawsBesides
import Derived.Handy
import Derived.Deep.OwnRows
import Derived.Deep.RegionHeld3
import Derived.BigQuiet
import Derived.Deep.DeepCutAuto
import Derived.Deep.QuietTactic
namespace Go.Proofs.Qxb6500777a.Nm
open Go.RowKit

/- Plain arithmetic of digits in base 2^32. No Go in sight. -/

/-- The number whose first k digits in base 2^32, least first, are D. -/
def Sm (D : Nat → Int) : Nat → Int
  | 0 => 0
  | k + 1 => Sm D k + D k * 4294967296 ^ k
/-- The first n of D are digits. -/
def Dig (D : Nat → Int) (n : Nat) : Prop := ∀ i, i < n → 0 ≤ D i ∧ D i < 4294967296
def upd (D : Nat → Int) (i : Nat) (v : Int) : Nat → Int := fun j => if j = i then v else D j

theorem Bpow_pos (k : Nat) : 0 < (4294967296 : Int) ^ k := Int.pow_pos (by decide)
theorem Sm_succ (D : Nat → Int) (k : Nat) : Sm D (k + 1) = Sm D k + D k * 4294967296 ^ k := rfl
theorem Sm_congr {D E : Nat → Int} : ∀ {n : Nat}, (∀ i, i < n → D i = E i) → Sm D n = Sm E n
  | 0, _ => rfl
  | n + 1, h => by
    rw [Sm_succ, Sm_succ, Sm_congr (n := n) (fun i hi => h i (by omega)), h n (by omega)]
theorem Sm_upd_ge {D : Nat → Int} {i : Nat} {v : Int} {n : Nat} (h : n ≤ i) : Sm (upd D i v) n = Sm D n :=
  Sm_congr fun j hj => by unfold upd; rw [if_neg (by omega)]
theorem Sm_upd {D : Nat → Int} {i : Nat} {v : Int} : ∀ {n : Nat}, i < n → Sm (upd D i v) n = Sm D n + (v - D i) * 4294967296 ^ i
  | 0, h => by omega
  | n + 1, h => by
    by_cases hi : i = n
    · subst hi
      rw [Sm_succ, Sm_succ, Sm_upd_ge (Nat.le_refl _)]
      have : upd D i v i = v := by simp [upd]
      rw [this]; grind
    · rw [Sm_succ, Sm_succ, Sm_upd (n := n) (by omega)]
      have : upd D i v n = D n := by simp [upd]; omega
      rw [this]; grind
theorem Sm_zero {D : Nat → Int} {n : Nat} (h : ∀ i, i < n → D i = 0) : Sm D n = 0 := by
  induction n with
  | zero => rfl
  | succ n ih => rw [Sm_succ, ih (fun i hi => h i (by omega)), h n (by omega)]; simp
theorem Sm_trim {D : Nat → Int} {m : Nat} : ∀ {n : Nat}, m ≤ n → (∀ i, m ≤ i → i < n → D i = 0) → Sm D n = Sm D m
  | 0, h, _ => by rw [show m = 0 by omega]
  | n + 1, h, hz => by
    by_cases hm : m = n + 1
    · rw [hm]
    · rw [Sm_succ, Sm_trim (n := n) (by omega) (fun i h1 h2 => hz i h1 (by omega)), hz n (by omega) (by omega)]; simp
theorem Sm_nonneg {D : Nat → Int} {n : Nat} (h : Dig D n) : 0 ≤ Sm D n := by
  induction n with
  | zero => exact Int.le_refl _
  | succ n ih =>
    rw [Sm_succ]
    have := ih (fun i hi => h i (by omega))
    have := Int.mul_nonneg (h n (by omega)).1 (Int.le_of_lt (Bpow_pos n))
    omega
theorem Sm_lt {D : Nat → Int} {n : Nat} (h : Dig D n) : Sm D n < 4294967296 ^ n := by
  induction n with
  | zero => show (0 : Int) < 1; decide
  | succ n ih =>
    rw [Sm_succ]
    have h1 := ih (fun i hi => h i (by omega))
    have h2 : D n * 4294967296 ^ n ≤ 4294967295 * 4294967296 ^ n := Int.mul_le_mul_of_nonneg_right (by have := (h n (by omega)).2; omega) (Int.le_of_lt (Bpow_pos n))
    rw [Int.pow_succ]; omega
theorem Sm_top {D : Nat → Int} {n : Nat} (h : Dig D (n + 1)) (ht : D n ≠ 0) : (4294967296 : Int) ^ n ≤ Sm D (n + 1) := by
  rw [Sm_succ]
  have h1 := Sm_nonneg (D := D) (n := n) (fun i hi => h i (by omega))
  have h2 : 1 * 4294967296 ^ n ≤ D n * 4294967296 ^ n := Int.mul_le_mul_of_nonneg_right (by have := (h n (by omega)).1; omega) (Int.le_of_lt (Bpow_pos n))
  omega
theorem Bpow_mono {m n : Nat} (h : m ≤ n) : (4294967296 : Int) ^ m ≤ 4294967296 ^ n := by
  induction n with
  | zero => rw [show m = 0 by omega]; exact Int.le_refl _
  | succ n ih =>
    by_cases e : m = n + 1
    · rw [e]; exact Int.le_refl _
    · have := ih (by omega)
      have := Bpow_pos n
      rw [Int.pow_succ]; omega
/-- Fewer digits (the greater has no zero at its top): less. -/
theorem Sm_lt_len {D E : Nat → Int} {m n : Nat} (hD : Dig D m) (hE : Dig E n) (h : m < n) (ht : E (n - 1) ≠ 0) : Sm D m < Sm E n := by
  obtain ⟨k, rfl⟩ : ∃ k, n = k + 1 := ⟨n - 1, by omega⟩
  have h1 := Sm_lt hD
  have h2 := Sm_top hE (by simpa using ht)
  have h3 := Bpow_mono (show m ≤ k by omega)
  omega
/-- The first digit from the top that parts decides. -/
theorem Sm_lt_top {D E : Nat → Int} {i : Nat} (hi : D i < E i) : ∀ {n : Nat}, Dig D n → Dig E n → i < n → (∀ j, i < j → j < n → D j = E j) → Sm D n < Sm E n
  | 0, _, _, h, _ => by omega
  | n + 1, hD, hE, h, he => by
    rw [Sm_succ, Sm_succ]
    by_cases e : i = n
    · subst e
      have h1 := Sm_lt (D := D) (n := i) (fun j hj => hD j (by omega))
      have h2 := Sm_nonneg (D := E) (n := i) (fun j hj => hE j (by omega))
      have h3 : (D i + 1) * 4294967296 ^ i ≤ E i * 4294967296 ^ i := Int.mul_le_mul_of_nonneg_right (by omega) (Int.le_of_lt (Bpow_pos i))
      rw [Int.add_mul] at h3
      omega
    · have := Sm_lt_top hi (n := n) (fun j hj => hD j (by omega)) (fun j hj => hE j (by omega)) (by omega) (fun j h1 h2 => he j h1 (by omega))
      rw [he n (by omega) (by omega)]
      omega
theorem Sm_eq {D E : Nat → Int} {n : Nat} (h : ∀ j, j < n → D j = E j) : Sm D n = Sm E n := Sm_congr h

/-- D, and zeros from n on. -/
def ext (D : Nat → Int) (n : Nat) : Nat → Int := fun j => if j < n then D j else 0
theorem ext_lt {D : Nat → Int} {n j : Nat} (h : j < n) : ext D n j = D j := if_pos h
theorem ext_ge {D : Nat → Int} {n j : Nat} (h : n ≤ j) : ext D n j = 0 := if_neg (by omega)
theorem Sm_ext {D : Nat → Int} {n l : Nat} (h : n ≤ l) : Sm (ext D n) l = Sm D n := by
  rw [Sm_trim h (fun i h1 _ => ext_ge h1)]
  exact Sm_congr fun i hi => ext_lt hi
theorem upd_same (D : Nat → Int) (i : Nat) (v : Int) : upd D i v i = v := by simp [upd]
theorem upd_other (D : Nat → Int) {i j : Nat} (v : Int) (h : j ≠ i) : upd D i v j = D j := by simp [upd, h]
theorem Dig_upd {D : Nat → Int} {n i : Nat} {v : Int} (h : Dig D n) (h0 : 0 ≤ v) (h1 : v < 4294967296) : Dig (upd D i v) n := by
  intro j hj
  by_cases e : j = i
  · subst e; rw [upd_same]; exact ⟨h0, h1⟩
  · rw [upd_other _ _ e]; exact h j hj
/-- One round of addMag. -/
theorem add_round {F D E : Nat → Int} {k : Nat} {cy s : Int} (h : Sm F k + cy * 4294967296 ^ k = Sm D k + Sm E k) (hs : s = cy + D k + E k) :
    Sm (upd F k (s % 4294967296)) (k + 1) + (s / 4294967296) * 4294967296 ^ (k + 1) = Sm D (k + 1) + Sm E (k + 1) := by
  rw [Sm_succ, Sm_succ, Sm_succ, Sm_upd_ge (Nat.le_refl _), upd_same, Int.pow_succ]
  have e : s % 4294967296 + 4294967296 * (s / 4294967296) = s := by omega
  generalize s % 4294967296 = r at *
  generalize s / 4294967296 = q at *
  generalize (4294967296 : Int) ^ k = P at *
  grind
/-- One round of subMag. -/
theorem sub_round {F D E : Nat → Int} {k : Nat} {cy d : Int} (h : Sm F k = Sm D k - Sm E k + cy * 4294967296 ^ k) :
    Sm (upd F k (D k - E k - cy + d * 4294967296)) (k + 1) = Sm D (k + 1) - Sm E (k + 1) + d * 4294967296 ^ (k + 1) := by
  rw [Sm_succ, Sm_succ, Sm_succ, Sm_upd_ge (Nat.le_refl _), upd_same, Int.pow_succ]
  generalize (4294967296 : Int) ^ k = P at *
  grind
/-- addMag's step. -/
theorem add_step {X Y o c s k : Int} {P : Int} (h : X + c * P = Y) (hs : s = o + 4294967296 * k) : X + o * P + k * (P * 4294967296) = Y + (s - c) * P := by grind
/-- mulMag's inner step. -/
theorem mul_step {new old R a bj c o q r Sb : Int} {i j : Nat} (h1 : new = old + (r - o) * (4294967296 ^ (i+j))) (h2 : old + c * 4294967296 ^ (i+j) = R + a * Sb * 4294967296^i) (hq : a * bj + o + c = 4294967296 * q + r) :
    new + q * (4294967296 ^ (i+(j+1))) = R + a * (Sb + bj * 4294967296^j) * 4294967296^i := by grind

theorem two_pow_mono {m n : Nat} (h : m ≤ n) : (2 : Int) ^ m ≤ 2 ^ n := by
  obtain ⟨k, rfl⟩ := Nat.exists_eq_add_of_le h
  rw [Int.pow_add]
  have h1 : 0 < (2 : Int) ^ m := Int.pow_pos (by decide)
  have h2 : 0 < (2 : Int) ^ k := Int.pow_pos (by decide)
  have := Int.mul_le_mul_of_nonneg_left (show (1 : Int) ≤ 2 ^ k by omega) (Int.le_of_lt h1)
  omega
/-! ### Newton's root -/
theorem newton_div {n x : Int} (hx : 1 ≤ x) (h : n < (x + 1) * (x + 1)) : n / x ≤ x + 2 := by
  have h2 : n < (x + 3) * x := by have : (x + 3) * x = (x + 1) * (x + 1) + (x - 1) := by grind
                                  omega
  have := Int.ediv_lt_of_lt_mul (by omega) h2
  omega
theorem newton_low {n x : Int} (hx : 1 ≤ x) (hy : x ≤ (x + n / x) / 2) : x * x ≤ n := by
  have h1 : x ≤ n / x := by omega
  have h2 : x * x ≤ x * (n / x) := Int.mul_le_mul_of_nonneg_left h1 (by omega)
  have h3 := Int.mul_ediv_self_le (x := n) (k := x) (by omega)
  omega
theorem newton_high {n x : Int} (hx : 1 ≤ x) : n < ((x + n / x) / 2 + 1) * ((x + n / x) / 2 + 1) := by
  have h1 : n < x * (n / x) + x := by
    have := Int.lt_mul_ediv_self_add (x := n) (k := x) (by omega)
    exact this
  generalize n / x = q at *
  have h2 : x + q + 1 ≤ 2 * ((x + q) / 2 + 1) := by omega
  generalize (x + q) / 2 + 1 = y at *
  have hsq : 0 ≤ (x - (q + 1)) * (x - (q + 1)) := by
    rcases Int.le_total 0 (x - (q + 1)) with h | h
    · exact Int.mul_nonneg h h
    · exact Int.mul_nonneg_of_nonpos_of_nonpos h h
  by_cases hs : 0 ≤ x + q + 1
  · have h3 : (x + q + 1) * (x + q + 1) ≤ (2 * y) * (2 * y) := Int.mul_le_mul h2 h2 hs (by omega)
    have e1 : (x + q + 1) * (x + q + 1) = (x - (q + 1)) * (x - (q + 1)) + 4 * (x * q + x) := by grind
    have e2 : (2 * y) * (2 * y) = 4 * (y * y) := by grind
    omega
  · have h4 : x * q + x ≤ 0 := by
      have : x * (q + 1) ≤ 0 := Int.mul_nonpos_of_nonneg_of_nonpos (by omega) (by omega)
      have e : x * (q + 1) = x * q + x := by grind
      omega
    have : 0 ≤ y * y := by
      rcases Int.le_total 0 y with h | h
      · exact Int.mul_nonneg h h
      · exact Int.mul_nonneg_of_nonpos_of_nonpos h h
    omega


theorem and_mask32 (z : Int) (h0 : 0 ≤ z) (h1 : z < 18446744073709551616) : bits BinOp.and .u64 z 4294967295 = z % 4294967296 := by
  obtain ⟨n, rfl⟩ := Int.eq_ofNat_of_zero_le h0
  have := bits_and_u64_nat n 4294967295 (by omega) (by omega)
  have e : n &&& 4294967295 = n % 4294967296 := Nat.and_two_pow_sub_one_eq_mod n 32
  rw [e] at this
  simpa using this
theorem xor_max (z : Int) (h0 : 0 ≤ z) (h1 : z < 18446744073709551616) : bits BinOp.xor .u64 IntKind.u64.max z = 18446744073709551615 - z := by
  obtain ⟨n, rfl⟩ := Int.eq_ofNat_of_zero_le h0
  have h2 : (BitVec.ofInt 64 (n : Int)).toNat = n := by
    rw [BitVec.ofInt_natCast, BitVec.toNat_ofNat]; exact Nat.mod_eq_of_lt (by omega)
  show IntKind.u64.wrap ((BitVec.ofInt 64 IntKind.u64.max ^^^ BitVec.ofInt 64 (n : Int)).toNat : Int) = _
  have e : BitVec.ofInt 64 IntKind.u64.max = BitVec.allOnes 64 := by decide
  rw [e, BitVec.allOnes_xor, BitVec.toNat_not, h2, IntKind.wrap_u64]
  omega


/-- The first n cells behind the address a hold the digits D. -/
def Mag (w : World) (a : Option Addr) (n : Nat) (D : Nat → Int) : Prop :=
  ∀ i, i < n → ∃ b off, a = some ⟨b, off, none⟩ ∧ w.cell? ⟨b, off + i, none⟩ = some (.int .u32 (D i)) ∧ 0 ≤ D i ∧ D i < 4294967296

set_option maxHeartbeats 400000 in
theorem trim_any (w : World) (a : Option Addr) (n cap : Nat) (D : Nat → Int) (hcap : n ≤ cap) (hn : n ≤ 1099511627776) (hm : Mag w a n D) :
    Calls Try.prog 70 #[.slice a n cap] w fun e w' => w' = w ∧ ∃ m, m ≤ n ∧ (∀ i, m ≤ i → i < n → D i = 0) ∧ (m = 0 ∨ D (m - 1) ≠ 0) ∧ 
      ∃ a' cap', e = .returned (.slice a' m cap') ∧ m ≤ cap' ∧ Mag w a' m D := by
  have H : Hid (Mag w a n D) := hm
  clear hm
  go_enter Try.func70, Try.ntmps70
  go_wp2
  go_loop [3] (fun i => ∃ k : Nat, k ≤ n ∧ i = .int .i64 k ∧ (∀ j, k ≤ j → j < n → D j = 0)) (fun i => (intOf i).toNat)
  case atStart => exact ⟨n, Nat.le_refl _, rfl, fun j h1 h2 => by omega⟩
  case round =>
    obtain ⟨k, hk, rfl, hz⟩ := hrel
    have HZ : Hid (∀ j, k ≤ j → j < n → D j = 0) := hz
    clear hz
    by_cases h0 : k = 0
    · subst h0
      go_wp2
      go_ret
      exact ⟨rfl, 0, Nat.zero_le _, HZ.out, Or.inl rfl, a, cap, rfl, Nat.zero_le _, fun i hi => by omega⟩
    · obtain ⟨b, off, rfl, hc, hd1, hd2⟩ := H.out (k-1) (by omega)
      go_wp2
      · have hz : (D (k - 1) == 0) = true := by assumption
        refine ⟨⟨k - 1, by omega, by go_num, ?_⟩, by simp [intOf]; omega⟩
        intro j h1 h2
        by_cases hj : j = k - 1
        · subst hj; simpa using hz
        · exact HZ.out j (by omega) h2
      · have hz : (D (k - 1) == 0) = false := by assumption
        go_ret
        exact ⟨rfl, k, hk, HZ.out, Or.inr (by simpa using hz), some ⟨b, off, none⟩, cap, rfl, by omega, fun i hi => H.out i (by omega)⟩

theorem Mag.below {w w' : World} {a : Option Addr} {n : Nat} {D : Nat → Int} (h : Mag w a n D) (hb : Below w.heap.size w w') : Mag w' a n D := by
  intro i hi
  obtain ⟨b, off, rfl, hc, hd⟩ := h i hi
  exact ⟨b, off, rfl, by rw [hb.cell (p := ⟨b, off + i, none⟩) (World.block_lt_of_cell? w _ hc)]; exact hc, hd⟩
theorem Mag.dig {w : World} {a : Option Addr} {n : Nat} {D : Nat → Int} (h : Mag w a n D) : Dig D n := fun i hi => by
  obtain ⟨b, off, rfl, hc, hd⟩ := h i hi
  exact hd

theorem Mag.setCell {w : World} {a : Option Addr} {n : Nat} {D : Nat → Int} (h : Mag w a n D) (p : Addr) (v u : Value) (hp : w.cell? p = some u) (hu : ∀ x, u ≠ .int .u32 x) : Mag (w.setCell p v) a n D := by
  intro i hi
  obtain ⟨b, off, rfl, hc, hd⟩ := h i hi
  refine ⟨b, off, rfl, ?_, hd⟩
  rw [World.cell?_setCell_other]
  · exact hc
  · rintro rfl
    rw [hc] at hp
    exact hu _ (Option.some.inj hp).symm
/-- The number that a sign and digits say. -/
def sg (neg : Bool) (x : Int) : Int := if neg then -x else x
/-- The value '.agg #[.bool neg, .slice a n cap]' is the number z, of at most N digits. -/
structure IsI (N : Nat) (w : World) (neg : Bool) (a : Option Addr) (n cap : Nat) (z : Int) : Prop where
  cap : n ≤ cap
  len : n ≤ N
  sign : n = 0 → neg = false
  digits : ∃ D, Mag w a n D ∧ (n = 0 ∨ D (n - 1) ≠ 0) ∧ z = sg neg (Sm D n)
theorem IsI.below {N : Nat} {w w' : World} {neg : Bool} {a : Option Addr} {n cap : Nat} {z : Int} (h : IsI N w neg a n cap z) (hb : Below w.heap.size w w') : IsI N w' neg a n cap z := by
  obtain ⟨D, h1, h2⟩ := h.digits
  exact ⟨h.cap, h.len, h.sign, D, h1.below hb, h2⟩

theorem IsI.setCell {N : Nat} {w : World} {neg : Bool} {a : Option Addr} {n cap : Nat} {z : Int} (h : IsI N w neg a n cap z) (p : Addr) (v u : Value) (hp : w.cell? p = some u) (hu : ∀ x, u ≠ .int .u32 x) : IsI N (w.setCell p v) neg a n cap z := by
  obtain ⟨D, h1, h2⟩ := h.digits
  exact ⟨h.cap, h.len, h.sign, D, h1.setCell p v u hp hu, h2⟩
/-- What the functions that return a number leave: a value that is z, and nothing old has turned. -/
def RetI (N : Nat) (w : World) (z : Int) (e : Ending) (w' : World) : Prop :=
  ∃ neg a n cap, e = .returned (.agg #[.bool neg, .slice a n cap]) ∧ IsI N w' neg a n cap z ∧ Below w.heap.size w w'
theorem RetI.mk {N : Nat} {w w' : World} {z : Int} {e : Ending} (neg : Bool) (a : Option Addr) (n cap : Nat) (he : e = .returned (.agg #[.bool neg, .slice a n cap])) (hi : IsI N w' neg a n cap z) (hb : Below w.heap.size w w') : RetI N w z e w' :=
  ⟨neg, a, n, cap, he, hi, hb⟩
theorem bcell {W w1 : World} (hb : Below W.heap.size W w1) : (∀ b o, b < W.heap.size → w1.cell? ⟨b, o, none⟩ = W.cell? ⟨b, o, none⟩) ∧ (∀ b o, b < W.heap.size → w1.frozen? ⟨b, o, none⟩ = W.frozen? ⟨b, o, none⟩) :=
  ⟨fun b o h => hb.cell (p := ⟨b, o, none⟩) h, fun b o h => hb.frozen (p := ⟨b, o, none⟩) h⟩
theorem ret_int {k : IntKind} {a b : Int} (h : a = b) : Ending.returned (.int k a) = .returned (.int k b) := by rw [h]
theorem sg_zero (neg : Bool) : sg neg 0 = 0 := by cases neg <;> rfl
/-- fixmathm.make1: a sign and digits without a zero at the top. -/
theorem make1_any (w : World) (neg : Bool) (a : Option Addr) (n cap : Nat) (D : Nat → Int) (N : Nat) (hN : n ≤ N) (hcap : n ≤ cap) (hm : Mag w a n D) (ht : n = 0 ∨ D (n - 1) ≠ 0) :
    Calls Try.prog 69 #[.bool neg, .slice a n cap] w (RetI N w (sg neg (Sm D n))) := by
  have H : Hid (Mag w a n D ∧ (n = 0 ∨ D (n - 1) ≠ 0)) := ⟨hm, ht⟩
  clear hm ht
  go_enter Try.func69, Try.ntmps69
  by_cases h : n = 0
  · subst h
    go_wp2
    refine bodyPost_ret (v := .agg #[.bool false, .slice none 0 0]) (by simp [results, Try.results69, go_sem]) rfl (RetI.mk false none 0 0 rfl ⟨Nat.le_refl _, Nat.zero_le _, fun _ => rfl, D, fun i hi => by omega, Or.inl rfl, ?_⟩ ((Below.refl _ _).alloc (Nat.le_refl _) _))
    rw [show Sm D 0 = 0 from rfl, sg_zero, sg_zero]
  · go_wp2
    refine bodyPost_ret (v := .agg #[.bool neg, .slice a n cap]) (by simp [results, Try.results69, go_sem]) rfl (RetI.mk neg a n cap rfl ⟨hcap, hN, fun h' => absurd h' h, D, ?_, H.out.2, rfl⟩ ((Below.refl _ _).alloc (Nat.le_refl _) _))
    exact H.out.1.below ((Below.refl _ _).alloc (Nat.le_refl _) _)

/-- fixmathm.Sign. -/
def sgn (z : Int) : Int := if z = 0 then 0 else if z < 0 then -1 else 1
theorem IsI.zero_iff {N : Nat} {w : World} {neg : Bool} {a : Option Addr} {n cap : Nat} {z : Int} (h : IsI N w neg a n cap z) : z = 0 ↔ n = 0 := by
  obtain ⟨D, h1, h2, h3⟩ := h.digits
  constructor
  · intro hz
    rcases h2 with h2 | h2
    · exact h2
    · by_cases hn : n = 0
      · exact hn
      · obtain ⟨k, rfl⟩ : ∃ k, n = k + 1 := ⟨n - 1, by omega⟩
        have := Sm_top h1.dig (by simpa using h2)
        have := Bpow_pos k
        rw [hz] at h3
        cases neg <;> simp [sg] at h3 <;> omega
  · intro hn
    subst hn
    rw [h3, show Sm D 0 = 0 from rfl, sg_zero]
theorem IsI.neg_iff {N : Nat} {w : World} {neg : Bool} {a : Option Addr} {n cap : Nat} {z : Int} (h : IsI N w neg a n cap z) (hn : n ≠ 0) : z < 0 ↔ neg = true := by
  have hz := h.zero_iff
  obtain ⟨D, h1, h2, h3⟩ := h.digits
  have := Sm_nonneg h1.dig
  cases neg <;> simp [sg] at h3 <;> simp <;> omega
theorem fin_I {w W w1 : World} {N : Nat} {z : Int} {neg : Bool} {a : Option Addr} {n cap rb : Nat} (hI : IsI N w1 neg a n cap z) (hb : Below W.heap.size W w1) (hW : Below w.heap.size w W) (hr : w.heap.size ≤ rb) (hrb : rb < W.heap.size)
    (hc0 : W.cell? ⟨rb, 0, none⟩ = some (.bool false)) (hc1 : W.cell? ⟨rb, 1, none⟩ = some (.slice none 0 0)) :
    RetI N w z (.returned (.agg #[.bool neg, .slice a n cap])) ((w1.setCell ⟨rb, 0, none⟩ (.bool neg)).setCell ⟨rb, 1, none⟩ (.slice a n cap)) := by
  have e0 : w1.cell? ⟨rb, 0, none⟩ = some (.bool false) := by rw [hb.cell (p := ⟨rb, 0, none⟩) hrb]; exact hc0
  have e1 : w1.cell? ⟨rb, 1, none⟩ = some (.slice none 0 0) := by rw [hb.cell (p := ⟨rb, 1, none⟩) hrb]; exact hc1
  refine RetI.mk neg a n cap rfl ((hI.setCell _ _ _ e0 (by simp)).setCell _ _ (.slice none 0 0) ?_ (by simp)) ?_
  · rw [World.cell?_setCell_other]; exact e1; simp
  · exact ((hW.trans (hb.mono hW.size)).setCell hr _).setCell hr _
theorem box2 {W w1 : World} {rb : Nat} (v0 v1 : Value) (hb : Below W.heap.size W w1) (hrb : rb < W.heap.size) (c0 : W.cell? ⟨rb, 0, none⟩ = some v0) (c1 : W.cell? ⟨rb, 1, none⟩ = some v1) (f0 : W.frozen? ⟨rb, 0, none⟩ = false) (f1 : W.frozen? ⟨rb, 1, none⟩ = false) :
    w1.cell? ⟨rb, 0, none⟩ = some v0 ∧ w1.cell? ⟨rb, 1, none⟩ = some v1 ∧ w1.frozen? ⟨rb, 0, none⟩ = false ∧ w1.frozen? ⟨rb, 1, none⟩ = false :=
  ⟨(hb.cell (p := ⟨rb, 0, none⟩) hrb).trans c0, (hb.cell (p := ⟨rb, 1, none⟩) hrb).trans c1, (hb.frozen (p := ⟨rb, 0, none⟩) hrb).trans f0, (hb.frozen (p := ⟨rb, 1, none⟩) hrb).trans f1⟩
/-- fixmathm.Neg. -/
theorem sg_not (neg : Bool) (x : Int) : sg (!neg) x = - sg neg x := by cases neg <;> simp [sg]
/-- fixmathm.Of. -/
theorem Of_u (z : Int) (h1 : -9223372036854775808 ≤ z) (h : z < 0) : IntKind.u64.wrap (bits BinOp.xor IntKind.u64 IntKind.u64.max (IntKind.u64.wrap z) + 1) = -z := by
  have e : IntKind.u64.wrap z = z + 18446744073709551616 := by rw [IntKind.wrap_u64]; omega
  rw [e, xor_max _ (by omega) (by omega), IntKind.wrap_u64]
  omega
def D2 (u : Int) : Nat → Int := fun i => if i = 0 then u % 4294967296 else u / 4294967296
theorem Sm_D2 (u : Int) : Sm (D2 u) 2 = u := by
  simp only [Sm, D2]
  simp
  omega
theorem mag_D2 (w : World) (o : Obj) (u : Int) (h0 : 0 ≤ u) (h1 : u < 18446744073709551616) : Mag ((w.alloc o).alloc (.cells #[.int .u32 (u % 4294967296), .int .u32 (u / 4294967296)] 80)) (some ⟨w.heap.size + 1, 0, none⟩) 2 (D2 u) := by
  intro i hi
  match i, hi with
  | 0, _ => exact ⟨w.heap.size + 1, 0, rfl, by simp [D2], by simp [D2]; omega, by simp [D2]; omega⟩
  | 1, _ => exact ⟨w.heap.size + 1, 0, rfl, by simp [D2], by simp [D2]; omega, by simp [D2]; omega⟩
theorem mag_trim {D : Nat → Int} {m n : Nat} (h : m ≤ n) (hz : ∀ i, m ≤ i → i < n → D i = 0) : Sm D m = Sm D n := (Sm_trim h hz).symm

theorem Of_any (w : World) (z : Int) (h1 : -9223372036854775808 ≤ z) (h2 : z < 9223372036854775808) :
    Calls Try.prog 52 #[.int .i64 z] w (RetI 2 w z) := by
  by_cases h : z < 0
  · have hu := Of_u z h1 h
    have hm := and_mask32 (-z) (by omega) (by omega)
    have e1 : -z % 4294967296 % 4294967296 = -z % 4294967296 := by omega
    have e2 : -z / 4294967296 % 4294967296 = -z / 4294967296 := by omega
    have HU : Hid (IntKind.u64.wrap (bits BinOp.xor IntKind.u64 IntKind.u64.max (IntKind.u64.wrap z) + 1) = -z ∧ bits BinOp.and .u64 (-z) 4294967295 = -z % 4294967296 ∧ -z % 4294967296 % 4294967296 = -z % 4294967296 ∧ -z / 4294967296 % 4294967296 = -z / 4294967296) := ⟨hu, hm, e1, e2⟩
    clear hu hm e1 e2
    go_enter Try.func52, Try.ntmps52
    go_wp2_with fail
    rw [HU.out.1, HU.out.2.1, HU.out.2.2.1, HU.out.2.2.2]
    refine (trim_any _ _ 2 2 (D2 (-z)) (by omega) (by omega) (mag_D2 _ _ _ (by omega) (by omega))).mono ?_
    rintro e w1 ⟨rfl, m, hm, hz, ht, a', cap', rfl, hcap', hmag⟩
    have HM : Hid (Mag _ _ _ _) := hmag
    have HT : Hid (m = 0 ∨ D2 (-z) (m - 1) ≠ 0) := ht
    have HS : Hid (sg true (Sm (D2 (-z)) m) = z) := by
      have := mag_trim hm hz
      rw [Sm_D2] at this
      show -(Sm _ _) = z
      omega
    clear hmag ht hz
    go_wp2_with fail
    refine (make1_any _ true a' m cap' (D2 (-z)) 2 hm hcap' HM.out HT.out).mono ?_
    rintro e w1 ⟨neg', a2, n2, cap2, rfl, hi, hb⟩
    have hz : w.heap.size + 1 < w1.heap.size := by have := hb.size; simp at this; omega
    obtain ⟨c0, c1, f0, f1⟩ := box2 (rb := w.heap.size) (.bool false) (.slice none 0 0) hb (by simp; omega) (by simp [go_sem]) (by simp [go_sem]) (by simp [go_sem]) (by simp [go_sem])
    rw [HS.out] at hi
    have HI : Hid (IsI 2 w1 neg' a2 n2 cap2 z) := hi
    have HB : Hid (Below _ _ _) := hb
    clear hi hb
    go_wp2
    refine bodyPost_ret (v := .agg #[.bool neg', .slice a2 n2 cap2]) (by simp [results, Try.results52, go_sem, c0, c1]) rfl ?_
    exact fin_I HI.out HB.out (((Below.refl _ _).alloc (Nat.le_refl _) _).alloc (by simp) _) (by simp) (by simp <;> omega) (by simp) (by simp)
  · have hm := and_mask32 z (by omega) (by omega)
    have e1 : z % 4294967296 % 4294967296 = z % 4294967296 := by omega
    have HU : Hid (bits BinOp.and .u64 z 4294967295 = z % 4294967296 ∧ z % 4294967296 % 4294967296 = z % 4294967296) := ⟨hm, e1⟩
    clear hm e1
    go_enter Try.func52, Try.ntmps52
    go_wp2_with fail
    rw [HU.out.1, HU.out.2]
    refine (trim_any _ _ 2 2 (D2 z) (by omega) (by omega) (mag_D2 _ _ _ (by omega) (by omega))).mono ?_
    rintro e w1 ⟨rfl, m, hm, hz, ht, a', cap', rfl, hcap', hmag⟩
    have HM : Hid (Mag _ _ _ _) := hmag
    have HT : Hid (m = 0 ∨ D2 z (m - 1) ≠ 0) := ht
    have HS : Hid (sg false (Sm (D2 z) m) = z) := by
      have := mag_trim hm hz
      rw [Sm_D2] at this
      show Sm _ _ = z
      omega
    clear hmag ht hz
    go_wp2_with fail
    refine (make1_any _ false a' m cap' (D2 z) 2 hm hcap' HM.out HT.out).mono ?_
    rintro e w1 ⟨neg', a2, n2, cap2, rfl, hi, hb⟩
    have hz : w.heap.size + 1 < w1.heap.size := by have := hb.size; simp at this; omega
    obtain ⟨c0, c1, f0, f1⟩ := box2 (rb := w.heap.size) (.bool false) (.slice none 0 0) hb (by simp; omega) (by simp [go_sem]) (by simp [go_sem]) (by simp [go_sem]) (by simp [go_sem])
    rw [HS.out] at hi
    have HI : Hid (IsI 2 w1 neg' a2 n2 cap2 z) := hi
    have HB : Hid (Below _ _ _) := hb
    clear hi hb
    go_wp2
    refine bodyPost_ret (v := .agg #[.bool neg', .slice a2 n2 cap2]) (by simp [results, Try.results52, go_sem, c0, c1]) rfl ?_
    exact fin_I HI.out HB.out (((Below.refl _ _).alloc (Nat.le_refl _) _).alloc (by simp) _) (by simp) (by simp <;> omega) (by simp) (by simp)


/-- -1, 0 or 1 as x is less than, equal to or greater than y. -/
def cmp3 (x y : Int) : Int := if x < y then -1 else if y < x then 1 else 0
theorem below_drewN (w : World) (k B : Nat) : Below B w (w.drewN k) := by
  induction k with
  | zero => exact Below.refl _ _
  | succ k ih => exact ih.drew

set_option maxHeartbeats 400000 in
theorem cmpMag_any (w : World) (a b : Option Addr) (n m ca cb : Nat) (D E : Nat → Int) (hn : n ≤ 1099511627776) (hm : m ≤ 1099511627776) (ha : Mag w a n D) (hb : Mag w b m E) (hta : n = 0 ∨ D (n - 1) ≠ 0) (htb : m = 0 ∨ E (m - 1) ≠ 0) :
    Calls Try.prog 72 #[.slice a n ca, .slice b m cb] w fun e w' => e = .returned (.int .i64 (cmp3 (Sm D n) (Sm E m))) ∧ ∃ k, w' = w.drewN k := by
  have HA : Hid (Mag w a n D ∧ (n = 0 ∨ D (n - 1) ≠ 0)) := ⟨ha, hta⟩
  have HB : Hid (Mag w b m E ∧ (m = 0 ∨ E (m - 1) ≠ 0)) := ⟨hb, htb⟩
  clear ha hb hta htb
  rcases (by omega : n < m ∨ m < n ∨ n = m) with h | h | h
  · go_enter Try.func72, Try.ntmps72
    go_wp2
    go_ret
    refine ⟨ret_int ?_, 0, rfl⟩
    have := Sm_lt_len HA.out.1.dig HB.out.1.dig h (HB.out.2.resolve_left (by omega))
    rw [cmp3, if_pos this]
  · go_enter Try.func72, Try.ntmps72
    go_wp2
    go_ret
    refine ⟨ret_int ?_, 0, rfl⟩
    have := Sm_lt_len HB.out.1.dig HA.out.1.dig h (HA.out.2.resolve_left (by omega))
    rw [cmp3, if_neg (by omega), if_pos this]
  · subst h
    go_enter Try.func72, Try.ntmps72
    go_wp2
    go_loopw [5] (fun i wr => ∃ k : Nat, ∃ nd, k ≤ n ∧ wr = w.drewN nd ∧ i = .int .i64 ((k : Int) - 1) ∧ (∀ j, k ≤ j → j < n → D j = E j)) (fun i _ => (intOf i + 1).toNat)
    case atStart => exact ⟨n, 0, Nat.le_refl _, rfl, rfl, fun j h1 h2 => by omega⟩
    case round =>
      obtain ⟨k, nd, hk, rfl, rfl, he⟩ := hrel
      have HE : Hid (∀ j, k ≤ j → j < n → D j = E j) := he
      clear he
      by_cases h0 : k = 0
      · subst h0
        go_wp2
        go_ret
        refine ⟨ret_int ?_, nd, rfl⟩
        have : Sm D n = Sm E n := Sm_congr (fun i hi => HE.out i (by omega) hi)
        rw [this, cmp3, if_neg (by omega), if_neg (by omega)]
      · obtain ⟨ba, oa, rfl, hca, hda⟩ := HA.out.1 (k-1) (by omega)
        obtain ⟨bb, ob, rfl, hcb, hdb⟩ := HB.out.1 (k-1) (by omega)
        have i1 : (0 : Int) ≤ (k : Int) - 1 := by omega
        have i2 : (k : Int) - 1 < (n : Int) := by omega
        by_cases hde : D (k - 1) = E (k - 1)
        · have HD : Hid (D (k - 1) = E (k - 1)) := hde
          have hne : (D (k - 1) != E (k - 1)) = false := by simp [hde]
          clear hde
          go_wp2
          go_quiet (fail)
          go_wp2
          go_roundw
          case rel =>
            refine ⟨k - 1, nd + nq, by omega, rfl, by go_num, ?_⟩
            intro j h1 h2
            by_cases hj : j = k - 1
            · rw [hj]; exact HD.out
            · exact HE.out j (by omega) h2
          case measure => simp [intOf]; omega
        · have hne : (D (k - 1) != E (k - 1)) = true := by simp [hde]
          rcases (by omega : D (k - 1) < E (k - 1) ∨ E (k - 1) < D (k - 1)) with hlt | hlt
          · go_wp2
            go_quiet (fail)
            go_wp2
            go_quiet (fail)
            go_wp2
            go_ret
            refine ⟨ret_int ?_, by simp only [World.drewN_drewN]; exact ⟨_, rfl⟩⟩
            have := Sm_lt_top hlt HA.out.1.dig HB.out.1.dig (by omega) (fun j h1 h2 => HE.out j (by omega) h2)
            rw [cmp3, if_pos this]
          · have hnl : decide (D (k - 1) < E (k - 1)) = false := by simp; omega
            go_wp2
            go_quiet (fail)
            go_wp2
            go_quiet (fail)
            go_wp2
            go_ret
            refine ⟨ret_int ?_, by simp only [World.drewN_drewN]; exact ⟨_, rfl⟩⟩
            have := Sm_lt_top hlt HB.out.1.dig HA.out.1.dig (by omega) (fun j h1 h2 => (HE.out j (by omega) h2).symm)
            rw [cmp3, if_neg (by omega), if_pos this]

theorem Try.info80 : (Try.prog.info? 80).map (fun i => (i.zero, i.size, i.bytes)) = some (some (.int .u32 0), 1, 4) := by kernel_rfl

/-- What addMag, subMag and mulMag return: digits without a zero at the top that say x; nothing old has turned. -/
def RetM (N : Nat) (w : World) (x : Int) (e : Ending) (w' : World) : Prop :=
  ∃ a n cap D, e = .returned (.slice a n cap) ∧ n ≤ cap ∧ n ≤ N ∧ Mag w' a n D ∧ (n = 0 ∨ D (n - 1) ≠ 0) ∧ Sm D n = x ∧ Below w.heap.size w w'

theorem row_upd {w : World} {b n k : Nat} {F : Nat → Int} {v : Int} (h : w.rowIs b 80 n (fun j => .int .u32 (F j))) : (w.setCell ⟨b, k, none⟩ (.int .u32 v)).rowIs b 80 n (fun j => .int .u32 (upd F k v j)) :=
  (h.set k (.int .u32 v)).congr fun i _ => by
    by_cases e : i = k
    · subst e; simp [upd_same]
    · rw [upd_other _ _ e]; simp [e]
theorem row_mag {w : World} {b n m : Nat} {F : Nat → Int} (h : w.rowIs b 80 n (fun j => .int .u32 (F j))) (hd : Dig F n) (hm : m ≤ n) : Mag w (some ⟨b, 0, none⟩) m F := fun i hi =>
  ⟨b, 0, rfl, by have := h.cell (i := i) (by omega); simpa using this, hd i (by omega)⟩
/-- What a round of addMag hands on. -/
def AddRel (wc : World) (l : Nat) (D E : Nat → Int) (k : Nat) (cy : Int) (F : Nat → Int) (wr : World) : Prop :=
  wr.rowIs wc.heap.size 80 (l + 1) (fun j => .int .u32 (F j)) ∧ Dig F (l + 1) ∧ Sm F k + cy * 4294967296 ^ k = Sm D k + Sm E k ∧ Below wc.heap.size wc wr
theorem AddRel.step {wc wr : World} {l k : Nat} {D E F : Nat → Int} {cy s : Int} (h : AddRel wc l D E k cy F wr) (hs : s = cy + D k + E k) :
    AddRel wc l D E (k + 1) (s / 4294967296) (upd F k (s % 4294967296)) (wr.setCell ⟨wc.heap.size, k, none⟩ (.int .u32 (s % 4294967296))) := by
  obtain ⟨h1, h2, h3, h4⟩ := h
  exact ⟨row_upd h1, Dig_upd h2 (by omega) (by omega), add_round h3 hs, h4.setCell (Nat.le_refl _) _⟩

set_option maxHeartbeats 1000000 in
theorem addMag_any (w : World) (a b : Option Addr) (n m ca cb N : Nat) (D E : Nat → Int) (hN : N < 1099511627776) (hn : n ≤ N) (hm : m ≤ N) (ha : Mag w a n D) (hb : Mag w b m E) :
    Calls Try.prog 71 #[.slice a n ca, .slice b m cb] w (RetM (N + 1) w (Sm D n + Sm E m)) := by
  have HA : Hid (Mag w a n D) := ha
  have HB : Hid (Mag w b m E) := hb
  clear ha hb
  go_enter Try.func71, Try.ntmps71
  go_upto_if 15 with fail
  go_cut [5] (fun s5 wx => wx = w ∧ ∃ l : Nat, l ≤ N ∧ n ≤ l ∧ m ≤ l ∧ (l ≤ n ∨ l ≤ m) ∧ s5 = .int .i64 l)
  case first =>
    by_cases h : n < m
    · go_wp2
      go_meet
      case rel => exact ⟨rfl, m, hm, by omega, by omega, by omega, rfl⟩
    · go_wp2
      go_meet
      case rel => exact ⟨rfl, n, hn, by omega, by omega, by omega, rfl⟩
  obtain ⟨rfl, l, hl, hnl, hml, hor, rfl⟩ := hcut
  have hmk := run_make_row' (P := Try.prog) 81 80 (.int .u32 0) 4 Try.underlying81 Try.info80 rfl .i64 .i64 (l + 1) (by omega) (by omega)
  have ec : ((l + 1 : Nat) : Int) = (l : Int) + 1 := by omega
  rw [ec] at hmk
  clear ec
  go_wp2
  clear hmk
  go_loopw [7, 8] (fun c i wr => ∃ (k : Nat) (cy : Int) (F : Nat → Int), k ≤ l ∧ i = .int .i64 k ∧ c = .int .u64 cy ∧ 0 ≤ cy ∧ cy ≤ 1 ∧ AddRel wc l (ext D n) (ext E m) k cy F wr) (fun _ i _ => l - (intOf i).toNat)
  case atStart =>
    exact ⟨0, 0, fun _ => 0, Nat.zero_le _, rfl, rfl, by omega, by omega, World.rowIs_made _ _ _ _, fun i hi => by simp, rfl, (Below.refl _ _).alloc (Nat.le_refl _) _⟩
  case round =>
    obtain ⟨k, cy, F, hk, rfl, rfl, hcy0, hcy1, HR⟩ := hrel
    have hck := HR.1.cell (i := k) (by omega)
    have hfk := HR.1.frozen k
    have hbel := HR.2.2.2
    by_cases hlt : k < l
    · by_cases h1 : k < n
      · obtain ⟨ba, oa, rfl, hca, hda0, hda1⟩ := HA.out k h1
        have hca' : wr.cell? ⟨ba, oa + k, none⟩ = some (.int .u32 (D k)) := (hbel.cell (World.block_lt_of_cell? _ _ hca)).trans hca
        by_cases h2 : k < m
        · obtain ⟨bb, ob, rfl, hcb, hdb0, hdb1⟩ := HB.out k h2
          have hcb' : wr.cell? ⟨bb, ob + k, none⟩ = some (.int .u32 (E k)) := (hbel.cell (World.block_lt_of_cell? _ _ hcb)).trans hcb
          have hmask := and_mask32 (cy + D k + E k) (by omega) (by omega)
          clear hbel hca hcb
          have R := HR.step (s := cy + D k + E k) (by rw [ext_lt h1, ext_lt h2])
          have HS : Hid (AddRel _ _ _ _ _ _ _ _) := R
          clear R
          go_wp2
          exact ⟨⟨k + 1, _, _, by omega, by go_num, rfl, by omega, by omega, HS.out⟩, by simp [intOf]; omega⟩
        · have hmask := and_mask32 (cy + D k) (by omega) (by omega)
          clear hbel hca
          have R := HR.step (s := cy + D k) (by rw [ext_lt h1, ext_ge (by omega)]; omega)
          have HS : Hid (AddRel _ _ _ _ _ _ _ _) := R
          clear R
          go_wp2
          exact ⟨⟨k + 1, _, _, by omega, by go_num, rfl, by omega, by omega, HS.out⟩, by simp [intOf]; omega⟩
      · by_cases h2 : k < m
        · obtain ⟨bb, ob, rfl, hcb, hdb0, hdb1⟩ := HB.out k h2
          have hcb' : wr.cell? ⟨bb, ob + k, none⟩ = some (.int .u32 (E k)) := (hbel.cell (World.block_lt_of_cell? _ _ hcb)).trans hcb
          have hmask := and_mask32 (cy + E k) (by omega) (by omega)
          clear hbel hcb
          have R := HR.step (s := cy + E k) (by rw [ext_ge (by omega), ext_lt h2]; omega)
          have HS : Hid (AddRel _ _ _ _ _ _ _ _) := R
          clear R
          go_wp2
          exact ⟨⟨k + 1, _, _, by omega, by go_num, rfl, by omega, by omega, HS.out⟩, by simp [intOf]; omega⟩
        · omega
    · clear hbel
      obtain rfl : k = l := by omega
      go_wp2_with fail
      have hd2 : Dig (upd F k cy) (k + 1) := Dig_upd HR.2.1 hcy0 (by omega)
      refine (trim_any _ _ (k + 1) (k + 1) (upd F k cy) (by omega) (by omega) (row_mag (row_upd HR.1) hd2 (by omega))).mono ?_
      rintro e w1 ⟨rfl, q, hq, hz, ht, a', cap', rfl, hcap', hmag⟩
      have hfin : Sm (upd F k cy) q = Sm D n + Sm E m := by
        rw [mag_trim hq hz, Sm_succ, upd_same, Sm_upd_ge (Nat.le_refl _), HR.2.2.1, Sm_ext hnl, Sm_ext hml]
      have HF : Hid (Sm (upd F k cy) q = Sm D n + Sm E m) := hfin
      have HT : Hid (q = 0 ∨ upd F k cy (q - 1) ≠ 0) := ht
      clear hfin ht hz
      go_wp2
      go_ret
      exact ⟨a', q, cap', upd F k cy, rfl, hcap', by omega, hmag, HT.out, HF.out, HR.2.2.2.setCell (Nat.le_refl _) _⟩

/-- What a round of subMag hands on. -/
def SubRel (wc : World) (l : Nat) (D E : Nat → Int) (k : Nat) (cy : Int) (F : Nat → Int) (wr : World) : Prop :=
  wr.rowIs wc.heap.size 80 l (fun j => .int .u32 (F j)) ∧ Dig F l ∧ Sm F k = Sm D k - Sm E k + cy * 4294967296 ^ k ∧ Below wc.heap.size wc wr
theorem SubRel.step {wc wr : World} {l k : Nat} {D E F : Nat → Int} {cy d v : Int} (h : SubRel wc l D E k cy F wr) (hv : v = D k - E k - cy + d * 4294967296) (h0 : 0 ≤ v) (h1 : v < 4294967296) :
    SubRel wc l D E (k + 1) d (upd F k v) (wr.setCell ⟨wc.heap.size, k, none⟩ (.int .u32 v)) := by
  obtain ⟨g1, g2, g3, g4⟩ := h
  refine ⟨row_upd g1, Dig_upd g2 h0 h1, ?_, g4.setCell (Nat.le_refl _) _⟩
  rw [hv]; exact sub_round g3

set_option maxHeartbeats 1000000 in
theorem subMag_any (w : World) (a b : Option Addr) (n m ca cb N : Nat) (D E : Nat → Int) (hN : N < 1099511627776) (hn : n ≤ N) (hm : m ≤ n) (ha : Mag w a n D) (hb : Mag w b m E) (hle : Sm E m ≤ Sm D n) :
    Calls Try.prog 73 #[.slice a n ca, .slice b m cb] w (RetM N w (Sm D n - Sm E m)) := by
  have HA : Hid (Mag w a n D) := ha
  have HB : Hid (Mag w b m E) := hb
  have HL : Hid (Sm E m ≤ Sm D n) := hle
  clear ha hb hle
  have hmk := run_make_row' (P := Try.prog) 81 80 (.int .u32 0) 4 Try.underlying81 Try.info80 rfl .i64 .i64 n (by omega) (by omega)
  go_enter Try.func73, Try.ntmps73
  go_wp2
  clear hmk
  go_loopw [6, 7] (fun c i wr => ∃ (k : Nat) (cy : Int) (F : Nat → Int), k ≤ n ∧ i = .int .i64 k ∧ c = .int .u64 cy ∧ 0 ≤ cy ∧ cy ≤ 1 ∧ SubRel w n D (ext E m) k cy F wr) (fun _ i _ => n - (intOf i).toNat)
  case atStart =>
    exact ⟨0, 0, fun _ => 0, Nat.zero_le _, rfl, rfl, by omega, by omega, World.rowIs_made _ _ _ _, fun i hi => by simp, rfl, (Below.refl _ _).alloc (Nat.le_refl _) _⟩
  case round =>
    obtain ⟨k, cy, F, hk, rfl, rfl, hcy0, hcy1, HR⟩ := hrel
    have hbel := HR.2.2.2
    by_cases hlt : k < n
    · have hck := HR.1.cell (i := k) (by omega)
      have hfk := HR.1.frozen k
      obtain ⟨ba, oa, rfl, hca, hda0, hda1⟩ := HA.out k hlt
      have hca' : wr.cell? ⟨ba, oa + k, none⟩ = some (.int .u32 (D k)) := (hbel.cell (World.block_lt_of_cell? _ _ hca)).trans hca
      by_cases h2 : k < m
      · obtain ⟨bb, ob, rfl, hcb, hdb0, hdb1⟩ := HB.out k h2
        have hcb' : wr.cell? ⟨bb, ob + k, none⟩ = some (.int .u32 (E k)) := (hbel.cell (World.block_lt_of_cell? _ _ hcb)).trans hcb
        clear hbel hca hcb
        by_cases h3 : D k < cy + E k
        · have HS : Hid (SubRel _ _ _ _ _ _ _ _) := HR.step (d := 1) (v := D k + 4294967296 - (cy + E k)) (by rw [ext_lt h2]; omega) (by omega) (by omega)
          go_wp2
          exact ⟨⟨k + 1, _, _, by omega, by go_num, rfl, by omega, by omega, HS.out⟩, by simp [intOf]; omega⟩
        · have HS : Hid (SubRel _ _ _ _ _ _ _ _) := HR.step (d := 0) (v := D k - (cy + E k)) (by rw [ext_lt h2]; omega) (by omega) (by omega)
          go_wp2
          exact ⟨⟨k + 1, _, _, by omega, by go_num, rfl, by omega, by omega, HS.out⟩, by simp [intOf]; omega⟩
      · clear hbel hca
        by_cases h3 : D k < cy
        · have HS : Hid (SubRel _ _ _ _ _ _ _ _) := HR.step (d := 1) (v := D k + 4294967296 - cy) (by rw [ext_ge (by omega)]; omega) (by omega) (by omega)
          go_wp2
          exact ⟨⟨k + 1, _, _, by omega, by go_num, rfl, by omega, by omega, HS.out⟩, by simp [intOf]; omega⟩
        · have HS : Hid (SubRel _ _ _ _ _ _ _ _) := HR.step (d := 0) (v := D k - cy) (by rw [ext_ge (by omega)]; omega) (by omega) (by omega)
          go_wp2
          exact ⟨⟨k + 1, _, _, by omega, by go_num, rfl, by omega, by omega, HS.out⟩, by simp [intOf]; omega⟩
    · obtain rfl : k = n := by omega
      clear hbel
      go_wp2_with fail
      refine (trim_any _ _ k k F (by omega) (by omega) (row_mag HR.1 HR.2.1 (by omega))).mono ?_
      rintro e w1 ⟨rfl, q, hq, hz, ht, a', cap', rfl, hcap', hmag⟩
      have hfin : Sm F q = Sm D k - Sm E m := by
        have h1 := HR.2.2.1
        rw [Sm_ext hm] at h1
        have h2 := Sm_lt HR.2.1
        have h3 := Sm_nonneg HR.2.1
        have h4 := HL.out
        have h5 := Bpow_pos k
        rw [mag_trim hq hz]
        by_cases hc : cy = 0
        · rw [h1, hc]; omega
        · have : cy = 1 := by omega
          rw [this] at h1
          omega
      have HF : Hid (Sm F q = Sm D k - Sm E m) := hfin
      have HT : Hid (q = 0 ∨ F (q - 1) ≠ 0) := ht
      clear hfin ht hz
      go_wp2
      go_ret
      exact ⟨a', q, cap', F, rfl, hcap', by omega, hmag, HT.out, HF.out, HR.2.2.2⟩


/-- mulMag: k digits of the first number are done. -/
def MulRel (wc : World) (n m : Nat) (D E : Nat → Int) (k : Nat) (F : Nat → Int) (wr : World) : Prop :=
  wr.rowIs wc.heap.size 80 (n + m) (fun j => .int .u32 (F j)) ∧ Dig F (n + m) ∧ (∀ j, k + m ≤ j → F j = 0) ∧ Sm F (n + m) = Sm D k * Sm E m ∧ Below wc.heap.size wc wr
/-- .. and j digits of the second, with the carry cy. -/
def MulIn (wc : World) (n m : Nat) (D E : Nat → Int) (k j : Nat) (cy : Int) (F : Nat → Int) (wr : World) : Prop :=
  wr.rowIs wc.heap.size 80 (n + m) (fun j => .int .u32 (F j)) ∧ Dig F (n + m) ∧ (∀ t, k + m ≤ t → F t = 0) ∧ Sm F (n + m) + cy * 4294967296 ^ (k + j) = Sm D k * Sm E m + D k * Sm E j * 4294967296 ^ k ∧ Below wc.heap.size wc wr
theorem MulRel.enter {wc wr : World} {n m k : Nat} {D E F : Nat → Int} (h : MulRel wc n m D E k F wr) : MulIn wc n m D E k 0 0 F wr := by
  obtain ⟨h1, h2, h3, h4, h5⟩ := h
  refine ⟨h1, h2, h3, ?_, h5⟩
  rw [h4]; simp [Sm]
theorem MulIn.step {wc wr : World} {n m k j : Nat} {D E F : Nat → Int} {cy t : Int} (h : MulIn wc n m D E k j cy F wr) (hj : j < m) (hk : k < n) (ht : t = D k * E j + F (k + j) + cy) :
    MulIn wc n m D E k (j + 1) (t / 4294967296) (upd F (k + j) (t % 4294967296)) (wr.setCell ⟨wc.heap.size, k + j, none⟩ (.int .u32 (t % 4294967296))) := by
  obtain ⟨h1, h2, h3, h4, h5⟩ := h
  refine ⟨row_upd h1, Dig_upd h2 (by omega) (by omega), ?_, ?_, h5.setCell (Nat.le_refl _) _⟩
  · intro q hq
    rw [upd_other _ _ (by omega)]
    exact h3 q hq
  · have e1 := Sm_upd (D := F) (i := k + j) (v := t % 4294967296) (n := n + m) (by omega)
    rw [Sm_succ]
    exact mul_step e1 h4 (by rw [← ht]; omega)
theorem MulIn.leave {wc wr : World} {n m k : Nat} {D E F : Nat → Int} {cy : Int} (h : MulIn wc n m D E k m cy F wr) (hk : k < n) (h0 : 0 ≤ cy) (h1 : cy < 4294967296) :
    MulRel wc n m D E (k + 1) (upd F (k + m) cy) (wr.setCell ⟨wc.heap.size, k + m, none⟩ (.int .u32 cy)) := by
  obtain ⟨g1, g2, g3, g4, g5⟩ := h
  refine ⟨row_upd g1, Dig_upd g2 h0 h1, ?_, ?_, g5.setCell (Nat.le_refl _) _⟩
  · intro q hq
    rw [upd_other _ _ (by omega)]
    exact g3 q (by omega)
  · rw [Sm_upd (by omega), g3 (k + m) (Nat.le_refl _), Sm_succ, Int.add_mul]
    have : D k * 4294967296 ^ k * Sm E m = D k * Sm E m * 4294967296 ^ k := by grind
    rw [this, ← g4]
    simp

theorem MulIn.drawn {wc wr : World} {n m k j : Nat} {D E F : Nat → Int} {cy : Int} {p : Addr} {v : Value} (h : MulIn wc n m D E k j cy F (wr.setCell p v)) (q : Nat) : MulIn wc n m D E k j cy F ((wr.drewN q).setCell p v) := by
  obtain ⟨h1, h2, h3, h4, h5⟩ := h
  exact ⟨h1, h2, h3, h4, h5.trans (below_drewN (wr.setCell p v) q _)⟩
theorem mul_dig {x y : Int} (hx0 : 0 ≤ x) (hx : x < 4294967296) (hy0 : 0 ≤ y) (hy : y < 4294967296) :
    0 ≤ x * y ∧ x * y ≤ 18446744065119617025 := by
  refine ⟨Int.mul_nonneg hx0 hy0, ?_⟩
  have := Int.mul_le_mul (show x ≤ 4294967295 by omega) (show y ≤ 4294967295 by omega) hy0 (by omega)
  omega

set_option maxHeartbeats 2000000 in
theorem mulMag_any (w : World) (a b : Option Addr) (n m ca cb N : Nat) (D E : Nat → Int) (hN : N < 1099511627776) (hn : n + m ≤ N) (ha : Mag w a n D) (hb : Mag w b m E) :
    Calls Try.prog 74 #[.slice a n ca, .slice b m cb] w (RetM N w (Sm D n * Sm E m)) := by
  have HA : Hid (Mag w a n D) := ha
  have HB : Hid (Mag w b m E) := hb
  clear ha hb
  have hmk := run_make_row' (P := Try.prog) 81 80 (.int .u32 0) 4 Try.underlying81 Try.info80 rfl .i64 .i64 (n + m) (by omega) (by omega)
  have ec : ((n + m : Nat) : Int) = (n : Int) + (m : Int) := by omega
  rw [ec] at hmk
  clear ec
  go_enter Try.func74, Try.ntmps74
  go_wp2
  clear hmk
  go_loopw [6] (fun i wr => ∃ (k : Nat) (F : Nat → Int), k ≤ n ∧ i = .int .i64 k ∧ MulRel w n m D E k F wr) (fun i _ => n - (intOf i).toNat)
  case atStart =>
    exact ⟨0, fun _ => 0, Nat.zero_le _, rfl, World.rowIs_made _ _ _ _, fun i hi => by simp, fun _ _ => rfl, by rw [Sm_zero (fun _ _ => rfl)]; simp [Sm], (Below.refl _ _).alloc (Nat.le_refl _) _⟩
  case round =>
    obtain ⟨k, F, hk, rfl, HR⟩ := hrel
    by_cases hlt : k < n
    · obtain ⟨ba, oa, rfl, hca, hda0, hda1⟩ := HA.out k hlt
      have HI := HR.enter
      clear HR
      obtain ⟨wo, rfl⟩ : ∃ wo : World, wo = wr := ⟨_, rfl⟩
      go_wp2
      go_loopw [7, 8] (fun c j wr => ∃ (q : Nat) (cy : Int) (F : Nat → Int), q ≤ m ∧ j = .int .i64 q ∧ c = .int .u64 cy ∧ 0 ≤ cy ∧ cy < 4294967296 ∧ MulIn w n m D E k q cy F wr) (fun _ j _ => m - (intOf j).toNat)
      case atStart => exact ⟨0, 0, F, Nat.zero_le _, rfl, rfl, by omega, by omega, HI⟩
      case round =>
        clear HI
        obtain ⟨q, cy, F, hq, rfl, rfl, hcy0, hcy1, HI⟩ := hrel
        by_cases hlq : q < m
        · obtain ⟨bb, ob, rfl, hcb, hdb0, hdb1⟩ := HB.out q hlq
          have hbel := HI.2.2.2.2
          have hca' : wr.cell? ⟨ba, oa + k, none⟩ = some (.int .u32 (D k)) := (hbel.cell (World.block_lt_of_cell? _ _ hca)).trans hca
          have hcb' : wr.cell? ⟨bb, ob + q, none⟩ = some (.int .u32 (E q)) := (hbel.cell (World.block_lt_of_cell? _ _ hcb)).trans hcb
          have hck := HI.1.cell (i := k + q) (by omega)
          have hfk := HI.1.frozen (k + q)
          have hdk := HI.2.1 (k + q) (by omega)
          have hmd := mul_dig hda0 hda1 hdb0 hdb1
          have HS : Hid (MulIn _ _ _ _ _ _ _ _ _ _) := HI.step (t := D k * E q + F (k + q) + cy) hlq hlt rfl
          have hmask := and_mask32 (D k * E q + F (k + q) + cy) (by omega) (by omega)
          clear hbel hcb HI
          have i0 : (k : Int) < (n : Int) := by omega
          have i1 : (q : Int) < (m : Int) := by omega
          have i2 : (k : Int) + (q : Int) < ((n + m : Nat) : Int) := by omega
          go_wp2
          go_quiet (fail)
          go_wp2
          exact ⟨⟨q + 1, _, _, by omega, by go_num, rfl, by omega, by omega, HS.out.drawn nq⟩, by simp [intOf]; omega⟩
        · obtain rfl : q = m := by omega
          have hck := HI.1.cell (i := k + q) (by omega)
          have hfk := HI.1.frozen (k + q)
          have HL := HI.leave hlt hcy0 hcy1
          clear HI
          go_wp2
          go_roundw
          case rel => exact ⟨k + 1, _, by omega, by go_num, HL⟩
          case measure => simp [intOf]; omega
    · obtain rfl : k = n := by omega
      go_wp2_with fail
      refine (trim_any _ _ (k + m) (k + m) F (by omega) (by omega) (row_mag HR.1 HR.2.1 (by omega))).mono ?_
      rintro e w1 ⟨rfl, q, hq, hz, ht, a', cap', rfl, hcap', hmag⟩
      have HF : Hid (Sm F q = Sm D k * Sm E m) := by
        show _ = _
        rw [mag_trim hq hz]; exact HR.2.2.2.1
      have HT : Hid (q = 0 ∨ F (q - 1) ≠ 0) := ht
      clear ht hz
      go_wp2
      go_ret
      exact ⟨a', q, cap', F, rfl, hcap', by omega, hmag, HT.out, HF.out, HR.2.2.2.2⟩


theorem hide {p : Prop} (h : p) : Hid p := h
theorem bat {B : Nat} {W w1 : World} (hb : Below B W w1) {b : Nat} (o : Nat) (h : b < B) : w1.cell? ⟨b, o, none⟩ = W.cell? ⟨b, o, none⟩ := hb.cell (p := ⟨b, o, none⟩) h
theorem batf {B : Nat} {W w1 : World} (hb : Below B W w1) {b : Nat} (o : Nat) (h : b < B) : w1.frozen? ⟨b, o, none⟩ = W.frozen? ⟨b, o, none⟩ := hb.frozen (p := ⟨b, o, none⟩) h
theorem of_drew {B : Nat} {W w1 : World} (hb : Below B W.drew w1) : Below B W w1 := ⟨hb.os, hb.tape, hb.output, hb.size, hb.block⟩
/-- Three boxes of numbers behind w: two arguments and the result's variable. -/
structure Boxes3 (w W : World) (na nb : Bool) (a b : Option Addr) (n m ca cb : Nat) : Prop where
  a0 : W.cell? ⟨w.heap.size, 0, none⟩ = some (.bool na)
  a1 : W.cell? ⟨w.heap.size, 1, none⟩ = some (.slice a n ca)
  b0 : W.cell? ⟨w.heap.size + 1, 0, none⟩ = some (.bool nb)
  b1 : W.cell? ⟨w.heap.size + 1, 1, none⟩ = some (.slice b m cb)
  r0 : W.cell? ⟨w.heap.size + 1 + 1, 0, none⟩ = some (.bool false)
  r1 : W.cell? ⟨w.heap.size + 1 + 1, 1, none⟩ = some (.slice none 0 0)
  g0 : W.frozen? ⟨w.heap.size + 1 + 1, 0, none⟩ = false
  g1 : W.frozen? ⟨w.heap.size + 1 + 1, 1, none⟩ = false
  size : W.heap.size = w.heap.size + 3
  bel : Below w.heap.size w W
theorem boxes3 (w : World) (na nb : Bool) (a b : Option Addr) (n m ca cb : Nat) : Boxes3 w (((w.alloc (.cells #[.bool na, .slice a n ca] 83)).alloc (.cells #[.bool nb, .slice b m cb] 83)).alloc (.cells #[.bool false, .slice none 0 0] 83)) na nb a b n m ca cb :=
  ⟨by simp [go_sem], by simp [go_sem], by simp [go_sem], by simp [go_sem], by simp [go_sem], by simp [go_sem], by simp [go_sem], by simp [go_sem], by simp, (((Below.refl _ _).alloc (Nat.le_refl _) _).alloc (by simp) _).alloc (by simp <;> omega) _⟩
/-- What is left of them behind a call that made memory. -/
structure Kept3 (w W w1 : World) (na nb : Bool) (a b : Option Addr) (n m ca cb : Nat) : Prop where
  a0 : w1.cell? ⟨w.heap.size, 0, none⟩ = some (.bool na)
  a1 : w1.cell? ⟨w.heap.size, 1, none⟩ = some (.slice a n ca)
  b0 : w1.cell? ⟨w.heap.size + 1, 0, none⟩ = some (.bool nb)
  b1 : w1.cell? ⟨w.heap.size + 1, 1, none⟩ = some (.slice b m cb)
  r0 : w1.cell? ⟨w.heap.size + 1 + 1, 0, none⟩ = some (.bool false)
  r1 : w1.cell? ⟨w.heap.size + 1 + 1, 1, none⟩ = some (.slice none 0 0)
  g0 : w1.frozen? ⟨w.heap.size + 1 + 1, 0, none⟩ = false
  g1 : w1.frozen? ⟨w.heap.size + 1 + 1, 1, none⟩ = false
  bel : Below W.heap.size W w1
theorem Boxes3.kept {w W w1 : World} {na nb : Bool} {a b : Option Addr} {n m ca cb : Nat} (h : Boxes3 w W na nb a b n m ca cb) (hb : Below W.heap.size W w1) : Kept3 w W w1 na nb a b n m ca cb := by
  have hs := h.size
  exact ⟨(bat hb 0 (by omega)).trans h.a0, (bat hb 1 (by omega)).trans h.a1, (bat hb 0 (by omega)).trans h.b0, (bat hb 1 (by omega)).trans h.b1, (bat hb 0 (by omega)).trans h.r0, (bat hb 1 (by omega)).trans h.r1, (batf hb 0 (by omega)).trans h.g0, (batf hb 1 (by omega)).trans h.g1, hb⟩
theorem sg_mul (p q : Bool) (x y : Int) : sg p x * sg q y = sg (p != q) (x * y) := by
  cases p <;> cases q <;> simp [sg, Int.neg_mul, Int.mul_neg]

set_option maxHeartbeats 2000000 in
theorem Mul_any (w : World) (na nb : Bool) (a b : Option Addr) (n m ca cb N M : Nat) (x y : Int) (hN : N + M < 1099511627776) (hx : IsI N w na a n ca x) (hy : IsI M w nb b m cb y) :
    Calls Try.prog 53 #[.agg #[.bool na, .slice a n ca], .agg #[.bool nb, .slice b m cb]] w (RetI (N + M) w (x * y)) := by
  obtain ⟨D, hD, htD, hxD⟩ := hx.digits
  obtain ⟨E, hE, htE, hyE⟩ := hy.digits
  have hn := hx.len
  have hm := hy.len
  have HX : Hid (x * y = sg (na != nb) (Sm D n * Sm E m)) := by
    show _ = _
    rw [hxD, hyE, sg_mul]
  have HD : Hid (Mag w a n D) := hD
  have HE : Hid (Mag w b m E) := hE
  clear hx hy hD hE htD htE hxD hyE
  go_enter Try.func53, Try.ntmps53
  go_wp2
  have hB := boxes3 w na nb a b n m ca cb
  generalize (((w.alloc (.cells #[.bool na, .slice a n ca] 83)).alloc (.cells #[.bool nb, .slice b m cb] 83)).alloc (.cells #[.bool false, .slice none 0 0] 83)) = W at *
  have HB := hide hB
  obtain ⟨a0, a1, b0, b1, r0, r1, g0, g1, hs, hbel⟩ := hB
  have HBel := hide hbel
  clear hbel
  go_region_held3 (fun w' => w'.cell? ⟨w.heap.size, 0, none⟩ = some (.bool na) ∧ w'.cell? ⟨w.heap.size, 1, none⟩ = some (.slice a n ca) ∧ w'.cell? ⟨w.heap.size + 1, 0, none⟩ = some (.bool nb) ∧ w'.cell? ⟨w.heap.size + 1, 1, none⟩ = some (.slice b m cb)) (simp [*, go_sem])
    (first
      | (go_at_call 74; refine (mulMag_any _ a b n m ca cb (N + M) D E hN (by omega) (HD.out.below HBel.out.drew) (HE.out.below HBel.out.drew)).mono ?_; rintro e w1 ⟨a', n', cap', F, rfl, h1, h2, h3, h4, h5, h6⟩; have HM := hide (And.intro h3 (And.intro h4 h5)); clear h3 h4 h5; obtain ⟨ka0, ka1, kb0, kb1, kr0, kr1, kg0, kg1, kb⟩ := HB.out.kept (of_drew h6); have HK := hide kb; clear kb h6)
      | (go_at_call 69; refine (make1_any _ (na != nb) a' n' cap' F (N + M) h2 h1 HM.out.1 HM.out.2.1).mono ?_; rintro e w2 ⟨neg2, a2, n2, cap2, rfl, hi2, hb2⟩; rw [HM.out.2.2, ← HX.out] at hi2; have HI2 := hide hi2; clear hi2; have HK2 := hide (HK.out.trans (hb2.mono HK.out.size)); clear hb2; obtain ⟨qa0, qa1, qb0, qb1, qr0, qr1, qg0, qg1, _⟩ := HB.out.kept HK2.out))
  go_wp2
  exact bodyPost_ret (v := .agg #[.bool neg2, .slice a2 n2 cap2]) (by simp [results, Try.results53, go_sem, qr0, qr1]) rfl (fin_I HI2.out HK2.out HBel.out (by omega) (by omega) r0 r1)

theorem sg_add (p : Bool) (x y : Int) : sg p x + sg p y = sg p (x + y) := by cases p <;> simp [sg] <;> omega
theorem sg_sub (p : Bool) (x y : Int) : sg p x + sg (!p) y = sg p (x - y) := by cases p <;> simp [sg] <;> omega
theorem sg_sub' (p : Bool) (x y : Int) : sg p x + sg (!p) y = sg (!p) (y - x) := by cases p <;> simp [sg] <;> omega
theorem IsI.mono {N K : Nat} {w : World} {neg : Bool} {a : Option Addr} {n cap : Nat} {z : Int} (h : IsI N w neg a n cap z) (hk : N ≤ K) : IsI K w neg a n cap z := ⟨h.cap, Nat.le_trans h.len hk, h.sign, h.digits⟩
theorem cmp3_ge {x y : Int} : 0 ≤ cmp3 x y ↔ y ≤ x := by unfold cmp3; split <;> (try split) <;> omega

set_option maxHeartbeats 2000000 in
theorem Add_same (w : World) (na : Bool) (a b : Option Addr) (n m ca cb N : Nat) (x y : Int) (hN : N < 1099511627775) (hx : IsI N w na a n ca x) (hy : IsI N w na b m cb y) :
    Calls Try.prog 51 #[.agg #[.bool na, .slice a n ca], .agg #[.bool na, .slice b m cb]] w (RetI (N + 1) w (x + y)) := by
  obtain ⟨D, hD, htD, hxD⟩ := hx.digits
  obtain ⟨E, hE, htE, hyE⟩ := hy.digits
  have hn := hx.len
  have hm := hy.len
  have HX : Hid (x + y = sg na (Sm D n + Sm E m)) := by
    show _ = _
    rw [hxD, hyE, sg_add]
  have HD : Hid (Mag w a n D) := hD
  have HE : Hid (Mag w b m E) := hE
  clear hx hy hD hE htD htE hxD hyE
  go_enter Try.func51, Try.ntmps51
  go_upto_region 2 with fail
  have hB := boxes3 w na na a b n m ca cb
  generalize (((w.alloc (.cells #[.bool na, .slice a n ca] 83)).alloc (.cells #[.bool na, .slice b m cb] 83)).alloc (.cells #[.bool false, .slice none 0 0] 83)) = W at *
  have HB := hide hB
  obtain ⟨a0, a1, b0, b1, r0, r1, g0, g1, hs, hbel⟩ := hB
  have HBel := hide hbel
  clear hbel
  go_region_held3 (fun w' => w'.cell? ⟨w.heap.size, 0, none⟩ = some (.bool na) ∧ w'.cell? ⟨w.heap.size, 1, none⟩ = some (.slice a n ca) ∧ w'.cell? ⟨w.heap.size + 1, 0, none⟩ = some (.bool na) ∧ w'.cell? ⟨w.heap.size + 1, 1, none⟩ = some (.slice b m cb)) (simp [*, go_sem])
    (first
      | (go_at_call 71; refine (addMag_any _ a b n m ca cb N D E (by omega) hn hm (HD.out.below HBel.out.drew) (HE.out.below HBel.out.drew)).mono ?_; rintro e w1 ⟨a', n', cap', F, rfl, h1, h2, h3, h4, h5, h6⟩; have HM := hide (And.intro h3 (And.intro h4 h5)); clear h3 h4 h5; obtain ⟨ka0, ka1, kb0, kb1, kr0, kr1, kg0, kg1, kb⟩ := HB.out.kept (of_drew h6); have HK := hide kb; clear kb h6)
      | (go_at_call 69; refine (make1_any _ na a' n' cap' F (N + 1) h2 h1 HM.out.1 HM.out.2.1).mono ?_; rintro e w2 ⟨neg2, a2, n2, cap2, rfl, hi2, hb2⟩; rw [HM.out.2.2, ← HX.out] at hi2; have HI2 := hide hi2; clear hi2; have HK2 := hide (HK.out.trans (hb2.mono HK.out.size)); clear hb2; obtain ⟨qa0, qa1, qb0, qb1, qr0, qr1, qg0, qg1, _⟩ := HB.out.kept HK2.out))
  go_wp2
  exact bodyPost_ret (v := .agg #[.bool neg2, .slice a2 n2 cap2]) (by simp [results, Try.results51, go_sem, qr0, qr1]) rfl (fin_I HI2.out HK2.out HBel.out (by omega) (by omega) r0 r1)

theorem Boxes3.drewN {w W : World} {na nb : Bool} {a b : Option Addr} {n m ca cb : Nat} (h : Boxes3 w W na nb a b n m ca cb) (k : Nat) : Boxes3 w (W.drewN k) na nb a b n m ca cb :=
  ⟨h.a0, h.a1, h.b0, h.b1, h.r0, h.r1, h.g0, h.g1, h.size, h.bel.trans (below_drewN W k _)⟩

set_option maxHeartbeats 2000000 in
theorem Add_diff (w : World) (na : Bool) (a b : Option Addr) (n m ca cb N : Nat) (x y : Int) (hN : N < 1099511627775) (hx : IsI N w na a n ca x) (hy : IsI N w (!na) b m cb y) :
    Calls Try.prog 51 #[.agg #[.bool na, .slice a n ca], .agg #[.bool (!na), .slice b m cb]] w (RetI (N + 1) w (x + y)) := by
  obtain ⟨D, hD, htD, hxD⟩ := hx.digits
  obtain ⟨E, hE, htE, hyE⟩ := hy.digits
  have hn := hx.len
  have hm := hy.len
  have HXY : Hid (x = sg na (Sm D n) ∧ y = sg (!na) (Sm E m)) := ⟨hxD, hyE⟩
  have HD : Hid (Mag w a n D ∧ (n = 0 ∨ D (n - 1) ≠ 0)) := ⟨hD, htD⟩
  have HE : Hid (Mag w b m E ∧ (m = 0 ∨ E (m - 1) ≠ 0)) := ⟨hE, htE⟩
  clear hx hy hD hE htD htE hxD hyE
  have hnn : (na == !na) = false := by cases na <;> rfl
  go_enter Try.func51, Try.ntmps51
  go_upto_region 3 with fail
  have hB := boxes3 w na (!na) a b n m ca cb
  generalize (((w.alloc (.cells #[.bool na, .slice a n ca] 83)).alloc (.cells #[.bool (!na), .slice b m cb] 83)).alloc (.cells #[.bool false, .slice none 0 0] 83)) = W at *
  have HB := hide hB
  obtain ⟨a0, a1, b0, b1, r0, r1, g0, g1, hs, hbel⟩ := hB
  have HBel := hide hbel
  clear hbel
  go_wp2_with fail
  refine (cmpMag_any _ a b n m ca cb D E (by omega) (by omega) (HD.out.1.below HBel.out) (HE.out.1.below HBel.out) HD.out.2 HE.out.2).mono ?_
  rintro e w1 ⟨rfl, nd, rfl⟩
  by_cases hc : Sm E m ≤ Sm D n
  · have hc3 : 0 ≤ cmp3 (Sm D n) (Sm E m) := cmp3_ge.2 hc
    have HX : Hid (x + y = sg na (Sm D n - Sm E m)) := by show _ = _; rw [HXY.out.1, HXY.out.2, sg_sub]
    have HC := hide hc
    clear hc
    have hnm : m ≤ n := by
      rcases Nat.lt_or_ge n m with h | h
      · have := Sm_lt_len HD.out.1.dig HE.out.1.dig h (HE.out.2.resolve_left (by omega))
        have := HC.out
        omega
      · exact h
    have hB := HB.out.drewN nd
    clear a0 a1 b0 b1 r0 r1 g0 g1 hs HBel HB
    generalize W.drewN nd = V at *
    have HB := hide hB
    obtain ⟨a0, a1, b0, b1, r0, r1, g0, g1, hs, hbel⟩ := hB
    have HBel := hide hbel
    clear hbel
    go_upto_region 4 with fail
    go_region_held3 (fun w' => w'.cell? ⟨w.heap.size, 0, none⟩ = some (.bool na) ∧ w'.cell? ⟨w.heap.size, 1, none⟩ = some (.slice a n ca) ∧ w'.cell? ⟨w.heap.size + 1, 0, none⟩ = some (.bool (!na)) ∧ w'.cell? ⟨w.heap.size + 1, 1, none⟩ = some (.slice b m cb)) (simp [*, go_sem])
      (first
        | (go_at_call 73; refine (subMag_any _ a b n m ca cb N D E (by omega) hn hnm (HD.out.1.below HBel.out.drew) (HE.out.1.below HBel.out.drew) HC.out).mono ?_; rintro e w1 ⟨a', n', cap', F, rfl, h1, h2, h3, h4, h5, h6⟩; have HM := hide (And.intro h3 (And.intro h4 h5)); clear h3 h4 h5; obtain ⟨ka0, ka1, kb0, kb1, kr0, kr1, kg0, kg1, kb⟩ := HB.out.kept (of_drew h6); have HK := hide kb; clear kb h6)
        | (go_at_call 69; refine (make1_any _ na a' n' cap' F (N + 1) (by omega) h1 HM.out.1 HM.out.2.1).mono ?_; rintro e w2 ⟨neg2, a2, n2, cap2, rfl, hi2, hb2⟩; rw [HM.out.2.2, ← HX.out] at hi2; have HI2 := hide hi2; clear hi2; have HK2 := hide (HK.out.trans (hb2.mono HK.out.size)); clear hb2; obtain ⟨qa0, qa1, qb0, qb1, qr0, qr1, qg0, qg1, _⟩ := HB.out.kept HK2.out))
    go_wp2
    exact bodyPost_ret (v := .agg #[.bool neg2, .slice a2 n2 cap2]) (by simp [results, Try.results51, go_sem, qr0, qr1]) rfl (fin_I HI2.out HK2.out HBel.out (by omega) (by omega) r0 r1)
  · have hc3 : cmp3 (Sm D n) (Sm E m) < 0 := by have := cmp3_ge (x := Sm D n) (y := Sm E m); omega
    have HX : Hid (x + y = sg (!na) (Sm E m - Sm D n)) := by show _ = _; rw [HXY.out.1, HXY.out.2, sg_sub']
    have HC : Hid (Sm D n ≤ Sm E m) := by show _ ≤ _; omega
    clear hc
    have hnm : n ≤ m := by
      rcases Nat.lt_or_ge m n with h | h
      · have := Sm_lt_len HE.out.1.dig HD.out.1.dig h (HD.out.2.resolve_left (by omega))
        have := HC.out
        omega
      · exact h
    have hB := HB.out.drewN nd
    clear a0 a1 b0 b1 r0 r1 g0 g1 hs HBel HB
    generalize W.drewN nd = V at *
    have HB := hide hB
    obtain ⟨a0, a1, b0, b1, r0, r1, g0, g1, hs, hbel⟩ := hB
    have HBel := hide hbel
    clear hbel
    go_upto_region 5 with fail
    go_region_held3 (fun w' => w'.cell? ⟨w.heap.size, 0, none⟩ = some (.bool na) ∧ w'.cell? ⟨w.heap.size, 1, none⟩ = some (.slice a n ca) ∧ w'.cell? ⟨w.heap.size + 1, 0, none⟩ = some (.bool (!na)) ∧ w'.cell? ⟨w.heap.size + 1, 1, none⟩ = some (.slice b m cb)) (simp [*, go_sem])
      (first
        | (go_at_call 73; refine (subMag_any _ b a m n cb ca N E D (by omega) hm hnm (HE.out.1.below HBel.out.drew) (HD.out.1.below HBel.out.drew) HC.out).mono ?_; rintro e w1 ⟨a', n', cap', F, rfl, h1, h2, h3, h4, h5, h6⟩; have HM := hide (And.intro h3 (And.intro h4 h5)); clear h3 h4 h5; obtain ⟨ka0, ka1, kb0, kb1, kr0, kr1, kg0, kg1, kb⟩ := HB.out.kept (of_drew h6); have HK := hide kb; clear kb h6)
        | (go_at_call 69; refine (make1_any _ (!na) a' n' cap' F (N + 1) (by omega) h1 HM.out.1 HM.out.2.1).mono ?_; rintro e w2 ⟨neg2, a2, n2, cap2, rfl, hi2, hb2⟩; rw [HM.out.2.2, ← HX.out] at hi2; have HI2 := hide hi2; clear hi2; have HK2 := hide (HK.out.trans (hb2.mono HK.out.size)); clear hb2; obtain ⟨qa0, qa1, qb0, qb1, qr0, qr1, qg0, qg1, _⟩ := HB.out.kept HK2.out))
    go_wp2
    exact bodyPost_ret (v := .agg #[.bool neg2, .slice a2 n2 cap2]) (by simp [results, Try.results51, go_sem, qr0, qr1]) rfl (fin_I HI2.out HK2.out HBel.out (by omega) (by omega) r0 r1)

/-- fixmathm.Add. -/
theorem Add_any (w : World) (na nb : Bool) (a b : Option Addr) (n m ca cb N M K : Nat) (x y : Int) (hN : N ≤ K) (hM : M ≤ K) (hK : K < 1099511627775) (hx : IsI N w na a n ca x) (hy : IsI M w nb b m cb y) :
    Calls Try.prog 51 #[.agg #[.bool na, .slice a n ca], .agg #[.bool nb, .slice b m cb]] w (RetI (K + 1) w (x + y)) := by
  by_cases h : nb = na
  · subst h; exact Add_same w nb a b n m ca cb K x y hK (hx.mono hN) (hy.mono hM)
  · obtain rfl : nb = !na := by cases na <;> cases nb <;> simp_all
    exact Add_diff w na a b n m ca cb K x y hK (hx.mono hN) (hy.mono hM)


set_option maxHeartbeats 2000000 in
/-- fixmathm.Sub. -/
theorem Sub_any (w : World) (na nb : Bool) (a b : Option Addr) (n m ca cb N M K : Nat) (x y : Int) (hN : N ≤ K) (hM : M ≤ K) (hK : K < 1099511627775) (hx : IsI N w na a n ca x) (hy : IsI M w nb b m cb y) :
    Calls Try.prog 55 #[.agg #[.bool na, .slice a n ca], .agg #[.bool nb, .slice b m cb]] w (RetI (K + 1) w (x - y)) := by
  obtain ⟨D, d1, d2, d3⟩ := hy.digits
  have hyl := hy.len
  have hyc := hy.cap
  have HD := hide (show Mag w b m D ∧ (m = 0 ∨ D (m - 1) ≠ 0) ∧ sg (!nb) (Sm D m) = -y from ⟨d1, d2, by rw [sg_not, d3]⟩)
  clear d1 d2 d3
  have HX := hide hx
  have HY := hide hy
  clear hx hy
  go_enter Try.func55, Try.ntmps55
  go_wp2
  have hB := boxes3 w na nb a b n m ca cb
  generalize (((w.alloc (.cells #[.bool na, .slice a n ca] 83)).alloc (.cells #[.bool nb, .slice b m cb] 83)).alloc (.cells #[.bool false, .slice none 0 0] 83)) = W at *
  have HB := hide hB
  obtain ⟨a0, a1, b0, b1, r0, r1, g0, g1, hs, hbel⟩ := hB
  have HBel := hide hbel
  clear hbel
  go_region_held3 (fun w' => w'.cell? ⟨w.heap.size, 0, none⟩ = some (.bool na) ∧ w'.cell? ⟨w.heap.size, 1, none⟩ = some (.slice a n ca) ∧ w'.cell? ⟨w.heap.size + 1, 0, none⟩ = some (.bool nb) ∧ w'.cell? ⟨w.heap.size + 1, 1, none⟩ = some (.slice b m cb)) (simp [*, go_sem])
    (first
      | (go_at_call 69; refine (make1_any _ (!nb) b m cb D M hyl hyc (HD.out.1.below HBel.out.drew) HD.out.2.1).mono ?_; rintro e w1 ⟨neg1, a1', n1, cap1, rfl, hi1, hb1⟩; rw [HD.out.2.2] at hi1; have HI1 := hide hi1; clear hi1; obtain ⟨ka0, ka1, kb0, kb1, kr0, kr1, kg0, kg1, kb⟩ := HB.out.kept (of_drew hb1); have HK := hide kb; clear kb hb1)
      | (go_at_call 51; refine (Add_any _ na neg1 a a1' n n1 ca cap1 N M K x (-y) hN hM hK (HX.out.below (HBel.out.trans (HK.out.mono HBel.out.size))) HI1.out).mono ?_; rintro e w2 ⟨neg2, a2, n2, cap2, rfl, hi2, hb2⟩; rw [← Int.sub_eq_add_neg] at hi2; have HI2 := hide hi2; clear hi2; have HK2 := hide (HK.out.trans (hb2.mono HK.out.size)); clear hb2; obtain ⟨qa0, qa1, qb0, qb1, qr0, qr1, qg0, qg1, _⟩ := HB.out.kept HK2.out))
  go_wp2
  exact bodyPost_ret (v := .agg #[.bool neg2, .slice a2 n2 cap2]) (by simp [results, Try.results55, go_sem, qr0, qr1]) rfl (fin_I HI2.out HK2.out HBel.out (by omega) (by omega) r0 r1)


end Go.Proofs.Qxb6500777a.Nm
