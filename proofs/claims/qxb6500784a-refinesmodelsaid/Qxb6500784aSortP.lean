import Derived.Test.Qxb6500784aBuildP
namespace Go.Proofs.Qxb6500784a
open Go.RowKit

/-- Leg i can run next: it is not done, and all that it needs is. -/
def ready (m : Nat → Nat) (D i : Nat) : Bool := !D.testBit i && decide (m i &&& (255 - D) = 0)
def pick (n : Nat) (m : Nat → Nat) (D : Nat) : Option Nat := (List.range n).find? (ready m D)
/-- sort, as far as f more legs. -/
def sortF (n : Nat) (m : Nat → Nat) : Nat → Nat → List Nat → List Nat × Nat
  | 0, D, O => (O, D)
  | f + 1, D, O => match pick n m D with
    | none => (O, D)
    | some i => sortF n m f (D ||| 2 ^ i) (O ++ [i])
def sortP (n : Nat) (m : Nat → Nat) : List Nat × Nat := sortF n m n 0 []
def stuckP (n : Nat) (m : Nat → Nat) : Nat := if (sortP n m).1.length = n then 0 else (2 ^ n - 1) &&& (255 - (sortP n m).2)

theorem pick_some {n : Nat} {m : Nat → Nat} {D i : Nat} (hi : i < n) (h : ready m D i = true) (hb : ∀ j, j < i → ready m D j = false) : pick n m D = some i := by
  unfold pick
  rw [List.find?_range_eq_some]
  exact ⟨h, List.mem_range.2 hi, fun j hj => by simp [hb j hj]⟩
theorem pick_none {n : Nat} {m : Nat → Nat} {D : Nat} (hb : ∀ j, j < n → ready m D j = false) : pick n m D = none := by
  unfold pick
  rw [List.find?_range_eq_none]
  exact fun j hj => by simp [hb j hj]
theorem pick_none' {n : Nat} {m : Nat → Nat} {D : Nat} (h : pick n m D = none) : ∀ j, j < n → ready m D j = false := by
  unfold pick at h
  rw [List.find?_range_eq_none] at h
  exact fun j hj => by simpa using h j hj
theorem pick_some' {n : Nat} {m : Nat → Nat} {D i : Nat} (h : pick n m D = some i) : i < n ∧ ready m D i = true ∧ ∀ j, j < i → ready m D j = false := by
  unfold pick at h
  rw [List.find?_range_eq_some] at h
  exact ⟨List.mem_range.1 h.2.1, h.1, fun j hj => by simpa using h.2.2 j hj⟩
theorem sortF_hit {n : Nat} {m : Nat → Nat} {f D i : Nat} {O : List Nat} (h : pick n m D = some i) : sortF n m (f + 1) D O = sortF n m f (D ||| 2 ^ i) (O ++ [i]) := by
  simp [sortF, h]
theorem sortF_miss {n : Nat} {m : Nat → Nat} {f D : Nat} {O : List Nat} (h : pick n m D = none) : sortF n m f D O = (O, D) := by
  cases f <;> simp [sortF, h]
theorem or_lt8 {D i : Nat} (hD : D < 256) (hi : i < 8) : D ||| 2 ^ i < 256 :=
  Nat.or_lt_two_pow (n := 8) hD (Nat.lt_of_lt_of_le (Nat.pow_lt_pow_right (by omega) hi) (Nat.le_refl _))
/-- Where sort stops short, no leg is ready. -/
theorem sortF_end {n : Nat} {m : Nat → Nat} (hn : n ≤ 8) : ∀ (f D : Nat) (O : List Nat), O.length + f = n → D < 256 →
    (sortF n m f D O).2 < 256 ∧ (sortF n m f D O).1.length ≤ n ∧ ((sortF n m f D O).1.length ≠ n → pick n m (sortF n m f D O).2 = none)
  | 0, D, O, h, hD => ⟨hD, by simp [sortF]; omega, fun k => absurd (show O.length = n by omega) k⟩
  | f + 1, D, O, h, hD => by
    cases hp : pick n m D with
    | none => rw [sortF_miss hp]; exact ⟨hD, by simp; omega, fun _ => hp⟩
    | some i =>
      rw [sortF_hit hp]
      have hi := (pick_some' hp).1
      exact sortF_end hn f _ _ (by simp; omega) (or_lt8 hD (by omega))
theorem nbit {D i : Nat} (hD : D < 256) (hi : i < 8) : (255 - D).testBit i = !D.testBit i := by
  have h := Nat.testBit_two_pow_sub_succ (n := 8) (x := D) hD i
  rw [show 2 ^ 8 - (D + 1) = 255 - D by omega] at h
  rw [h, decide_eq_true hi, Bool.true_and]
theorem stuck_bit {n : Nat} {m : Nat → Nat} (hn : n ≤ 8) (i : Nat) : (stuckP n m).testBit i = true → i < n ∧ (sortP n m).1.length ≠ n ∧ (sortP n m).2.testBit i = false := by
  unfold stuckP
  have h1 := (sortF_end (m := m) hn n 0 [] (by simp) (by omega)).1
  intro h
  by_cases e : (sortP n m).1.length = n
  · rw [if_pos e] at h; simp at h
  · rw [if_neg e, Nat.testBit_and, Nat.testBit_two_pow_sub_one, Bool.and_eq_true, decide_eq_true_eq] at h
    refine ⟨h.1, e, ?_⟩
    have := h.2
    rw [show (255 - (sortP n m).2).testBit i = !(sortP n m).2.testBit i from nbit h1 (by omega)] at this
    simpa using this
theorem stuck_bit' {n : Nat} {m : Nat → Nat} (hn : n ≤ 8) {i : Nat} (hi : i < n) (e : (sortP n m).1.length ≠ n) (h : (sortP n m).2.testBit i = false) : (stuckP n m).testBit i = true := by
  unfold stuckP
  have h1 := (sortF_end (m := m) hn n 0 [] (by simp) (by omega)).1
  rw [if_neg e, Nat.testBit_and, Nat.testBit_two_pow_sub_one, decide_eq_true hi, Bool.true_and]
  rw [show (255 - (sortP n m).2).testBit i = !(sortP n m).2.testBit i from nbit h1 (by omega), h]
  rfl
/-- A stuck leg needs a stuck leg. -/
theorem stuck_needs {n : Nat} {m : Nat → Nat} (hn : n ≤ 8) (hm : ∀ i j, (m i).testBit j = true → j < n) {i : Nat} (h : (stuckP n m).testBit i = true) : m i &&& stuckP n m ≠ 0 := by
  obtain ⟨hi, he, hd⟩ := stuck_bit hn i h
  have E := sortF_end (m := m) hn n 0 [] (by simp) (by omega)
  have hr := pick_none' (E.2.2 he) i hi
  unfold ready at hr
  rw [show (sortF n m n 0 []).2 = (sortP n m).2 from rfl, hd] at hr
  have hne : m i &&& (255 - (sortP n m).2) ≠ 0 := by simpa using hr
  obtain ⟨j, hj⟩ := Nat.exists_testBit_of_ne_zero hne
  rw [Nat.testBit_and, Bool.and_eq_true] at hj
  have hjn := hm i j hj.1
  have hjd := hj.2
  rw [show (255 - (sortP n m).2).testBit j = !(sortP n m).2.testBit j from nbit E.1 (by omega)] at hjd
  intro z
  have : (m i &&& stuckP n m).testBit j = true := by rw [Nat.testBit_and, hj.1, stuck_bit' hn hjn he (by simpa using hjd)]; rfl
  rw [z] at this
  simp at this
theorem stuck_lt {n : Nat} {m : Nat → Nat} (hn : n ≤ 8) : stuckP n m < 256 := by
  unfold stuckP
  split
  · omega
  · exact Nat.lt_of_le_of_lt Nat.and_le_left (by
      have : 2 ^ n ≤ 2 ^ 8 := Nat.pow_le_pow_right (by omega) hn
      omega)
end Go.Proofs.Qxb6500784a
