import Derived.Test.Qxb6500784aCn
namespace Go.Proofs.Qxb6500784a
open Go.RowKit

/-! ### Refusal: the table -/
abbrev mx63 : Int := 9223372036854775807
def refA (l : Led0) (t : List Int) : Int := if fld t 0 < 1 ∨ 5 < fld t 0 then 1 else if fld t 1 ≠ l.ch then 2 else if 64 ≤ fld t 2 then 3 else if 9223372036854775807 < fld t 4 then 4 else 0
def refB (l : Led0) (t : List Int) : Int :=
  if fld t 0 = 1 then (if 64 ≤ fld t 5 then 5 else if fld t 5 = fld t 2 then 6 else if 4 ≤ fld t 7 then 7 else if fld t 8 = 0 then 8 else if 9223372036854775807 < fld t 8 then 9 else 0)
  else if fld t 0 = 2 then (if forP (fld t 6) l.ch = false then 10 else if 64 ≤ fld t 5 then 5 else if 4 ≤ fld t 7 then 7 else if fld t 8 = 0 then 8 else if 9223372036854775807 < fld t 8 then 9 else 0)
  else if fld t 0 = 4 then (if forP (fld t 6) l.ch = false then 10 else if 64 ≤ fld t 5 then 5 else if fld t 9 = 0 ∨ 32 < fld t 9 then 11 else 0)
  else if fld t 0 = 3 then (if fld t 42 ≠ 2 then 15 else if fld t 44 ≠ l.ch then 16 else if forP (fld t 43) l.ch = false then 17 else if 64 ≤ fld t 45 ∨ 64 ≤ fld t 46 then 18 else if 4 ≤ fld t 48 then 7 else if fld t 49 = 0 then 8 else if 9223372036854775807 < fld t 49 then 9 else 0)
  else (if fld t 42 ≠ 1 then 15 else if fld t 44 ≠ l.ch then 16 else if forP (fld t 43) l.ch = false then 17 else if 64 ≤ fld t 45 ∨ 64 ≤ fld t 46 then 18 else if fld t 46 ≠ fld t 2 then 21 else 0)
def nonP (l : Led0) (t : List Int) : Int := fld l.non (fld t 2).toNat
def balP (l : Led0) (a k : Int) : Int := fld l.bal (a * 4 + k).toNat
def refC (l : Led0) (t : List Int) : Int := if fld t 4 < minP t then 22 else if l.opn = false then 23 else if l.gl < (l.gu + gasP t) % 18446744073709551616 then 24 else if fld t 3 < nonP l t then 25 else if nonP l t < fld t 3 then 26 else if balP l (fld t 2) 0 < fld t 4 then 27 else 0
def needP (t : List Int) : Int := if fld t 7 = 0 then (fld t 8 + fld t 4) % 18446744073709551616 else fld t 8
def refD (l : Led0) (t : List Int) : Int :=
  if fld t 0 = 1 ∨ fld t 0 = 2 then (if balP l (fld t 2) (fld t 7) < needP t then 28 else 0)
  else if fld t 0 = 3 ∨ fld t 0 = 5 then (if takenP l (fld t 43) (fld t 47) = true then 29 else if fld t 0 = 3 ∧ 9223372036854775807 < (supP l (fld t 48) + fld t 49) % 18446744073709551616 then 30 else 0)
  else 0
def refP (l : Led0) (t : List Int) : Int := if refA l t ≠ 0 then refA l t else if refB l t ≠ 0 then refB l t else if refC l t ≠ 0 then refC l t else refD l t
/-- What the table's walk holds. -/
structure RS (w0 w : World) (A : Nat) (V M : List Value) (b o : Nat) (l : Led0) (sv : List Led0) (B : List Nat) : Prop where
  bl : Below w0.heap.size w0 w
  tx : w.rangeAt A 0 V
  ms : w.rangeAt (A + 1) 0 M
  la : LA w b o l sv B
  al : A + 2 ≤ w.heap.size
theorem RS.below {w0 w w' : World} {A : Nat} {V M : List Value} {b o : Nat} {l : Led0} {sv : List Led0} {B : List Nat} (h : RS w0 w A V M b o l sv B) (k : Below w.heap.size w w') : RS w0 w' A V M b o l sv B := by
  have := h.al
  exact ⟨lec h.bl k, range_below h.tx (by omega) k, range_below h.ms (by omega) k, h.la.below k, Nat.le_trans h.al k.size⟩
theorem Try.sz92 : (Try.prog.info? 92).map (·.size) = some 83 := by kernel_rfl
theorem refA_ok {l : Led0} {t : List Int} {K : Int} (hk : fld t 0 = K) (hK : ¬ (K < 1 ∨ 5 < K)) (hA : refA l t = 0) : fld t 1 = l.ch ∧ fld t 2 < 64 ∧ fld t 4 ≤ 9223372036854775807 := by
  unfold refA at hA
  rw [if_neg (by rw [hk]; exact hK)] at hA
  by_cases h1 : fld t 1 = l.ch
  · rw [if_neg (by simpa using h1)] at hA
    by_cases h2 : 64 ≤ fld t 2
    · rw [if_pos h2] at hA; omega
    · rw [if_neg h2] at hA
      by_cases h3 : 9223372036854775807 < fld t 4
      · rw [if_pos h3] at hA; omega
      · exact ⟨h1, by omega, by omega⟩
  · rw [if_pos h1] at hA; omega
theorem exB {l : Led0} {t : List Int} {c : Int} (h : refB l t = c) (hc : c ≠ 0) : c = if refB l t ≠ 0 then refB l t else if refC l t ≠ 0 then refC l t else refD l t := by
  rw [if_pos (by rw [h]; exact hc), h]
theorem exC {l : Led0} {t : List Int} {c : Int} (hb : refB l t = 0) (h : refC l t = c) (hc : c ≠ 0) : c = if refB l t ≠ 0 then refB l t else if refC l t ≠ 0 then refC l t else refD l t := by
  rw [if_neg (by simp [hb]), if_pos (by rw [h]; exact hc), h]
theorem exD {l : Led0} {t : List Int} {c : Int} (hb : refB l t = 0) (hcc : refC l t = 0) (h : refD l t = c) : c = if refB l t ≠ 0 then refB l t else if refC l t ≠ 0 then refC l t else refD l t := by
  rw [if_neg (by simp [hb]), if_neg (by simp [hcc]), h]
end Go.Proofs.Qxb6500784a
