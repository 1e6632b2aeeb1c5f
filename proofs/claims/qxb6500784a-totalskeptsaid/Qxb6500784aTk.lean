import Derived.Test.Qxb6500784aMm
namespace Go.Proofs.Qxb6500784a
open Go.RowKit

/-! ### TotalsKept, plain: sums modulo 2^64 -/
/-- Congruent modulo 2^64. -/
def Cong (a b : Int) : Prop := ∃ q : Int, a = b + 18446744073709551616 * q
theorem Cong.refl (a : Int) : Cong a a := ⟨0, by omega⟩
theorem Cong.symm {a b : Int} (h : Cong a b) : Cong b a := by obtain ⟨q, h⟩ := h; exact ⟨-q, by omega⟩
theorem Cong.trans {a b c : Int} (h : Cong a b) (k : Cong b c) : Cong a c := by obtain ⟨q, h⟩ := h; obtain ⟨p, k⟩ := k; exact ⟨q + p, by omega⟩
theorem Cong.add {a b c d : Int} (h : Cong a b) (k : Cong c d) : Cong (a + c) (b + d) := by obtain ⟨q, h⟩ := h; obtain ⟨p, k⟩ := k; exact ⟨q + p, by omega⟩
theorem cong_mod (a : Int) : Cong (a % 18446744073709551616) a := ⟨-(a / 18446744073709551616), by omega⟩
theorem cong_w64 (a : Int) : Cong (w64 a) a := cong_mod a
theorem Cong.mod {a b : Int} (h : Cong a b) : a % 18446744073709551616 = b % 18446744073709551616 := by obtain ⟨q, h⟩ := h; omega
/-- The balances of a token, summed up. -/
def sumK (l : List Int) (t : Nat) : Nat → Int
  | 0 => 0
  | k + 1 => sumK l t k + fld l (k * 4 + t)
theorem sup_sum (l : Led0) (t : Nat) : ∀ k, Cong (supK l t k) (sumK l.bal t k)
  | 0 => Cong.refl _
  | k + 1 => (cong_mod _).trans ((sup_sum l t k).add (Cong.refl _))
theorem fld_set_self {l : List Int} {j : Nat} (h : j < l.length) (x : Int) : fld (l.set j x) j = x := by unfold fld; rw [List.getElem?_set_self h]; rfl
theorem fld_set_ne {l : List Int} {i j : Nat} (h : i ≠ j) (x : Int) : fld (l.set i x) j = fld l j := by unfold fld; rw [List.getElem?_set_ne h]
theorem sumK_set {l : List Int} {a t : Nat} (ht : t < 4) (hl : a * 4 + t < l.length) (x : Int) (s : Nat) (hs : s < 4) : ∀ k, sumK (l.set (a * 4 + t) x) s k = sumK l s k + (if t = s ∧ a < k then x - fld l (a * 4 + t) else 0)
  | 0 => by simp [sumK]
  | k + 1 => by
    rw [sumK, sumK, sumK_set ht hl x s hs k]
    by_cases e : a * 4 + t = k * 4 + s
    · have e1 : t = s := by omega
      have e2 : a = k := by omega
      subst e1 e2
      rw [fld_set_self hl, if_neg (by omega), if_pos (by omega)]; omega
    · rw [fld_set_ne e]
      by_cases h : t = s ∧ a < k
      · rw [if_pos h, if_pos ⟨h.1, by omega⟩]; omega
      · rw [if_neg h, if_neg (fun h2 => h ⟨h2.1, by have : a ≠ k := (fun e2 => e (by rw [e2, h2.1])); omega⟩)]; omega
/-- What a ledger holds of a token. -/
def hold (l : Led0) (s : Nat) : Int := sumK l.bal s 64
theorem hold_addB {l : Led0} {a t : Nat} (hb : l.bal.length = 256) (ha : a < 64) (ht : t < 4) (x : Int) (s : Nat) (hs : s < 4) : Cong (hold (addB l (a * 4 + t) x) s) (hold l s + if t = s then x else 0) := by
  unfold hold addB
  show Cong (sumK (l.bal.set (a * 4 + t) (w64 (fld l.bal (a * 4 + t) + x))) s 64) _
  rw [sumK_set ht (by omega) _ s hs 64]
  by_cases e : t = s
  · rw [if_pos ⟨e, ha⟩, if_pos e]
    refine (Cong.refl _).add ?_
    obtain ⟨q, hq⟩ := cong_w64 (fld l.bal (a * 4 + t) + x)
    exact ⟨q, by omega⟩
  · rw [if_neg (fun h => e h.1), if_neg e]
    exact Cong.refl _
theorem addB_len {l : Led0} (j : Nat) (x : Int) (h : l.bal.length = 256) : (addB l j x).bal.length = 256 := by simp [addB, h]
theorem toNat4 {a t : Int} (ha : 0 ≤ a) (ht : 0 ≤ t) : (a * 4 + t).toNat = a.toNat * 4 + t.toNat := by omega
theorem hold_fee {l : Led0} {t : List Int} (hb : l.bal.length = 256) (h2 : 0 ≤ fld t 2 ∧ fld t 2 < 64) (s : Nat) (hs : s < 4) : Cong (hold (feeL l t) s) (hold l s) ∧ (feeL l t).bal.length = 256 := by
  unfold feeL
  have hb2 : (nonL (gasL l t) t).bal.length = 256 := hb
  have e0 : hold (nonL (gasL l t) t) s = hold l s := rfl
  have e1 : (fld t 2 * 4).toNat = (fld t 2).toNat * 4 + 0 := by omega
  rw [e1]
  have k1 := hold_addB (l := nonL (gasL l t) t) (a := (fld t 2).toNat) (t := 0) hb2 (by omega) (by omega) (- fld t 4) s hs
  have k2 := hold_addB (l := addB (nonL (gasL l t) t) ((fld t 2).toNat * 4 + 0) (- fld t 4)) (a := 0) (t := 0) (addB_len _ _ hb2) (by omega) (by omega) (fld t 4) s hs
  refine ⟨?_, addB_len _ _ (addB_len _ _ hb2)⟩
  have k3 := k2.trans (k1.add (Cong.refl (if 0 = s then fld t 4 else 0)))
  rw [e0] at k3
  refine k3.trans ?_
  by_cases e : 0 = s
  · rw [if_pos e, if_pos e]; exact ⟨0, by omega⟩
  · rw [if_neg e, if_neg e]; exact ⟨0, by omega⟩
/-- What an accepted transaction does to a token's holdings. -/
def dlt (t : List Int) (s : Nat) : Int := if fld t 0 = 2 then (if fld t 7 = s then - fld t 8 else 0) else if fld t 0 = 3 then (if fld t 48 = s then fld t 49 else 0) else 0
/-- The bounds of an accepted transaction. -/
structure RefB (l : Led0) (t : List Int) : Prop where
  k : fld t 0 = 1 ∨ fld t 0 = 2 ∨ fld t 0 = 3 ∨ fld t 0 = 4 ∨ fld t 0 = 5
  c : fld t 1 = l.ch
  a : fld t 2 < 64
  t1 : fld t 0 = 1 → fld t 5 < 64 ∧ fld t 7 < 4
  t2 : fld t 0 = 2 → forP (fld t 6) l.ch = true ∧ fld t 7 < 4
  t3 : fld t 0 = 3 → fld t 42 = 2 ∧ fld t 44 = l.ch ∧ fld t 46 < 64 ∧ fld t 48 < 4 ∧ forP (fld t 43) l.ch = true
  t5 : fld t 0 = 5 → fld t 42 = 1 ∧ fld t 44 = l.ch ∧ forP (fld t 43) l.ch = true
theorem ref_b {l : Led0} {t : List Int} (h : refP l t = 0) : RefB l t := by
  obtain ⟨hk, hc, hto⟩ := ref_facts h
  have hA0 : refA l t = 0 := by
    refine Classical.byContradiction fun e => ?_
    rw [refP, if_pos e] at h; exact e h
  have hB0 : refB l t = 0 := by
    refine Classical.byContradiction fun e => ?_
    rw [refP, if_neg (by simp [hA0]), if_pos e] at h; exact e h
  have ha : fld t 2 < 64 := by
    unfold refA at hA0
    rw [if_neg (by omega), if_neg (by simp [hc])] at hA0
    split at hA0
    · cases hA0
    · omega
  refine ⟨hk, hc, ha, fun e => ?_, fun e => ?_, fun e => ?_, fun e => ?_⟩
  · unfold refB at hB0
    rw [if_pos e] at hB0
    repeat' (split at hB0; · cases hB0)
    omega
  · unfold refB at hB0
    rw [if_neg (by omega), if_pos e] at hB0
    repeat' (split at hB0; · cases hB0)
    rename_i g1 g2 g3 g4 g5
    exact ⟨by simpa using g1, by omega⟩
  · unfold refB at hB0
    rw [if_neg (by omega), if_neg (by omega), if_neg (by omega), if_pos e] at hB0
    repeat' (split at hB0; · cases hB0)
    rename_i g1 g2 g3 g4 g5 g6 g7
    exact ⟨by omega, hto (.inl e), by omega, by omega, by simpa using g3⟩
  · unfold refB at hB0
    rw [if_neg (by omega), if_neg (by omega), if_neg (by omega), if_neg (by omega)] at hB0
    repeat' (split at hB0; · cases hB0)
    rename_i g1 g2 g3 g4 g5
    exact ⟨by omega, hto (.inr e), by simpa using g3⟩
theorem hold_app {l : Led0} {t : List Int} (hb : l.bal.length = 256) (ht : TxOk t) (h : refP l t = 0) (s : Nat) (hs : s < 4) : Cong (hold (appL l t) s) (hold l s + dlt t s) := by
  have B := ref_b h
  have z : ∀ j, j < 83 → 0 ≤ fld t j := fun j hj => (fld_r ht hj).1
  have z2 := z 2 (by omega)
  have z5 := z 5 (by omega)
  have z7 := z 7 (by omega)
  have z46 := z 46 (by omega)
  have z48 := z 48 (by omega)
  have ba := B.a
  obtain ⟨f1, f2⟩ := hold_fee (l := l) (t := t) hb ⟨z2, ba⟩ s hs
  unfold appL dlt
  rw [if_neg (by simp [h])]
  by_cases k1 : fld t 0 = 1
  · obtain ⟨b5, b7⟩ := B.t1 k1
    rw [if_pos k1, if_neg (by omega), if_neg (by omega), toNat4 z2 z7, toNat4 z5 z7]
    have q1 := hold_addB (l := feeL l t) (a := (fld t 2).toNat) (t := (fld t 7).toNat) f2 (by omega) (by omega) (- fld t 8) s hs
    have q2 := hold_addB (l := addB (feeL l t) ((fld t 2).toNat * 4 + (fld t 7).toNat) (- fld t 8)) (a := (fld t 5).toNat) (t := (fld t 7).toNat) (addB_len _ _ f2) (by omega) (by omega) (fld t 8) s hs
    refine (q2.trans (q1.add (Cong.refl _))).trans ?_
    by_cases e : (fld t 7).toNat = s
    · rw [if_pos e, if_pos e]; obtain ⟨q, hq⟩ := f1; exact ⟨q, by omega⟩
    · rw [if_neg e, if_neg e]; obtain ⟨q, hq⟩ := f1; exact ⟨q, by omega⟩
  · rw [if_neg k1]
    by_cases k2 : fld t 0 = 2
    · obtain ⟨_, b7⟩ := B.t2 k2
      rw [if_pos k2, if_pos k2, toNat4 z2 z7]
      have q1 := hold_addB (l := feeL l t) (a := (fld t 2).toNat) (t := (fld t 7).toNat) f2 (by omega) (by omega) (- fld t 8) s hs
      refine q1.trans ?_
      by_cases e : (fld t 7).toNat = s
      · rw [if_pos e, if_pos (by omega)]; exact f1.add (Cong.refl _)
      · rw [if_neg e, if_neg (by omega)]; exact f1.add (Cong.refl _)
    · rw [if_neg k2, if_neg k2]
      by_cases k3 : fld t 0 = 3
      · obtain ⟨_, _, b46, b48, _⟩ := B.t3 k3
        rw [if_pos k3, if_pos k3, toNat4 z46 z48]
        have q1 := hold_addB (l := feeL l t) (a := (fld t 46).toNat) (t := (fld t 48).toNat) f2 (by omega) (by omega) (fld t 49) s hs
        refine Cong.trans (b := hold (addB (feeL l t) ((fld t 46).toNat * 4 + (fld t 48).toNat) (fld t 49)) s) (Cong.refl _) (q1.trans ?_)
        by_cases e : (fld t 48).toNat = s
        · rw [if_pos e, if_pos (by omega)]; exact f1.add (Cong.refl _)
        · rw [if_neg e, if_neg (by omega)]; exact f1.add (Cong.refl _)
      · rw [if_neg k3, if_neg k3, Int.add_zero]
        by_cases k4 : fld t 0 = 4
        · rw [if_pos k4]; exact f1
        · rw [if_neg k4]; exact f1
end Go.Proofs.Qxb6500784a
