import Derived.Test.Qxb6500784aSi3
import Derived.Test.Qxb6500784aLeastP
namespace Go.Proofs.Qxb6500784a
open Go.RowKit

/-! ### Faults of form: what Order answers -/
theorem firstCode_z {L : Nat → Leg} : ∀ (k i : Nat), (∀ j, i ≤ j → j < i + k → legCode (L j) = 0) → firstCode L k i = 0
  | 0, _, _ => rfl
  | k + 1, i, h => by
    unfold firstCode
    rw [if_pos (h i (by omega) (by omega))]
    exact firstCode_z k (i + 1) (fun j h1 h2 => h j (by omega) (by omega))
theorem firstCode_last {L : Nat → Leg} {c : Int} : ∀ (k i : Nat), (∀ j, i ≤ j → j < i + k → legCode (L j) = 0) → legCode (L (i + k)) = c → c ≠ 0 → firstCode L (k + 1) i = c
  | 0, i, _, h, hc => by
    unfold firstCode
    rw [Nat.add_zero] at h
    rw [if_neg (by rw [h]; exact hc), h]
  | k + 1, i, h, h2, hc => by
    rw [firstCode, if_pos (h i (by omega) (by omega))]
    exact firstCode_last k (i + 1) (fun j h1 h2 => h j (by omega) (by omega)) (by rw [show i + 1 + k = i + (k + 1) by omega]; exact h2) hc
theorem ordCode_of {n : Nat} {L : Nat → Leg} {c : Int} (h : bCode n L = c) (hc : c ≠ 0) : ordCode n L = c := by unfold ordCode; rw [if_pos (by rw [h]; exact hc), h]
theorem bad_none (L : Nat → Leg) : ordCode 0 L = 60 := ordCode_of (by unfold bCode; rw [if_pos rfl]) (by decide)
theorem bad_many {n : Nat} (hn : 8 < n) (L : Nat → Leg) : ordCode n L = 61 := ordCode_of (by unfold bCode; rw [if_neg (by omega), if_pos hn]) (by decide)
theorem bad_last {m : Nat} {L : Nat → Leg} {c : Int} (hm : m + 1 ≤ 8) (h : ∀ i, i < m → legCode (L i) = 0) (hl : legCode (L m) = c) (hc : c ≠ 0) : ordCode (m + 1) L = c := by
  refine ordCode_of ?_ hc
  have e := firstCode_last (L := L) (c := c) m 0 (fun j _ hj => h j (by omega)) (by rw [Nat.zero_add]; exact hl) hc
  unfold bCode
  rw [if_neg (by omega), if_neg (by omega), if_pos (by rw [e]; exact hc), e]
theorem bad_dup {n : Nat} {L : Nat → Leg} (hn : n ≤ 8) (h : ∀ i, i < n → legCode (L i) = 0) {i j : Nat} (hij : i < j) (hj : j < n) (he : (L i).id = (L j).id) : ordCode n L = 65 := by
  refine ordCode_of ?_ (by decide)
  have e := firstCode_z (L := L) n 0 (fun j _ hj => h j (by omega))
  unfold bCode
  rw [if_neg (by omega), if_neg (by omega), if_neg (by rw [e]; simp), if_pos ⟨i, j, hij, hj, he⟩]
theorem bad_miss {n : Nat} {L : Nat → Leg} (h0 : 0 < n) (hn : n ≤ 8) (h : ∀ i, i < n → legCode (L i) = 0) (hid : ∀ i, i < n → (L i).id = i) {i k : Nat} (hi : i < n) (hk : k < (L i).nn) (hno : ∀ j, j < n → (L j).id ≠ (L i).nd k) : ordCode n L = 66 := by
  refine ordCode_of ?_ (by decide)
  have e := firstCode_z (L := L) n 0 (fun j _ hj => h j (by omega))
  unfold bCode
  rw [if_neg (by omega), if_neg (by omega), if_neg (by rw [e]; simp), if_neg ?_, if_pos ⟨i, k, hi, hk, hno⟩]
  rintro ⟨a, b, hab, hb, e⟩
  rw [hid a (by omega), hid b hb] at e
  omega
theorem bad_self {m : Nat} {L : Nat → Leg} (hm : m + 1 ≤ 8) (h : ∀ i, i < m + 1 → legCode (L i) = 0) (hid : ∀ i, i < m + 1 → (L i).id = i) (hnn : ∀ i, i < m → (L i).nn = 0) (hl : (L m).nn = 1) (hd : (L m).nd 0 = m) : ordCode (m + 1) L = 67 := by
  have hz : bCode (m + 1) L = 0 := by
    have e := firstCode_z (L := L) (m + 1) 0 (fun j _ hj => h j (by omega))
    unfold bCode
    rw [if_neg (by omega), if_neg (by omega), if_neg (by rw [e]; simp), if_neg ?_, if_neg ?_]
    · rintro ⟨i, k, hi, hk, hno⟩
      by_cases e : i = m
      · subst e
        rw [hl] at hk
        have : k = 0 := by omega
        subst this
        exact hno i hi (by rw [hid i hi, hd])
      · rw [hnn i (by omega)] at hk; omega
    · rintro ⟨a, b, hab, hb, e⟩
      rw [hid a (by omega), hid b hb] at e
      omega
  by_cases hs : stuckP (m + 1) (needM (m + 1) L) = 0
  · exfalso
    obtain ⟨_, hlen, hmem, hfit⟩ := least_ok hz hs
    obtain ⟨_, _, hol, hon, hom, _⟩ := ord_facts (ordCode_ok hz hs)
    have hmn : m ∈ ordP (m + 1) L := by
      refine Classical.byContradiction fun hno => ?_
      have := len_le m (ordP (m + 1) L) hon (fun x hx => by
        have h1 := hom x hx
        have h2 : x ≠ m := fun e => hno (e ▸ hx)
        omega)
      omega
    obtain ⟨k, hk⟩ := List.mem_iff_getElem?.1 hmn
    obtain ⟨t, y, ht, hy, ey⟩ := fitsB_iff.1 hfit k m hk 0 (by rw [hl]; omega)
    have hyn := hom y (List.mem_of_getElem? hy)
    rw [hd, hid y hyn] at ey
    have : y = m := by omega
    subst this
    have := (List.getElem?_inj (i := t) (j := k) (List.getElem?_eq_some_iff.1 hy).1 hon).1 (hy.trans hk.symm)
    omega
  · exact ordCode_cyc hz hs
end Go.Proofs.Qxb6500784a
