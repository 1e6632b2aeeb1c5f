import Derived.Test.Qxb6500773aGreatMs
namespace Go.Proofs.Qxb6500773aGreat
open Go.RowKit

/-! ### Rows of rows that are built -/
def IK (k : IntKind) (w : World) (a : Option Addr) (X : List Int) : Prop := ∀ (j : Nat) (x : Int), X[j]? = some x → ∃ g off, a = some ⟨g, off, none⟩ ∧ w.cell? ⟨g, off + j, none⟩ = some (.int k x)
theorem IK.keep {k : IntKind} {w w' : World} {a : Option Addr} {X : List Int} (h : IK k w a X) {S : Nat → Prop} (e : Ex S w w') (hs : ∀ g off, a = some ⟨g, off, none⟩ → ¬ S g) : IK k w' a X := fun j x hx => by
  obtain ⟨g, off, ea, hc⟩ := h j x hx
  exact ⟨g, off, ea, e.cell (hs g off ea) hc⟩
/-- the values V of the outer row are slices over the lists F; no slice lies in a block of D -/
def RR (k : IntKind) (w : World) (D : Nat → Prop) (V : List Value) (F : List (List Int)) : Prop :=
  V.length = F.length ∧ ∀ (j : Nat) (C : List Int), F[j]? = some C → ∃ a c, V[j]? = some (.slice a C.length c) ∧ IK k w a C ∧ C.length ≤ c ∧ c ≤ maxLen ∧ ∀ g off, a = some ⟨g, off, none⟩ → g < w.heap.size ∧ ¬ D g
theorem RR.nil (k : IntKind) (w : World) (D : Nat → Prop) : RR k w D [] [] := ⟨rfl, fun j C h => by simp at h⟩
theorem RR.keep {k : IntKind} {w w' : World} {D : Nat → Prop} {V : List Value} {F : List (List Int)} (h : RR k w D V F) {S : Nat → Prop} (e : Ex S w w') (hs : ∀ g, S g → D g ∨ w.heap.size ≤ g) : RR k w' D V F := ⟨h.1, fun j C hj => by
  obtain ⟨a, c, hv, hi, hc, hm, hd⟩ := h.2 j C hj
  exact ⟨a, c, hv, hi.keep e (fun g off ea hg => by rcases hs g hg with z | z; exact (hd g off ea).2 z; have := (hd g off ea).1; omega), hc, hm, fun g off ea => ⟨Nat.lt_of_lt_of_le (hd g off ea).1 e.size, (hd g off ea).2⟩⟩⟩
theorem RR.avoid {k : IntKind} {w : World} {D D' : Nat → Prop} {V : List Value} {F : List (List Int)} (h : RR k w D V F) (hs : ∀ g, D' g → D g ∨ w.heap.size ≤ g) : RR k w D' V F := ⟨h.1, fun j C hj => by
  obtain ⟨a, c, hv, hi, hc, hm, hd⟩ := h.2 j C hj
  exact ⟨a, c, hv, hi, hc, hm, fun g off ea => ⟨(hd g off ea).1, fun z => by rcases hs g z with z | z; exact (hd g off ea).2 z; have := (hd g off ea).1; omega⟩⟩⟩
theorem RR.snoc {k : IntKind} {w : World} {D : Nat → Prop} {V : List Value} {F : List (List Int)} (h : RR k w D V F) {a : Option Addr} {c : Nat} {C : List Int} (hi : IK k w a C) (hc : C.length ≤ c) (hm : c ≤ maxLen) (hd : ∀ g off, a = some ⟨g, off, none⟩ → g < w.heap.size ∧ ¬ D g) : RR k w D (V ++ [.slice a C.length c]) (F ++ [C]) := by
  refine ⟨by simp [h.1], fun j C' hj => ?_⟩
  by_cases hlt : j < F.length
  · rw [List.getElem?_append_left hlt] at hj
    rw [List.getElem?_append_left (by rw [h.1]; exact hlt)]
    exact h.2 j C' hj
  · rw [List.getElem?_append_right (by omega)] at hj
    have hj0 : j - F.length = 0 := by
      rcases Nat.eq_zero_or_pos (j - F.length) with z | z
      · exact z
      · rw [List.getElem?_eq_none (by simp; omega)] at hj; cases hj
    rw [hj0] at hj
    simp at hj
    subst hj
    rw [List.getElem?_append_right (by rw [h.1]; omega), h.1, hj0]
    exact ⟨a, c, rfl, hi, hc, hm, hd⟩
end Go.Proofs.Qxb6500773aGreat
