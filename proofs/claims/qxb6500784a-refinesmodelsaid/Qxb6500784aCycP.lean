import Derived.Test.Qxb6500784aSortP
namespace Go.Proofs.Qxb6500784a
open Go.RowKit

theorem len_le : ∀ (N : Nat) (V : List Nat), V.Nodup → (∀ x, x ∈ V → x < N) → V.length ≤ N
  | 0, V, _, h => by
    cases V with
    | nil => simp
    | cons x t => exact absurd (h x (by simp)) (by omega)
  | N + 1, V, hn, h => by
    by_cases e : N ∈ V
    · have a := List.length_erase_of_mem e
      have b := len_le N (V.erase N) (hn.erase N) fun x hx => by
        have c := (hn.mem_erase_iff).1 hx
        have := h x c.2
        omega
      omega
    · have b := len_le N V hn fun x hx => by
        have := h x hx
        have : x ≠ N := fun k => e (k ▸ hx)
        omega
      omega
/-- What FindCycle's walk has seen: X the stuck legs, V the walk, M where each was met, t where it stands. -/
structure WalkOk (m : Nat → Nat) (X : Nat) (V : List Nat) (M : Nat → Int) (t : Nat) : Prop where
  nodup : V.Nodup
  inX : ∀ x, x ∈ V → X.testBit x = true
  lt : ∀ x, x ∈ V → x < 8
  tX : X.testBit t = true
  t8 : t < 8
  step : ∀ i x y, V[i]? = some x → V[i + 1]? = some y → (m x).testBit y = true
  last : ∀ x, V[V.length - 1]? = some x → (m x).testBit t = true
  met : ∀ (i : Nat) x, V[i]? = some x → M x = (i : Int)
  un : ∀ x, x ∉ V → M x = -1
theorem WalkOk.len {m : Nat → Nat} {X : Nat} {V : List Nat} {M : Nat → Int} {t : Nat} (h : WalkOk m X V M t) : V.length ≤ 8 := len_le 8 V h.nodup h.lt
theorem WalkOk.not {m : Nat → Nat} {X : Nat} {V : List Nat} {M : Nat → Int} {t : Nat} (h : WalkOk m X V M t) (hm : M t < 0) : t ∉ V := by
  intro k
  obtain ⟨i, hi⟩ := List.getElem?_of_mem k
  have := h.met i t hi
  omega
theorem WalkOk.len' {m : Nat → Nat} {X : Nat} {V : List Nat} {M : Nat → Int} {t : Nat} (h : WalkOk m X V M t) (hm : M t < 0) : V.length < 8 := by
  have hn := h.not hm
  have := len_le 8 (t :: V) (List.nodup_cons.2 ⟨hn, h.nodup⟩) (by
    intro x hx
    rcases List.mem_cons.1 hx with e | e
    · rw [e]; exact h.t8
    · exact h.lt x e)
  simp at this
  omega
theorem WalkOk.init {m : Nat → Nat} {X t : Nat} (hX : X.testBit t = true) (ht : t < 8) : WalkOk m X [] (fun _ => -1) t :=
  ⟨List.nodup_nil, fun x h => by simp at h, fun x h => by simp at h, hX, ht, fun i x y h => by simp at h, fun x h => by simp at h, fun i x h => by simp at h, fun x _ => rfl⟩
theorem WalkOk.go {m : Nat → Nat} {X : Nat} {V : List Nat} {M : Nat → Int} {t u : Nat} (h : WalkOk m X V M t) (hm : M t < 0) (hu : u < 8) (hb : (m t &&& X).testBit u = true) :
    WalkOk m X (V ++ [t]) (fun x => if x = t then (V.length : Int) else M x) u := by
  have hn := h.not hm
  rw [Nat.testBit_and, Bool.and_eq_true] at hb
  have get : ∀ i x, (V ++ [t])[i]? = some x → (V[i]? = some x) ∨ (i = V.length ∧ x = t) := by
    intro i x hx
    rw [List.getElem?_append] at hx
    split at hx
    · exact Or.inl hx
    · right
      have : i - V.length = 0 := by
        rcases Nat.eq_zero_or_pos (i - V.length) with z | z
        · exact z
        · rw [List.getElem?_eq_none (by simp; omega)] at hx; cases hx
      rw [this] at hx
      exact ⟨by omega, by simpa using hx.symm⟩
  refine ⟨?_, ?_, ?_, hb.2, hu, ?_, ?_, ?_, ?_⟩
  · rw [List.nodup_append]
    exact ⟨h.nodup, by simp, fun a ha b hb' => by simp at hb'; rw [hb']; exact fun e => hn (e ▸ ha)⟩
  · intro x hx
    rcases List.mem_append.1 hx with e | e
    · exact h.inX x e
    · rw [List.mem_singleton.1 e]; exact h.tX
  · intro x hx
    rcases List.mem_append.1 hx with e | e
    · exact h.lt x e
    · rw [List.mem_singleton.1 e]; exact h.t8
  · intro i x y hx hy
    rcases get _ _ hy with e | ⟨e, rfl⟩
    · rcases get _ _ hx with e2 | ⟨e2, rfl⟩
      · exact h.step i x y e2 e
      · rw [List.getElem?_eq_none (by omega)] at e; cases e
    · rcases get _ _ hx with e2 | ⟨e2, rfl⟩
      · exact h.last x (by rw [show V.length - 1 = i by omega]; exact e2)
      · omega
  · intro x hx
    rw [show (V ++ [t]).length - 1 = V.length by simp] at hx
    rcases get _ _ hx with e | ⟨_, rfl⟩
    · rw [List.getElem?_eq_none (by omega)] at e; cases e
    · exact hb.1
  · intro i x hx
    show (if x = t then (V.length : Int) else M x) = i
    rcases get _ _ hx with e | ⟨e, rfl⟩
    · have : x ≠ t := fun k => hn (k ▸ List.mem_of_getElem? e)
      rw [if_neg this]; exact h.met i x e
    · rw [if_pos rfl, e]
  · intro x hx
    show (if x = t then (V.length : Int) else M x) = -1
    rw [List.mem_append, not_or] at hx
    have : x ≠ t := fun k => hx.2 (by simp [k])
    rw [if_neg this]; exact h.un x hx.1
theorem WalkOk.at {m : Nat → Nat} {X : Nat} {V : List Nat} {M : Nat → Int} {t : Nat} (h : WalkOk m X V M t) (hm : ¬ M t < 0) : ∃ s : Nat, M t = (s : Int) ∧ V[s]? = some t := by
  by_cases e : t ∈ V
  · obtain ⟨i, hi⟩ := List.getElem?_of_mem e
    exact ⟨i, h.met i t hi, hi⟩
  · have := h.un t e; omega
/-- A cycle: different legs, each of which needs the next, and the last the first. -/
structure Cyc (m : Nat → Nat) (X len : Nat) (C : Nat → Nat) : Prop where
  pos : 0 < len
  le : len ≤ 8
  inX : ∀ k, k < len → X.testBit (C k) = true
  need : ∀ k, k < len → (m (C k)).testBit (C ((k + 1) % len)) = true
  ne : ∀ k j, j < k → k < len → C j ≠ C k
theorem WalkOk.cyc {m : Nat → Nat} {X : Nat} {V : List Nat} {M : Nat → Int} {t s : Nat} (h : WalkOk m X V M t) (hs : V[s]? = some t) : Cyc m X (V.length - s) (fun k => V.getD (s + k) 0) := by
  have hl : s < V.length := by
    rcases Nat.lt_or_ge s V.length with z | z
    · exact z
    · rw [List.getElem?_eq_none z] at hs; cases hs
  have g : ∀ k, k < V.length - s → V[s + k]? = some (V.getD (s + k) 0) := by
    intro k hk
    rw [List.getD_eq_getElem?_getD, List.getElem?_eq_getElem (by omega)]
    rfl
  refine ⟨by omega, by have := h.len; omega, fun k hk => h.inX _ (List.mem_of_getElem? (g k hk)), fun k hk => ?_, fun k j hj hk e => ?_⟩
  · rcases Nat.lt_or_ge (k + 1) (V.length - s) with z | z
    · rw [Nat.mod_eq_of_lt z]
      exact h.step (s + k) _ _ (g k hk) (g (k + 1) z)
    · have e : k + 1 = V.length - s := by omega
      rw [e, Nat.mod_self]
      have e2 : V.getD (s + 0) 0 = t := by rw [Nat.add_zero, List.getD_eq_getElem?_getD, hs]; rfl
      rw [e2]
      exact h.last _ (by rw [show V.length - 1 = s + k by omega]; exact g k hk)
  · have a := h.met _ _ (g j (by omega))
    have b := h.met _ _ (g k hk)
    rw [show V.getD (s + j) 0 = V.getD (s + k) 0 from e, b] at a
    omega
end Go.Proofs.Qxb6500784a
