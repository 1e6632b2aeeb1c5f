import Derived.Test.Qxb6500773aGreatZ9
namespace Go.Proofs.Qxb6500773aGreat
open Go.RowKit

/-! ### Sorting, plain -/
def gt (C : List Int) (i : Nat) : Int := C.getD i 0
theorem gt_some {C : List Int} {i : Nat} {x : Int} (h : C[i]? = some x) : gt C i = x := by unfold gt; rw [List.getD_eq_getElem?_getD, h]; rfl
theorem gt_at {C : List Int} {i : Nat} (h : i < C.length) : C[i]? = some (gt C i) := by
  unfold gt; rw [List.getD_eq_getElem?_getD, List.getElem?_eq_getElem h]; rfl
theorem gt_set {C : List Int} {i j : Nat} (x : Int) (h : i < C.length) : gt (C.set i x) j = if j = i then x else gt C j := by
  unfold gt
  rw [List.getD_eq_getElem?_getD, List.getD_eq_getElem?_getD]
  by_cases e : j = i
  · subst e; simp [h]
  · rw [if_neg e, List.getElem?_set_ne (fun z => e z.symm)]
theorem set_self {C : List Int} {i : Nat} (h : i < C.length) : C.set i (gt C i) = C := by
  apply List.ext_getElem?
  intro j
  by_cases e : i = j
  · subst e; rw [List.getElem?_set_self h, gt_at h]
  · rw [List.getElem?_set_ne e]
/-- two members change places -/
def swL (C : List Int) (i j : Nat) : List Int := (C.set i (gt C j)).set j (gt C i)
theorem sw_len (C : List Int) (i j : Nat) : (swL C i j).length = C.length := by simp [swL]
theorem gt_sw {C : List Int} {i j k : Nat} (hi : i < C.length) (hj : j < C.length) : gt (swL C i j) k = if k = j then gt C i else if k = i then gt C j else gt C k := by
  unfold swL
  rw [gt_set _ (by simpa using hj), gt_set _ hi]
theorem count_set (C : List Int) (i : Nat) (h : i < C.length) (x a : Int) : (C.set i x).count a + (if gt C i = a then 1 else 0) = C.count a + (if x = a then 1 else 0) := by
  induction C generalizing i with
  | nil => simp at h
  | cons y C ih =>
    cases i with
    | zero => simp only [List.set_cons_zero, List.count_cons, gt, List.getD_cons_zero, beq_iff_eq]; omega
    | succ i =>
      have := ih i (by simpa using h)
      rw [show gt (y :: C) (i + 1) = gt C i from rfl]
      simp only [List.set_cons_succ, List.count_cons, beq_iff_eq] at this ⊢
      omega
theorem sw_perm (C : List Int) {i j : Nat} (hi : i < C.length) (hj : j < C.length) : (swL C i j).Perm C := by
  rw [List.perm_iff_count]
  intro a
  have h1 := count_set C i hi (gt C j) a
  have h2 := count_set (C.set i (gt C j)) j (by simpa using hj) (gt C i) a
  rw [gt_set _ hi] at h2
  unfold swL
  by_cases e : j = i
  · rw [if_pos e] at h2; subst e; omega
  · rw [if_neg e] at h2; omega
theorem getD_app (A B : List Int) (i : Nat) : gt (A ++ B) i = if i < A.length then gt A i else gt B (i - A.length) := by
  unfold gt
  rw [List.getD_eq_getElem?_getD]
  by_cases h : i < A.length
  · rw [if_pos h, List.getElem?_append_left h, List.getD_eq_getElem?_getD]
  · rw [if_neg h, List.getElem?_append_right (by omega), List.getD_eq_getElem?_getD]
def Srt (C : List Int) : Prop := ∀ a b, a < b → b < C.length → gt C a ≤ gt C b
/-- sorted up to the member i, but for the member j -/
def But (N : List Int) (i j : Nat) : Prop := ∀ a b, a < b → b ≤ i → b ≠ j → gt N a ≤ gt N b
theorem but_step {N : List Int} {i j : Nat} (h : But N i j) (hj : 0 < j) (hji : j ≤ i) (hi : i < N.length) (hl : gt N j < gt N (j - 1)) : But (swL N (j - 1) j) i (j - 1) := by
  intro a b hab hbi hbj
  have g : ∀ k, gt (swL N (j - 1) j) k = if k = j then gt N (j - 1) else if k = j - 1 then gt N j else gt N k := fun k => gt_sw (by omega) (by omega)
  rw [g a, g b]
  rcases Nat.lt_trichotomy b j with hb | hb | hb
  · rw [if_neg (show a ≠ j by omega), if_neg (show a ≠ j - 1 by omega), if_neg (show b ≠ j by omega), if_neg hbj]
    exact h a b hab hbi (by omega)
  · subst hb
    rw [if_neg (show a ≠ b by omega), if_pos rfl]
    by_cases e : a = b - 1
    · rw [if_pos e]; omega
    · rw [if_neg e]; exact h a (b - 1) (by omega) (by omega) (by omega)
  · rw [if_neg (show b ≠ j by omega), if_neg (show b ≠ j - 1 by omega)]
    by_cases e : a = j
    · rw [if_pos e]; exact h (j - 1) b (by omega) hbi (by omega)
    · rw [if_neg e]
      by_cases e2 : a = j - 1
      · rw [if_pos e2]; exact h j b (by omega) hbi (by omega)
      · rw [if_neg e2]; exact h a b hab hbi (by omega)
theorem but_end {N : List Int} {i j : Nat} (h : But N i j) (hji : j ≤ i) (hl : j = 0 ∨ gt N (j - 1) ≤ gt N j) : ∀ a b, a < b → b ≤ i → gt N a ≤ gt N b := by
  intro a b hab hbi
  by_cases e : b = j
  · subst e
    rcases hl with z | z
    · omega
    · by_cases e2 : a = b - 1
      · rw [e2]; exact z
      · exact Int.le_trans (h a (b - 1) (by omega) (by omega) (by omega)) z
  · exact h a b hab hbi e
/-- heaps -/
def Heap (C : List Int) (r n : Nat) : Prop := ∀ p q, r ≤ p → (q = 2 * p + 1 ∨ q = 2 * p + 2) → q < n → gt C q ≤ gt C p
/-- a heap from r on, but for the node h -/
structure Hole (C : List Int) (r n h : Nat) : Prop where
  rh : r ≤ h
  o : ∀ p q, r ≤ p → p ≠ h → (q = 2 * p + 1 ∨ q = 2 * p + 2) → q < n → gt C q ≤ gt C p
  u : ∀ p q, r ≤ p → (h = 2 * p + 1 ∨ h = 2 * p + 2) → (q = 2 * h + 1 ∨ q = 2 * h + 2) → q < n → gt C q ≤ gt C p
theorem Hole.stop {C : List Int} {r n h : Nat} (H : Hole C r n h) (hs : ∀ q, (q = 2 * h + 1 ∨ q = 2 * h + 2) → q < n → gt C q ≤ gt C h) : Heap C r n := by
  intro p q hp hq hn
  by_cases e : p = h
  · subst e; exact hs q hq hn
  · exact H.o p q hp e hq hn
theorem Hole.step {C : List Int} {r n h c : Nat} (H : Hole C r n h) (hn : n ≤ C.length) (hc : c = 2 * h + 1 ∨ c = 2 * h + 2) (hcn : c < n) (hb : ∀ q, (q = 2 * h + 1 ∨ q = 2 * h + 2) → q < n → gt C q ≤ gt C c) (hl : gt C h < gt C c) : Hole (swL C h c) r n c := by
  have g : ∀ k, gt (swL C h c) k = if k = c then gt C h else if k = h then gt C c else gt C k := fun k => gt_sw (by omega) (by omega)
  have hrh := H.rh
  refine ⟨by omega, fun p q hp hpc hq hqn => ?_, fun p q hp hpc hq hqn => ?_⟩
  · rw [g p, g q, if_neg hpc]
    by_cases e : p = h
    · rw [if_pos e]
      by_cases e2 : q = c
      · rw [if_pos e2]; omega
      · rw [if_neg e2, if_neg (by omega)]
        subst e
        exact hb q hq hqn
    · rw [if_neg e]
      by_cases e2 : q = c
      · exfalso; omega
      · rw [if_neg e2]
        by_cases e3 : q = h
        · rw [if_pos e3]
          subst e3
          exact H.u p c hp hq hc hcn
        · rw [if_neg e3]; exact H.o p q hp e hq hqn
  · obtain rfl : p = h := by omega
    rw [g p, g q, if_neg (by omega), if_pos rfl, if_neg (by omega), if_neg (by omega)]
    exact H.o c q (by omega) (by omega) hq hqn
theorem Heap.top {C : List Int} {n : Nat} (H : Heap C 0 n) : ∀ k, k < n → gt C k ≤ gt C 0 := by
  intro k
  induction k using Nat.strongRecOn with
  | _ k ih =>
    intro hk
    by_cases e : k = 0
    · subst e; exact Int.le_refl _
    · exact Int.le_trans (H ((k - 1) / 2) k (Nat.zero_le _) (by omega) hk) (ih ((k - 1) / 2) (by omega) (by omega))
theorem Heap.hole {C : List Int} {r n : Nat} (H : Heap C (r + 1) n) : Hole C r n r :=
  ⟨Nat.le_refl _, fun p q hp hpr hq hn => H p q (by omega) hq hn, fun p q hp hq _ _ => by omega⟩
theorem heap_far (C : List Int) (n : Nat) : Heap C (n / 2) n := fun p q hp hq hn => by omega
/-- what siftDown leaves: the same members below n, nothing else moved -/
structure Sft (C C' : List Int) (n : Nat) : Prop where
  perm : C'.Perm C
  far : ∀ k, n ≤ k → gt C' k = gt C k
  near : ∀ k, k < n → ∃ j, j < n ∧ gt C' k = gt C j
theorem Sft.refl (C : List Int) (n : Nat) : Sft C C n := ⟨List.Perm.refl _, fun _ _ => rfl, fun k hk => ⟨k, hk, rfl⟩⟩
theorem Sft.step {C C' : List Int} {n i j : Nat} (h : Sft C C' n) (hi : i < n) (hj : j < n) (hn : n ≤ C'.length) : Sft C (swL C' i j) n := by
  have g : ∀ k, gt (swL C' i j) k = if k = j then gt C' i else if k = i then gt C' j else gt C' k := fun k => gt_sw (by omega) (by omega)
  refine ⟨(sw_perm C' (by omega) (by omega)).trans h.perm, fun k hk => by rw [g k, if_neg (by omega), if_neg (by omega)]; exact h.far k hk, fun k hk => ?_⟩
  rw [g k]
  split
  · exact h.near i hi
  · split
    · exact h.near j hj
    · exact h.near k hk
/-- the second half of heapSort -/
structure Hs (C : List Int) (m : Nat) : Prop where
  heap : Heap C 0 m
  srt : ∀ a b, m ≤ a → a < b → b < C.length → gt C a ≤ gt C b
  cut : ∀ a b, a < m → m ≤ b → b < C.length → gt C a ≤ gt C b
theorem Hs.step {C C' : List Int} {e : Nat} (h : Hs C (e + 1)) (he : 0 < e) (hl : e < C.length) (hs : Sft (swL C 0 e) C' e) (hh : Heap C' 0 e) : Hs C' e := by
  have g : ∀ k, gt (swL C 0 e) k = if k = e then gt C 0 else if k = 0 then gt C e else gt C k := fun k => gt_sw (by omega) (by omega)
  have hlen : C'.length = C.length := by have := hs.perm.length_eq; rw [sw_len] at this; exact this
  have near : ∀ k, k < e → ∃ j, j < e + 1 ∧ gt C' k = gt C j := fun k hk => by
    obtain ⟨j, hj, ej⟩ := hs.near k hk
    rw [ej, g j, if_neg (by omega)]
    by_cases z : j = 0
    · rw [if_pos z]; exact ⟨e, by omega, rfl⟩
    · rw [if_neg z]; exact ⟨j, by omega, rfl⟩
  have far : ∀ k, e < k → gt C' k = gt C k := fun k hk => by rw [hs.far k (by omega), g k, if_neg (by omega), if_neg (by omega)]
  have at_e : gt C' e = gt C 0 := by rw [hs.far e (Nat.le_refl _), g e, if_pos rfl]
  refine ⟨hh, fun a b ha hab hb => ?_, fun a b ha hb hbl => ?_⟩
  · rw [hlen] at hb
    rw [far b (by omega)]
    by_cases z : a = e
    · rw [z, at_e]; exact h.cut 0 b (by omega) (by omega) hb
    · rw [far a (by omega)]; exact h.srt a b (by omega) hab hb
  · rw [hlen] at hbl
    obtain ⟨j, hj, ej⟩ := near a ha
    rw [ej]
    by_cases z : b = e
    · rw [z, at_e]; exact h.heap.top j hj
    · rw [far b (by omega)]; exact h.cut j b hj (by omega) hbl
theorem Hs.first {C : List Int} (h : Heap C 0 C.length) : Hs C C.length := ⟨h, fun a b h1 h2 h3 => by omega, fun a b h1 h2 h3 => by omega⟩
theorem Hs.last {C : List Int} {m : Nat} (h : Hs C m) (hm : m ≤ 1) : Srt C := by
  intro a b hab hb
  by_cases z : m ≤ a
  · exact h.srt a b z hab hb
  · exact h.cut a b (by omega) (by omega) hb
end Go.Proofs.Qxb6500773aGreat
