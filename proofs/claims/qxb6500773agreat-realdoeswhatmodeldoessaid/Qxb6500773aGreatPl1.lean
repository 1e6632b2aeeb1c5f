import Derived.Test.Qxb6500773aGreatPr4
namespace Go.Proofs.Qxb6500773aGreat
set_option maxRecDepth 100000

/-! ### Printed text, read back -/
/-- From o on the text is W. -/
def Lies (T : Nat → Int) (n o : Nat) (W : List Int) : Prop := o + W.length ≤ n ∧ ∀ i x, W[i]? = some x → T (o + i) = x
theorem Lies.left {T : Nat → Int} {n o : Nat} {U W : List Int} (h : Lies T n o (U ++ W)) : Lies T n o U :=
  ⟨by have := h.1; rw [List.length_append] at this; omega, fun i x hx => h.2 i x (by rw [List.getElem?_append_left (List.getElem?_eq_some_iff.1 hx).1]; exact hx)⟩
theorem Lies.right {T : Nat → Int} {n o : Nat} {U W : List Int} (h : Lies T n o (U ++ W)) : Lies T n (o + U.length) W :=
  ⟨by have := h.1; rw [List.length_append] at this; omega, fun i x hx => by
    rw [Nat.add_assoc]
    exact h.2 (U.length + i) x (by rw [List.getElem?_append_right (by omega), show U.length + i - U.length = i by omega]; exact hx)⟩
/-- The seeking from p is the seeking from a place at o. -/
def Sk (T : Nat → Int) (n : Nat) (p : Plc) (o : Nat) : Prop := ∃ q : Plc, q.off = o ∧ seekF T n p = seekF T n q
theorem Sk.here (T : Nat → Int) (n : Nat) (p : Plc) : Sk T n p p.off := ⟨p, rfl, rfl⟩
theorem Sk.space {T : Nat → Int} {n : Nat} {p : Plc} {o : Nat} (h : Sk T n p o) (hn : o < n) (hs : spaceP (T o) = true) : Sk T n p (o + 1) := by
  obtain ⟨q, rfl, e⟩ := h
  unfold Sk
  rw [e, seekF_step hn]
  by_cases h10 : T q.off = 10
  · rw [if_pos h10]; exact ⟨⟨q.off + 1, q.line + 1, q.off + 1⟩, rfl, rfl⟩
  · rw [if_neg h10, if_pos (by
      unfold spaceP at hs
      simp [h10] at hs
      exact hs)]
    exact ⟨⟨q.off + 1, q.line, q.bol⟩, rfl, rfl⟩
theorem Sk.stop {T : Nat → Int} {n : Nat} {p : Plc} {o : Nat} (h : Sk T n p o) (hn : o < n) (hs : spaceP (T o) = false) (hc : T o ≠ 99) : ∃ q : Plc, q.off = o ∧ seekF T n p = (true, q) := by
  obtain ⟨q, rfl, e⟩ := h
  refine ⟨q, rfl, ?_⟩
  unfold spaceP at hs
  have h10 : T q.off ≠ 10 := fun z => by rw [z] at hs; simp at hs
  rw [e, seekF_step hn, if_neg h10, if_neg (by simp at hs; simp [hs.2]), if_neg (fun z => hc z.1)]
theorem Sk.fin {T : Nat → Int} {n : Nat} {p : Plc} (h : Sk T n p n) : ∃ q : Plc, seekF T n p = (false, q) := by
  obtain ⟨q, hq, e⟩ := h
  exact ⟨q, by rw [e, seekF_end (by omega)]⟩
theorem tokE_at {T : Nat → Int} {n : Nat} : ∀ (k o m : Nat), (∀ i, i < m → spaceP (T (o + i)) = false) → o + m < n → spaceP (T (o + m)) = true → m ≤ k → tokE T n k o = o + m
  | 0, o, m, _, _, _, hk => by rw [tokE]; omega
  | k + 1, o, 0, _, _, hs, _ => by rw [tokE, if_neg (by rw [Nat.add_zero] at hs; rw [hs]; simp)]; rfl
  | k + 1, o, m + 1, h, hn, hs, hk => by
    rw [tokE, if_pos ⟨by omega, h 0 (by omega)⟩]
    have := tokE_at (T := T) (n := n) k (o + 1) m (fun i hi => by have z := h (i + 1) (Nat.succ_lt_succ hi); rw [show o + (i + 1) = o + 1 + i by omega] at z; exact z) (by omega) (by rw [show o + 1 + m = o + (m + 1) by omega]; exact hs) (by omega)
    rw [this]
    omega
/-- A token: no white space, then white space. -/
theorem Lies.tok {T : Nat → Int} {n o : Nat} {W : List Int} {s : Int} (h : Lies T n o (W ++ [s])) (hw : ∀ x ∈ W, spaceP x = false) (hs : spaceP s = true) : tokE T n (n - o) o = o + W.length := by
  have h1 := h.1
  rw [List.length_append] at h1
  simp only [List.length_cons, List.length_nil] at h1
  have hl := h.right.2 0 s rfl
  rw [Nat.add_zero] at hl
  exact tokE_at _ o W.length (fun i hi => by rw [h.left.2 i _ (List.getElem?_eq_getElem hi)]; exact hw _ (List.getElem_mem hi)) (by omega) (by rw [hl]; exact hs) (by omega)
/-! ### Decimal digits -/
/-- The value of digits, the highest first. -/
def digV : List Int → Int → Int
  | [], v => v
  | d :: W, v => digV W (v * 10 + (d - 48))
theorem digV_app (U W : List Int) : ∀ v, digV (U ++ W) v = digV W (digV U v) := by
  induction U with
  | nil => intro v; rfl
  | cons d U ih => intro v; exact ih _
theorem digV_low : ∀ n : Nat, digV (lowD n).reverse 0 = n := by
  intro n
  induction n using Nat.strongRecOn with
  | ind n ih =>
    by_cases h : 10 ≤ n
    · rw [lowD_big h, List.reverse_cons, digV_app, ih (n / 10) (by omega)]
      show (((n / 10 : Nat) : Int) * 10 + (48 + ((n % 10 : Nat) : Int) - 48)) = n
      omega
    · rw [lowD_one h]
      show ((0 : Int) * 10 + (48 + (n : Int) - 48)) = n
      omega
theorem lowD_dig : ∀ n : Nat, ∀ x ∈ lowD n, 48 ≤ x ∧ x ≤ 57 := by
  intro n
  induction n using Nat.strongRecOn with
  | ind n ih =>
    intro x hx
    by_cases h : 10 ≤ n
    · rw [lowD_big h] at hx
      rcases List.mem_cons.1 hx with e | e
      · omega
      · exact ih (n / 10) (by omega) x e
    · rw [lowD_one h] at hx
      rcases List.mem_cons.1 hx with e | e
      · omega
      · cases e
theorem digV_mono : ∀ (W : List Int) (v : Int), (∀ x ∈ W, 48 ≤ x) → 0 ≤ v → v ≤ digV W v
  | [], v, _, _ => Int.le_refl _
  | d :: W, v, h, hv => by
    have := digV_mono W (v * 10 + (d - 48)) (fun x hx => h x (by simp [hx])) (by have := h d (by simp); omega)
    have h2 := h d (by simp)
    show v ≤ digV W (v * 10 + (d - 48))
    omega
theorem digL_val {T : Nat → Int} {e : Nat} {lim : Int} : ∀ (W : List Int) (i : Nat) (v : Int), i + W.length = e → (∀ j x, W[j]? = some x → T (i + j) = x) → (∀ x ∈ W, 48 ≤ x ∧ x ≤ 57) → 0 ≤ v → digV W v ≤ lim → digL T e lim (e - i) i v false = some (digV W v, false)
  | [], i, v, he, _, _, _, _ => by rw [digL_end _ _ _ _ (by simp at he; omega)]; rfl
  | d :: W, i, v, he, hT, hd, hv, hl => by
    rw [List.length_cons] at he
    have hd0 := hd d (by simp)
    have e0 : T i = d := hT 0 d rfl
    have hm := digV_mono W (v * 10 + (d - 48)) (fun x hx => (hd x (by simp [hx])).1) (by omega)
    have hl2 : digV W (v * 10 + (d - 48)) ≤ lim := hl
    rw [digL_step _ _ _ _ (by omega), e0, if_pos (by unfold digitP; simp; omega), if_neg (by decide), show decide (lim < v * 10 + (d - 48)) = false by simp; omega]
    exact digL_val W (i + 1) _ (by omega) (fun j x hx => by rw [show i + 1 + j = i + (j + 1) by omega]; exact hT (j + 1) x hx) (fun x hx => hd x (by simp [hx])) (by omega) hl2
/-- A number's own text. -/
theorem numP_dec {T : Nat → Int} {n o : Nat} {v : Int} (h : Lies T n o (decI v)) (hv : -16777215 ≤ v ∧ v ≤ 16777215) : numP T o (o + (decI v).length) 16777215 true = (v, 2) := by
  have hlen := lowD_len v.natAbs
  unfold numP
  dsimp only
  by_cases hneg : v < 0
  · have hdec : decI v = [45] ++ (lowD v.natAbs).reverse := by unfold decI; rw [if_pos hneg]
    rw [hdec] at h ⊢
    have e0 : T o = 45 := h.left.2 0 45 rfl
    have hr := h.right
    have hL : ([45] ++ (lowD v.natAbs).reverse : List Int).length = (lowD v.natAbs).length + 1 := by simp
    rw [hL]
    have hcond : (true && (decide (o < o + ((lowD v.natAbs).length + 1)) && (T o == 45))) = true := by rw [e0]; simp
    rw [hcond, if_pos rfl, if_neg (by omega)]
    rw [digL_val (lowD v.natAbs).reverse (o + 1) 0 (by rw [List.length_reverse]; omega) (fun j x hx => hr.2 j x hx) (fun x hx => lowD_dig _ x (List.mem_reverse.1 hx)) (Int.le_refl _) (by rw [digV_low]; omega)]
    rw [digV_low, numR_some, if_neg (by decide), if_pos rfl, if_neg (by omega)]
    rw [show -((v.natAbs : Nat) : Int) = v by omega]
  · have hdec : decI v = (lowD v.natAbs).reverse := by unfold decI; rw [if_neg hneg, List.nil_append]
    rw [hdec] at h ⊢
    obtain ⟨d, W, hW⟩ : ∃ d W, (lowD v.natAbs).reverse = d :: W := by
      cases hc : (lowD v.natAbs).reverse with
      | nil => have := congrArg List.length hc; rw [List.length_reverse] at this; simp at this; rw [this] at hlen; simp at hlen
      | cons d W => exact ⟨d, W, rfl⟩
    have hd := lowD_dig v.natAbs d (List.mem_reverse.1 (by rw [hW]; simp))
    have e0 : T o = d := h.2 0 d (by rw [hW]; rfl)
    have hcond : (true && (decide (o < o + (lowD v.natAbs).reverse.length) && (T o == 45))) = false := by rw [e0]; simp; intro _; omega
    rw [hcond, if_neg (show ¬ (if false = true then o + 1 else o) = o + (lowD v.natAbs).reverse.length by rw [if_neg (by decide), List.length_reverse]; omega), if_neg (show ¬ (false = true) by decide)]
    rw [digL_val (lowD v.natAbs).reverse o 0 rfl (fun j x hx => h.2 j x hx) (fun x hx => lowD_dig _ x (List.mem_reverse.1 hx)) (Int.le_refl _) (by rw [digV_low]; omega)]
    rw [digV_low, numR_some, if_neg (by decide), if_neg (by decide)]
    rw [show ((v.natAbs : Nat) : Int) = v by omega]
theorem decI_nosp {v : Int} : ∀ x ∈ decI v, spaceP x = false ∧ x ≠ 99 ∧ x ≠ 100 ∧ 0 ≤ x ∧ x < 256 := by
  intro x hx
  have key : x = 45 ∨ (48 ≤ x ∧ x ≤ 57) := by
    unfold decI at hx
    rcases List.mem_append.1 hx with e | e
    · split at e
      · rcases List.mem_cons.1 e with e | e
        · exact .inl e
        · cases e
      · cases e
    · exact .inr (lowD_dig _ x (List.mem_reverse.1 e))
  refine ⟨?_, by omega, by omega, by omega, by omega⟩
  unfold spaceP blankP
  simp
  omega
theorem decI_ne {v : Int} : decI v ≠ [] := fun z => by
  have := congrArg List.length z
  have h2 := lowD_len v.natAbs
  unfold decI at this
  rw [List.length_append, List.length_reverse] at this
  simp at this
  have h3 := congrArg List.length this.2
  rw [List.length_nil] at h3
  omega
theorem dim_pack {l : Int} (h : LitOk l) : packP (dimP l) = l ∧ dimP l ≠ 0 := by
  unfold packP dimP
  unfold LitOk at h
  by_cases h2 : l % 2 = 0
  · rw [if_pos h2, if_neg (by omega)]; omega
  · rw [if_neg h2, if_pos (by omega)]; omega
theorem litP_dim {l : Int} (h : LitOk l) : litP (dimP l, 2) = (l, 0) := by
  have hr := dimP_rng h
  have hp := dim_pack h
  unfold litP
  rw [if_neg (show ¬ (2 : Int) = 0 by decide), if_neg (show ¬ (2 : Int) = 1 by decide), if_neg hp.2]
  unfold fromP
  rw [if_neg hp.2, if_neg (by omega), hp.1]
end Go.Proofs.Qxb6500773aGreat
