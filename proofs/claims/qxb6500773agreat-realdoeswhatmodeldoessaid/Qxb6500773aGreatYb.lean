import Derived.Test.Qxb6500773aGreatYa
namespace Go.Proofs.Qxb6500773aGreat
open Go.RowKit

/-! ### Words and numbers of a token -/
theorem cutX_len {T : Nat → Int} {n : Nat} {X : List Int} (hx : TX T n X) {o e : Nat} (he : e ≤ n) : (cutX X o e).length = e - o := by
  unfold cutX
  rw [List.length_drop, List.length_take, hx.1]
  omega
theorem cutX_at {T : Nat → Int} {n : Nat} {X : List Int} (hx : TX T n X) {o e : Nat} (he : e ≤ n) {i : Nat} (hi : i < e - o) : (cutX X o e)[i]? = some (T (o + i)) := by
  unfold cutX
  rw [List.getElem?_drop, List.getElem?_take, if_pos (by omega)]
  have hl : o + i < X.length := by rw [hx.1]; omega
  rw [List.getElem?_eq_getElem hl, hx.2 _ _ (List.getElem?_eq_getElem hl)]
theorem wordB_cut {T : Nat → Int} {n : Nat} {X : List Int} (hx : TX T n X) {o e : Nat} (he : e ≤ n) (d : List Nat) : wordB T o e d = true ↔ cutX X o e = d.map (fun x : Nat => (x : Int)) := by
  unfold wordB
  rw [Bool.and_eq_true, decide_eq_true_eq, decide_eq_true_eq]
  constructor
  · rintro ⟨h1, h2⟩
    apply List.ext_getElem?
    intro i
    by_cases hi : i < d.length
    · rw [cutX_at hx he (by omega), h2 i hi, List.getElem?_map, List.getElem?_eq_getElem hi, List.getD_eq_getElem?_getD, List.getElem?_eq_getElem hi]
      rfl
    · rw [List.getElem?_eq_none (by rw [cutX_len hx he]; omega), List.getElem?_eq_none (by rw [List.length_map]; omega)]
  · intro h
    have hl : e - o = d.length := by
      have := congrArg List.length h
      rw [cutX_len hx he, List.length_map] at this
      exact this
    refine ⟨hl, fun i hi => ?_⟩
    have h1 := cutX_at hx he (o := o) (i := i) (by omega)
    rw [h, List.getElem?_map, List.getElem?_eq_getElem hi] at h1
    rw [List.getD_eq_getElem?_getD, List.getElem?_eq_getElem hi]
    simp at h1 ⊢
    exact h1.symm
theorem dgM_P (x : Int) : dgM x = digitP x := by
  unfold dgM digitP
  by_cases h1 : x < 48
  · simp [h1, show ¬ 48 ≤ x by omega]
  · by_cases h2 : 57 < x
    · simp [h2, show ¬ x ≤ 57 by omega]
    · simp [h1, h2, show 48 ≤ x by omega, show x ≤ 57 by omega]
theorem nbV_dig (Y : List Int) : nbV Y = digV Y 0 := by
  have h : ∀ (Y : List Int) (v : Int), Y.foldl (fun v x => v * 10 + (x - 48)) v = digV Y v := by
    intro Y
    induction Y with
    | nil => intro v; rfl
    | cons d Y ih => intro v; exact ih _
  exact h Y 0
theorem digV_pow : ∀ (W : List Int) (v : Int), (∀ x ∈ W, 48 ≤ x) → 0 ≤ v → v * 10 ^ W.length ≤ digV W v
  | [], v, _, _ => by simp [digV]
  | d :: W, v, h, hv => by
    have hd := h d (by simp)
    have ih := digV_pow W (v * 10 + (d - 48)) (fun x hx => h x (by simp [hx])) (by omega)
    show _ ≤ digV W (v * 10 + (d - 48))
    refine Int.le_trans ?_ ih
    rw [List.length_cons, Int.pow_succ, Int.mul_comm (10 ^ W.length) 10, ← Int.mul_assoc]
    refine Int.mul_le_mul_of_nonneg_right (by omega) ?_
    exact Int.pow_nonneg (by decide)
theorem sgM_val : ∀ (X : List Int), digV (sgM X) 0 = digV X 0
  | [] => rfl
  | x :: X => by
    unfold sgM
    split
    · next h => subst h; exact sgM_val X
    · rfl
theorem sgM_head : ∀ (X : List Int), sgM X = [] ∨ ∃ x Y, sgM X = x :: Y ∧ x ≠ 48
  | [] => .inl rfl
  | x :: X => by
    unfold sgM
    split
    · exact sgM_head X
    · next h => exact .inr ⟨x, X, rfl, h⟩
theorem numM_eq {X : List Int} (hd : ∀ x ∈ X, 48 ≤ x ∧ x ≤ 57) {lim : Int} (hl : lim < 10000000000) : numM X lim = if lim < nbV X then -1 else nbV X := by
  have e : nbV (sgM X) = nbV X := by rw [nbV_dig, nbV_dig, sgM_val]
  unfold numM
  rw [e]
  by_cases h10 : 10 < (sgM X).length
  · rw [if_pos h10]
    rcases sgM_head X with h | ⟨x, Y, h, hx⟩
    · rw [h] at h10; simp at h10
    · have hm : ∀ z ∈ sgM X, 48 ≤ z ∧ z ≤ 57 := fun z hz => hd z (sgM_mem hz)
      rw [h] at h10 hm
      have hx1 := hm x (by simp)
      have h1 : (x - 48) * 10 ^ Y.length ≤ digV Y (x - 48) := digV_pow Y (x - 48) (fun z hz => (hm z (by simp [hz])).1) (by omega)
      have h2 : nbV X = digV Y (x - 48) := by
        rw [nbV_dig, ← sgM_val, h]
        show digV Y (0 * 10 + (x - 48)) = _
        rw [Int.zero_mul, Int.zero_add]
      have h3 : (1 : Int) * 10 ^ Y.length ≤ (x - 48) * 10 ^ Y.length := Int.mul_le_mul_of_nonneg_right (by omega) (Int.pow_nonneg (by decide))
      have h4 : (10000000000 : Int) ≤ 10 ^ Y.length := by
        have h5 := Nat.pow_le_pow_right (n := 10) (by omega) (show 10 ≤ Y.length by simp at h10; omega)
        have e2 : (10 : Nat) ^ 10 = 10000000000 := by decide
        rw [e2] at h5
        have e3 : ((10 ^ Y.length : Nat) : Int) = 10 ^ Y.length := by rw [Int.natCast_pow]; rfl
        rw [← e3]
        omega
      rw [if_pos (by rw [h2]; omega)]
  · rw [if_neg h10]
/-- the digits of a token -/
theorem digL_big {T : Nat → Int} {n : Nat} {X : List Int} (hx : TX T n X) {e : Nat} (he : e ≤ n) (lim : Int) : ∀ (k i : Nat) (v : Int), e - i ≤ k → (∀ x ∈ cutX X i e, digitP x = true) → ∃ v', digL T e lim (e - i) i v true = some (v', true)
  | 0, i, v, hk, _ => ⟨v, digL_end _ _ _ _ (by omega)⟩
  | k + 1, i, v, hk, hd => by
    by_cases hi : i < e
    · rw [cutX_cons hx hi he] at hd
      rw [digL_step _ _ _ _ hi, if_pos (hd _ (by simp)), if_pos rfl]
      exact digL_big hx he lim k (i + 1) v (by omega) (fun x hx => hd x (by simp [hx]))
    · exact ⟨v, digL_end _ _ _ _ hi⟩
theorem digP_rng {x : Int} (h : digitP x = true) : 48 ≤ x ∧ x ≤ 57 := by
  unfold digitP at h
  rw [Bool.and_eq_true, decide_eq_true_eq, decide_eq_true_eq] at h
  exact h
theorem digL_no {T : Nat → Int} {n : Nat} {X : List Int} (hx : TX T n X) {e : Nat} (he : e ≤ n) (lim : Int) : ∀ (k i : Nat) (v : Int) (g : Bool), e - i ≤ k → (¬ ∀ x ∈ cutX X i e, digitP x = true) → digL T e lim (e - i) i v g = none
  | 0, i, v, g, hk, hn => absurd (fun x hx' => by rw [show cutX X i e = [] from List.length_eq_zero_iff.1 (by rw [cutX_len hx he]; omega)] at hx'; cases hx') hn
  | k + 1, i, v, g, hk, hn => by
    by_cases hi : i < e
    · rw [digL_step _ _ _ _ hi]
      by_cases hd : digitP (T i) = true
      · have hn2 : ¬ ∀ x ∈ cutX X (i + 1) e, digitP x = true := fun z => hn (fun x hx' => by
          rw [cutX_cons hx hi he] at hx'
          rcases List.mem_cons.1 hx' with y | y
          · rw [y]; exact hd
          · exact z x y)
        rw [if_pos hd]
        split
        · exact digL_no hx he lim k (i + 1) _ _ (by omega) hn2
        · exact digL_no hx he lim k (i + 1) _ _ (by omega) hn2
      · rw [if_neg hd]
    · exact absurd (fun x hx' => by rw [show cutX X i e = [] from List.length_eq_zero_iff.1 (by rw [cutX_len hx he]; omega)] at hx'; cases hx') hn
theorem digL_cut {T : Nat → Int} {n : Nat} {X : List Int} (hx : TX T n X) {e : Nat} (he : e ≤ n) {lim : Int} : ∀ (k i : Nat) (v : Int), e - i ≤ k → 0 ≤ v → v ≤ lim → (∀ x ∈ cutX X i e, digitP x = true) →
    (lim < digV (cutX X i e) v → ∃ v', digL T e lim (e - i) i v false = some (v', true)) ∧ (¬ lim < digV (cutX X i e) v → digL T e lim (e - i) i v false = some (digV (cutX X i e) v, false))
  | 0, i, v, hk, hv, hl, hd => by
    have hc : cutX X i e = [] := List.length_eq_zero_iff.1 (by rw [cutX_len hx he]; omega)
    rw [hc]
    exact ⟨fun z => absurd z (by show ¬ lim < v; omega), fun _ => digL_end _ _ _ _ (by omega)⟩
  | k + 1, i, v, hk, hv, hl, hd => by
    by_cases hi : i < e
    · rw [cutX_cons hx hi he] at hd ⊢
      rw [digL_step _ _ _ _ hi]
      have hd0 := hd _ List.mem_cons_self
      have ha : ∀ x ∈ cutX X (i + 1) e, digitP x = true := fun x hx => hd x (List.mem_cons_of_mem _ hx)
      have hr := digP_rng hd0
      rw [if_pos hd0, if_neg (by decide), show digV (T i :: cutX X (i + 1) e) v = digV (cutX X (i + 1) e) (v * 10 + (T i - 48)) from rfl]
      by_cases hb : lim < v * 10 + (T i - 48)
      · rw [show decide (lim < v * 10 + (T i - 48)) = true from decide_eq_true hb]
        have hm := digV_mono (cutX X (i + 1) e) (v * 10 + (T i - 48)) (fun x hx => (digP_rng (ha x hx)).1) (by omega)
        exact ⟨fun _ => digL_big hx he lim k (i + 1) _ (by omega) ha, fun z => absurd (show lim < _ by omega) z⟩
      · rw [show decide (lim < v * 10 + (T i - 48)) = false from decide_eq_false hb]
        exact digL_cut hx he (lim := lim) k (i + 1) (v * 10 + (T i - 48)) (by omega) (by omega) (by omega) ha
    · have hc : cutX X i e = [] := List.length_eq_zero_iff.1 (by rw [cutX_len hx he]; omega)
      rw [hc]
      exact ⟨fun z => absurd z (by show ¬ lim < v; omega), fun _ => digL_end _ _ _ _ hi⟩
theorem digM_iff {Z : List Int} (h : Z ≠ []) : digM Z = true ↔ ∀ x ∈ Z, digitP x = true := by
  unfold digM
  rw [Bool.and_eq_true, List.all_eq_true, decide_eq_true_eq]
  constructor
  · rintro ⟨h1, _⟩ x hx
    rw [← dgM_P]; exact h1 x hx
  · intro h1
    exact ⟨fun x hx => by rw [dgM_P]; exact h1 x hx, List.length_pos_iff.2 h⟩
/-- digits from i on: value and class, with or without a minus -/
theorem numR_cut {T : Nat → Int} {n : Nat} {X : List Int} (hx : TX T n X) {i e : Nat} (hi : i < e) (he : e ≤ n) {lim : Int} (h0 : 0 ≤ lim) (hl : lim < 10000000000) (neg : Bool) :
    numR neg (digL T e lim (e - i) i 0 false) = if digM (cutX X i e) = true then (if numM (cutX X i e) lim < 0 then (0, 1) else if neg = true then (if numM (cutX X i e) lim = 0 then (0, 0) else (-numM (cutX X i e) lim, 2)) else (numM (cutX X i e) lim, 2)) else (0, 0) := by
  have hne : cutX X i e ≠ [] := fun z => by have := cutX_len hx (o := i) he; rw [z] at this; simp at this; omega
  by_cases hd : ∀ x ∈ cutX X i e, digitP x = true
  · have h := digL_cut hx he (lim := lim) (e - i) i 0 (Nat.le_refl _) (Int.le_refl _) h0 hd
    have hm := numM_eq (X := cutX X i e) (fun x hx => digP_rng (hd x hx)) hl
    rw [nbV_dig] at hm
    have hp := digV_mono (cutX X i e) 0 (fun x hx => (digP_rng (hd x hx)).1) (Int.le_refl _)
    rw [if_pos ((digM_iff hne).2 hd)]
    by_cases hb : lim < digV (cutX X i e) 0
    · rw [if_pos hb] at hm
      obtain ⟨v', h⟩ := h.1 hb
      rw [h, hm, numR_some, if_pos rfl, if_pos (by decide)]
    · rw [if_neg hb] at hm
      rw [h.2 hb, hm, numR_some, if_neg (by decide), if_neg (show ¬ digV (cutX X i e) 0 < 0 by omega)]
  · have h := digL_no hx he lim (e - i) i 0 false (Nat.le_refl _) hd
    rw [h, if_neg (fun z => hd ((digM_iff hne).1 z))]
    rfl
theorem num_cut {T : Nat → Int} {n : Nat} {X : List Int} (hx : TX T n X) {o e : Nat} (ho : o < e) (he : e ≤ n) {lim : Int} (h0 : 0 ≤ lim) (hl : lim < 10000000000) :
    numP T o e lim false = if digM (cutX X o e) = true then (if numM (cutX X o e) lim < 0 then (0, 1) else (numM (cutX X o e) lim, 2)) else (0, 0) := by
  have h := numR_cut hx ho he h0 hl false
  unfold numP
  simp only [Bool.false_and, if_neg (show ¬ false = true by decide)]
  rw [if_neg (by omega), h]
  simp
theorem packP_0 : packP 0 = 0 := rfl
theorem from_pack {d : Int} (h0 : d ≠ 0) (h1 : -16777215 ≤ d ∧ d ≤ 16777215) : fromP d = (packP d, 0) := by
  unfold fromP
  rw [if_neg h0, if_neg (by omega)]
/-- the literal of a token -/
theorem lit_cut {T : Nat → Int} {n : Nat} {X : List Int} (hx : TX T n X) {o e : Nat} (ho : o < e) (he : e ≤ n) :
    litP (numP T o e 16777215 true) = (packP (litM (cutX X o e)).1, (litM (cutX X o e)).2) ∧ ((litM (cutX X o e)).2 = 0 → (numP T o e 16777215 true).2 = 2) := by
  have hb := litM_rng (cutX X o e)
  have hc := cutX_cons hx ho he
  have key : ∀ (neg : Bool) (Z : List Int) (R : Int × Int), R = (if digM Z = true then (if numM Z 16777215 < 0 then (0, 1) else if neg = true then (if numM Z 16777215 = 0 then (0, 0) else (-numM Z 16777215, 2)) else (numM Z 16777215, 2)) else (0, 0)) →
      litP R = (packP (tlM neg Z).1, (tlM neg Z).2) ∧ ((tlM neg Z).2 = 0 → R.2 = 2) := by
    intro neg Z R hR
    have hle := numM_le Z
    unfold tlM
    by_cases hd : digM Z = true
    · rw [if_pos hd] at hR ⊢
      by_cases hn : numM Z 16777215 < 0
      · rw [if_pos hn] at hR ⊢
        subst hR
        exact ⟨rfl, fun z => by cases z⟩
      · rw [if_neg hn] at hR ⊢
        cases neg with
        | true =>
          rw [if_pos rfl] at hR
          by_cases h0 : numM Z 16777215 = 0
          · rw [if_pos h0] at hR
            rw [if_pos ⟨rfl, h0⟩]
            subst hR
            exact ⟨rfl, fun z => by cases z⟩
          · rw [if_neg h0] at hR
            rw [if_neg (fun z => h0 z.2), if_pos rfl]
            subst hR
            refine ⟨?_, fun _ => rfl⟩
            unfold litP
            dsimp only
            rw [if_neg (by decide), if_neg (by decide), if_neg (by omega), from_pack (by omega) (by omega)]
        | false =>
          rw [if_neg (by decide)] at hR
          rw [if_neg (fun z => by cases z.1), if_neg (by decide)]
          subst hR
          refine ⟨?_, fun _ => rfl⟩
          unfold litP
          dsimp only
          rw [if_neg (by decide), if_neg (by decide)]
          by_cases h0 : numM Z 16777215 = 0
          · rw [if_pos h0, h0]; rfl
          · rw [if_neg h0, from_pack h0 (by omega)]
    · rw [if_neg hd] at hR ⊢
      subst hR
      exact ⟨rfl, fun z => by cases z⟩
  rw [hc]
  unfold litM
  dsimp only
  by_cases h45 : T o = 45
  · rw [if_pos h45]
    refine key true _ _ ?_
    unfold numP
    have hn : (true && (decide (o < e) && (T o == 45))) = true := by simp [ho, h45]
    dsimp only
    rw [hn, if_pos (show true = true from rfl), if_pos (show true = true from rfl)]
    by_cases h1 : o + 1 = e
    · rw [if_pos h1]
      have : cutX X (o + 1) e = [] := by rw [h1, cutX_self]
      rw [this]
      rfl
    · rw [if_neg h1]
      have := numR_cut hx (show o + 1 < e by omega) he (lim := 16777215) (by decide) (by decide) true
      rw [if_pos (show true = true from rfl)] at this
      exact this
  · rw [if_neg h45, ← hc]
    refine key false _ _ ?_
    unfold numP
    have hn : (true && (decide (o < e) && (T o == 45))) = false := by simp [h45]
    dsimp only
    rw [hn, if_neg (show ¬ false = true by decide), if_neg (by omega)]
    exact numR_cut hx ho he (lim := 16777215) (by decide) (by decide) false
end Go.Proofs.Qxb6500773aGreat
