import Derived.Test.Qxb6500773aPl3
namespace Go.Proofs.Qxb6500773a

/-! ### Texts of one token -/
theorem seek_stop {T : Nat → Int} {n : Nat} {p : Plc} (hn : p.off < n) (hs : spaceP (T p.off) = false) (hc : T p.off ≠ 99) : seekF T n p = (true, p) := by
  unfold spaceP at hs
  have h10 : T p.off ≠ 10 := fun z => by rw [z] at hs; simp at hs
  rw [seekF_step hn, if_neg h10, if_neg (by simp at hs; simp [hs.2]), if_neg (fun z => hc z.1)]
/-- The header read. -/
theorem hd_back2 {T : Nat → Int} {n : Nat} {nv : Int} {k : Nat} (hnv : 0 ≤ nv ∧ nv ≤ 16777215) (hk : k ≤ 2147483647) (h : Lies T n 0 (hdT nv k)) :
    hdP T n ⟨0, 1, 0⟩ = .ok nv k ⟨(hdT nv k).length - 1, 1, 0⟩ ∧ T ((hdT nv k).length - 1) = 10 ∧ 1 ≤ (hdT nv k).length := by
  have hln := h.1
  unfold hdT at h hln
  have hA := h.left
  have hB := h.right
  simp only [List.length_append, List.length_cons, List.length_nil] at hln
  rw [show 0 + ([112, 32, 99, 110, 102, 32] : List Int).length = 6 from rfl] at hB
  have t0 : T 0 = 112 := hA.2 0 112 rfl
  have t1 : T 1 = 32 := hA.2 1 32 rfl
  have t2 : T 2 = 99 := hA.2 2 99 rfl
  have t3 : T 3 = 110 := hA.2 3 110 rfl
  have t4 : T 4 = 102 := hA.2 4 102 rfl
  have t5 : T 5 = 32 := hA.2 5 32 rfl
  have hB1 := hB.left
  have hC := hB.right
  have hC1 := hC.left
  have hD := hC.right
  have hD1 := hD.left
  have hE1 := hD.right
  have lA := decI_len_pos nv
  have lB := decI_len_pos (k : Int)
  obtain ⟨d1, W1, e1, s1⟩ := decI_head (v := nv)
  obtain ⟨d2, W2, e2, s2⟩ := decI_head (v := (k : Int))
  have t6 : T 6 = d1 := hB1.2 0 d1 (by rw [e1]; rfl)
  have tC : T (6 + (decI nv).length) = 32 := hC1.2 0 32 rfl
  have tD : T (6 + (decI nv).length + 1) = d2 := hD1.2 0 d2 (by rw [e2]; rfl)
  have tE : T (6 + (decI nv).length + 1 + (decI (k : Int)).length) = 10 := hE1.2 0 10 rfl
  have hB2 : Lies T n 6 (decI nv ++ [32]) := by
    have : Lies T n 6 ((decI nv ++ [32]) ++ (decI (k : Int) ++ [10])) := by rw [List.append_assoc]; exact hB
    exact this.left
  have hs := seek_stop (T := T) (n := n) (p := ⟨0, 1, 0⟩) (by show 0 < n; omega) (by show spaceP (T 0) = false; rw [t0]; decide) (by show T 0 ≠ 99; rw [t0]; decide)
  obtain ⟨q, hqq⟩ : ∃ q : Plc, (⟨0, 1, 0⟩ : Plc) = q := ⟨_, rfl⟩
  have hq : q.off = 0 := by rw [← hqq]
  have lq : q.line = 1 ∧ q.bol = 0 := by rw [← hqq]; exact ⟨rfl, rfl⟩
  rw [hqq] at hs
  have k1 : tokO T n 0 = 1 := (show Lies T n 0 ([112] ++ [32]) from ⟨by show 0 + 2 ≤ n; omega, fun i x hx => hA.2 i x (by
    match i, hx with
    | 0, hx => exact hx
    | 1, hx => exact hx)⟩).tok (fun x hx => by rw [List.mem_singleton.1 hx]; decide) (by decide)
  have k2 : tokO T n 2 = 5 := (show Lies T n 2 ([99, 110, 102] ++ [32]) from ⟨by show 2 + 4 ≤ n; omega, fun i x hx => by
    match i, hx with
    | 0, hx => cases hx; exact t2
    | 1, hx => cases hx; exact t3
    | 2, hx => cases hx; exact t4
    | 3, hx => cases hx; exact t5⟩).tok (fun x hx => by simp at hx; rcases hx with rfl | rfl | rfl <;> decide) (by decide)
  have k3 : tokO T n 6 = 6 + (decI nv).length := hB2.tok (fun x hx => (decI_nosp x hx).1) (by decide)
  have k4 : tokO T n (6 + (decI nv).length + 1) = 6 + (decI nv).length + 1 + (decI (k : Int)).length := hD.tok (fun x hx => (decI_nosp x hx).1) (by decide)
  have w1 : wordB T 0 1 [112] = true := wordB_at (W := [112]) (n := n) ⟨by show 0 + 1 ≤ n; omega, fun i x hx => by
    match i, hx with
    | 0, hx => cases hx; exact t0
    | i + 1, hx => cases hx⟩
  have w2 : wordB T 2 5 [99, 110, 102] = true := wordB_at (W := [99, 110, 102]) (n := n) ⟨by show 2 + 3 ≤ n; omega, fun i x hx => by
    match i, hx with
    | 0, hx => cases hx; exact t2
    | 1, hx => cases hx; exact t3
    | 2, hx => cases hx; exact t4
    | i + 3, hx => cases hx⟩
  have o1 : (tokQ T n q).off = 1 := by show tokO T n q.off = 1; rw [hq, k1]
  have o2 : (blkQ T n (tokQ T n q)).off = 2 := by rw [blkQ_one (by rw [o1]; omega) (by rw [o1, t1]; decide) (by rw [o1, t2]; decide), o1]
  have m2 : hdP T n ⟨0, 1, 0⟩ = hdCnf T n (blkQ T n (tokQ T n q)) := by
    unfold hdP
    rw [hqq, hs]
    dsimp only
    rw [if_pos rfl, hq, k1, if_pos w1]
  rw [m2]
  have l2 : (blkQ T n (tokQ T n q)).line = 1 ∧ (blkQ T n (tokQ T n q)).bol = 0 := lq
  generalize blkQ T n (tokQ T n q) = q2 at l2 o2
  have o3 : (tokQ T n q2).off = 5 := by show tokO T n q2.off = 5; rw [o2, k2]
  have o4 : (blkQ T n (tokQ T n q2)).off = 6 := by rw [blkQ_one (by rw [o3]; omega) (by rw [o3, t5]; decide) (by rw [o3, t6]; exact (sp_blank s1).1), o3]
  have m3 : hdCnf T n q2 = hdNum1 T n (blkQ T n (tokQ T n q2)) := by
    unfold hdCnf
    rw [o2, moreP_t (by omega) (by rw [t2]; decide), if_pos rfl, k2, if_pos w2]
  rw [m3]
  have l3 : (blkQ T n (tokQ T n q2)).line = 1 ∧ (blkQ T n (tokQ T n q2)).bol = 0 := l2
  generalize blkQ T n (tokQ T n q2) = q3 at l3 o4
  have o5 : (tokQ T n q3).off = 6 + (decI nv).length := by show tokO T n q3.off = _; rw [o4, k3]
  have o6 : (blkQ T n (tokQ T n q3)).off = 6 + (decI nv).length + 1 := by rw [blkQ_one (by rw [o5]; omega) (by rw [o5, tC]; decide) (by rw [o5, tD]; exact (sp_blank s2).1), o5]
  have m4 : hdNum1 T n q3 = hdNum2 T n nv (blkQ T n (tokQ T n q3)) := by
    unfold hdNum1
    rw [o4, moreP_t (by omega) (by rw [t6]; exact (sp_blank s1).2), if_pos rfl, k3, numP_nn false hB1 hnv]
    unfold hdN1
    rw [if_neg (show ¬ (2 : Int) = 0 by decide), if_neg (show ¬ (2 : Int) = 1 by decide)]
  rw [m4]
  have l4 : (blkQ T n (tokQ T n q3)).line = 1 ∧ (blkQ T n (tokQ T n q3)).bol = 0 := l3
  generalize blkQ T n (tokQ T n q3) = q4 at l4 o6
  have o7 : (tokQ T n q4).off = 6 + (decI nv).length + 1 + (decI (k : Int)).length := by show tokO T n q4.off = _; rw [o6, k4]
  have o8 : (blkQ T n (tokQ T n q4)).off = 6 + (decI nv).length + 1 + (decI (k : Int)).length := by rw [blkQ_stay (by rw [o7, tE]; decide), o7]
  have m5 : hdNum2 T n nv q4 = hdEnd T n nv k (blkQ T n (tokQ T n q4)) := by
    unfold hdNum2
    rw [o6, moreP_t (by omega) (by rw [tD]; exact (sp_blank s2).2), if_pos rfl, k4, numP_nn (o := 6 + (decI nv).length + 1) (lim := 2147483647) false hD1 ⟨by omega, by omega⟩]
    unfold hdN2
    rw [if_neg (show ¬ (2 : Int) = 0 by decide), if_neg (show ¬ (2 : Int) = 1 by decide)]
  rw [m5]
  have l5 : (blkQ T n (tokQ T n q4)).line = 1 ∧ (blkQ T n (tokQ T n q4)).bol = 0 := l4
  generalize blkQ T n (tokQ T n q4) = q5 at l5 o8
  have hl : (hdT nv k).length = 6 + (decI nv).length + 1 + (decI (k : Int)).length + 1 := by
    unfold hdT
    simp only [List.length_append, List.length_cons, List.length_nil]
    omega
  have hq5 : q5 = ⟨(hdT nv k).length - 1, 1, 0⟩ := by
    obtain ⟨a, b, c⟩ := q5
    dsimp only at o8 l5
    rw [hl, o8, l5.1, l5.2, Nat.add_sub_cancel]
  refine ⟨?_, by rw [hl, Nat.add_sub_cancel]; exact tE, by omega⟩
  unfold hdEnd
  rw [if_neg (by rw [o8]; unfold moreP; rw [tE]; simp), hq5]
/-! ### Numerals -/
theorem digL_over {T : Nat → Int} {e : Nat} {lim : Int} : ∀ (W : List Int) (i : Nat) (v : Int) (g : Bool), i + W.length = e → (∀ j x, W[j]? = some x → T (i + j) = x) → (∀ x ∈ W, 48 ≤ x ∧ x ≤ 57) → 0 ≤ v → (g = true ∨ lim < digV W v ∧ v ≤ lim) → ∃ u, digL T e lim (e - i) i v g = some (u, true)
  | [], i, v, g, he, _, _, _, h => by
    rw [digL_end _ _ _ _ (by simp at he; omega)]
    rcases h with h | h
    · exact ⟨v, by rw [h]⟩
    · have : digV [] v = v := rfl
      omega
  | d :: W, i, v, g, he, hT, hd, hv, h => by
    rw [List.length_cons] at he
    have hd0 := hd d (by simp)
    have e0 : T i = d := hT 0 d rfl
    have hT' : ∀ j x, W[j]? = some x → T (i + 1 + j) = x := fun j x hx => by rw [show i + 1 + j = i + (j + 1) by omega]; exact hT (j + 1) x hx
    have hd' : ∀ x ∈ W, 48 ≤ x ∧ x ≤ 57 := fun x hx => hd x (by simp [hx])
    rw [digL_step _ _ _ _ (by omega), e0, if_pos (by unfold digitP; simp; omega)]
    cases g
    · rw [if_neg (by decide)]
      rcases h with h | h
      · cases h
      · have h2 : lim < digV W (v * 10 + (d - 48)) := h.1
        by_cases hb : lim < v * 10 + (d - 48)
        · rw [show decide (lim < v * 10 + (d - 48)) = true by simpa using hb]
          exact digL_over W (i + 1) _ true (by omega) hT' hd' (by omega) (.inl rfl)
        · rw [show decide (lim < v * 10 + (d - 48)) = false by simpa using hb]
          exact digL_over W (i + 1) _ false (by omega) hT' hd' (by omega) (.inr ⟨h2, by omega⟩)
    · rw [if_pos rfl]
      exact digL_over W (i + 1) v true (by omega) hT' hd' hv (.inl rfl)
/-- A numeral: a sign, then digits. -/
def numL (neg : Bool) (W : List Int) : List Int := (if neg = true then [45] else []) ++ W
def numV (neg : Bool) (W : List Int) : Int × Int := if 16777215 < digV W 0 then (0, 1) else if neg = true then (if digV W 0 = 0 then (0, 0) else (-(digV W 0), 2)) else (digV W 0, 2)
theorem numP_num {T : Nat → Int} {n o : Nat} {neg : Bool} {W : List Int} (h : Lies T n o (numL neg W)) (hW : W ≠ []) (hd : ∀ x ∈ W, 48 ≤ x ∧ x ≤ 57) : numP T o (o + (numL neg W).length) 16777215 true = numV neg W := by
  have hl : 1 ≤ W.length := by
    cases W with
    | nil => exact absurd rfl hW
    | cons d W => simp
  have key : ∀ i, i + W.length = o + (numL neg W).length → (∀ j x, W[j]? = some x → T (i + j) = x) → numR neg (digL T (o + (numL neg W).length) 16777215 (o + (numL neg W).length - i) i 0 false) = numV neg W := fun i hi hT => by
    unfold numV
    by_cases hb : 16777215 < digV W 0
    · obtain ⟨u, hu⟩ := digL_over (T := T) (e := o + (numL neg W).length) (lim := 16777215) W i 0 false hi hT hd (Int.le_refl _) (.inr ⟨hb, by decide⟩)
      rw [hu, if_pos hb, numR_some, if_pos rfl]
    · rw [digL_val W i 0 hi hT hd (Int.le_refl _) (by omega), if_neg hb, numR_some, if_neg (by decide)]
  unfold numP
  dsimp only
  cases neg
  · have hnl : numL false W = W := rfl
    rw [hnl] at h key ⊢
    obtain ⟨d, W', rfl⟩ : ∃ d W', W = d :: W' := by
      cases W with
      | nil => exact absurd rfl hW
      | cons d W => exact ⟨d, W, rfl⟩
    have hd0 := hd d (by simp)
    have e0 : T o = d := h.2 0 d rfl
    have h45 : (T o == 45) = false := by rw [e0, beq_eq_false_iff_ne]; omega
    rw [h45, Bool.and_false, Bool.and_false, show (if false = true then o + 1 else o) = o from rfl, if_neg (by omega)]
    exact key o rfl (fun j x hx => h.2 j x hx)
  · have hnl : numL true W = [45] ++ W := rfl
    rw [hnl] at h key ⊢
    have e0 : T o = 45 := h.left.2 0 45 rfl
    have hcond : (true && (decide (o < o + ([45] ++ W).length) && (T o == 45))) = true := by rw [e0]; simp
    rw [hcond, if_pos rfl, if_neg (by simp only [List.length_append, List.length_cons, List.length_nil]; omega)]
    exact key (o + 1) (by simp only [List.length_append, List.length_cons, List.length_nil]; omega) (fun j x hx => h.right.2 j x hx)
theorem numL_tok {neg : Bool} {W : List Int} (hd : ∀ x ∈ W, 48 ≤ x ∧ x ≤ 57) : ∀ x ∈ numL neg W, spaceP x = false ∧ x ≠ 99 ∧ x ≠ 100 ∧ 0 ≤ x ∧ x < 256 := by
  intro x hx
  have key : x = 45 ∨ (48 ≤ x ∧ x ≤ 57) := by
    unfold numL at hx
    rcases List.mem_append.1 hx with e | e
    · split at e
      · rcases List.mem_cons.1 e with e | e
        · exact .inl e
        · cases e
      · cases e
    · exact .inr (hd x e)
  refine ⟨?_, by omega, by omega, by omega, by omega⟩
  unfold spaceP blankP
  simp
  omega
theorem numV_cls (neg : Bool) (W : List Int) : (numV neg W).2 = 0 ∨ (numV neg W).2 = 1 ∨ (numV neg W).2 = 2 := by
  unfold numV
  split
  · exact .inr (.inl rfl)
  · split
    · split
      · exact .inl rfl
      · exact .inr (.inr rfl)
    · exact .inr (.inr rfl)
theorem numV_rng {neg : Bool} {W : List Int} (hd : ∀ x ∈ W, 48 ≤ x ∧ x ≤ 57) (h : (numV neg W).2 = 2) : -16777215 ≤ (numV neg W).1 ∧ (numV neg W).1 ≤ 16777215 := by
  have h0 := digV_mono W 0 (fun x hx => (hd x hx).1) (Int.le_refl _)
  unfold numV at h ⊢
  split at h
  · cases h
  · next hb =>
    rw [if_neg hb]
    split at h
    · next hn =>
      rw [if_pos hn]
      split at h
      · cases h
      · next hz => rw [if_neg hz]; exact ⟨by show -16777215 ≤ -(digV W 0); omega, by show -(digV W 0) ≤ 16777215; omega⟩
    · next hn => rw [if_neg hn]; exact ⟨by show -16777215 ≤ digV W 0; omega, by show digV W 0 ≤ 16777215; omega⟩
end Go.Proofs.Qxb6500773a
