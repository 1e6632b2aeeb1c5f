import Derived.Test.Qxb6500773aGreatPl2
import Derived.Test.Qxb6500773aGreatFp1
namespace Go.Proofs.Qxb6500773aGreat
set_option maxRecDepth 100000

/-! ### A printed formula, read back -/
theorem numP_nn {T : Nat → Int} {n o : Nat} {v lim : Int} (sg : Bool) (h : Lies T n o (decI v)) (hv : 0 ≤ v ∧ v ≤ lim) : numP T o (o + (decI v).length) lim sg = (v, 2) := by
  have hlen := lowD_len v.natAbs
  unfold numP
  dsimp only
  have hdec : decI v = (lowD v.natAbs).reverse := by unfold decI; rw [if_neg (by omega), List.nil_append]
  rw [hdec] at h ⊢
  obtain ⟨d, W, hW⟩ : ∃ d W, (lowD v.natAbs).reverse = d :: W := by
    cases hc : (lowD v.natAbs).reverse with
    | nil => have := congrArg List.length hc; rw [List.length_reverse] at this; simp at this; rw [this] at hlen; simp at hlen
    | cons d W => exact ⟨d, W, rfl⟩
  have hd := lowD_dig v.natAbs d (List.mem_reverse.1 (by rw [hW]; simp))
  have e0 : T o = d := h.2 0 d (by rw [hW]; rfl)
  have h45 : (T o == 45) = false := by rw [e0, beq_eq_false_iff_ne]; omega
  rw [h45, Bool.and_false, Bool.and_false, if_neg (show ¬ (if false = true then o + 1 else o) = o + (lowD v.natAbs).reverse.length by rw [if_neg (by decide), List.length_reverse]; omega), if_neg (show ¬ (false = true) by decide)]
  rw [digL_val (lowD v.natAbs).reverse o 0 rfl (fun j x hx => h.2 j x hx) (fun x hx => lowD_dig _ x (List.mem_reverse.1 hx)) (Int.le_refl _) (by rw [digV_low]; omega)]
  rw [digV_low, numR_some, if_neg (by decide), if_neg (by decide)]
  rw [show ((v.natAbs : Nat) : Int) = v by omega]
theorem blkQ_stay {T : Nat → Int} {n : Nat} {p : Plc} (h : blankP (T p.off) = false) : (blkQ T n p).off = p.off := by
  show blkE T n (n - p.off) p.off = p.off
  cases n - p.off with
  | zero => rfl
  | succ k => rw [blkE, if_neg (fun z => by rw [h] at z; cases z.2)]
theorem blkQ_one {T : Nat → Int} {n : Nat} {p : Plc} (hn : p.off < n) (h : blankP (T p.off) = true) (h2 : blankP (T (p.off + 1)) = false) : (blkQ T n p).off = p.off + 1 := by
  show blkE T n (n - p.off) p.off = p.off + 1
  rw [show n - p.off = n - (p.off + 1) + 1 by omega, blkE, if_pos ⟨hn, h⟩]
  cases n - (p.off + 1) with
  | zero => rfl
  | succ k => rw [blkE, if_neg (fun z => by rw [h2] at z; cases z.2)]
theorem sp_blank {x : Int} (h : spaceP x = false) : blankP x = false ∧ x ≠ 10 := by
  unfold spaceP at h
  rw [Bool.or_eq_false_iff] at h
  exact ⟨h.2, by have := h.1; rw [beq_eq_false_iff_ne] at this; exact this⟩
theorem decI_len_pos (v : Int) : 1 ≤ (decI v).length := by
  cases hc : decI v with
  | nil => exact absurd hc decI_ne
  | cons d W => simp
theorem decI_head {v : Int} : ∃ d W, decI v = d :: W ∧ spaceP d = false := by
  cases hc : decI v with
  | nil => exact absurd hc decI_ne
  | cons d W => exact ⟨d, W, rfl, (decI_nosp (v := v) d (by rw [hc]; simp)).1⟩
theorem moreP_t {T : Nat → Int} {n o : Nat} (hn : o < n) (h : T o ≠ 10) : moreP T n o = true := by
  unfold moreP
  simp [hn, h]
theorem wordB_at {T : Nat → Int} {n o : Nat} {W : List Nat} (h : Lies T n o (W.map Int.ofNat)) : wordB T o (o + W.length) W = true := by
  unfold wordB
  rw [Bool.and_eq_true_iff]
  refine ⟨by simp, ?_⟩
  rw [decide_eq_true_iff]
  intro i hi
  have e1 := List.getElem?_eq_getElem hi
  rw [h.2 i (Int.ofNat W[i]) (by rw [List.getElem?_map, e1]; rfl), List.getD_eq_getElem?_getD, e1]
  rfl
/-- The header read. -/
theorem hd_back {T : Nat → Int} {n : Nat} {nv : Int} {k : Nat} (hnv : 0 ≤ nv ∧ nv ≤ 16777215) (hk : k ≤ 2147483647) (h : Lies T n 0 (hdT nv k)) :
    ∃ p, hdP T n ⟨0, 1, 0⟩ = .ok nv k p ∧ Sk T n p (hdT nv k).length := by
  have hln := h.1
  unfold hdT at h hln
  have hA := h.left
  have hB := h.right
  simp only [List.length_append, List.length_cons, List.length_nil] at hln
  rw [show 0 + ([112, 32, 99, 110, 102, 32] : List Int).length = 6 from rfl] at hB
  have t0 : T 0 = 112 := hA.2 0 112 rfl
  have t1 : T 1 = 32 := hA.2 1 32 rfl
  have t2 : T 2 = 99 := hA.2 2 99 rfl
  have t3 : T 3 = 110 := hA.2 3 110 rfl
  have t4 : T 4 = 102 := hA.2 4 102 rfl
  have t5 : T 5 = 32 := hA.2 5 32 rfl
  have hB1 := hB.left
  have hC := hB.right
  have hC1 := hC.left
  have hD := hC.right
  have hD1 := hD.left
  have hE1 := hD.right
  have lA := decI_len_pos nv
  have lB := decI_len_pos (k : Int)
  obtain ⟨d1, W1, e1, s1⟩ := decI_head (v := nv)
  obtain ⟨d2, W2, e2, s2⟩ := decI_head (v := (k : Int))
  have t6 : T 6 = d1 := hB1.2 0 d1 (by rw [e1]; rfl)
  have tC : T (6 + (decI nv).length) = 32 := hC1.2 0 32 rfl
  have tD : T (6 + (decI nv).length + 1) = d2 := hD1.2 0 d2 (by rw [e2]; rfl)
  have tE : T (6 + (decI nv).length + 1 + (decI (k : Int)).length) = 10 := hE1.2 0 10 rfl
  have hB2 : Lies T n 6 (decI nv ++ [32]) := by
    have : Lies T n 6 ((decI nv ++ [32]) ++ (decI (k : Int) ++ [10])) := by rw [List.append_assoc]; exact hB
    exact this.left
  obtain ⟨q, hq, hs⟩ := (Sk.here T n ⟨0, 1, 0⟩).stop (by show 0 < n; omega) (by show spaceP (T 0) = false; rw [t0]; decide) (by show T 0 ≠ 99; rw [t0]; decide)
  rw [show (⟨0, 1, 0⟩ : Plc).off = 0 from rfl] at hq
  have k1 : tokO T n 0 = 1 := (show Lies T n 0 ([112] ++ [32]) from ⟨by show 0 + 2 ≤ n; omega, fun i x hx => hA.2 i x (by
    match i, hx with
    | 0, hx => exact hx
    | 1, hx => exact hx)⟩).tok (fun x hx => by rw [List.mem_singleton.1 hx]; decide) (by decide)
  have k2 : tokO T n 2 = 5 := (show Lies T n 2 ([99, 110, 102] ++ [32]) from ⟨by show 2 + 4 ≤ n; omega, fun i x hx => by
    match i, hx with
    | 0, hx => cases hx; exact t2
    | 1, hx => cases hx; exact t3
    | 2, hx => cases hx; exact t4
    | 3, hx => cases hx; exact t5⟩).tok (fun x hx => by simp at hx; rcases hx with rfl | rfl | rfl <;> decide) (by decide)
  have k3 : tokO T n 6 = 6 + (decI nv).length := hB2.tok (fun x hx => (decI_nosp x hx).1) (by decide)
  have k4 : tokO T n (6 + (decI nv).length + 1) = 6 + (decI nv).length + 1 + (decI (k : Int)).length := hD.tok (fun x hx => (decI_nosp x hx).1) (by decide)
  have w1 : wordB T 0 1 [112] = true := wordB_at (W := [112]) (n := n) ⟨by show 0 + 1 ≤ n; omega, fun i x hx => by
    match i, hx with
    | 0, hx => cases hx; exact t0
    | i + 1, hx => cases hx⟩
  have w2 : wordB T 2 5 [99, 110, 102] = true := wordB_at (W := [99, 110, 102]) (n := n) ⟨by show 2 + 3 ≤ n; omega, fun i x hx => by
    match i, hx with
    | 0, hx => cases hx; exact t2
    | 1, hx => cases hx; exact t3
    | 2, hx => cases hx; exact t4
    | i + 3, hx => cases hx⟩
  have o1 : (tokQ T n q).off = 1 := by show tokO T n q.off = 1; rw [hq, k1]
  have o2 : (blkQ T n (tokQ T n q)).off = 2 := by rw [blkQ_one (by rw [o1]; omega) (by rw [o1, t1]; decide) (by rw [o1, t2]; decide), o1]
  have m2 : hdP T n ⟨0, 1, 0⟩ = hdCnf T n (blkQ T n (tokQ T n q)) := by
    unfold hdP
    rw [hs]
    dsimp only
    rw [if_pos rfl, hq, k1, if_pos w1]
  rw [m2]
  generalize blkQ T n (tokQ T n q) = q2 at o2
  have o3 : (tokQ T n q2).off = 5 := by show tokO T n q2.off = 5; rw [o2, k2]
  have o4 : (blkQ T n (tokQ T n q2)).off = 6 := by rw [blkQ_one (by rw [o3]; omega) (by rw [o3, t5]; decide) (by rw [o3, t6]; exact (sp_blank s1).1), o3]
  have m3 : hdCnf T n q2 = hdNum1 T n (blkQ T n (tokQ T n q2)) := by
    unfold hdCnf
    rw [o2, moreP_t (by omega) (by rw [t2]; decide), if_pos rfl, k2, if_pos w2]
  rw [m3]
  generalize blkQ T n (tokQ T n q2) = q3 at o4
  have o5 : (tokQ T n q3).off = 6 + (decI nv).length := by show tokO T n q3.off = _; rw [o4, k3]
  have o6 : (blkQ T n (tokQ T n q3)).off = 6 + (decI nv).length + 1 := by rw [blkQ_one (by rw [o5]; omega) (by rw [o5, tC]; decide) (by rw [o5, tD]; exact (sp_blank s2).1), o5]
  have m4 : hdNum1 T n q3 = hdNum2 T n nv (blkQ T n (tokQ T n q3)) := by
    unfold hdNum1
    rw [o4, moreP_t (by omega) (by rw [t6]; exact (sp_blank s1).2), if_pos rfl, k3, numP_nn false hB1 hnv]
    unfold hdN1
    rw [if_neg (show ¬ (2 : Int) = 0 by decide), if_neg (show ¬ (2 : Int) = 1 by decide)]
  rw [m4]
  generalize blkQ T n (tokQ T n q3) = q4 at o6
  have o7 : (tokQ T n q4).off = 6 + (decI nv).length + 1 + (decI (k : Int)).length := by show tokO T n q4.off = _; rw [o6, k4]
  have o8 : (blkQ T n (tokQ T n q4)).off = 6 + (decI nv).length + 1 + (decI (k : Int)).length := by rw [blkQ_stay (by rw [o7, tE]; decide), o7]
  have m5 : hdNum2 T n nv q4 = hdEnd T n nv k (blkQ T n (tokQ T n q4)) := by
    unfold hdNum2
    rw [o6, moreP_t (by omega) (by rw [tD]; exact (sp_blank s2).2), if_pos rfl, k4, numP_nn (o := 6 + (decI nv).length + 1) (lim := 2147483647) false hD1 ⟨by omega, by omega⟩]
    unfold hdN2
    rw [if_neg (show ¬ (2 : Int) = 0 by decide), if_neg (show ¬ (2 : Int) = 1 by decide)]
  rw [m5]
  generalize blkQ T n (tokQ T n q4) = q5 at o8
  refine ⟨q5, ?_, ?_⟩
  · unfold hdEnd
    rw [if_neg (by rw [o8]; unfold moreP; rw [tE]; simp)]
  · have := (Sk.here T n q5).space (by rw [o8]; omega) (by rw [o8, tE]; decide)
    rw [o8] at this
    have hl : (hdT nv k).length = 6 + (decI nv).length + 1 + (decI (k : Int)).length + 1 := by
      unfold hdT
      simp only [List.length_append, List.length_cons, List.length_nil]
      omega
    rw [hl]
    exact this
/-! ### The clauses read -/
theorem fStep_at {T : Nat → Int} {n : Nat} {hv hc : Int} {p q : Plc} (L E : List Int) (h : seekF T n p = (true, q)) : fStep T n hv hc ⟨p, L, E⟩ = fTok T n hv hc ⟨p, L, E⟩ q := by
  unfold fStep
  dsimp only
  rw [h]
  rfl
theorem errP_ok {l En hc hv : Int} (h1 : En ≠ hc) (h2 : l / 2 ≤ hv) : errP (l, 0) En hc hv = 0 := by
  have hc0 : cntP (l, 0) En hc = 0 := by unfold cntP; rw [if_neg (fun z => h1 z.2)]
  unfold errP
  rw [hc0, if_neg (fun z => by have := z.2; dsimp only at this; omega)]
theorem flit_tok {T : Nat → Int} {n : Nat} {hv hc : Int} {p : Plc} {o : Nat} (hk : Sk T n p o) {l : Int} (hl : LitOk l) (hlv : l / 2 ≤ hv) (h : Lies T n o (decI (dimP l) ++ [32])) (L E : List Int) (hE : (E.length : Int) ≠ hc) :
    ∃ p', fStep T n hv hc ⟨p, L, E⟩ = .go ⟨p', L ++ [l], E⟩ ∧ Sk T n p' (o + (decI (dimP l) ++ [32]).length) := by
  have hte := h.tok (fun x hx => (decI_nosp x hx).1) (by decide)
  have hlen := h.1
  rw [List.length_append] at hlen
  simp only [List.length_cons, List.length_nil] at hlen
  obtain ⟨d, W, hW⟩ : ∃ d W, decI (dimP l) = d :: W := by
    cases hc : decI (dimP l) with
    | nil => exact absurd hc decI_ne
    | cons d W => exact ⟨d, W, rfl⟩
  have hd := decI_nosp (v := dimP l) d (by rw [hW]; simp)
  have e0 : T o = d := h.left.2 0 d (by rw [hW]; rfl)
  obtain ⟨q, hq, hs⟩ := hk.stop (by omega) (by rw [e0]; exact hd.1) (by rw [e0]; exact hd.2.1)
  have hsp : T (o + (decI (dimP l)).length) = 32 := by have := h.right.2 0 32 rfl; rw [Nat.add_zero] at this; exact this
  rw [fStep_at L E hs]
  unfold fTok
  dsimp only
  rw [hq, hte, numP_dec h.left (dimP_rng hl), litP_dim hl, errP_ok hE hlv, if_pos rfl, if_neg (by show ¬ l = 0; unfold LitOk at hl; omega), if_pos rfl]
  refine ⟨_, rfl, ?_⟩
  have := (Sk.here T n ⟨o + (decI (dimP l)).length, q.line, q.bol⟩).space (by show o + (decI (dimP l)).length < n; omega) (by rw [hsp]; decide)
  rw [List.length_append]
  exact this
theorem fend_tok {T : Nat → Int} {n : Nat} {hv hc : Int} (hv0 : 0 ≤ hv) {p : Plc} {o : Nat} (hk : Sk T n p o) (h : Lies T n o [48, 10]) (L E : List Int) (hE : (E.length : Int) ≠ hc) :
    ∃ p', fStep T n hv hc ⟨p, L, E⟩ = .go ⟨p', L, E ++ [(L.length : Int)]⟩ ∧ Sk T n p' (o + 2) := by
  have h0 : decI 0 = [48] := by unfold decI; rw [if_neg (by decide), lowD_one (by decide)]; rfl
  have h' : Lies T n o (decI 0 ++ [10]) := by rw [h0]; exact h
  have hte := h'.tok (fun x hx => (decI_nosp x hx).1) (by decide)
  have hlen := h.1
  simp only [List.length_cons, List.length_nil] at hlen
  have e0 : T o = 48 := h.2 0 48 rfl
  have e1 : T (o + 1) = 10 := h.2 1 10 rfl
  obtain ⟨q, hq, hs⟩ := hk.stop (by omega) (by rw [e0]; decide) (by rw [e0]; decide)
  rw [fStep_at L E hs]
  unfold fTok
  dsimp only
  rw [hq, hte, numP_dec h'.left (by decide), show litP ((0 : Int), (2 : Int)) = (0, 0) from rfl, errP_ok hE (by omega), if_pos rfl, if_pos rfl, if_pos rfl, h0]
  refine ⟨_, rfl, ?_⟩
  exact (Sk.here T n ⟨o + 1, q.line, q.bol⟩).space (by show o + 1 < n; omega) (by rw [e1]; decide)
theorem flits_run {T : Nat → Int} {n : Nat} {hv hc : Int} (E : List Int) (hE : (E.length : Int) ≠ hc) : ∀ (C : List Int) (p : Plc) (o : Nat) (L : List Int), Sk T n p o → (∀ x ∈ C, LitOk x ∧ x / 2 ≤ hv) → Lies T n o (litsT C) →
    ∃ p', FRun T n hv hc ⟨p, L, E⟩ ⟨p', L ++ C, E⟩ ∧ Sk T n p' (o + (litsT C).length)
  | [], p, o, L, hk, _, _ => ⟨p, by rw [List.append_nil]; exact .refl _, hk⟩
  | l :: C, p, o, L, hk, hok, h => by
    have hl : litsT (l :: C) = (decI (dimP l) ++ [32]) ++ litsT C := rfl
    rw [hl] at h ⊢
    obtain ⟨p1, e1, k1⟩ := flit_tok hk (hok l (by simp)).1 (hok l (by simp)).2 h.left L E hE
    obtain ⟨p2, e2, k2⟩ := flits_run E hE C p1 _ (L ++ [l]) k1 (fun x hx => hok x (by simp [hx])) h.right
    refine ⟨p2, .head _ _ _ e1 (by rw [List.append_assoc] at e2; exact e2), ?_⟩
    have hlen : (decI (dimP l) ++ [32] ++ litsT C).length = (decI (dimP l) ++ [32]).length + (litsT C).length := List.length_append
    rw [hlen, ← Nat.add_assoc]
    exact k2
theorem fcl_run {T : Nat → Int} {n : Nat} {hv hc : Int} (hv0 : 0 ≤ hv) {p : Plc} {o : Nat} (hk : Sk T n p o) (L E : List Int) (hE : (E.length : Int) ≠ hc) {C : List Int} (hC : ∀ x ∈ C, LitOk x ∧ x / 2 ≤ hv) (h : Lies T n o (clT C)) :
    ∃ p', FRun T n hv hc ⟨p, L, E⟩ ⟨p', L ++ C, E ++ [((L ++ C).length : Int)]⟩ ∧ Sk T n p' (o + (clT C).length) := by
  unfold clT at h ⊢
  obtain ⟨p1, e1, k1⟩ := flits_run E hE C p o L hk hC h.left
  obtain ⟨p2, e2, k2⟩ := fend_tok hv0 k1 h.right (L ++ C) E hE
  refine ⟨p2, e1.snoc e2, ?_⟩
  rw [List.length_append, ← Nat.add_assoc]
  exact k2
theorem fcls_run {T : Nat → Int} {n : Nat} {hv : Int} (hv0 : 0 ≤ hv) {L E : List Int} (hE : EOk L E) (hok : ∀ x ∈ L, LitOk x ∧ x / 2 ≤ hv) {p : Plc} {o : Nat} (hk : Sk T n p o) : ∀ k, k ≤ E.length → Lies T n o (clsT L E k) →
    ∃ p', FRun T n hv E.length ⟨p, [], []⟩ ⟨p', L.take (loP E k), E.take k⟩ ∧ Sk T n p' (o + (clsT L E k).length)
  | 0, _, _ => ⟨p, by rw [show loP E 0 = 0 from rfl, List.take_zero, List.take_zero]; exact .refl _, hk⟩
  | k + 1, hkl, h => by
    rw [clsT_succ] at h ⊢
    obtain ⟨p1, e1, k1⟩ := fcls_run (T := T) (n := n) (hv := hv) hv0 hE hok hk k (by omega) h.left
    have hlo := hE.lo (show k < E.length by omega)
    have htl : (E.take k).length = k := by rw [List.length_take]; omega
    obtain ⟨p2, e2, k2⟩ := fcl_run hv0 k1 (L.take (loP E k)) (E.take k) (hc := (E.length : Int)) (by rw [htl]; omega) (C := clP L E k) (fun x hx => hok x (List.mem_of_mem_take (List.mem_of_mem_drop hx))) h.right
    have hL : L.take (loP E k) ++ clP L E k = L.take (loP E (k + 1)) := by
      unfold clP
      have := List.take_append_drop (loP E k) (L.take (loP E (k + 1)))
      rw [List.take_take, Nat.min_eq_left hlo.1] at this
      exact this
    have hEt : E.take (k + 1) = E.take k ++ [((loP E (k + 1) : Nat) : Int)] := by rw [List.take_add_one, hlo.2.2.1]; rfl
    rw [hL, List.length_take, Nat.min_eq_left hlo.2.1] at e2
    refine ⟨p2, ?_, ?_⟩
    · rw [hEt]
      exact e1.trans e2
    · rw [List.length_append, ← Nat.add_assoc]
      exact k2
theorem FOk.eok {n : Nat} {hv hc : Int} {s : FSt} (h : FOk n hv hc s) : EOk s.L s.E := ⟨h.asc, h.rng⟩
/-- The printed text runs to the same formula. -/
theorem form_back {T : Nat → Int} {n m : Nat} {hv hc : Int} {st : FSt} (hv0 : 0 ≤ hv ∧ hv ≤ 16777215) (h : FOk m hv hc st) (hm : m ≤ 1000000) (hd : ∃ T' n', fStep T' n' hv hc st = .done) (hn : n = (foT hv st.L st.E).length) (hT : ∀ i x, (foT hv st.L st.E)[i]? = some x → T i = x) :
    ∃ p st', hdP T n ⟨0, 1, 0⟩ = .ok hv hc p ∧ FRun T n hv hc ⟨p, [], []⟩ st' ∧ fStep T n hv hc st' = .done ∧ st'.L = st.L ∧ st'.E = st.E := by
  have hlies : Lies T n 0 (foT hv st.L st.E) := ⟨by omega, fun i x hx => by rw [Nat.zero_add]; exact hT i x hx⟩
  have hll : st.L.length + st.E.length ≤ 1000000 := by have := h.len; have := h.pl.off; omega
  obtain ⟨hpd, hcnt⟩ : pendP st.L st.E = false ∧ (st.E.length : Int) = hc := by
    obtain ⟨T', n', hd⟩ := hd
    unfold fStep at hd
    dsimp only at hd
    split at hd
    · unfold fTok at hd
      dsimp only at hd
      split at hd
      · split at hd <;> cases hd
      · cases hd
    · split at hd
      · cases hd
      · next z =>
        split at hd
        · next y => exact ⟨by simpa using z, y⟩
        · cases hd
  subst hcnt
  have hlo : loP st.E st.E.length = st.L.length := by
    have h1 := clsP_take h.eok (Nat.le_refl st.E.length)
    have h2 := loP_le h.eok (Nat.le_refl st.E.length)
    rw [List.take_length, List.length_take, Nat.min_eq_left h2] at h1
    unfold pendP at hpd
    rw [decide_eq_false_iff_not] at hpd
    omega
  unfold foT at hlies
  obtain ⟨p, e1, k1⟩ := hd_back (k := st.E.length) hv0 (by omega) hlies.left
  have hr := hlies.right
  rw [Nat.zero_add] at hr
  obtain ⟨p2, e2, k2⟩ := fcls_run hv0.1 h.eok h.lit k1 st.E.length (Nat.le_refl _) hr
  rw [hlo, List.take_length, List.take_length] at e2
  have hlen : (hdT hv st.E.length).length + (clsT st.L st.E st.E.length).length = n := by
    rw [hn]
    unfold foT
    rw [List.length_append]
  rw [hlen] at k2
  obtain ⟨q, hq⟩ := k2.fin
  refine ⟨p, _, e1, e2, ?_, rfl, rfl⟩
  unfold fStep
  dsimp only
  rw [hq]
  dsimp only
  rw [if_neg (by decide), hpd, if_neg (by decide), if_pos rfl]
end Go.Proofs.Qxb6500773aGreat
