import Derived.Test.Qxb6500773aGreatPl1
namespace Go.Proofs.Qxb6500773aGreat
set_option maxRecDepth 100000

theorem dStep_at {T : Nat → Int} {n : Nat} {p q : Plc} (L E : List Int) (D : List Bool) (del : Bool) (h : seekF T n p = (true, q)) : dStep T n ⟨p, L, E, D, del⟩ =
    if ((!del && !pendP L E) && wordB T q.off (tokE T n (n - q.off) q.off) [100]) = true then .go ⟨⟨tokE T n (n - q.off) q.off, q.line, q.bol⟩, L, E, D, true⟩ else tok1 T n ⟨p, L, E, D, del⟩ q := by
  unfold dStep
  dsimp only
  rw [h]
  rfl
theorem wordB_not {T : Nat → Int} {o e : Nat} (h : T o ≠ 100) : wordB T o e [100] = false := by
  unfold wordB
  rw [Bool.and_eq_false_iff]
  right
  rw [decide_eq_false_iff_not]
  intro z
  exact h (z 0 (by decide))
/-- One literal read. -/
theorem lit_tok {T : Nat → Int} {n : Nat} {p : Plc} {o : Nat} (hk : Sk T n p o) {l : Int} (hl : LitOk l) (h : Lies T n o (decI (dimP l) ++ [32])) (L E : List Int) (D : List Bool) (del : Bool) :
    ∃ p', dStep T n ⟨p, L, E, D, del⟩ = .go ⟨p', L ++ [l], E, D, del⟩ ∧ Sk T n p' (o + (decI (dimP l) ++ [32]).length) := by
  have hte := h.tok (fun x hx => (decI_nosp x hx).1) (by decide)
  have hlen := h.1
  rw [List.length_append] at hlen
  simp only [List.length_cons, List.length_nil] at hlen
  obtain ⟨d, W, hW⟩ : ∃ d W, decI (dimP l) = d :: W := by
    cases hc : decI (dimP l) with
    | nil => exact absurd hc decI_ne
    | cons d W => exact ⟨d, W, rfl⟩
  have hd := decI_nosp (v := dimP l) d (by rw [hW]; simp)
  have e0 : T o = d := h.left.2 0 d (by rw [hW]; rfl)
  obtain ⟨q, hq, hs⟩ := hk.stop (by omega) (by rw [e0]; exact hd.1) (by rw [e0]; exact hd.2.1)
  have hsp : T (o + (decI (dimP l)).length) = 32 := by have := h.right.2 0 32 rfl; rw [Nat.add_zero] at this; exact this
  rw [dStep_at L E D del hs, if_neg (by rw [wordB_not (by rw [hq, e0]; exact hd.2.2.1)]; simp)]
  unfold tok1
  dsimp only
  rw [hq, hte, numP_dec h.left (dimP_rng hl), litP_dim hl, if_pos rfl, if_neg (by show ¬ l = 0; unfold LitOk at hl; omega), if_pos rfl]
  refine ⟨_, rfl, ?_⟩
  have := (Sk.here T n ⟨o + (decI (dimP l)).length, q.line, q.bol⟩).space (by show o + (decI (dimP l)).length < n; omega) (by rw [hsp]; decide)
  rw [List.length_append]
  exact this
/-- The end of a clause read. -/
theorem end_tok {T : Nat → Int} {n : Nat} {p : Plc} {o : Nat} (hk : Sk T n p o) (h : Lies T n o [48, 10]) (L E : List Int) (D : List Bool) (del : Bool) :
    ∃ p', dStep T n ⟨p, L, E, D, del⟩ = .go ⟨p', L, E ++ [(L.length : Int)], D ++ [del], false⟩ ∧ Sk T n p' (o + 2) := by
  have h' : Lies T n o (decI 0 ++ [10]) := by
    have : decI 0 = [48] := by unfold decI; rw [if_neg (by decide), lowD_one (by decide)]; rfl
    rw [this]; exact h
  have h0 : decI 0 = [48] := by unfold decI; rw [if_neg (by decide), lowD_one (by decide)]; rfl
  have hte := h'.tok (fun x hx => (decI_nosp x hx).1) (by decide)
  have hlen := h.1
  simp only [List.length_cons, List.length_nil] at hlen
  have e0 : T o = 48 := h.2 0 48 rfl
  have e1 : T (o + 1) = 10 := h.2 1 10 rfl
  obtain ⟨q, hq, hs⟩ := hk.stop (by omega) (by rw [e0]; decide) (by rw [e0]; decide)
  rw [dStep_at L E D del hs, if_neg (by rw [wordB_not (by rw [hq, e0]; decide)]; simp)]
  unfold tok1
  dsimp only
  rw [hq, hte, numP_dec h'.left (by decide), show litP ((0 : Int), (2 : Int)) = (0, 0) from rfl, if_pos rfl, if_pos rfl, if_pos rfl, h0]
  refine ⟨_, rfl, ?_⟩
  exact (Sk.here T n ⟨o + 1, q.line, q.bol⟩).space (by show o + 1 < n; omega) (by rw [e1]; decide)
/-- The word d read. -/
theorem d_tok {T : Nat → Int} {n : Nat} {p : Plc} {o : Nat} (hk : Sk T n p o) (h : Lies T n o [100, 32]) (L E : List Int) (D : List Bool) (hp : pendP L E = false) :
    ∃ p', dStep T n ⟨p, L, E, D, false⟩ = .go ⟨p', L, E, D, true⟩ ∧ Sk T n p' (o + 2) := by
  have hte := (show Lies T n o ([100] ++ [32]) from h).tok (fun x hx => by rw [List.mem_singleton.1 hx]; decide) (by decide)
  have hlen := h.1
  simp only [List.length_cons, List.length_nil] at hlen
  have e0 : T o = 100 := h.2 0 100 rfl
  have e1 : T (o + 1) = 32 := h.2 1 32 rfl
  obtain ⟨q, hq, hs⟩ := hk.stop (by omega) (by rw [e0]; decide) (by rw [e0]; decide)
  have hw : wordB T o (o + 1) [100] = true := by
    unfold wordB
    rw [Bool.and_eq_true_iff]
    refine ⟨by simp, ?_⟩
    rw [decide_eq_true_iff]
    intro i hi
    have : i = 0 := by simpa using hi
    subst this
    exact e0
  rw [dStep_at L E D false hs, hq, hte, show ([100] : List Int).length = 1 from rfl, if_pos (by rw [hw, hp]; rfl)]
  refine ⟨_, rfl, ?_⟩
  exact (Sk.here T n ⟨o + 1, q.line, q.bol⟩).space (by show o + 1 < n; omega) (by rw [e1]; decide)
theorem lits_run {T : Nat → Int} {n : Nat} (E : List Int) (D : List Bool) (del : Bool) : ∀ (C : List Int) (p : Plc) (o : Nat) (L : List Int), Sk T n p o → (∀ x ∈ C, LitOk x) → Lies T n o (litsT C) →
    ∃ p', Run T n ⟨p, L, E, D, del⟩ ⟨p', L ++ C, E, D, del⟩ ∧ Sk T n p' (o + (litsT C).length)
  | [], p, o, L, hk, _, _ => ⟨p, by rw [List.append_nil]; exact .refl _, hk⟩
  | l :: C, p, o, L, hk, hok, h => by
    have hl : litsT (l :: C) = (decI (dimP l) ++ [32]) ++ litsT C := rfl
    rw [hl] at h ⊢
    obtain ⟨p1, e1, k1⟩ := lit_tok hk (hok l (by simp)) h.left L E D del
    obtain ⟨p2, e2, k2⟩ := lits_run E D del C p1 _ (L ++ [l]) k1 (fun x hx => hok x (by simp [hx])) h.right
    refine ⟨p2, .head _ _ _ e1 (by rw [List.append_assoc] at e2; exact e2), ?_⟩
    have hlen : (decI (dimP l) ++ [32] ++ litsT C).length = (decI (dimP l) ++ [32]).length + (litsT C).length := List.length_append
    rw [hlen, ← Nat.add_assoc]
    exact k2
theorem step_run {T : Nat → Int} {n : Nat} {p : Plc} {o : Nat} (hk : Sk T n p o) (L E : List Int) (D : List Bool) (hp : pendP L E = false) (d : Bool) {C : List Int} (hC : ∀ x ∈ C, LitOk x) (h : Lies T n o (stT d C)) :
    ∃ p', Run T n ⟨p, L, E, D, false⟩ ⟨p', L ++ C, E ++ [((L ++ C).length : Int)], D ++ [d], false⟩ ∧ Sk T n p' (o + (stT d C).length) := by
  have main : ∀ p o d, Sk T n p o → Lies T n o (clT C) → ∃ p', Run T n ⟨p, L, E, D, d⟩ ⟨p', L ++ C, E ++ [((L ++ C).length : Int)], D ++ [d], false⟩ ∧ Sk T n p' (o + (clT C).length) := by
    intro p o d hk h
    obtain ⟨p1, e1, k1⟩ := lits_run E D d C p o L hk hC h.left
    obtain ⟨p2, e2, k2⟩ := end_tok k1 h.right (L ++ C) E D d
    refine ⟨p2, e1.snoc e2, ?_⟩
    unfold clT
    rw [List.length_append, ← Nat.add_assoc]
    exact k2
  unfold stT at h ⊢
  cases d
  · rw [if_neg (by decide), List.nil_append] at h ⊢
    exact main p o false hk h
  · rw [if_pos rfl] at h ⊢
    obtain ⟨p1, e1, k1⟩ := d_tok hk h.left L E D hp
    obtain ⟨p2, e2, k2⟩ := main p1 _ true k1 h.right
    refine ⟨p2, .head _ _ _ e1 e2, ?_⟩
    rw [List.length_append, ← Nat.add_assoc]
    exact k2
theorem clsP_take {L E : List Int} (h : EOk L E) {k : Nat} (hk : k ≤ E.length) : clsP (E.take k) = ((L.take (loP E k)).length : Int) := by
  have hle := loP_le h hk
  rw [List.length_take, Nat.min_eq_left hle]
  cases k with
  | zero => rfl
  | succ k =>
    have := (h.lo (show k < E.length by omega)).2.2.1
    unfold clsP
    rw [List.take_add_one, this]
    show ((E.take k ++ [((loP E (k + 1) : Nat) : Int)]).getLast?.getD 0) = _
    rw [List.getLast?_append]
    rfl
theorem steps_run {T : Nat → Int} {n : Nat} {L E : List Int} {D : List Bool} (hE : EOk L E) (hD : D.length = E.length) (hok : ∀ x ∈ L, LitOk x) : ∀ k, k ≤ E.length → Lies T n 0 (drT L E D k) →
    ∃ p', Run T n dst0 ⟨p', L.take (loP E k), E.take k, D.take k, false⟩ ∧ Sk T n p' (drT L E D k).length
  | 0, _, _ => ⟨⟨0, 1, 0⟩, by rw [show loP E 0 = 0 from rfl, List.take_zero, List.take_zero, List.take_zero]; exact .refl _, Sk.here T n ⟨0, 1, 0⟩⟩
  | k + 1, hk, h => by
    rw [drT_succ] at h ⊢
    obtain ⟨p1, e1, k1⟩ := steps_run hE hD hok k (by omega) h.left
    have hlo := hE.lo (show k < E.length by omega)
    have hpd : pendP (L.take (loP E k)) (E.take k) = false := by
      unfold pendP
      rw [clsP_take hE (by omega)]
      simp
    have hr := h.right
    rw [Nat.zero_add] at hr
    obtain ⟨p2, e2, k2⟩ := step_run k1 (L.take (loP E k)) (E.take k) (D.take k) hpd (D.getD k false) (clP_ok (E := E) hok k) hr
    have hL : L.take (loP E k) ++ clP L E k = L.take (loP E (k + 1)) := by
      unfold clP
      have := List.take_append_drop (loP E k) (L.take (loP E (k + 1)))
      rw [List.take_take, Nat.min_eq_left hlo.1] at this
      exact this
    have hEt : E.take (k + 1) = E.take k ++ [((loP E (k + 1) : Nat) : Int)] := by rw [List.take_add_one, hlo.2.2.1]; rfl
    have hDt : D.take (k + 1) = D.take k ++ [D.getD k false] := by
      rw [List.take_add_one, List.getD_eq_getElem?_getD, List.getElem?_eq_getElem (show k < D.length by omega)]
      rfl
    rw [hL, List.length_take, Nat.min_eq_left hlo.2.1] at e2
    refine ⟨p2, ?_, ?_⟩
    · rw [hEt, hDt]
      exact e1.trans e2
    · rw [List.length_append]
      exact k2
/-- The printed text runs to the same proof. -/
theorem drat_back {T : Nat → Int} {n m : Nat} {st : DSt} (h : DOk m st) (hd : ∃ T' n', dStep T' n' st = .done) (hn : n = (drT st.L st.E st.D st.E.length).length) (hT : ∀ i x, (drT st.L st.E st.D st.E.length)[i]? = some x → T i = x) :
    ∃ st', Run T n dst0 st' ∧ dStep T n st' = .done ∧ st'.L = st.L ∧ st'.E = st.E ∧ st'.D = st.D := by
  obtain ⟨p, e, k⟩ := steps_run (T := T) (n := n) h.eok h.dl h.lit st.E.length (Nat.le_refl _) ⟨by omega, fun i x hx => by rw [Nat.zero_add]; exact hT i x hx⟩
  have hpd : pendP st.L st.E = false := by
    obtain ⟨T', n', hd⟩ := hd
    unfold dStep at hd
    dsimp only at hd
    split at hd
    · split at hd
      · cases hd
      · unfold tok1 at hd
        dsimp only at hd
        split at hd
        · split at hd <;> cases hd
        · cases hd
    · split at hd
      · cases hd
      · next z => simp at z; exact z.2
  have hlo : loP st.E st.E.length = st.L.length := by
    have h1 := clsP_take h.eok (Nat.le_refl st.E.length)
    have h2 := loP_le h.eok (Nat.le_refl st.E.length)
    rw [List.take_length, List.length_take, Nat.min_eq_left h2] at h1
    unfold pendP at hpd
    rw [decide_eq_false_iff_not] at hpd
    omega
  rw [hlo, List.take_length, List.take_length, ← h.dl, List.take_length] at e
  rw [← hn] at k
  obtain ⟨q, hq⟩ := k.fin
  refine ⟨_, e, ?_, rfl, rfl, rfl⟩
  unfold dStep
  dsimp only
  rw [hq]
  dsimp only
  rw [if_neg (by decide), hpd]
  rfl
end Go.Proofs.Qxb6500773aGreat
