import Derived.Test.Qxb6500773aGreatYb
namespace Go.Proofs.Qxb6500773aGreat
open Go.RowKit

/-! ### Clauses and steps as the model holds them -/
def clsM (L E : List Int) : List (List Int) := (List.range E.length).map fun i => (clP L E i).map dimP
def stpM (L E : List Int) (D : List Bool) : List (Bool × List Int) := (List.range E.length).map fun i => (D.getD i false, (clP L E i).map dimP)
def pndM (L E : List Int) : List Int := (L.drop (clsP E).toNat).map dimP
theorem clP_lit {L E : List Int} (h : EOk L E) (C : List Int) {i : Nat} (hi : i < E.length) : clP (L ++ C) E i = clP L E i := by
  unfold clP
  rw [List.take_append_of_le_length (h.lo hi).2.1]
theorem loP_end {E : List Int} (x : Int) {i : Nat} (hi : i ≤ E.length) : loP (E ++ [x]) i = loP E i := by
  unfold loP
  split
  · rfl
  · rw [List.getD_eq_getElem?_getD, List.getD_eq_getElem?_getD, List.getElem?_append_left (by omega)]
theorem clP_end (L : List Int) {E : List Int} (x : Int) {i : Nat} (hi : i < E.length) : clP L (E ++ [x]) i = clP L E i := by
  unfold clP
  rw [loP_end x (by omega), loP_end x (by omega)]
theorem loP_cls (E : List Int) : loP E E.length = (clsP E).toNat := by
  unfold loP clsP
  split
  · next h => rw [List.length_eq_zero_iff.1 h]; rfl
  · rw [List.getLast?_eq_getElem?, List.getD_eq_getElem?_getD]
theorem clP_new (L E : List Int) : clP L (E ++ [(L.length : Int)]) E.length = L.drop (clsP E).toNat := by
  unfold clP
  have h1 : loP (E ++ [(L.length : Int)]) (E.length + 1) = L.length := by
    rw [loP_at (x := (L.length : Int)) (by simp)]
    simp
  rw [h1, loP_end _ (Nat.le_refl _), loP_cls, List.take_length]
theorem clsM_lit {L E : List Int} (h : EOk L E) (C : List Int) : clsM (L ++ C) E = clsM L E := by
  unfold clsM
  exact List.map_congr_left fun i hi => by rw [clP_lit h C (List.mem_range.1 hi)]
theorem stpM_lit {L E : List Int} (h : EOk L E) (D : List Bool) (C : List Int) : stpM (L ++ C) E D = stpM L E D := by
  unfold stpM
  exact List.map_congr_left fun i hi => by rw [clP_lit h C (List.mem_range.1 hi)]
theorem clsM_end (L E : List Int) : clsM L (E ++ [(L.length : Int)]) = clsM L E ++ [pndM L E] := by
  unfold clsM pndM
  rw [List.length_append, List.length_singleton, List.range_succ, List.map_append, List.map_singleton, clP_new]
  congr 1
  exact List.map_congr_left fun i hi => by rw [clP_end L _ (List.mem_range.1 hi)]
theorem stpM_end (L E : List Int) {D : List Bool} (hD : D.length = E.length) (d : Bool) : stpM L (E ++ [(L.length : Int)]) (D ++ [d]) = stpM L E D ++ [(d, pndM L E)] := by
  unfold stpM pndM
  rw [List.length_append, List.length_singleton, List.range_succ, List.map_append, List.map_singleton, clP_new]
  congr 1
  · refine List.map_congr_left fun i hi => ?_
    have := List.mem_range.1 hi
    rw [clP_end L _ this, List.getD_eq_getElem?_getD, List.getD_eq_getElem?_getD, List.getElem?_append_left (by omega)]
  · rw [List.getD_eq_getElem?_getD, List.getElem?_append_right (by omega), hD, Nat.sub_self]
    rfl
theorem cls_rng {L E : List Int} (h : EOk L E) : 0 ≤ clsP E ∧ clsP E ≤ L.length := by
  unfold clsP
  cases hl : E.getLast? with
  | none => exact ⟨Int.le_refl _, by show (0 : Int) ≤ _; omega⟩
  | some x => exact h.rng x (List.mem_of_getLast? hl)
theorem pndM_lit {L E : List Int} (h : EOk L E) (l : Int) : pndM (L ++ [l]) E = pndM L E ++ [dimP l] := by
  unfold pndM
  have := cls_rng h
  rw [List.drop_append_of_le_length (by omega), List.map_append, List.map_singleton]
theorem pndM_end (L E : List Int) : pndM L (E ++ [(L.length : Int)]) = [] := by
  unfold pndM clsP
  simp
theorem pndM_len {L E : List Int} (h : EOk L E) : pendP L E = decide (0 < (pndM L E).length) := by
  have := cls_rng h
  unfold pendP pndM
  rw [List.length_map, List.length_drop]
  congr 1
  exact propext (by omega)
theorem pack_0 {d : Int} : packP d = 0 ↔ d = 0 := by
  unfold packP
  split <;> omega
theorem dim_pk {d : Int} : dimP (packP d) = d := by
  unfold packP dimP
  by_cases h : d < 0
  · rw [if_pos h, if_neg (by omega)]; omega
  · rw [if_neg h, if_pos (by omega)]; omega
theorem pack_abs {d : Int} : packP d / 2 = absP d := by
  unfold packP absP
  split <;> omega
/-! ### The two readers of DRAT -/
def endL (X : List Int) : Int := ((lnP X).length : Int)
def endC (X : List Int) : Int := eolM X ((lnP X).length - 1)
def drS (X : List Int) (s : DSt) : DrO := drA (endL X) (endC X) (stpM s.L s.E s.D) s.del (pndM s.L s.E) (tkAt X s.p)
theorem dr_step {T : Nat → Int} {n : Nat} {X : List Int} (hx : TX T n X) {s : DSt} (hs : DOk n s) (hl : LnI X s.p) :
    match dStep T n s with
    | .go t => LnI X t.p ∧ drS X s = drS X t
    | .bad er ln col => drS X s = .bad er ln col
    | .done => drS X s = .ok (stpM s.L s.E s.D) := by
  obtain ⟨h1, h2, h3, h4⟩ := seek_tk hx (n - s.p.off) s.p (Nat.le_refl _) hs.pl.off hl
  have he := hs.eok
  unfold dStep
  dsimp only
  generalize hR : seekF T n s.p = R at *
  obtain ⟨Rb, q⟩ := R
  dsimp only at *
  cases Rb with
  | true =>
    rw [if_pos rfl] at h4 ⊢
    obtain ⟨k1, k2, k3⟩ := h4
    obtain ⟨e1, e2, e3⟩ := tk_here hx k1 h2.1 k2 k3
    have el := h2.tok hx (n - q.off) q h1
    rw [show tokE T n (n - q.off) q.off = tokO T n q.off from rfl] at el ⊢
    have hlit := lit_cut hx e1 e2
    have hpl := pndM_len he
    by_cases hw : ((!s.del && !pendP s.L s.E) && wordB T q.off (tokO T n q.off) [100]) = true
    · rw [if_pos hw]
      dsimp only
      refine ⟨el, ?_⟩
      rw [Bool.and_eq_true, Bool.and_eq_true] at hw
      have hd : s.del = false := by simpa using hw.1.1
      have hp : pendP s.L s.E = false := by simpa using hw.1.2
      have ht := (wordB_cut hx e2 [100]).1 hw.2
      rw [hp] at hpl
      have hz : (pndM s.L s.E).length = 0 := by
        have := hpl.symm
        rw [decide_eq_false_iff_not] at this
        omega
      unfold drS
      dsimp only
      rw [h3, e3]
      conv => lhs; unfold drA
      rw [if_pos ⟨ht, hd, hz⟩]
    · rw [if_neg hw]
      have hnt : ¬ (cutX X q.off (tokO T n q.off) = [100] ∧ s.del = false ∧ (pndM s.L s.E).length = 0) := fun ⟨z1, z2, z3⟩ => hw (by
        have z4 := (wordB_cut hx e2 [100]).2 z1
        rw [z2, z4, hpl, z3]
        rfl)
      have hD : drS X s = if (litM (cutX X q.off (tokO T n q.off))).2 ≠ 0 then .bad (litM (cutX X q.off (tokO T n q.off))).2 q.line (colP q)
          else if (litM (cutX X q.off (tokO T n q.off))).1 = 0 then drA (endL X) (endC X) (stpM s.L s.E s.D ++ [(s.del, pndM s.L s.E)]) false [] (tkAt X ⟨tokO T n q.off, q.line, q.bol⟩)
          else drA (endL X) (endC X) (stpM s.L s.E s.D) s.del (pndM s.L s.E ++ [(litM (cutX X q.off (tokO T n q.off))).1]) (tkAt X ⟨tokO T n q.off, q.line, q.bol⟩) := by
        unfold drS
        rw [h3, e3]
        conv => lhs; unfold drA
        rw [if_neg hnt]
      rw [hD]
      unfold tok1
      dsimp only
      rw [show tokE T n (n - q.off) q.off = tokO T n q.off from rfl, hlit.1]
      dsimp only
      generalize hM : litM (cutX X q.off (tokO T n q.off)) = M at *
      by_cases hz : M.2 = 0
      · rw [if_pos hz, if_neg (show ¬ M.2 ≠ 0 from fun z => z hz), hlit.2 hz, if_pos (show (2 : Int) = 2 from rfl)]
        by_cases h0 : M.1 = 0
        · rw [if_pos (pack_0.2 h0), if_pos h0]
          dsimp only
          refine ⟨el, ?_⟩
          unfold drS
          dsimp only
          rw [stpM_end _ _ hs.dl, pndM_end]
        · rw [if_neg (show ¬ packP M.1 = 0 from fun z => h0 (pack_0.1 z)), if_neg h0]
          dsimp only
          refine ⟨el, ?_⟩
          unfold drS
          dsimp only
          rw [stpM_lit he, pndM_lit he, dim_pk]
      · rw [if_neg hz, if_pos hz]
  | false =>
    rw [if_neg (by decide)] at h4 ⊢
    have hf := h2.fin (by rw [hx.1]; exact h4)
    have hn : tkAt X s.p = [] := by rw [h3]; exact tk_none (by rw [hx.1]; exact h4)
    have hpl := pndM_len he
    have hD : drS X s = if s.del = true ∨ 0 < (pndM s.L s.E).length then .bad 11 (endL X) (endC X) else .ok (stpM s.L s.E s.D) := by
      unfold drS
      rw [hn]
      conv => lhs; unfold drA
    rw [hD]
    by_cases hc : (s.del || pendP s.L s.E) = true
    · rw [if_pos hc]
      dsimp only
      rw [if_pos (by rw [Bool.or_eq_true, hpl, decide_eq_true_eq] at hc; exact hc), hf.1, hf.2]
      rfl
    · rw [if_neg hc]
      dsimp only
      rw [if_neg (fun z => hc (by rw [Bool.or_eq_true, hpl, decide_eq_true_eq]; exact z))]
theorem dr_run {T : Nat → Int} {n : Nat} {X : List Int} (hx : TX T n X) {s u : DSt} (h : Run T n s u) : DOk n s → LnI X s.p → LnI X u.p ∧ DOk n u ∧ drS X s = drS X u := by
  induction h with
  | refl s => exact fun h1 h2 => ⟨h2, h1, rfl⟩
  | head s t u hg _ ih =>
    intro h1 h2
    have h3 := dr_step hx h1 h2
    rw [hg] at h3
    obtain ⟨i1, i2, i3⟩ := ih (h1.step hg).1 h3.1
    exact ⟨i1, i2, h3.2.trans i3⟩
theorem drP_S (X : List Int) : drP X = drS X dst0 := by
  unfold drP drS
  rw [tkP_at]
  rfl
/-- both readers of DRAT answer the same -/
theorem dr_agree {T : Nat → Int} {n : Nat} {X : List Int} (hx : TX T n X) {st : DSt} (hr : Run T n dst0 st) : DOk n st ∧
    (∀ er ln col, dStep T n st = .bad er ln col → drP X = .bad er ln col) ∧ (dStep T n st = .done → drP X = .ok (stpM st.L st.E st.D)) := by
  obtain ⟨h1, h2, h3⟩ := dr_run hx hr (dok0 n) (LnI.start X)
  have h4 := dr_step hx h2 h1
  rw [drP_S, h3]
  refine ⟨h2, fun er ln col h => ?_, fun h => ?_⟩
  · rw [h] at h4; exact h4
  · rw [h] at h4; exact h4
/-! ### The two readers of DIMACS -/
def fmS (X : List Int) (hv hc : Int) (s : FSt) : FmO := fmA (endL X) (endC X) hv hc (clsM s.L s.E) (pndM s.L s.E) (tkAt X s.p)
theorem clsM_len (L E : List Int) : (clsM L E).length = E.length := by unfold clsM; simp
theorem fm_step {T : Nat → Int} {n : Nat} {X : List Int} (hx : TX T n X) {hv hc : Int} {s : FSt} (hs : FOk n hv hc s) (hl : LnI X s.p) :
    match fStep T n hv hc s with
    | .go t => LnI X t.p ∧ fmS X hv hc s = fmS X hv hc t
    | .bad er ln col => fmS X hv hc s = .bad er ln col
    | .done => fmS X hv hc s = .ok hv (clsM s.L s.E) := by
  obtain ⟨h1, h2, h3, h4⟩ := seek_tk hx (n - s.p.off) s.p (Nat.le_refl _) hs.pl.off hl
  have he := hs.eok
  have hpl := pndM_len he
  unfold fStep
  dsimp only
  generalize hR : seekF T n s.p = R at *
  obtain ⟨Rb, q⟩ := R
  dsimp only at *
  cases Rb with
  | true =>
    rw [if_pos rfl] at h4 ⊢
    obtain ⟨k1, k2, k3⟩ := h4
    obtain ⟨e1, e2, e3⟩ := tk_here hx k1 h2.1 k2 k3
    have el := h2.tok hx (n - q.off) q h1
    rw [show tokE T n (n - q.off) q.off = tokO T n q.off from rfl] at el
    have hlit := lit_cut hx e1 e2
    have hD : fmS X hv hc s = if (litM (cutX X q.off (tokO T n q.off))).2 ≠ 0 then .bad (litM (cutX X q.off (tokO T n q.off))).2 q.line (colP q) else if (s.E.length : Int) = hc then .bad 12 q.line (colP q) else if hv < absP (litM (cutX X q.off (tokO T n q.off))).1 then .bad 10 q.line (colP q)
        else if (litM (cutX X q.off (tokO T n q.off))).1 = 0 then fmA (endL X) (endC X) hv hc (clsM s.L s.E ++ [pndM s.L s.E]) [] (tkAt X ⟨tokO T n q.off, q.line, q.bol⟩)
        else fmA (endL X) (endC X) hv hc (clsM s.L s.E) (pndM s.L s.E ++ [(litM (cutX X q.off (tokO T n q.off))).1]) (tkAt X ⟨tokO T n q.off, q.line, q.bol⟩) := by
      unfold fmS
      rw [h3, e3]
      conv => lhs; unfold fmA
      rw [clsM_len]
    rw [hD]
    unfold fTok
    dsimp only
    rw [show tokE T n (n - q.off) q.off = tokO T n q.off from rfl, hlit.1]
    generalize hM : litM (cutX X q.off (tokO T n q.off)) = M at *
    unfold errP cntP
    dsimp only
    rw [pack_abs]
    by_cases hz : M.2 = 0
    · rw [if_neg (show ¬ M.2 ≠ 0 from fun z => z hz), hlit.2 hz, if_pos (show (2 : Int) = 2 from rfl)]
      by_cases hcn : (s.E.length : Int) = hc
      · rw [if_pos (show M.2 = 0 ∧ (s.E.length : Int) = hc from ⟨hz, hcn⟩), if_neg (show ¬ ((12 : Int) = 0 ∧ hv < absP M.1) from fun z => by cases z.1), if_neg (show ¬ (12 : Int) = 0 by decide), if_pos hcn]
      · rw [if_neg (show ¬ (M.2 = 0 ∧ (s.E.length : Int) = hc) from fun z => hcn z.2), if_neg hcn]
        by_cases hvv : hv < absP M.1
        · rw [if_pos (show M.2 = 0 ∧ hv < absP M.1 from ⟨hz, hvv⟩), if_neg (show ¬ (10 : Int) = 0 by decide), if_pos hvv]
        · rw [if_neg (show ¬ (M.2 = 0 ∧ hv < absP M.1) from fun z => hvv z.2), if_pos hz, if_neg hvv]
          by_cases h0 : M.1 = 0
          · rw [if_pos (pack_0.2 h0), if_pos h0]
            dsimp only
            refine ⟨el, ?_⟩
            unfold fmS
            dsimp only
            rw [clsM_end, pndM_end]
          · rw [if_neg (show ¬ packP M.1 = 0 from fun z => h0 (pack_0.1 z)), if_neg h0]
            dsimp only
            refine ⟨el, ?_⟩
            unfold fmS
            dsimp only
            rw [clsM_lit he, pndM_lit he, dim_pk]
    · rw [if_pos hz, if_neg (show ¬ (M.2 = 0 ∧ (s.E.length : Int) = hc) from fun z => hz z.1), if_neg (show ¬ (M.2 = 0 ∧ hv < absP M.1) from fun z => hz z.1), if_neg hz]
  | false =>
    rw [if_neg (by decide)] at h4 ⊢
    have hf := h2.fin (by rw [hx.1]; exact h4)
    have hn : tkAt X s.p = [] := by rw [h3]; exact tk_none (by rw [hx.1]; exact h4)
    have hD : fmS X hv hc s = if 0 < (pndM s.L s.E).length then .bad 11 (endL X) (endC X) else if (s.E.length : Int) = hc then .ok hv (clsM s.L s.E) else .bad 12 (endL X) (endC X) := by
      unfold fmS
      rw [hn]
      conv => lhs; unfold fmA
      rw [clsM_len]
    rw [hD]
    by_cases hc1 : pendP s.L s.E = true
    · rw [if_pos hc1]
      dsimp only
      rw [if_pos (by rw [hpl, decide_eq_true_eq] at hc1; exact hc1), hf.1, hf.2]
      rfl
    · rw [if_neg hc1, if_neg (show ¬ 0 < (pndM s.L s.E).length from fun z => hc1 (by rw [hpl, decide_eq_true_eq]; exact z))]
      by_cases hcn : (s.E.length : Int) = hc
      · rw [if_pos hcn, if_pos hcn]
      · rw [if_neg hcn, if_neg hcn, hf.1, hf.2]
        rfl
theorem fm_run {T : Nat → Int} {n : Nat} {X : List Int} (hx : TX T n X) {hv hc : Int} (hst : ∀ {s t : FSt}, FOk n hv hc s → fStep T n hv hc s = .go t → FOk n hv hc t) {s u : FSt} (h : FRun T n hv hc s u) : FOk n hv hc s → LnI X s.p → LnI X u.p ∧ FOk n hv hc u ∧ fmS X hv hc s = fmS X hv hc u := by
  induction h with
  | refl s => exact fun h1 h2 => ⟨h2, h1, rfl⟩
  | head s t u hg _ ih =>
    intro h1 h2
    have h3 := fm_step hx h1 h2
    rw [hg] at h3
    obtain ⟨i1, i2, i3⟩ := ih (hst h1 hg) h3.1
    exact ⟨i1, i2, h3.2.trans i3⟩
/-! ### The header -/
theorem blkE_stop (T : Nat → Int) (n : Nat) : ∀ (k i : Nat), n - i ≤ k → i ≤ n → (blkE T n k i = n ∨ blankP (T (blkE T n k i)) = false)
  | 0, i, hk, hi => .inl (by rw [blkE]; omega)
  | k + 1, i, hk, hi => by
    rw [blkE]
    split
    · next hc => exact blkE_stop T n k (i + 1) (by omega) (by omega)
    · next hc =>
      by_cases hn : i < n
      · right
        cases hb : blankP (T i) with
        | false => rfl
        | true => exact absurd ⟨hn, hb⟩ hc
      · left; omega
theorem blk_tk {T : Nat → Int} {n : Nat} {X : List Int} (hx : TX T n X) : ∀ (k : Nat) (p : Plc), LnI X p → p.bol < p.off → p.off ≤ n →
    LnI X ⟨blkE T n k p.off, p.line, p.bol⟩ ∧ p.off ≤ blkE T n k p.off ∧ blkE T n k p.off ≤ n ∧ tkAt X p = tkAt X ⟨blkE T n k p.off, p.line, p.bol⟩
  | 0, p, hl, hb, hp => ⟨hl, Nat.le_refl _, hp, rfl⟩
  | k + 1, p, hl, hb, hp => by
    rw [blkE]
    split
    · next hc =>
      have h10 : T p.off ≠ 10 := fun z => by rw [z] at hc; cases hc.2
      have h9 : T p.off ≠ 99 := fun z => by rw [z] at hc; cases hc.2
      have hs : spM (T p.off) = true := by rw [spM_P]; unfold spaceP; rw [hc.2]; simp
      obtain ⟨i1, i2, i3, i4⟩ := blk_tk hx k ⟨p.off + 1, p.line, p.bol⟩ (hl.ch hx hc.1 h10) (Nat.lt_succ_of_lt hb) hc.1
      dsimp only at *
      refine ⟨i1, by omega, i3, ?_⟩
      rw [← i4]
      unfold tkAt
      rw [hx.drop hc.1, tkS_cons, if_neg h10, if_neg (by decide), if_neg (fun z => h9 z.2), if_pos hs, flu_nil]
      rw [show p.off + 1 - p.bol = p.off - p.bol + 1 by omega]
      rfl
    · exact ⟨hl, Nat.le_refl _, hp, rfl⟩
theorem flu_ge {ln : Int} {i : Nat} {cur : List Int} {t : Tk} (h : t ∈ flu ln i cur) : t.ln = ln := by
  unfold flu at h
  split at h
  · cases h
  · rw [List.mem_singleton] at h; rw [h]
theorem tkS_ge : ∀ (r : List Int) (ln : Int) (cm : Bool) (i : Nat) (cur : List Int), ∀ t ∈ tkS ln cm i cur r, ln ≤ t.ln
  | [], ln, cm, i, cur, t, h => by rw [tkS_nil] at h; have := flu_ge h; omega
  | b :: r, ln, cm, i, cur, t, h => by
    rw [tkS_cons] at h
    split at h
    · rcases List.mem_append.1 h with z | z
      · have := flu_ge z; omega
      · have := tkS_ge r _ _ _ _ t z; omega
    · split at h
      · exact tkS_ge r _ _ _ _ t h
      · split at h
        · exact tkS_ge r _ _ _ _ t h
        · split at h
          · rcases List.mem_append.1 h with z | z
            · have := flu_ge z; omega
            · exact tkS_ge r _ _ _ _ t z
          · exact tkS_ge r _ _ _ _ t h
/-- the line's end: no more token of this line -/
theorem hd_eol {T : Nat → Int} {n : Nat} {X : List Int} (hx : TX T n X) {q : Plc} (hl : LnI X q) (hq : q.off ≤ n) (hm : moreP T n q.off = false) : hdC (tkAt X q) q.line = 0 ∧ colP q = eolM X (q.line - 1).toNat := by
  have he : q.off = n ∨ T q.off = 10 := by
    by_cases hn : q.off < n
    · right
      unfold moreP at hm
      simp [hn] at hm
      exact hm
    · left; omega
  refine ⟨?_, hl.lend hx hq he⟩
  have : tkAt X q = [] ∨ ∃ r, tkAt X q = tkS (q.line + 1) false 0 [] r := by
    by_cases hn : q.off = n
    · exact .inl (tk_none (by rw [hx.1]; exact hn))
    · right
      have h10 := he.resolve_left hn
      refine ⟨X.drop (q.off + 1), ?_⟩
      unfold tkAt
      rw [hx.drop (by omega), tkS_cons, if_pos h10, flu_nil]
      rfl
  rcases this with h | ⟨r, h⟩
  · rw [h]; rfl
  · rw [h]
    unfold hdC
    rw [List.length_eq_zero_iff, List.filter_eq_nil_iff]
    intro t ht
    have := tkS_ge r _ _ _ _ t ht
    simp
    omega
/-- one more token of this line -/
theorem hd_more {T : Nat → Int} {n : Nat} {X : List Int} (hx : TX T n X) {q : Plc} (hl : LnI X q) (hb : q.bol < q.off) (hbl : q.off = n ∨ blankP (T q.off) = false) (hm : moreP T n q.off = true) :
    q.off < tokO T n q.off ∧ tokO T n q.off ≤ n ∧ tkAt X q = ⟨cutX X q.off (tokO T n q.off), q.line, colP q⟩ :: tkAt X (tokQ T n q) := by
  unfold moreP at hm
  rw [Bool.and_eq_true, decide_eq_true_eq] at hm
  have h10 : T q.off ≠ 10 := by simpa using hm.2
  have hs : spaceP (T q.off) = false := by
    unfold spaceP
    rcases hbl with z | z
    · omega
    · rw [z]; simp [h10]
  exact tk_here hx hm.1 hl.1 hs (fun z => by omega)
theorem blkQ_tk {T : Nat → Int} {n : Nat} {X : List Int} (hx : TX T n X) {p : Plc} (hl : LnI X p) (hb : p.bol < p.off) (hp : p.off ≤ n) :
    LnI X (blkQ T n p) ∧ (blkQ T n p).bol < (blkQ T n p).off ∧ (blkQ T n p).off ≤ n ∧ tkAt X p = tkAt X (blkQ T n p) ∧ ((blkQ T n p).off = n ∨ blankP (T (blkQ T n p).off) = false) ∧ (blkQ T n p).line = p.line := by
  obtain ⟨i1, i2, i3, i4⟩ := blk_tk hx (n - p.off) p hl hb hp
  refine ⟨i1, ?_, i3, i4, blkE_stop T n (n - p.off) p.off (Nat.le_refl _) hp, rfl⟩
  show p.bol < blkE T n (n - p.off) p.off
  omega
theorem hdC_cons (t : Tk) (r : List Tk) (f : Int) : hdC (t :: r) f = (if t.ln = f then 1 else 0) + hdC r f := by
  unfold hdC
  rw [List.filter_cons]
  by_cases h : t.ln = f
  · simp [h, Nat.add_comm]
  · simp [h]
def HdI (X : List Int) (R : FmO) : HOut → Prop
  | .bad er p => R = .bad er p.line (colP p)
  | .ok hv hc p => LnI X p ∧ R = fmA (endL X) (endC X) hv hc [] [] (tkAt X p)
theorem hd_agree {T : Nat → Int} {n : Nat} {X : List Int} (hx : TX T n X) : HdI X (fmP X) (hdP T n ⟨0, 1, 0⟩) := by
  obtain ⟨h1, h2, h3, h4⟩ := seek_tk hx n ⟨0, 1, 0⟩ (by show n - 0 ≤ n; omega) (Nat.zero_le _) (LnI.start X)
  unfold fmP hdP
  rw [tkP_at, h3]
  generalize hR : seekF T n ⟨0, 1, 0⟩ = R at *
  obtain ⟨Rb, q⟩ := R
  dsimp only at *
  cases Rb with
  | false =>
    rw [if_neg (show ¬ false = true by decide)] at h4 ⊢
    have hf := h2.fin (by rw [hx.1]; exact h4)
    rw [tk_none (by rw [hx.1]; exact h4), if_pos (by rfl)]
    show FmO.bad 6 _ _ = .bad 6 q.line (colP q)
    rw [hf.1, hf.2]
  | true =>
    rw [if_pos rfl] at h4 ⊢
    obtain ⟨k1, k2, k3⟩ := h4
    obtain ⟨e1, e2, e3⟩ := tk_here hx k1 h2.1 k2 k3
    have el := h2.tok hx (n - q.off) q h1
    have eb := blkQ_tk hx (p := tokQ T n q) el (by show q.bol < tokO T n q.off; have := h2.1; omega) e2
    rw [if_neg (show ¬ (tkAt X q).length = 0 by rw [e3]; simp)]
    unfold fm1
    have g0 : tg (tkAt X q) 0 = ⟨cutX X q.off (tokO T n q.off), q.line, colP q⟩ := by rw [e3]; rfl
    rw [g0]
    dsimp only
    have w0 := wordB_cut hx e2 (o := q.off) [112]
    by_cases hw : wordB T q.off (tokO T n q.off) [112] = true
    · rw [if_pos hw, if_pos (by rw [w0.1 hw]; rfl)]
      -- the second token
      generalize hT1 : tkAt X (tokQ T n q) = R1 at *
      rw [show tkAt X ⟨tokO T n q.off, q.line, q.bol⟩ = R1 from hT1] at e3
      obtain ⟨b1, b2, b3, b4, b5, b6⟩ := eb
      generalize blkQ T n (tokQ T n q) = q1 at *
      have hl1 : q1.line = q.line := b6
      generalize he0 : eolM X (q.line - 1).toNat = e0
      have hh1 : hdC (tkAt X q) q.line = 1 + hdC R1 q.line := by rw [e3, hdC_cons, if_pos rfl]
      unfold hdCnf fm2
      by_cases m1 : moreP T n q1.off = true
      · obtain ⟨c1, c2, c3⟩ := hd_more hx b1 b2 b5 m1
        rw [b4, c3] at e3 hh1
        rw [hdC_cons, if_pos hl1] at hh1
        have g1 : tg (tkAt X q) 1 = ⟨cutX X q1.off (tokO T n q1.off), q1.line, colP q1⟩ := by rw [e3]; rfl
        rw [if_pos m1, if_neg (by omega), g1]
        dsimp only
        have w1 := wordB_cut hx c2 (o := q1.off) [99, 110, 102]
        by_cases hw1 : wordB T q1.off (tokO T n q1.off) [99, 110, 102] = true
        · rw [if_pos hw1, if_pos (by rw [w1.1 hw1]; rfl)]
          have eb2 := blkQ_tk hx (p := tokQ T n q1) (b1.tok hx (n - q1.off) q1 b3) (by show q1.bol < tokO T n q1.off; omega) c2
          generalize hT2 : tkAt X (tokQ T n q1) = R2 at *
          obtain ⟨b1', b2', b3', b4', b5', b6'⟩ := eb2
          generalize blkQ T n (tokQ T n q1) = q2 at *
          have hl2 : q2.line = q.line := b6'.trans hl1
          unfold hdNum1 fm3
          by_cases m2 : moreP T n q2.off = true
          · obtain ⟨c1', c2', c3'⟩ := hd_more hx b1' b2' b5' m2
            rw [b4', c3'] at e3 hh1
            rw [hdC_cons, if_pos hl2] at hh1
            have g2 : tg (tkAt X q) 2 = ⟨cutX X q2.off (tokO T n q2.off), q2.line, colP q2⟩ := by rw [e3]; rfl
            rw [if_pos m2, if_neg (by omega), g2]
            dsimp only
            have n1 := num_cut hx c1' c2' (lim := 16777215) (by decide) (by decide)
            unfold hdN1
            rw [n1]
            by_cases d1 : digM (cutX X q2.off (tokO T n q2.off)) = true
            · rw [if_pos d1, if_pos d1]
              by_cases v1 : numM (cutX X q2.off (tokO T n q2.off)) 16777215 < 0
              · rw [if_pos v1, if_pos v1]
                rw [if_neg (by decide), if_pos (by decide)]
                rfl
              · rw [if_neg v1, if_neg v1]
                dsimp only
                rw [if_neg (by decide), if_neg (by decide)]
                have eb3 := blkQ_tk hx (p := tokQ T n q2) (b1'.tok hx (n - q2.off) q2 b3') (by show q2.bol < tokO T n q2.off; omega) c2'
                generalize hT3 : tkAt X (tokQ T n q2) = R3 at *
                generalize numM (cutX X q2.off (tokO T n q2.off)) 16777215 = vv at *
                obtain ⟨u1, u2, u3, u4, u5, u6⟩ := eb3
                generalize blkQ T n (tokQ T n q2) = q3 at *
                have hl3 : q3.line = q.line := u6.trans hl2
                unfold hdNum2 fm4
                by_cases m3 : moreP T n q3.off = true
                · obtain ⟨x1, x2, x3⟩ := hd_more hx u1 u2 u5 m3
                  rw [u4, x3] at e3 hh1
                  rw [hdC_cons, if_pos hl3] at hh1
                  have g3 : tg (tkAt X q) 3 = ⟨cutX X q3.off (tokO T n q3.off), q3.line, colP q3⟩ := by rw [e3]; rfl
                  rw [if_pos m3, if_neg (by omega), g3]
                  dsimp only
                  have n2 := num_cut hx x1 x2 (lim := 2147483647) (by decide) (by decide)
                  unfold hdN2
                  rw [n2]
                  by_cases d2 : digM (cutX X q3.off (tokO T n q3.off)) = true
                  · rw [if_pos d2, if_pos d2]
                    by_cases v2 : numM (cutX X q3.off (tokO T n q3.off)) 2147483647 < 0
                    · rw [if_pos v2, if_pos v2]
                      rw [if_neg (by decide), if_pos (by decide)]
                      rfl
                    · rw [if_neg v2, if_neg v2]
                      dsimp only
                      rw [if_neg (by decide), if_neg (by decide)]
                      have eb4 := blkQ_tk hx (p := tokQ T n q3) (u1.tok hx (n - q3.off) q3 u3) (by show q3.bol < tokO T n q3.off; omega) x2
                      generalize hT4 : tkAt X (tokQ T n q3) = R4 at *
                      generalize numM (cutX X q3.off (tokO T n q3.off)) 2147483647 = vc at *
                      obtain ⟨y1, y2, y3, y4, y5, y6⟩ := eb4
                      generalize blkQ T n (tokQ T n q3) = q4 at *
                      have hl4 : q4.line = q.line := y6.trans hl3
                      unfold hdEnd fm5
                      by_cases m4 : moreP T n q4.off = true
                      · obtain ⟨z1, z2, z3⟩ := hd_more hx y1 y2 y5 m4
                        rw [y4, z3] at e3 hh1
                        rw [hdC_cons, if_pos hl4] at hh1
                        have g4 : tg (tkAt X q) 4 = ⟨cutX X q4.off (tokO T n q4.off), q4.line, colP q4⟩ := by rw [e3]; rfl
                        rw [if_pos m4, if_pos (by omega), g4]
                        rfl
                      · rw [if_neg m4]
                        have hz := hd_eol hx y1 y3 (by simpa using m4)
                        rw [y4, ← hl4] at hh1
                        rw [← hl4] at *
                        rw [if_neg (by omega)]
                        refine ⟨y1, ?_⟩
                        rw [e3, y4]
                        rfl
                  · rw [if_neg d2, if_neg d2, if_pos rfl]
                    rfl
                · rw [if_neg m3]
                  have hz := hd_eol hx u1 u3 (by simpa using m3)
                  rw [u4, ← hl3, hz.1] at hh1
                  rw [if_pos (by rw [← hl3]; omega)]
                  show FmO.bad 7 _ _ = .bad 7 q3.line (colP q3)
                  rw [hz.2, hl3, he0]
            · rw [if_neg d1, if_neg d1, if_pos rfl]
              rfl
          · rw [if_neg m2]
            have hz := hd_eol hx b1' b3' (by simpa using m2)
            rw [b4', ← hl2, hz.1] at hh1
            rw [if_pos (by rw [← hl2]; omega)]
            show FmO.bad 7 _ _ = .bad 7 q2.line (colP q2)
            rw [hz.2, hl2, he0]
        · rw [if_neg hw1, if_neg (fun z => hw1 (w1.2 (by simpa using z)))]
          rfl
      · rw [if_neg m1]
        have hz := hd_eol hx b1 b3 (by simpa using m1)
        rw [b4, ← hl1, hz.1] at hh1
        rw [if_pos (by rw [← hl1]; omega)]
        show FmO.bad 7 _ _ = .bad 7 q1.line (colP q1)
        rw [hz.2, hl1, he0]
    · rw [if_neg hw, if_neg (fun z => hw (w0.2 (by simpa using z)))]
      rfl
end Go.Proofs.Qxb6500773aGreat
