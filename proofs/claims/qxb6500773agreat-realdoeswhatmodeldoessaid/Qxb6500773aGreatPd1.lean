import Derived.Test.Qxb6500773aGreatAr2
namespace Go.Proofs.Qxb6500773aGreat
set_option maxRecDepth 100000
open Go.RowKit

/-! ### ParseDrat, plain -/
structure DSt where
  p : Plc
  L : List Int
  E : List Int
  D : List Bool
  del : Bool
inductive DOut where
  | go (s : DSt)
  | bad (er line col : Int)
  | done
def pendP (L E : List Int) : Bool := decide (clsP E < L.length)
def colP (p : Plc) : Int := (p.off : Int) - p.bol + 1
/-- One token. -/
def tok1 (T : Nat → Int) (n : Nat) (s : DSt) (p : Plc) : DOut :=
  let e := tokE T n (n - p.off) p.off
  let N := numP T p.off e 16777215 true
  let q := litP N
  let p' : Plc := ⟨if N.2 = 2 then e else p.off, p.line, p.bol⟩
  if q.2 = 0 then (if q.1 = 0 then .go ⟨p', s.L, s.E ++ [(s.L.length : Int)], s.D ++ [s.del], false⟩ else .go ⟨p', s.L ++ [q.1], s.E, s.D, s.del⟩)
  else .bad q.2 p.line (colP p)
def dStep (T : Nat → Int) (n : Nat) (s : DSt) : DOut :=
  let R := seekF T n s.p
  if R.1 = true then
    (if ((!s.del && !pendP s.L s.E) && wordB T R.2.off (tokE T n (n - R.2.off) R.2.off) [100]) = true then .go ⟨⟨tokE T n (n - R.2.off) R.2.off, R.2.line, R.2.bol⟩, s.L, s.E, s.D, true⟩
     else tok1 T n s R.2)
  else if (s.del || pendP s.L s.E) = true then .bad 11 R.2.line (colP R.2) else .done
inductive Run (T : Nat → Int) (n : Nat) : DSt → DSt → Prop
  | refl (s : DSt) : Run T n s s
  | head (s t u : DSt) : dStep T n s = .go t → Run T n t u → Run T n s u
theorem Run.snoc {T : Nat → Int} {n : Nat} {s t u : DSt} (h : Run T n s t) (k : dStep T n t = .go u) : Run T n s u := by
  induction h with
  | refl s => exact .head _ _ _ k (.refl _)
  | head s t u' h1 _ ih => exact .head _ _ _ h1 (ih k)
theorem Run.trans {T : Nat → Int} {n : Nat} {s t u : DSt} (h : Run T n s t) (k : Run T n t u) : Run T n s u := by
  induction h with
  | refl s => exact k
  | head s t u' h1 _ ih => exact .head _ _ _ h1 (ih k)
theorem Run.det {T : Nat → Int} {n : Nat} {s t u : DSt} (h : Run T n s t) (ht : ∀ x, dStep T n t ≠ .go x) (k : Run T n s u) (hu : ∀ x, dStep T n u ≠ .go x) : t = u := by
  induction h with
  | refl s =>
    cases k with
    | refl => rfl
    | head _ t _ h1 _ => exact absurd h1 (ht t)
  | head s t u' h1 _ ih =>
    cases k with
    | refl => exact absurd h1 (hu t)
    | head _ t2 _ h2 k2 =>
      rw [h1] at h2
      cases h2
      exact ih ht k2
/-! ### What the scanner's plain functions give -/
theorem seekP_rng (T : Nat → Int) (n : Nat) : ∀ k p, PlOk n p → PlOk n (seekP T n k p).2 ∧ p.off ≤ (seekP T n k p).2.off ∧ ((seekP T n k p).1 = true → (seekP T n k p).2.off < n)
  | 0, p, h => ⟨h, Nat.le_refl _, fun z => by cases z⟩
  | k + 1, p, h => by
    rw [seekP]
    have ho := h.off
    have hl := h.line
    have hb := h.bol
    split
    · next hlt =>
      split
      · have := seekP_rng T n k ⟨p.off + 1, p.line + 1, p.off + 1⟩ ⟨by show p.off + 1 ≤ n; omega, by show 1 ≤ p.line + 1 ∧ p.line + 1 ≤ ((p.off + 1 : Nat) : Int) + 1; omega, by show p.off + 1 ≤ p.off + 1; omega⟩
        exact ⟨this.1, by have := this.2.1; simp only at this; omega, this.2.2⟩
      · next h10 =>
        split
        · have := seekP_rng T n k ⟨p.off + 1, p.line, p.bol⟩ ⟨by show p.off + 1 ≤ n; omega, by show 1 ≤ p.line ∧ p.line ≤ ((p.off + 1 : Nat) : Int) + 1; omega, by show p.bol ≤ p.off + 1; omega⟩
          exact ⟨this.1, by have := this.2.1; simp only at this; omega, this.2.2⟩
        · split
          · have r := eolE_rng T n (n - p.off) p.off ho
            have := seekP_rng T n k ⟨eolE T n (n - p.off) p.off, p.line, p.bol⟩ ⟨r.2, by show 1 ≤ p.line ∧ p.line ≤ ((eolE T n (n - p.off) p.off : Nat) : Int) + 1; omega, by show p.bol ≤ eolE T n (n - p.off) p.off; omega⟩
            exact ⟨this.1, by have := this.2.1; simp only at this; omega, this.2.2⟩
          · exact ⟨h, Nat.le_refl _, fun _ => hlt⟩
    · exact ⟨h, Nat.le_refl _, fun z => by cases z⟩
theorem seekF_rng (T : Nat → Int) (n : Nat) (p : Plc) (h : PlOk n p) : PlOk n (seekF T n p).2 ∧ p.off ≤ (seekF T n p).2.off ∧ ((seekF T n p).1 = true → (seekF T n p).2.off < n) := seekP_rng T n _ p h
theorem digL_rng (T : Nat → Int) (e : Nat) (lim : Int) : ∀ k i v g v' g', 0 ≤ v → (g = false → v ≤ lim) → digL T e lim k i v g = some (v', g') → 0 ≤ v' ∧ (g' = false → v' ≤ lim)
  | 0, i, v, g, v', g', h0, h1, h => by cases h; exact ⟨h0, h1⟩
  | k + 1, i, v, g, v', g', h0, h1, h => by
    rw [digL] at h
    split at h
    · split at h
      · next hd =>
        have hd2 : 48 ≤ T i ∧ T i ≤ 57 := by unfold digitP at hd; simp at hd; exact hd
        split at h
        · next hg => exact digL_rng T e lim k (i + 1) v true v' g' h0 (fun z => by cases z) h
        · exact digL_rng T e lim k (i + 1) _ _ v' g' (by omega) (fun z => by simp at z; omega) h
      · cases h
    · cases h; exact ⟨h0, h1⟩
theorem numP_rng (T : Nat → Int) (off e : Nat) (lim : Int) (sg : Bool) (hl : 0 ≤ lim) (hoe : off ≤ e) (h : (numP T off e lim sg).2 = 2) : off < e ∧ -lim ≤ (numP T off e lim sg).1 ∧ (numP T off e lim sg).1 ≤ lim := by
  unfold numP at h ⊢
  dsimp only at h ⊢
  have hneg : (if (sg && (decide (off < e) && (T off == 45))) = true then off + 1 else off) = e ∨ off < e := by
    split
    · next z => simp at z; exact .inr z.2.1
    · omega
  generalize (sg && (decide (off < e) && (T off == 45))) = neg at h hneg ⊢
  generalize (if neg = true then off + 1 else off) = i at h hneg ⊢
  by_cases hi : i = e
  · rw [if_pos hi] at h; cases h
  · rw [if_neg hi] at h ⊢
    have hlt : off < e := hneg.resolve_left hi
    cases hd : digL T e lim (e - i) i 0 false with
    | none => rw [hd] at h; cases h
    | some x =>
      obtain ⟨v, g⟩ := x
      rw [hd] at h
      have hr := digL_rng T e lim _ _ _ _ _ _ (by omega) (fun _ => hl) hd
      rw [numR_some] at h ⊢
      cases g
      · have hv := hr.2 rfl
        cases neg
        · exact ⟨hlt, by simp; omega, by simpa using hv⟩
        · by_cases hv0 : v = 0
          · simp [hv0] at h
          · exact ⟨hlt, by simp [hv0]; omega, by simp [hv0]; omega⟩
      · cases h
theorem numP_cls (T : Nat → Int) (off e : Nat) (lim : Int) (sg : Bool) : (numP T off e lim sg).2 = 0 ∨ (numP T off e lim sg).2 = 1 ∨ (numP T off e lim sg).2 = 2 := by
  unfold numP
  dsimp only
  generalize (sg && (decide (off < e) && (T off == 45))) = neg
  generalize (if neg = true then off + 1 else off) = i
  by_cases hi : i = e
  · rw [if_pos hi]; exact .inl rfl
  · rw [if_neg hi]
    cases digL T e lim (e - i) i 0 false with
    | none => exact .inl rfl
    | some x =>
      obtain ⟨v, g⟩ := x
      rw [numR_some]
      cases g
      · cases neg
        · exact .inr (.inr rfl)
        · by_cases hv : v = 0
          · rw [if_neg (by decide), if_pos rfl, if_pos hv]; exact .inl rfl
          · rw [if_neg (by decide), if_pos rfl, if_neg hv]; exact .inr (.inr rfl)
      · exact .inr (.inl rfl)
/-- A literal that is none of the failures. -/
def LitOk (x : Int) : Prop := 2 ≤ x ∧ x ≤ 33554431
theorem litP_ok {N : Int × Int} (hc : N.2 = 0 ∨ N.2 = 1 ∨ N.2 = 2) (h : (litP N).2 = 0) (hr : N.2 = 2 → -16777215 ≤ N.1 ∧ N.1 ≤ 16777215) : N.2 = 2 ∧ ((litP N).1 = 0 ∨ LitOk (litP N).1) := by
  unfold litP at h ⊢
  rcases hc with z | z | z
  · rw [if_pos z] at h; cases h
  · rw [if_neg (by omega), if_pos z] at h; cases h
  · refine ⟨z, ?_⟩
    rw [if_neg (by omega), if_neg (by omega)] at h ⊢
    have := hr z
    by_cases h0 : N.1 = 0
    · rw [if_pos h0]; exact .inl rfl
    · rw [if_neg h0] at h ⊢
      right
      unfold fromP LitOk packP
      rw [if_neg h0, if_neg (by omega)]
      dsimp only
      split <;> omega
/-! ### The invariant -/
structure DOk (n : Nat) (s : DSt) : Prop where
  pl : PlOk n s.p
  len : s.L.length + s.E.length ≤ s.p.off
  dl : s.D.length = s.E.length
  lit : ∀ x ∈ s.L, LitOk x
  asc : ∀ (i j : Nat) (x y : Int), i ≤ j → s.E[i]? = some x → s.E[j]? = some y → x ≤ y
  rng : ∀ x ∈ s.E, 0 ≤ x ∧ x ≤ s.L.length
theorem clsP_rng {n : Nat} {s : DSt} (h : DOk n s) : 0 ≤ clsP s.E ∧ clsP s.E ≤ s.L.length := by
  unfold clsP
  cases hl : s.E.getLast? with
  | none => exact ⟨Int.le_refl _, by show (0 : Int) ≤ _; omega⟩
  | some x => exact h.rng x (List.mem_of_getLast? hl)
theorem DOk.step {T : Nat → Int} {n : Nat} {s t : DSt} (h : DOk n s) (k : dStep T n s = .go t) : DOk n t ∧ s.p.off < t.p.off := by
  unfold dStep at k
  dsimp only at k
  have hs := seekF_rng T n s.p h.pl
  generalize seekF T n s.p = R at k hs
  obtain ⟨rb, p⟩ := R
  dsimp only at k hs
  obtain ⟨hp, hle, hlt⟩ := hs
  have hlen := h.len
  have hpo := hp.off
  have hpl := hp.line
  have hpb := hp.bol
  split at k
  · next hrb =>
    have hlt := hlt hrb
    have hte := tokE_rng T n (n - p.off) p.off hpo
    split at k
    · next hw =>
      cases k
      have hwe : tokE T n (n - p.off) p.off - p.off = 1 := by
        have := (Bool.and_eq_true_iff.1 hw).2
        unfold wordB at this
        have := (Bool.and_eq_true_iff.1 this).1
        simpa using this
      refine ⟨⟨⟨hte.2, by show 1 ≤ p.line ∧ p.line ≤ ((tokE T n (n - p.off) p.off : Nat) : Int) + 1; omega, by show p.bol ≤ tokE T n (n - p.off) p.off; omega⟩, ?_, h.dl, h.lit, h.asc, h.rng⟩, ?_⟩
      · show s.L.length + s.E.length ≤ tokE T n (n - p.off) p.off
        omega
      · show s.p.off < tokE T n (n - p.off) p.off
        omega
    · unfold tok1 at k
      dsimp only at k
      have hcl := numP_cls T p.off (tokE T n (n - p.off) p.off) 16777215 true
      have hnr := numP_rng T p.off (tokE T n (n - p.off) p.off) 16777215 true (by decide) hte.1
      generalize numP T p.off (tokE T n (n - p.off) p.off) 16777215 true = N at k hcl hnr
      split at k
      · next hq =>
        have hok := litP_ok hcl hq (fun z => (hnr z).2)
        have hlt2 := (hnr hok.1).1
        rw [if_pos hok.1] at k
        split at k
        · cases k
          refine ⟨⟨⟨hte.2, by show 1 ≤ p.line ∧ p.line ≤ ((tokE T n (n - p.off) p.off : Nat) : Int) + 1; omega, by show p.bol ≤ tokE T n (n - p.off) p.off; omega⟩, ?_, ?_, h.lit, ?_, ?_⟩, ?_⟩
          · show s.L.length + (s.E ++ [(s.L.length : Int)]).length ≤ tokE T n (n - p.off) p.off
            simp only [List.length_append, List.length_singleton]
            omega
          · show (s.D ++ [s.del]).length = (s.E ++ [(s.L.length : Int)]).length
            simp only [List.length_append, List.length_singleton]
            rw [h.dl]
          · intro i j x y hij hx hy
            show x ≤ y
            rcases Nat.lt_or_ge j s.E.length with hj | hj
            · rw [List.getElem?_append_left (by omega)] at hx
              rw [List.getElem?_append_left hj] at hy
              exact h.asc i j x y hij hx hy
            · have hxr : x ≤ s.L.length := by
                rcases List.mem_append.1 (List.mem_of_getElem? hx) with z | z
                · exact (h.rng x z).2
                · rw [List.mem_singleton.1 z]; exact Int.le_refl _
              rw [List.getElem?_append_right hj] at hy
              have hy2 := List.mem_of_getElem? hy
              rw [List.mem_singleton.1 hy2]
              exact hxr
          · intro x hx
            show 0 ≤ x ∧ x ≤ s.L.length
            rcases List.mem_append.1 hx with z | z
            · exact h.rng x z
            · rw [List.mem_singleton.1 z]; omega
          · show s.p.off < tokE T n (n - p.off) p.off
            omega
        · next hq1 =>
          cases k
          refine ⟨⟨⟨hte.2, by show 1 ≤ p.line ∧ p.line ≤ ((tokE T n (n - p.off) p.off : Nat) : Int) + 1; omega, by show p.bol ≤ tokE T n (n - p.off) p.off; omega⟩, ?_, h.dl, ?_, h.asc, ?_⟩, ?_⟩
          · show (s.L ++ [(litP N).1]).length + s.E.length ≤ tokE T n (n - p.off) p.off
            simp only [List.length_append, List.length_singleton]
            omega
          · intro x hx
            rcases List.mem_append.1 hx with z | z
            · exact h.lit x z
            · rw [List.mem_singleton.1 z]; exact hok.2.resolve_left hq1
          · intro x hx
            have := h.rng x hx
            show 0 ≤ x ∧ x ≤ ((s.L ++ [(litP N).1]).length : Nat)
            simp only [List.length_append, List.length_singleton]
            omega
          · show s.p.off < tokE T n (n - p.off) p.off
            omega
      · cases k
  · split at k <;> cases k
def dst0 : DSt := ⟨⟨0, 1, 0⟩, [], [], [], false⟩
theorem dok0 (n : Nat) : DOk n dst0 := ⟨⟨Nat.zero_le _, by decide, Nat.le_refl _⟩, Nat.le_refl _, rfl, fun x h => (by cases h), fun i j x y _ h => (by cases h), fun x h => (by cases h)⟩
end Go.Proofs.Qxb6500773aGreat
