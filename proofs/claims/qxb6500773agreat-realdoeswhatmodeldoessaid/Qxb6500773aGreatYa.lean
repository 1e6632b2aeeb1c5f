import Derived.Test.Qxb6500773aGreatMz0
import Derived.Test.Qxb6500773aGreatPl3
namespace Go.Proofs.Qxb6500773aGreat
open Go.RowKit

/-! ### The tokens of a text, byte by byte -/
def flu (ln : Int) (i : Nat) (cur : List Int) : List Tk := if cur = [] then [] else [⟨cur, ln, (i : Int) - cur.length + 1⟩]
def tkS : Int → Bool → Nat → List Int → List Int → List Tk
  | ln, _, i, cur, [] => flu ln i cur
  | ln, cm, i, cur, b :: r =>
    if b = 10 then flu ln i cur ++ tkS (ln + 1) false 0 [] r
    else if cm = true then tkS ln true (i + 1) [] r
    else if i = 0 ∧ b = 99 then tkS ln true 1 [] r
    else if spM b = true then flu ln i cur ++ tkS ln false (i + 1) [] r
    else tkS ln false (i + 1) (cur ++ [b]) r
theorem tkS_nil (ln : Int) (cm : Bool) (i : Nat) (cur : List Int) : tkS ln cm i cur [] = flu ln i cur := rfl
theorem tkS_cons (ln : Int) (cm : Bool) (i : Nat) (cur : List Int) (b : Int) (r : List Int) : tkS ln cm i cur (b :: r) = if b = 10 then flu ln i cur ++ tkS (ln + 1) false 0 [] r
    else if cm = true then tkS ln true (i + 1) [] r
    else if i = 0 ∧ b = 99 then tkS ln true 1 [] r
    else if spM b = true then flu ln i cur ++ tkS ln false (i + 1) [] r
    else tkS ln false (i + 1) (cur ++ [b]) r := rfl
theorem flu_nil (ln : Int) (i : Nat) : flu ln i [] = [] := if_pos rfl
theorem tkA_out (ln : Int) (k : Nat) : ∀ (Y : List Int) (out : List Tk) (cur : List Int) (i : Nat), tkA ln k out cur i Y = out ++ tkA ln k [] cur i Y
  | [], out, cur, i => by simp [tkA]
  | b :: r, out, cur, i => by
    unfold tkA
    split
    · split
      · rw [tkA_out ln k r (out ++ _), tkA_out ln k r ([] ++ _)]; simp
      · exact tkA_out ln k r out cur (i + 1)
    · split
      · rw [tkA_out ln k r (out ++ _), tkA_out ln k r ([] ++ _)]; simp
      · exact tkA_out ln k r out _ (i + 1)
theorem tkL_out : ∀ (L : List (List Int)) (out : List Tk) (n : Nat), tkL out n L = out ++ tkL [] n L
  | [], out, n => by simp [tkL]
  | Y :: r, out, n => by
    unfold tkL
    split
    · exact tkL_out r out (n + 1)
    · rw [tkL_out r (tkA _ _ out _ _ _), tkL_out r (tkA _ _ [] _ _ _), tkA_out _ _ Y out]; simp
theorem lnA_out : ∀ (X : List Int) (F : List (List Int)) (C : List Int), lnA F C X = F ++ lnA [] C X
  | [], F, C => by simp [lnA]
  | b :: r, F, C => by
    unfold lnA
    split
    · rw [lnA_out r (F ++ [C]), lnA_out r ([] ++ [C])]; simp
    · exact lnA_out r F _
/-- what follows a line -/
def Eol (r : List Int) : Prop := r = [] ∨ ∃ r', r = 10 :: r'
theorem tkS_line (ln : Int) {r : List Int} (hr : Eol r) : ∀ (Z : List Int) (i : Nat) (cur : List Int), (∀ x ∈ Z, x ≠ 10) → (i = 0 → Z.head? ≠ some 99) → (Z = [] → cur = []) →
    tkS ln false i cur (Z ++ r) = tkA ln (i + Z.length) [] cur i Z ++ tkS ln false (i + Z.length) [] r
  | [], i, cur, _, _, h3 => by
    rw [h3 rfl]
    simp [tkA]
  | b :: Z, i, cur, h1, h2, h3 => by
    have hb : b ≠ 10 := h1 b List.mem_cons_self
    have h1' : ∀ x ∈ Z, x ≠ 10 := fun x hx => h1 x (List.mem_cons_of_mem _ hx)
    have hk : i + (b :: Z).length = (i + 1) + Z.length := by rw [List.length_cons]; omega
    rw [List.cons_append, tkS_cons]
    unfold tkA
    rw [if_neg hb, if_neg (by decide), if_neg (fun z => h2 z.1 (by rw [z.2]; rfl))]
    by_cases hs : spM b = true
    · rw [if_pos hs, if_pos hs]
      rw [tkS_line ln hr Z (i + 1) [] h1' (fun z => by omega) (fun _ => rfl), hk]
      by_cases hc : 0 < cur.length
      · rw [if_pos hc, tkA_out ln _ Z ([] ++ _)]
        have : cur ≠ [] := fun z => by subst z; simp at hc
        unfold flu
        rw [if_neg this]
        have e : (i : Int) - 1 - cur.length + 2 = (i : Int) - cur.length + 1 := by omega
        simp [e]
      · rw [if_neg hc]
        have : cur = [] := List.length_eq_zero_iff.1 (by omega)
        subst this
        rw [flu_nil]; simp
    · rw [if_neg hs, if_neg hs, hk]
      by_cases hl : i + 1 = i + 1 + Z.length
      · have hz : Z = [] := List.length_eq_zero_iff.1 (by omega)
        subst hz
        rw [if_pos (by simp)]
        simp only [List.nil_append, List.length_nil, Nat.add_zero, tkA]
        have e : (i : Int) - ((cur.length : Int) + 1) + 2 = ((i + 1 : Nat) : Int) - ((cur ++ [b]).length : Int) + 1 := by rw [List.length_append, List.length_singleton]; omega
        have hf : flu ln (i + 1) (cur ++ [b]) = [⟨cur ++ [b], ln, (i : Int) - ((cur.length : Int) + 1) + 2⟩] := by
          unfold flu
          rw [if_neg (by simp), e]
        rcases hr with rfl | ⟨r', rfl⟩
        · rw [tkS_nil, tkS_nil, hf, flu_nil]; simp
        · rw [tkS_cons, tkS_cons, if_pos rfl, if_pos rfl, hf, flu_nil]; simp
      · rw [if_neg hl]
        exact tkS_line ln hr Z (i + 1) (cur ++ [b]) h1' (fun z => by omega) (fun z => by subst z; simp at hl)
theorem tkS_com (ln : Int) {r : List Int} (hr : Eol r) : ∀ (Z : List Int) (i : Nat), (∀ x ∈ Z, x ≠ 10) → tkS ln true i [] (Z ++ r) = tkS ln false (i + Z.length) [] r
  | [], i, _ => by
    rcases hr with rfl | ⟨r', rfl⟩
    · unfold tkS; simp [flu]
    · simp [tkS]
  | b :: Z, i, h => by
    rw [List.cons_append]
    conv => lhs; unfold tkS
    rw [if_neg (h b List.mem_cons_self), if_pos rfl, tkS_com ln hr Z (i + 1) (fun x hx => h x (List.mem_cons_of_mem _ hx)), List.length_cons, show i + 1 + Z.length = i + (Z.length + 1) by omega]
/-- the tokens of one line -/
theorem tkS_one (ln : Int) {r C : List Int} (hr : Eol r) (h : ∀ x ∈ C, x ≠ 10) : tkS ln false 0 [] (C ++ r) = (if C.head? = some 99 then [] else tkA ln C.length [] [] 0 C) ++ tkS ln false C.length [] r := by
  split
  · rename_i h9
    cases C with
    | nil => cases h9
    | cons b C =>
      have hb : b = 99 := by simpa using h9
      subst hb
      rw [List.cons_append]
      conv => lhs; unfold tkS
      rw [if_neg (by decide), if_neg (by decide), if_pos ⟨rfl, rfl⟩, tkS_com ln hr C 1 (fun x hx => h x (List.mem_cons_of_mem _ hx)), List.length_cons, Nat.add_comm]
      rfl
  · rename_i h9
    have := tkS_line ln hr C 0 [] h (fun _ => h9) (fun _ => rfl)
    rw [Nat.zero_add] at this
    exact this
theorem tkL_S : ∀ (X C : List Int) (m : Nat), (∀ x ∈ C, x ≠ 10) → tkL [] m (lnA [] C X) = tkS ((m : Int) + 1) false 0 [] (C ++ X)
  | [], C, m, h => by
    rw [tkS_one _ (.inl rfl) h]
    have e : tkS ((m : Int) + 1) false C.length [] [] = [] := by unfold tkS; exact flu_nil _ _
    rw [e, List.append_nil]
    show tkL [] m [C] = _
    unfold tkL
    split <;> rfl
  | b :: r, C, m, h => by
    by_cases hb : b = 10
    · subst hb
      have e : lnA [] C (10 :: r) = C :: lnA [] [] r := by
        rw [show lnA [] C (10 :: r) = lnA ([] ++ [C]) [] r from if_pos rfl, lnA_out]; rfl
      have ih := tkL_S r [] (m + 1) (fun x hx => by cases hx)
      have e2 : tkS ((m : Int) + 1) false C.length [] (10 :: r) = tkS (((m + 1 : Nat) : Int) + 1) false 0 [] r := by
        conv => lhs; unfold tkS
        rw [if_pos rfl, flu_nil, List.nil_append, show (((m + 1 : Nat) : Int) + 1) = (m : Int) + 1 + 1 by omega]
      rw [e, tkS_one _ (.inr ⟨r, rfl⟩) h, e2]
      rw [List.nil_append] at ih
      rw [← ih]
      conv => lhs; unfold tkL
      split
      · rfl
      · exact tkL_out _ _ _
    · have e : lnA [] C (b :: r) = lnA [] (C ++ [b]) r := if_neg hb
      rw [e, tkL_S r (C ++ [b]) m (fun x hx => by
        rcases List.mem_append.1 hx with q | q
        · exact h x q
        · simp at q; subst q; exact hb)]
      simp
theorem tkP_S (X : List Int) : tkP X = tkS 1 false 0 [] X := by
  have := tkL_S X [] 0 (fun x hx => by cases hx)
  exact this
/-! ### The real scanner's places -/
/-- T is the text X -/
def TX (T : Nat → Int) (n : Nat) (X : List Int) : Prop := X.length = n ∧ ∀ i x, X[i]? = some x → T i = x
theorem TX.drop {T : Nat → Int} {n : Nat} {X : List Int} (h : TX T n X) {i : Nat} (hi : i < n) : X.drop i = T i :: X.drop (i + 1) := by
  have hl : i < X.length := by rw [h.1]; exact hi
  rw [List.drop_eq_getElem_cons hl]
  have := h.2 i _ (List.getElem?_eq_getElem hl)
  rw [this]
/-- the tokens from the place p on -/
def tkAt (X : List Int) (p : Plc) : List Tk := tkS p.line false (p.off - p.bol) [] (X.drop p.off)
/-- the place p in the lines of X -/
def LnI (X : List Int) (p : Plc) : Prop := p.bol ≤ p.off ∧ ∃ F C, lnP X = lnA F C (X.drop p.off) ∧ (F.length : Int) + 1 = p.line ∧ p.bol + C.length = p.off
theorem LnI.start (X : List Int) : LnI X ⟨0, 1, 0⟩ := ⟨Nat.le_refl _, [], [], rfl, rfl, rfl⟩
theorem LnI.nl {T : Nat → Int} {n : Nat} {X : List Int} (hx : TX T n X) {p : Plc} (h : LnI X p) (hp : p.off < n) (h10 : T p.off = 10) : LnI X ⟨p.off + 1, p.line + 1, p.off + 1⟩ := by
  obtain ⟨_, F, C, h1, h2, h3⟩ := h
  rw [hx.drop hp, h10] at h1
  refine ⟨Nat.le_refl _, F ++ [C], [], ?_, ?_, rfl⟩
  · rw [h1]; exact if_pos rfl
  · rw [List.length_append, List.length_singleton]
    show ((F.length + 1 : Nat) : Int) + 1 = p.line + 1
    omega
theorem LnI.ch {T : Nat → Int} {n : Nat} {X : List Int} (hx : TX T n X) {p : Plc} (h : LnI X p) (hp : p.off < n) (h10 : T p.off ≠ 10) : LnI X ⟨p.off + 1, p.line, p.bol⟩ := by
  obtain ⟨h0, F, C, h1, h2, h3⟩ := h
  rw [hx.drop hp] at h1
  refine ⟨Nat.le_succ_of_le h0, F, C ++ [T p.off], ?_, h2, ?_⟩
  · rw [h1]; exact if_neg h10
  · rw [List.length_append, List.length_singleton]
    show p.bol + (C.length + 1) = p.off + 1
    omega
theorem LnI.eol {T : Nat → Int} {n : Nat} {X : List Int} (hx : TX T n X) : ∀ (k : Nat) (p : Plc), LnI X p → p.off ≤ n → LnI X ⟨eolE T n k p.off, p.line, p.bol⟩
  | 0, p, h, _ => h
  | k + 1, p, h, hn => by
    rw [eolE]
    split
    · next hc => exact LnI.eol hx k ⟨p.off + 1, p.line, p.bol⟩ (h.ch hx hc.1 hc.2) hc.1
    · exact h
theorem LnI.tok {T : Nat → Int} {n : Nat} {X : List Int} (hx : TX T n X) : ∀ (k : Nat) (p : Plc), LnI X p → p.off ≤ n → LnI X ⟨tokE T n k p.off, p.line, p.bol⟩
  | 0, p, h, _ => h
  | k + 1, p, h, hn => by
    rw [tokE]
    split
    · next hc => exact LnI.tok hx k ⟨p.off + 1, p.line, p.bol⟩ (h.ch hx hc.1 (sp_blank hc.2).2) hc.1
    · exact h
/-- the end of the text -/
theorem LnI.fin {X : List Int} {p : Plc} (h : LnI X p) (hp : p.off = X.length) : p.line = ((lnP X).length : Int) ∧ colP p = eolM X ((lnP X).length - 1) := by
  obtain ⟨_, F, C, h1, h2, h3⟩ := h
  rw [hp, List.drop_length] at h1
  have h4 : lnP X = F ++ [C] := h1
  unfold eolM colP
  rw [h4]
  refine ⟨by simp; omega, ?_⟩
  simp
  omega
/-- the end of a line -/
theorem LnI.lend {T : Nat → Int} {n : Nat} {X : List Int} (hx : TX T n X) {p : Plc} (h : LnI X p) (hp : p.off ≤ n) (he : p.off = n ∨ T p.off = 10) : colP p = eolM X (p.line - 1).toNat := by
  obtain ⟨_, F, C, h1, h2, h3⟩ := h
  have hl : (p.line - 1).toNat = F.length := by omega
  have h4 : ∃ R, lnP X = F ++ C :: R := by
    by_cases hn : p.off = n
    · rw [hn, ← hx.1, List.drop_length] at h1
      exact ⟨[], h1⟩
    · have h10 : T p.off = 10 := he.resolve_left hn
      rw [hx.drop (by omega), h10] at h1
      rw [h1, show lnA F C (10 :: X.drop (p.off + 1)) = lnA (F ++ [C]) [] (X.drop (p.off + 1)) from if_pos rfl, lnA_out]
      exact ⟨lnA [] [] (X.drop (p.off + 1)), by simp⟩
  obtain ⟨R, h4⟩ := h4
  unfold eolM colP
  rw [h4, hl]
  simp
  omega
theorem spM_P (b : Int) : spM b = spaceP b := by
  unfold spM spaceP blankP
  cases h1 : (b == 32) <;> cases h2 : (b == 9) <;> cases h3 : (b == 13) <;> cases h4 : (b == 10) <;> rfl
/-- in a comment to the line's end -/
theorem tkS_eol {T : Nat → Int} {n : Nat} {X : List Int} (hx : TX T n X) (ln : Int) : ∀ (k o i : Nat), n - o ≤ k → o ≤ n → 0 < i → tkS ln true i [] (X.drop o) = tkS ln false (i + (eolE T n k o - o)) [] (X.drop (eolE T n k o))
  | 0, o, i, hk, ho, hi => by
    rw [eolE, show X.drop o = [] from List.drop_eq_nil_of_le (by rw [hx.1]; omega)]
    unfold tkS flu
    rfl
  | k + 1, o, i, hk, ho, hi => by
    rw [eolE]
    split
    · next hc =>
      have h1 := (eolE_rng T n k (o + 1) (by omega)).1
      rw [hx.drop hc.1]
      conv => lhs; unfold tkS
      rw [if_neg hc.2, if_pos rfl, tkS_eol hx ln k (o + 1) (i + 1) (by omega) (by omega) (by omega), show i + 1 + (eolE T n k (o + 1) - (o + 1)) = i + (eolE T n k (o + 1) - o) by omega]
    · next hc =>
      by_cases hn : o < n
      · have h10 : T o = 10 := Classical.byContradiction fun z => hc ⟨hn, z⟩
        rw [hx.drop hn, h10]
        unfold tkS
        rw [if_pos rfl, if_pos rfl, flu_nil, flu_nil]
      · rw [show X.drop o = [] from List.drop_eq_nil_of_le (by rw [hx.1]; omega)]
        unfold tkS flu
        rfl
/-- the scanner seeks the next token -/
theorem seek_tk {T : Nat → Int} {n : Nat} {X : List Int} (hx : TX T n X) : ∀ (k : Nat) (p : Plc), n - p.off ≤ k → p.off ≤ n → LnI X p →
    (seekF T n p).2.off ≤ n ∧ LnI X (seekF T n p).2 ∧ tkAt X p = tkAt X (seekF T n p).2 ∧
    (if (seekF T n p).1 = true then (seekF T n p).2.off < n ∧ spaceP (T (seekF T n p).2.off) = false ∧ ¬ (T (seekF T n p).2.off = 99 ∧ (seekF T n p).2.off = (seekF T n p).2.bol) else (seekF T n p).2.off = n)
  | 0, p, hk, hp, hl => by
    rw [seekF_end (by omega)]
    exact ⟨hp, hl, rfl, by rw [if_neg (by simp)]; show p.off = n; omega⟩
  | k + 1, p, hk, hp, hl => by
    by_cases hn : p.off < n
    · rw [seekF_step hn]
      split
      · next h10 =>
        obtain ⟨h1, h2, h3, h4⟩ := seek_tk hx k ⟨p.off + 1, p.line + 1, p.off + 1⟩ (by show n - (p.off + 1) ≤ k; omega) hn (hl.nl hx hn h10)
        refine ⟨h1, h2, ?_, h4⟩
        rw [← h3]
        unfold tkAt
        rw [hx.drop hn, h10]
        conv => lhs; unfold tkS
        rw [if_pos rfl, flu_nil]
        simp
      · next h10 =>
        split
        · next hb =>
          obtain ⟨h1, h2, h3, h4⟩ := seek_tk hx k ⟨p.off + 1, p.line, p.bol⟩ (by show n - (p.off + 1) ≤ k; omega) hn (hl.ch hx hn h10)
          refine ⟨h1, h2, ?_, h4⟩
          rw [← h3]
          unfold tkAt
          have hs : spM (T p.off) = true := by rw [spM_P]; unfold spaceP; rw [hb]; simp
          have h9 : T p.off ≠ 99 := fun z => by rw [z] at hb; cases hb
          rw [hx.drop hn]
          conv => lhs; unfold tkS
          rw [if_neg h10, if_neg (by decide), if_neg (fun z => h9 z.2), if_pos hs, flu_nil]
          have := hl.1
          rw [show p.off + 1 - p.bol = p.off - p.bol + 1 by omega]
          rfl
        · next hb =>
          split
          · next h9 =>
            have hg := eolE_gt T hn h10
            have hr := eolE_rng T n (n - p.off) p.off hp
            obtain ⟨h1, h2, h3, h4⟩ := seek_tk hx k ⟨eolE T n (n - p.off) p.off, p.line, p.bol⟩ (by show n - eolE T n (n - p.off) p.off ≤ k; omega) hr.2 (hl.eol hx _ p hp)
            refine ⟨h1, h2, ?_, h4⟩
            rw [← h3]
            unfold tkAt
            conv => lhs; rw [hx.drop hn]; unfold tkS
            rw [if_neg h10, if_neg (by decide), if_pos ⟨by omega, h9.1⟩]
            have := tkS_eol hx p.line (n - (p.off + 1)) (p.off + 1) 1 (by omega) (by omega) (by decide)
            rw [this]
            have e : eolE T n (n - p.off) p.off = eolE T n (n - (p.off + 1)) (p.off + 1) := by rw [eolE_step T hn, if_pos h10]
            rw [e] at hg ⊢
            rw [show 1 + (eolE T n (n - (p.off + 1)) (p.off + 1) - (p.off + 1)) = eolE T n (n - (p.off + 1)) (p.off + 1) - p.bol by omega]
          · next h9 =>
            refine ⟨hp, hl, rfl, ?_⟩
            rw [if_pos rfl]
            refine ⟨hn, ?_, h9⟩
            show spaceP (T p.off) = false
            unfold spaceP
            rw [Bool.not_eq_true] at hb
            rw [hb]
            simp [h10]
    · rw [seekF_end hn]
      exact ⟨hp, hl, rfl, by rw [if_neg (by simp)]; show p.off = n; omega⟩
/-- the bytes from o to e -/
def cutX (X : List Int) (o e : Nat) : List Int := (X.take e).drop o
theorem cutX_self (X : List Int) (o : Nat) : cutX X o o = [] := by
  unfold cutX
  exact List.drop_eq_nil_of_le (by rw [List.length_take]; omega)
theorem cutX_cons {T : Nat → Int} {n : Nat} {X : List Int} (hx : TX T n X) {o e : Nat} (ho : o < e) (he : e ≤ n) : cutX X o e = T o :: cutX X (o + 1) e := by
  unfold cutX
  have hl : o < (X.take e).length := by rw [List.length_take, hx.1]; omega
  rw [List.drop_eq_getElem_cons hl, List.getElem_take, hx.2 o _ (List.getElem?_eq_getElem (by rw [hx.1]; omega))]
/-- a token to its end -/
theorem tkS_tok {T : Nat → Int} {n : Nat} {X : List Int} (hx : TX T n X) (ln : Int) : ∀ (k o i : Nat) (cur : List Int), n - o ≤ k → o ≤ n → 0 < i → cur ≠ [] →
    tkS ln false i cur (X.drop o) = ⟨cur ++ cutX X o (tokE T n k o), ln, (i : Int) - cur.length + 1⟩ :: tkS ln false (i + (tokE T n k o - o)) [] (X.drop (tokE T n k o))
  | 0, o, i, cur, hk, ho, hi, hc => by
    rw [tokE, cutX_self, show X.drop o = [] from List.drop_eq_nil_of_le (by rw [hx.1]; omega)]
    unfold tkS flu
    rw [if_neg hc]
    simp
  | k + 1, o, i, cur, hk, ho, hi, hc => by
    rw [tokE]
    split
    · next hq =>
      have hr := tokE_rng T n k (o + 1) (by omega)
      have hs : ¬ spM (T o) = true := by rw [spM_P, hq.2]; decide
      conv => lhs; rw [hx.drop hq.1]; unfold tkS
      rw [if_neg (sp_blank hq.2).2, if_neg (by decide), if_neg (fun z => by omega), if_neg hs, tkS_tok hx ln k (o + 1) (i + 1) (cur ++ [T o]) (by omega) (by omega) (by omega) (by simp)]
      rw [cutX_cons hx (o := o) (by omega) hr.2, show i + 1 + (tokE T n k (o + 1) - (o + 1)) = i + (tokE T n k (o + 1) - o) by omega]
      have e : ((i + 1 : Nat) : Int) - ((cur ++ [T o]).length : Int) + 1 = (i : Int) - cur.length + 1 := by rw [List.length_append, List.length_singleton]; omega
      rw [e]
      simp
    · next hq =>
      rw [cutX_self, Nat.sub_self, Nat.add_zero, List.append_nil]
      by_cases hn : o < n
      · have hsp : spaceP (T o) = true := by
          cases h : spaceP (T o) with
          | true => rfl
          | false => exact absurd ⟨hn, h⟩ hq
        have h9 : ¬ (i = 0 ∧ T o = 99) := fun z => by omega
        rw [hx.drop hn, tkS_cons, tkS_cons, spM_P, hsp]
        have hf : flu ln i cur = [⟨cur, ln, (i : Int) - cur.length + 1⟩] := by unfold flu; rw [if_neg hc]
        rw [hf, flu_nil]
        by_cases h10 : T o = 10
        · rw [if_pos h10, if_pos h10]; rfl
        · rw [if_neg h10, if_neg h10, if_neg (show ¬ false = true by decide), if_neg (show ¬ false = true by decide), if_neg h9, if_neg h9, if_pos rfl, if_pos rfl]; rfl
      · rw [show X.drop o = [] from List.drop_eq_nil_of_le (by rw [hx.1]; omega)]
        unfold tkS flu
        rw [if_neg hc]
        rfl
/-- at a token -/
theorem tk_here {T : Nat → Int} {n : Nat} {X : List Int} (hx : TX T n X) {q : Plc} (hq : q.off < n) (hb : q.bol ≤ q.off) (hs : spaceP (T q.off) = false) (h9 : ¬ (T q.off = 99 ∧ q.off = q.bol)) :
    q.off < tokO T n q.off ∧ tokO T n q.off ≤ n ∧ tkAt X q = ⟨cutX X q.off (tokO T n q.off), q.line, colP q⟩ :: tkAt X ⟨tokO T n q.off, q.line, q.bol⟩ := by
  have e : tokO T n q.off = tokE T n (n - (q.off + 1)) (q.off + 1) := by
    unfold tokO
    rw [show n - q.off = n - (q.off + 1) + 1 by omega, tokE, if_pos ⟨hq, hs⟩]
  have hr := tokE_rng T n (n - (q.off + 1)) (q.off + 1) (by omega)
  rw [← e] at hr
  refine ⟨by omega, hr.2, ?_⟩
  unfold tkAt
  have hns : ¬ spM (T q.off) = true := by rw [spM_P, hs]; decide
  conv => lhs; rw [hx.drop hq]; unfold tkS
  rw [if_neg (sp_blank hs).2, if_neg (by decide), if_neg (fun z => h9 ⟨z.2, by omega⟩), if_neg hns]
  rw [tkS_tok hx q.line (n - (q.off + 1)) (q.off + 1) (q.off - q.bol + 1) ([] ++ [T q.off]) (by omega) (by omega) (by omega) (by simp), ← e, cutX_cons hx (o := q.off) (by omega) hr.2]
  have e2 : ((q.off - q.bol + 1 : Nat) : Int) - (([] ++ [T q.off] : List Int).length : Int) + 1 = colP q := by unfold colP; simp; omega
  rw [e2, show q.off - q.bol + 1 + (tokO T n q.off - (q.off + 1)) = tokO T n q.off - q.bol by omega]
  rfl
/-- no token is left -/
theorem tk_none {X : List Int} {q : Plc} (hq : q.off = X.length) : tkAt X q = [] := by
  unfold tkAt
  rw [hq, List.drop_length]
  unfold tkS
  exact flu_nil _ _
theorem TX.len {T : Nat → Int} {n : Nat} {X : List Int} (h : TX T n X) : X.length = n := h.1
theorem tkP_at (X : List Int) : tkP X = tkAt X ⟨0, 1, 0⟩ := tkP_S X
end Go.Proofs.Qxb6500773aGreat
