import Derived.Test.Qxb6500774aHh
namespace Go.Proofs.Qxb6500774a
open Go.RowKit
set_option linter.unusedVariables false
set_option linter.unusedSimpArgs false
variable {s : List Int}

/-! ### A printed expression is read back -/
def E.er : E → E
  | .num v _ _ => .num v 0 0
  | .tim v _ _ => .tim v 0 0
  | .bol v _ _ => .bol v 0 0
  | .nm x _ _ => .nm x 0 0
  | .fld e x _ _ => .fld e.er x 0 0
  | .idx e i _ _ => .idx e.er i.er 0 0
  | .un op e _ _ => .un op e.er 0 0
  | .bin op a b _ _ => .bin op a.er b.er 0 0
theorem pj_mono (s : List Int) : ∀ (n : Nat) (j : Job) (st : PSt) (R : E × PSt), pj s n j st = some R → pj s (n + 1) j st = some R := by
  intro n
  induction n with
  | zero => intro j st R h; unfold pj at h; cases h
  | succ n ih =>
    intro j st R h
    cases j with
    | expr m =>
      unfold pj at h ⊢
      split at h
      · cases h
      · next e st1 h1 => rw [ih _ _ _ h1]; exact ih _ _ _ h
    | loop m left =>
      unfold pj at h ⊢
      split at h
      · next hp =>
        rw [if_pos hp]
        split at h
        · cases h
        · next r st2 h1 => rw [ih _ _ _ h1]; exact ih _ _ _ h
      · next hp => rw [if_neg hp]; exact h
    | oper =>
      unfold pj at h ⊢
      split at h
      · next hp => rw [if_pos hp]; exact ih _ _ _ h
      next hp =>
      rw [if_neg hp]
      split at h
      · next hp =>
        rw [if_pos hp]
        split at h
        · next ho =>
          rw [if_pos ho]
          split at h
          · cases h
          · next e st2 h1 => rw [ih _ _ _ h1]; exact h
        · next ho => rw [if_neg ho]; exact h
      next hp =>
      rw [if_neg hp]
      split at h
      · next hp =>
        rw [if_pos hp]
        split at h
        · next ho =>
          rw [if_pos ho]
          split at h
          · cases h
          · next e st2 h1 => rw [ih _ _ _ h1]; exact h
        · next ho => rw [if_neg ho]; exact h
      next hp => rw [if_neg hp]; exact h
    | plac =>
      unfold pj at h ⊢
      exact ih _ _ _ h
    | placL e =>
      unfold pj at h ⊢
      split at h
      · next hp => rw [if_pos hp]; exact ih _ _ _ h
      next hp =>
      rw [if_neg hp]
      split at h
      · next hp =>
        rw [if_pos hp]
        split at h
        · next ho =>
          rw [if_pos ho]
          split at h
          · cases h
          · next i st2 h1 => rw [ih _ _ _ h1]; exact ih _ _ _ h
        · next ho => rw [if_neg ho]; exact h
      next hp => rw [if_neg hp]; exact h
theorem pj_le {n m : Nat} (h : n ≤ m) {j : Job} {st : PSt} {R : E × PSt} (hp : pj s n j st = some R) : pj s m j st = some R := by
  obtain ⟨k, rfl⟩ := Nat.exists_eq_add_of_le h
  induction k with
  | zero => exact hp
  | succ k ih => exact pj_mono s _ _ _ _ (ih (by omega))
def PJ (s : List Int) (j : Job) (st : PSt) (R : E × PSt) : Prop := ∃ n, pj s n j st = some R
theorem PJ.expr {m : Int} {st st1 : PSt} {e : E} {R : E × PSt} (h1 : PJ s .oper st (e, st1)) (h2 : PJ s (.loop m e) st1 R) : PJ s (.expr m) st R := by
  obtain ⟨n1, h1⟩ := h1
  obtain ⟨n2, h2⟩ := h2
  refine ⟨max n1 n2 + 1, ?_⟩
  unfold pj
  rw [pj_le (Nat.le_max_left n1 n2) h1]
  exact pj_le (Nat.le_max_right n1 n2) h2
theorem PJ.loop {m : Int} {k : Nat} {d : Int} {left r : E} {st2 : PSt} {R : E × PSt} (hk : (tks s k).1.k = 5) (hm : m ≤ powP (tks s k).1.x.toList) (h1 : PJ s (.expr (powP (tks s k).1.x.toList + 1)) (.at (k + 1) d) (r, st2)) (h2 : PJ s (.loop m (.bin (tks s k).1.x left r left.l left.c)) st2 R) : PJ s (.loop m left) (.at k d) R := by
  obtain ⟨n1, h1⟩ := h1
  obtain ⟨n2, h2⟩ := h2
  refine ⟨max n1 n2 + 1, ?_⟩
  unfold pj
  rw [if_pos (show powS s m (.at k d) = true by unfold powS tokS; simp [hk, hm]), take_t hk]
  dsimp only
  rw [pj_le (Nat.le_max_left n1 n2) h1]
  exact pj_le (Nat.le_max_right n1 n2) h2
theorem PJ.stop {m : Int} {st : PSt} {left : E} (h : powS s m st = false) : PJ s (.loop m left) st (left, st) := ⟨1, by unfold pj; rw [if_neg (by rw [h]; exact Bool.false_ne_true)]⟩
theorem PJ.name {k : Nat} {d : Int} {R : E × PSt} (hk : (tks s k).1.k = 2) (h : PJ s .plac (.at k d) R) : PJ s .oper (.at k d) R := by
  obtain ⟨n, h⟩ := h
  exact ⟨n + 1, by unfold pj; rw [if_pos (show (tokS s (.at k d)).k = 2 from hk)]; exact h⟩
theorem isK_f {t : TK} {u : ByteArray} (h : t.k ≠ 5) : isK t u = false := by
  unfold isK
  rw [beq_eq_false_iff_ne.2 h, Bool.false_and]
theorem isK_ne {t : TK} {x u : ByteArray} (h : t.x = x) (hx : x.toList ≠ u.toList) : isK t u = false := by
  unfold isK
  rw [h, Bool.and_eq_false_iff]
  right
  simpa using hx
theorem PJ.un {k k2 : Nat} {d : Int} {e : E} (hk : isK (tks s k).1 bNOT = true ∨ isK (tks s k).1 bMIN = true) (hd : d < 64) (h : PJ s .oper (.at (k + 1) (d + 1)) (e, .at k2 (d + 1))) : PJ s .oper (.at k d) (.un (tks s k).1.x e (tks s k).1.l (tks s k).1.c, .at k2 d) := by
  obtain ⟨n, h⟩ := h
  refine ⟨n + 1, ?_⟩
  have h5 : (tks s k).1.k = 5 := by rcases hk with hk | hk <;> exact isK_k hk
  have ho : openS s (.at k d) = (true, .at (k + 1) (d + 1)) := by unfold openS; dsimp only; rw [if_neg (by omega)]
  unfold pj
  rw [if_neg (show ¬ (tokS s (.at k d)).k = 2 by show ¬ (tks s k).1.k = 2; omega), if_pos (show atS s bNOT (.at k d) = true ∨ atS s bMIN (.at k d) = true from hk), ho, if_pos rfl]
  dsimp only
  rw [h]
  show some (_, PSt.at k2 (d + 1 - 1)) = _
  rw [show d + 1 - 1 = d by omega]
  rfl
theorem tl_PAR : bPAR.toList = [40] := by rw [ByteArray.toList_eq]; rfl
theorem PJ.par {k k2 : Nat} {d : Int} {e : E} (hk : isK (tks s k).1 bPAR = true) (hd : d < 64) (h : PJ s (.expr 1) (.at (k + 1) (d + 1)) (e, .at k2 (d + 1))) (hk2 : isK (tks s k2).1 bEND = true) : PJ s .oper (.at k d) (e, .at (k2 + 1) d) := by
  obtain ⟨n, h⟩ := h
  refine ⟨n + 1, ?_⟩
  have h5 := isK_k hk
  have hx := isK_x hk
  have ho : openS s (.at k d) = (true, .at (k + 1) (d + 1)) := by unfold openS; dsimp only; rw [if_neg (by omega)]
  have n1 : atS s bNOT (.at k d) = false := isK_ne rfl (by rw [hx, tl_PAR, tl_NOT]; decide)
  have n2 : atS s bMIN (.at k d) = false := isK_ne rfl (by rw [hx, tl_PAR, tl_MIN]; decide)
  unfold pj
  rw [if_neg (show ¬ (tokS s (.at k d)).k = 2 by show ¬ (tks s k).1.k = 2; omega), if_neg (by rw [n1, n2]; simp), if_pos (show atS s bPAR (.at k d) = true from hk), ho, if_pos rfl]
  dsimp only
  rw [h]
  show some (e, expectS s bEND (PSt.at k2 (d + 1 - 1))) = _
  rw [show d + 1 - 1 = d by omega, expect_t hk2]
theorem PJ.num {k : Nat} {d : Int} (hk : (tks s k).1.k = 3) : PJ s .oper (.at k d) (.num (tks s k).1.v (tks s k).1.l (tks s k).1.c, .at (k + 1) d) := by
  refine ⟨1, ?_⟩
  have n1 : ∀ u, atS s u (.at k d) = false := fun u => isK_f (by omega)
  unfold pj
  rw [if_neg (show ¬ (tokS s (.at k d)).k = 2 by show ¬ (tks s k).1.k = 2; omega), if_neg (by rw [n1, n1]; simp), if_neg (by rw [n1]; simp), if_pos (show (tokS s (.at k d)).k = 3 from hk), take_t hk]
  rfl
theorem PJ.tim {k : Nat} {d : Int} (hk : (tks s k).1.k = 4) : PJ s .oper (.at k d) (.tim (tks s k).1.v (tks s k).1.l (tks s k).1.c, .at (k + 1) d) := by
  refine ⟨1, ?_⟩
  have n1 : ∀ u, atS s u (.at k d) = false := fun u => isK_f (by omega)
  unfold pj
  rw [if_neg (show ¬ (tokS s (.at k d)).k = 2 by show ¬ (tks s k).1.k = 2; omega), if_neg (by rw [n1, n1]; simp), if_neg (by rw [n1]; simp), if_neg (show ¬ (tokS s (.at k d)).k = 3 by show ¬ (tks s k).1.k = 3; omega), if_pos (show (tokS s (.at k d)).k = 4 from hk), take_t hk]
  rfl
theorem tl_TRU : bTRU.toList = [84, 82, 85, 69] := by rw [ByteArray.toList_eq]; rfl
theorem tl_FAL : bFAL.toList = [70, 65, 76, 83, 69] := by rw [ByteArray.toList_eq]; rfl
theorem PJ.bol {k : Nat} {d : Int} (hk : (tks s k).1.k = 5) (hx : (tks s k).1.x = bTRU ∨ (tks s k).1.x = bFAL) : PJ s .oper (.at k d) (.bol (tks s k).1.v (tks s k).1.l (tks s k).1.c, .at (k + 1) d) := by
  refine ⟨1, ?_⟩
  have n1 : atS s bNOT (.at k d) = false := by rcases hx with hx | hx <;> exact isK_ne hx (by simp only [tl_TRU, tl_FAL, tl_NOT]; decide)
  have n2 : atS s bMIN (.at k d) = false := by rcases hx with hx | hx <;> exact isK_ne hx (by simp only [tl_TRU, tl_FAL, tl_MIN]; decide)
  have n3 : atS s bPAR (.at k d) = false := by rcases hx with hx | hx <;> exact isK_ne hx (by simp only [tl_TRU, tl_FAL, tl_PAR]; decide)
  have y : atS s bTRU (.at k d) = true ∨ atS s bFAL (.at k d) = true := by
    rcases hx with hx | hx
    · left; show isK _ _ = true; unfold isK; rw [hk, hx]; simp
    · right; show isK _ _ = true; unfold isK; rw [hk, hx]; simp
  unfold pj
  rw [if_neg (show ¬ (tokS s (.at k d)).k = 2 by show ¬ (tks s k).1.k = 2; omega), if_neg (by rw [n1, n2]; simp), if_neg (by rw [n3]; simp), if_neg (show ¬ (tokS s (.at k d)).k = 3 by show ¬ (tks s k).1.k = 3; omega), if_neg (show ¬ (tokS s (.at k d)).k = 4 by show ¬ (tks s k).1.k = 4; omega), if_pos y, take_t hk]
  rfl
theorem PJ.plac {k : Nat} {d : Int} {R : E × PSt} (hk : (tks s k).1.k = 2) (h : PJ s (.placL (.nm (tks s k).1.x (tks s k).1.l (tks s k).1.c)) (.at (k + 1) d) R) : PJ s .plac (.at k d) R := by
  obtain ⟨n, h⟩ := h
  refine ⟨n + 1, ?_⟩
  unfold pj
  rw [take_t hk]
  exact h
theorem PJ.dot {k : Nat} {d : Int} {e : E} {R : E × PSt} (hk : isK (tks s k).1 bDOT = true) (hk2 : (tks s (k + 1)).1.k = 2) (h : PJ s (.placL (.fld e (tks s (k + 1)).1.x e.l e.c)) (.at (k + 1 + 1) d) R) : PJ s (.placL e) (.at k d) R := by
  obtain ⟨n, h⟩ := h
  refine ⟨n + 1, ?_⟩
  unfold pj
  rw [accept_t hk, if_pos rfl]
  dsimp only
  rw [take_t hk2]
  exact h
theorem tl_DOT : bDOT.toList = [46] := by rw [ByteArray.toList_eq]; rfl
theorem tl_BRA : bBRA.toList = [91] := by rw [ByteArray.toList_eq]; rfl
theorem accept_n {u : ByteArray} {k : Nat} {d : Int} (h : isK (tks s k).1 u = false) : acceptS s u (.at k d) = (false, .at k d) := by
  unfold acceptS
  rw [if_neg (show ¬ atS s u (.at k d) = true by show ¬ isK _ _ = true; rw [h]; exact Bool.false_ne_true)]
theorem PJ.idx {k k2 : Nat} {d : Int} {e i : E} {R : E × PSt} (hk : isK (tks s k).1 bBRA = true) (hd : d < 64) (h : PJ s (.expr 1) (.at (k + 1) (d + 1)) (i, .at k2 (d + 1))) (hk2 : isK (tks s k2).1 bKET = true) (h2 : PJ s (.placL (.idx e i e.l e.c)) (.at (k2 + 1) d) R) : PJ s (.placL e) (.at k d) R := by
  obtain ⟨n1, h⟩ := h
  obtain ⟨n2, h2⟩ := h2
  refine ⟨max n1 n2 + 1, ?_⟩
  have hx := isK_x hk
  have n1 : isK (tks s k).1 bDOT = false := isK_ne rfl (by rw [hx, tl_BRA, tl_DOT]; decide)
  have ho : openS s (.at k d) = (true, .at (k + 1) (d + 1)) := by unfold openS; dsimp only; rw [if_neg (by omega)]
  unfold pj
  rw [accept_n n1, if_neg Bool.false_ne_true, if_pos (show atS s bBRA (.at k d) = true from hk), ho, if_pos rfl]
  dsimp only
  rw [pj_le (Nat.le_max_left _ _) h]
  show pj s _ (.placL (.idx e i e.l e.c)) (expectS s bKET (PSt.at k2 (d + 1 - 1))) = _
  rw [show d + 1 - 1 = d by omega, expect_t hk2]
  exact pj_le (Nat.le_max_right _ _) h2
/-- no place goes on here -/
structure Fol (s : List Int) (k : Nat) : Prop where
  dot : isK (tks s k).1 bDOT = false
  bra : isK (tks s k).1 bBRA = false
theorem PJ.placE {k : Nat} {d : Int} {e : E} (h : Fol s k) : PJ s (.placL e) (.at k d) (e, .at k d) := by
  refine ⟨1, ?_⟩
  unfold pj
  rw [accept_n h.dot, if_neg Bool.false_ne_true, if_neg (show ¬ atS s bBRA (.at k d) = true by show ¬ isK _ _ = true; rw [h.bra]; exact Bool.false_ne_true)]
def isCl : E → Int → Bool
  | .bin op _ _ _ _, p => decide (powP op.toList < p)
  | _, _ => true
def fo : E → Int → Int
  | .bin op _ _ _ _, p => if powP op.toList < p then 8 else powP op.toList
  | _, _ => 8
def tkl (L : List It) : List Tok := L.map Prod.snd
theorem tkl_app (A B : List It) : tkl (A ++ B) = tkl A ++ tkl B := List.map_append
theorem tkl_len (A : List It) : (tkl A).length = A.length := List.length_map _
theorem sym_K {x u : ByteArray} {t : TK} (h : tkIs (.sym x) t) (hx : x.toList = u.toList) : isK t u = true := by
  unfold isK
  rw [h.1, h.2.1, hx]
  simp
theorem sym_Kn {x u : ByteArray} {t : TK} (h : tkIs (.sym x) t) (hx : x.toList ≠ u.toList) : isK t u = false := isK_ne h.2.1 hx
theorem powS_at {m : Int} {k : Nat} {d : Int} (h : (tks s k).1.k = 5 → powP (tks s k).1.x.toList < m) : powS s m (.at k d) = false := by
  unfold powS tokS
  cases hq : ((tks s k).1.k == 5) with
  | false => rfl
  | true =>
    have := h (by simpa using hq)
    simp
    omega
/-- what is to be shown of e -/
structure Back (s : List Int) (e : E) : Prop where
  pl : e.isPl = true → ∀ (k : Nat) (d : Int) (w : List Int), Stm s k (tkl (itE e 0 w)) → 0 ≤ d → d + dE e 0 ≤ 64 → (tks s k).1.k = 2 ∧ ∃ e' : E, e'.er = e.er ∧ ∀ R, PJ s (.placL e') (.at (k + (itE e 0 w).length) d) R → PJ s .plac (.at k d) R
  cl : ∀ (p : Int), isCl e p = true → ∀ (k : Nat) (d : Int) (w : List Int), Stm s k (tkl (itE e p w)) → 0 ≤ d → d + dE e p ≤ 64 → Fol s (k + (itE e p w).length) → ∃ e' : E, e'.er = e.er ∧ PJ s .oper (.at k d) (e', .at (k + (itE e p w).length) d)
  ex : ∀ (p m : Int), 1 ≤ m → (m ≤ p ∨ m = 1) → ∀ (k : Nat) (d : Int) (w : List Int), Stm s k (tkl (itE e p w)) → 0 ≤ d → d + dE e p ≤ 64 → Fol s (k + (itE e p w).length) → ((tks s (k + (itE e p w).length)).1.k = 5 → powP (tks s (k + (itE e p w).length)).1.x.toList ≤ fo e p) → ∃ e' : E, e'.er = e.er ∧ ∀ R, PJ s (.loop m e') (.at (k + (itE e p w).length) d) R → PJ s (.expr m) (.at k d) R
theorem Back.ofCl {e : E} (pl : e.isPl = true → ∀ (k : Nat) (d : Int) (w : List Int), Stm s k (tkl (itE e 0 w)) → 0 ≤ d → d + dE e 0 ≤ 64 → (tks s k).1.k = 2 ∧ ∃ e' : E, e'.er = e.er ∧ ∀ R, PJ s (.placL e') (.at (k + (itE e 0 w).length) d) R → PJ s .plac (.at k d) R)
    (cl : ∀ (p : Int), isCl e p = true → ∀ (k : Nat) (d : Int) (w : List Int), Stm s k (tkl (itE e p w)) → 0 ≤ d → d + dE e p ≤ 64 → Fol s (k + (itE e p w).length) → ∃ e' : E, e'.er = e.er ∧ PJ s .oper (.at k d) (e', .at (k + (itE e p w).length) d)) (hc : ∀ p, isCl e p = true) : Back s e :=
  ⟨pl, cl, fun p m _ _ k d w hs h0 hd hf _ => by
    obtain ⟨e', h1, h2⟩ := cl p (hc p) k d w hs h0 hd hf
    exact ⟨e', h1, fun R hR => PJ.expr h2 hR⟩⟩
theorem itE_pl {e : E} (h : e.isPl = true) (p : Int) (w : List Int) : itE e p w = itE e 0 w := by
  cases e with
  | nm x l c => rfl
  | fld e x l c => rfl
  | idx e i l c => rfl
  | _ => cases h
/-- of a place -/
theorem Back.ofPl {e : E} (hp : e.isPl = true) (pl : ∀ (k : Nat) (d : Int) (w : List Int), Stm s k (tkl (itE e 0 w)) → 0 ≤ d → d + dE e 0 ≤ 64 → (tks s k).1.k = 2 ∧ ∃ e' : E, e'.er = e.er ∧ ∀ R, PJ s (.placL e') (.at (k + (itE e 0 w).length) d) R → PJ s .plac (.at k d) R) : Back s e := by
  refine Back.ofCl (fun _ => pl) (fun p _ k d w hs h0 hd hf => ?_) (fun p => by cases e with | bin op a b l c => cases hp | _ => rfl)
  rw [itE_pl hp] at hs hf ⊢
  rw [pl_8 hp] at hd
  obtain ⟨h1, e', h2, h3⟩ := pl k d w hs h0 hd
  exact ⟨e', h2, PJ.name h1 (h3 _ (PJ.placE hf))⟩
theorem back (s : List Int) : ∀ (e : E), gE e → Back s e
  | .num v l c, h => Back.ofCl (fun z => by cases z) (fun p _ k d w hs _ _ _ => by
      have t : tkIs (.num v.toNat) (tks s k).1 := hs 0 _ rfl
      refine ⟨_, ?_, PJ.num t.1⟩
      show E.num (tks s k).1.v 0 0 = E.num v 0 0
      rw [t.2, show ((v.toNat : Nat) : Int) = v by have := h.1; omega]) (fun _ => rfl)
  | .tim v l c, h => Back.ofCl (fun z => by cases z) (fun p _ k d w hs _ _ _ => by
      have t : tkIs (.tim v.toNat) (tks s k).1 := hs 0 _ rfl
      refine ⟨_, ?_, PJ.tim t.1⟩
      show E.tim (tks s k).1.v 0 0 = E.tim v 0 0
      rw [t.2, show ((v.toNat : Nat) : Int) = v by have := h.1; omega]) (fun _ => rfl)
  | .bol v l c, h => Back.ofCl (fun z => by cases z) (fun p _ k d w hs _ _ _ => by
      have t : tkIs (.sym (if v = 0 then bFAL else bTRU)) (tks s k).1 := hs 0 _ rfl
      by_cases hv : v = 0
      · rw [if_pos hv] at t
        refine ⟨_, ?_, PJ.bol t.1 (.inr t.2.1)⟩
        show E.bol (tks s k).1.v 0 0 = E.bol v 0 0
        rw [t.2.2, if_neg (by rw [tl_FAL]; decide), hv]
      · rw [if_neg hv] at t
        have hv : v = 1 := by rcases h with h | h; exact absurd h hv; exact h
        refine ⟨_, ?_, PJ.bol t.1 (.inl t.2.1)⟩
        show E.bol (tks s k).1.v 0 0 = E.bol v 0 0
        rw [t.2.2, if_pos tl_TRU, hv]) (fun _ => rfl)
  | .nm x l c, h => Back.ofPl rfl (fun k d w hs _ _ => by
      have t : tkIs (.nm x) (tks s k).1 := hs 0 _ rfl
      refine ⟨t.1, .nm (tks s k).1.x (tks s k).1.l (tks s k).1.c, ?_, fun R hR => PJ.plac t.1 hR⟩
      show E.nm (tks s k).1.x 0 0 = E.nm x 0 0
      rw [t.2])
  | .fld e x l c, h => Back.ofPl rfl (fun k d w hs h0 hd => by
      have ih := back s e h.1
      have hs : Stm s k (tkl (itE e 0 w ++ [([], .sym bDOT), ([], .nm x)])) := hs
      rw [tkl_app] at hs
      obtain ⟨s1, s2⟩ := hs.app
      rw [tkl_len] at s2
      obtain ⟨t1, s3⟩ := s2.hd
      obtain ⟨t2, _⟩ := s3.hd
      obtain ⟨a1, e', a2, a3⟩ := ih.pl h.2.2 k d w s1 h0 hd
      refine ⟨a1, .fld e' x e'.l e'.c, ?_, fun R hR => a3 R ?_⟩
      · show E.fld e'.er x 0 0 = E.fld e.er x 0 0
        rw [a2]
      · refine PJ.dot (sym_K t1 rfl) t2.1 ?_
        rw [t2.2]
        have hl : k + (itE (.fld e x l c) 0 w).length = k + (itE e 0 w).length + 1 + 1 := by
          show k + (itE e 0 w ++ [([], Tok.sym bDOT), ([], Tok.nm x)]).length = _
          rw [List.length_append]
          show k + (_ + 2) = _
          omega
        rw [hl] at hR
        exact hR)
  | .idx e i l c, h => Back.ofPl rfl (fun k d w hs h0 hd => by
      have ih := back s e h.1
      have ih2 := back s i h.2.1
      have hs : Stm s k (tkl (itE e 0 w ++ (([], .sym bBRA) :: (itE i 0 [] ++ [([], .sym bKET)])))) := hs
      have hd : d + ((max (dE e 0) (1 + dE i 0) : Nat) : Int) ≤ 64 := hd
      rw [tkl_app] at hs
      obtain ⟨s1, s2⟩ := hs.app
      rw [tkl_len] at s2
      obtain ⟨t1, s3⟩ := s2.hd
      have s3 : Stm s (k + (itE e 0 w).length + 1) (tkl (itE i 0 [] ++ [([], .sym bKET)])) := s3
      rw [tkl_app] at s3
      obtain ⟨s4, s5⟩ := s3.app
      rw [tkl_len] at s5
      obtain ⟨t2, _⟩ := s5.hd
      obtain ⟨a1, e', a2, a3⟩ := ih.pl h.2.2 k d w s1 h0 (by omega)
      have tlk : bKET.toList = [93] := by rw [ByteArray.toList_eq]; rfl
      have hf : Fol s (k + (itE e 0 w).length + 1 + (itE i 0 []).length) := ⟨sym_Kn t2 (by rw [tlk, tl_DOT]; decide), sym_Kn t2 (by rw [tlk, tl_BRA]; decide)⟩
      have hp0 : powP bKET.toList = 0 := by rw [tlk]; decide
      obtain ⟨i', b2, b3⟩ := ih2.ex 0 1 (by decide) (.inr rfl) (k + (itE e 0 w).length + 1) (d + 1) [] s4 (by omega) (by omega) hf (fun _ => by
        rw [t2.2.1, hp0]
        cases i with
        | bin op a b l c => simp only [fo]; have := powP_07 op.toList; split <;> omega
        | _ => simp only [fo]; decide)
      have hst := b3 _ (PJ.stop (powS_at (fun _ => by rw [t2.2.1, hp0]; decide)))
      refine ⟨a1, .idx e' i' e'.l e'.c, ?_, fun R hR => a3 R ?_⟩
      · show E.idx e'.er i'.er 0 0 = E.idx e.er i.er 0 0
        rw [a2, b2]
      · refine PJ.idx (sym_K t1 rfl) (by omega) hst (sym_K t2 rfl) ?_
        have hl : k + (itE (.idx e i l c) 0 w).length = k + (itE e 0 w).length + 1 + (itE i 0 []).length + 1 := by
          show k + (itE e 0 w ++ (([], Tok.sym bBRA) :: (itE i 0 [] ++ [([], Tok.sym bKET)]))).length = _
          rw [List.length_append, List.length_cons, List.length_append]
          show k + (_ + (_ + 1 + 1)) = _
          omega
        rw [hl] at hR
        exact hR)
  | .un op e l c, h => Back.ofCl (fun z => by cases z) (fun p _ k d w hs h0 hd hf => by
      have ih := back s e h.1
      have hs : Stm s k (.sym op :: tkl (itE e 8 (if op.toList = [78, 79, 84] then [32] else []))) := hs
      have hd : d + ((1 + dE e 8 : Nat) : Int) ≤ 64 := hd
      obtain ⟨t1, s1⟩ := hs.hd
      have hl : k + (itE (.un op e l c) p w).length = k + 1 + (itE e 8 (if op.toList = [78, 79, 84] then [32] else [])).length := by
        show k + (_ :: _).length = _
        rw [List.length_cons]
        omega
      rw [hl] at hf ⊢
      obtain ⟨e', a1, a2⟩ := ih.cl 8 (by
        cases e with
        | bin op a b l c => simp only [isCl]; have := powP_07 op.toList; exact decide_eq_true (by omega)
        | _ => rfl) (k + 1) (d + 1) _ s1 (by omega) (by omega) hf
      refine ⟨.un (tks s k).1.x e' (tks s k).1.l (tks s k).1.c, ?_, PJ.un ?_ (by omega) a2⟩
      · show E.un (tks s k).1.x e'.er 0 0 = E.un op e.er 0 0
        rw [a1, t1.2.1]
      · rcases h.2 with rfl | rfl
        · exact .inl (sym_K t1 rfl)
        · exact .inr (sym_K t1 rfl)) (fun _ => rfl)
  | .bin op a b l c, h => by
    have iha := back s a h.1
    have ihb := back s b h.2.1
    have hown := powP_07 op.toList
    have hop := h.2.2
    -- the open form
    have U : ∀ (m : Int), 1 ≤ m → m ≤ powP op.toList → ∀ (k : Nat) (d : Int) (w : List Int), Stm s k (tkl (itE a (powP op.toList) w ++ (([32], .sym op) :: itE b (powP op.toList + 1) [32]))) → 0 ≤ d → d + ((max (dE a (powP op.toList)) (dE b (powP op.toList + 1)) : Nat) : Int) ≤ 64 → Fol s (k + (itE a (powP op.toList) w).length + 1 + (itE b (powP op.toList + 1) [32]).length) → ((tks s (k + (itE a (powP op.toList) w).length + 1 + (itE b (powP op.toList + 1) [32]).length)).1.k = 5 → powP (tks s (k + (itE a (powP op.toList) w).length + 1 + (itE b (powP op.toList + 1) [32]).length)).1.x.toList ≤ powP op.toList) → ∃ e' : E, e'.er = (E.bin op a b l c).er ∧ ∀ R, PJ s (.loop m e') (.at (k + (itE a (powP op.toList) w).length + 1 + (itE b (powP op.toList + 1) [32]).length) d) R → PJ s (.expr m) (.at k d) R := by
      intro m hm1 hm k d w hs h0 hd hf hfp
      rw [tkl_app] at hs
      obtain ⟨s1, s2⟩ := hs.app
      rw [tkl_len] at s2
      obtain ⟨t1, s3⟩ := s2.hd
      have hdot : op.toList ≠ bDOT.toList := fun z => by rw [z, tl_DOT] at hop; exact absurd hop (by decide)
      have hbra : op.toList ≠ bBRA.toList := fun z => by rw [z, tl_BRA] at hop; exact absurd hop (by decide)
      obtain ⟨a', a1, a2⟩ := iha.ex (powP op.toList) m hm1 (.inl hm) k d w s1 h0 (by omega) ⟨sym_Kn t1 hdot, sym_Kn t1 hbra⟩ (fun _ => by
        rw [t1.2.1]
        cases a with
        | bin op2 a2 b2 l2 c2 => simp only [fo]; split <;> omega
        | _ => simp only [fo]; omega)
      obtain ⟨b', b1, b2⟩ := ihb.ex (powP op.toList + 1) (powP op.toList + 1) (by omega) (.inl (Int.le_refl _)) (k + (itE a (powP op.toList) w).length + 1) d [32] s3 h0 (by omega) hf (fun hk => by
        have := hfp hk
        cases b with
        | bin op2 a2 b2 l2 c2 => simp only [fo]; split <;> omega
        | _ => simp only [fo]; omega)
      have hst := b2 _ (PJ.stop (powS_at (fun hk => by have := hfp hk; omega)))
      refine ⟨.bin (tks s (k + (itE a (powP op.toList) w).length)).1.x a' b' a'.l a'.c, ?_, fun R hR => a2 R ?_⟩
      · show E.bin _ a'.er b'.er 0 0 = E.bin op a.er b.er 0 0
        rw [a1, b1, t1.2.1]
      · refine PJ.loop t1.1 (by rw [t1.2.1]; exact hm) ?_ hR
        rw [t1.2.1]
        exact hst
    have cl : ∀ (p : Int), isCl (E.bin op a b l c) p = true → ∀ (k : Nat) (d : Int) (w : List Int), Stm s k (tkl (itE (E.bin op a b l c) p w)) → 0 ≤ d → d + dE (E.bin op a b l c) p ≤ 64 → Fol s (k + (itE (E.bin op a b l c) p w).length) → ∃ e' : E, e'.er = (E.bin op a b l c).er ∧ PJ s .oper (.at k d) (e', .at (k + (itE (E.bin op a b l c) p w).length) d) := by
      intro p hp k d w hs h0 hd hf
      have hp : powP op.toList < p := by simpa [isCl] using hp
      have e0 : itE (E.bin op a b l c) p w = (w, .sym bPAR) :: (itE a (powP op.toList) [] ++ (([32], .sym op) :: (itE b (powP op.toList + 1) [32] ++ [([], .sym bEND)]))) := if_pos hp
      have e1 : dE (E.bin op a b l c) p = 1 + max (dE a (powP op.toList)) (dE b (powP op.toList + 1)) := by
        show (if powP op.toList < p then 1 else 0) + max (dE a (powP op.toList)) (dE b (powP op.toList + 1)) = _
        rw [if_pos hp]
      rw [e0] at hs ⊢
      rw [e1] at hd
      obtain ⟨t1, s1⟩ := hs.hd
      have e2 : itE a (powP op.toList) [] ++ (([32], Tok.sym op) :: (itE b (powP op.toList + 1) [32] ++ [([], Tok.sym bEND)])) = (itE a (powP op.toList) [] ++ (([32], Tok.sym op) :: itE b (powP op.toList + 1) [32])) ++ [([], Tok.sym bEND)] := by simp
      have s1 : Stm s (k + 1) (tkl ((itE a (powP op.toList) [] ++ (([32], Tok.sym op) :: itE b (powP op.toList + 1) [32])) ++ [([], Tok.sym bEND)])) := by rw [← e2]; exact s1
      rw [tkl_app] at s1
      obtain ⟨s2, s3⟩ := s1.app
      rw [tkl_len] at s3
      obtain ⟨t2, _⟩ := s3.hd
      have hl : k + 1 + (itE a (powP op.toList) [] ++ (([32], Tok.sym op) :: itE b (powP op.toList + 1) [32])).length = k + 1 + (itE a (powP op.toList) []).length + 1 + (itE b (powP op.toList + 1) [32]).length := by
        rw [List.length_append, List.length_cons]
        omega
      rw [hl] at t2
      have tle : bEND.toList = [41] := by rw [ByteArray.toList_eq]; rfl
      have hp0 : powP bEND.toList = 0 := by rw [tle]; decide
      obtain ⟨e', a1, a2⟩ := U 1 (by decide) (by omega) (k + 1) (d + 1) [] s2 (by omega) (by omega) ⟨sym_Kn t2 (by rw [tle, tl_DOT]; decide), sym_Kn t2 (by rw [tle, tl_BRA]; decide)⟩ (fun _ => by rw [t2.2.1, hp0]; omega)
      have hst := a2 _ (PJ.stop (powS_at (fun _ => by rw [t2.2.1, hp0]; decide)))
      refine ⟨e', a1, ?_⟩
      have hl2 : k + ((w, Tok.sym bPAR) :: (itE a (powP op.toList) [] ++ (([32], Tok.sym op) :: (itE b (powP op.toList + 1) [32] ++ [([], Tok.sym bEND)])))).length = k + 1 + (itE a (powP op.toList) []).length + 1 + (itE b (powP op.toList + 1) [32]).length + 1 := by
        rw [List.length_cons, List.length_append, List.length_cons, List.length_append]
        show k + (_ + (_ + 1 + 1) + 1) = _
        omega
      rw [hl2]
      exact PJ.par (sym_K t1 rfl) (by omega) hst (sym_K t2 rfl)
    refine ⟨(fun z => by cases z), cl, ?_⟩
    intro p m hm1 hm k d w hs h0 hd hf hfp
    by_cases hp : powP op.toList < p
    · obtain ⟨e', h1, h2⟩ := cl p (decide_eq_true hp) k d w hs h0 hd hf
      exact ⟨e', h1, fun R hR => PJ.expr h2 hR⟩
    · have e0 : itE (E.bin op a b l c) p w = itE a (powP op.toList) w ++ (([32], .sym op) :: itE b (powP op.toList + 1) [32]) := if_neg hp
      have e1 : dE (E.bin op a b l c) p = max (dE a (powP op.toList)) (dE b (powP op.toList + 1)) := by
        show (if powP op.toList < p then 1 else 0) + max (dE a (powP op.toList)) (dE b (powP op.toList + 1)) = _
        rw [if_neg hp, Nat.zero_add]
      have e2 : fo (E.bin op a b l c) p = powP op.toList := if_neg hp
      have hl : k + (itE (E.bin op a b l c) p w).length = k + (itE a (powP op.toList) w).length + 1 + (itE b (powP op.toList + 1) [32]).length := by
        rw [e0, List.length_append, List.length_cons]
        omega
      rw [hl] at hf hfp ⊢
      rw [e0] at hs
      rw [e1] at hd
      rw [e2] at hfp
      exact U m hm1 (by omega) k d w hs h0 hd hf hfp
/-- for the callers -/
structure Stp (x : ByteArray) : Prop where
  dot : x.toList ≠ [46]
  bra : x.toList ≠ [91]
  pow : powP x.toList = 0
theorem Stp.fol {x : ByteArray} (h : Stp x) {k : Nat} (t : tkIs (.sym x) (tks s k).1) : Fol s k := ⟨sym_Kn t (by rw [tl_DOT]; exact h.dot), sym_Kn t (by rw [tl_BRA]; exact h.bra)⟩
theorem back_ex {e : E} (h : gE e) {k : Nat} {d : Int} {w : List Int} {x : ByteArray} (hs : Stm s k (tkl (itE e 0 w))) (h0 : 0 ≤ d) (hd : d + dE e 0 ≤ 64) (hx : Stp x) (t : tkIs (.sym x) (tks s (k + (itE e 0 w).length)).1) : ∃ e' : E, e'.er = e.er ∧ PJ s (.expr 1) (.at k d) (e', .at (k + (itE e 0 w).length) d) := by
  obtain ⟨e', h1, h2⟩ := (back s e h).ex 0 1 (by decide) (.inr rfl) k d w hs h0 hd (hx.fol t) (fun _ => by
    rw [t.2.1, hx.pow]
    cases e with
    | bin op a b l c => simp only [fo]; have := powP_07 op.toList; split <;> omega
    | _ => simp only [fo]; decide)
  exact ⟨e', h1, h2 _ (PJ.stop (powS_at (fun _ => by rw [t.2.1, hx.pow]; decide)))⟩
theorem back_pl {e : E} (h : gE e) (hp : e.isPl = true) {k : Nat} {d : Int} {w : List Int} {x : ByteArray} (hs : Stm s k (tkl (itE e 0 w))) (h0 : 0 ≤ d) (hd : d + dE e 0 ≤ 64) (hx : Stp x) (t : tkIs (.sym x) (tks s (k + (itE e 0 w).length)).1) : (tks s k).1.k = 2 ∧ ∃ e' : E, e'.er = e.er ∧ PJ s .plac (.at k d) (e', .at (k + (itE e 0 w).length) d) := by
  obtain ⟨h1, e', h2, h3⟩ := (back s e h).pl hp k d w hs h0 hd
  exact ⟨h1, e', h2, h3 _ (PJ.placE (hx.fol t))⟩
end Go.Proofs.Qxb6500774a
