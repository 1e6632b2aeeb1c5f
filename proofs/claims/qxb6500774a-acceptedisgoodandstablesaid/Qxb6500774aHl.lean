import Derived.Test.Qxb6500774aHk
namespace Go.Proofs.Qxb6500774a
open Go.RowKit
set_option linter.unusedVariables false
set_option linter.unusedSimpArgs false
variable {s : List Int}

/-! ### Printed statements are read back -/
def erP (L : List (ByteArray × E)) : List (ByteArray × E) := L.map (fun y => (y.1, y.2.er))
def S.er : S → S
  | .nil => .nil
  | .asg t e _ _ r => .asg t.er e.er 0 0 r.er
  | .call x ag _ _ r => .call x (erP ag) 0 0 r.er
  | .iff A L _ _ r => .iff A.er L.er 0 0 r.er
  | .arm e L r => .arm e.er L.er r.er
  | .fr x a e L _ _ r => .fr x a.er e.er L.er 0 0 r.er
  | .rung e cs _ _ r => .rung e.er (erP cs) 0 0 r.er
theorem pargs_mono (s : List Int) : ∀ (n : Nat) (st : PSt) (R : List (ByteArray × E) × PSt), pargs s n st = some R → pargs s (n + 1) st = some R := by
  intro n
  induction n with
  | zero => intro st R h; unfold pargs at h; cases h
  | succ n ih =>
    intro st R h
    unfold pargs at h ⊢
    split at h
    · cases h
    · next e st3 h1 =>
      rw [pj_mono s _ _ _ _ h1]
      dsimp only
      split at h
      · next ha =>
        rw [if_pos ha]
        split at h
        · cases h
        · next L st5 h2 => rw [ih _ _ h2]; exact h
      · next ha => rw [if_neg ha]; exact h
theorem pcoils_mono (s : List Int) : ∀ (n : Nat) (st : PSt) (R : List (ByteArray × E) × PSt), pcoils s n st = some R → pcoils s (n + 1) st = some R := by
  intro n
  induction n with
  | zero => intro st R h; unfold pcoils at h; cases h
  | succ n ih =>
    intro st R h
    unfold pcoils at h ⊢
    split at h
    · cases h
    · next e st3 h1 =>
      rw [pj_mono s _ _ _ _ h1]
      dsimp only
      split at h
      · next ha =>
        rw [if_pos ha]
        split at h
        · cases h
        · next L st5 h2 => rw [ih _ _ h2]; exact h
      · next ha => rw [if_neg ha]; exact h
theorem ps_mono (s : List Int) : ∀ (n : Nat) (j : SJob) (st : PSt) (R : S × PSt), ps s n j st = some R → ps s (n + 1) j st = some R := by
  intro n
  induction n with
  | zero => intro j st R h; unfold ps at h; cases h
  | succ n ih =>
    intro j st R h
    cases j with
    | stmts =>
      have tl : ∀ (A : S) (st1 : PSt) (R : S × PSt), (match ps s n .stmts (expectS s bSEM st1) with | none => none | some (R, st2) => some (A.app R, st2)) = some R → (match ps s (n + 1) .stmts (expectS s bSEM st1) with | none => none | some (R, st2) => some (A.app R, st2)) = some R := by
        intro A st1 R h
        split at h
        · cases h
        · next T st2 h2 => rw [ih _ _ _ h2]; exact h
      unfold ps at h ⊢
      split at h
      · next hk =>
        rw [if_pos hk]
        split at h
        · cases h
        · next A st1 h1 => rw [ih _ _ _ h1]; exact tl A st1 R h
      next hk =>
      rw [if_neg hk]
      split at h
      · next hk =>
        rw [if_pos hk]
        split at h
        · cases h
        · next A st1 h1 => rw [ih _ _ _ h1]; exact tl A st1 R h
      next hk =>
      rw [if_neg hk]
      split at h
      · next hk =>
        rw [if_pos hk]
        split at h
        · cases h
        · next A st1 h1 => rw [ih _ _ _ h1]; exact tl A st1 R h
      next hk =>
      rw [if_neg hk]
      split at h
      · next hk =>
        rw [if_pos hk]
        split at h
        · cases h
        · next A st1 h1 => rw [ih _ _ _ h1]; exact tl A st1 R h
      next hk => rw [if_neg hk]; exact h
    | simple l c =>
      unfold ps at h ⊢
      split at h
      · cases h
      · next t st1 h1 =>
        rw [pj_mono s _ _ _ _ h1]
        dsimp only
        split at h
        · next hc =>
          rw [if_pos hc]
          split at h
          · next he => rw [if_pos he]; exact h
          · next he =>
            rw [if_neg he]
            split at h
            · cases h
            · next L st3 h3 => rw [pargs_mono s _ _ _ h3]; exact h
        · next hc =>
          rw [if_neg hc]
          split at h
          · cases h
          · next e st3 h3 => rw [pj_mono s _ _ _ _ h3]; exact h
    | ifs l c =>
      unfold ps at h ⊢
      split at h
      · next ho =>
        rw [if_pos ho]
        split at h
        · cases h
        · next A st1 h1 =>
          rw [ih _ _ _ h1]
          dsimp only
          split at h
          · next ha =>
            rw [if_pos ha]
            split at h
            · cases h
            · next L st2 h2 => rw [ih _ _ _ h2]; exact h
          · next ha => rw [if_neg ha]; exact h
      · next ho => rw [if_neg ho]; exact h
    | arms =>
      unfold ps at h ⊢
      split at h
      · cases h
      · next e st1 h1 =>
        rw [pj_mono s _ _ _ _ h1]
        dsimp only
        split at h
        · cases h
        · next L st2 h2 =>
          rw [ih _ _ _ h2]
          dsimp only
          split at h
          · next ha =>
            rw [if_pos ha]
            split at h
            · cases h
            · next T st3 h3 => rw [ih _ _ _ h3]; exact h
          · next ha => rw [if_neg ha]; exact h
    | fors l c =>
      unfold ps at h ⊢
      split at h
      · next ho =>
        rw [if_pos ho]
        split at h
        · cases h
        · next e1 st1 h1 =>
          rw [pj_mono s _ _ _ _ h1]
          dsimp only
          split at h
          · cases h
          · next e2 st2 h2 =>
            rw [pj_mono s _ _ _ _ h2]
            dsimp only
            split at h
            · cases h
            · next L st3 h3 => rw [ih _ _ _ h3]; exact h
      · next ho => rw [if_neg ho]; exact h
    | rungs l c =>
      unfold ps at h ⊢
      split at h
      · cases h
      · next e st1 h1 =>
        rw [pj_mono s _ _ _ _ h1]
        dsimp only
        split at h
        · cases h
        · next L st2 h2 => rw [pcoils_mono s _ _ _ h2]; exact h
theorem pargs_le {n m : Nat} (h : n ≤ m) {st : PSt} {R : List (ByteArray × E) × PSt} (hp : pargs s n st = some R) : pargs s m st = some R := by
  obtain ⟨k, rfl⟩ := Nat.exists_eq_add_of_le h
  induction k with
  | zero => exact hp
  | succ k ih => exact pargs_mono s _ _ _ (ih (by omega))
theorem pcoils_le {n m : Nat} (h : n ≤ m) {st : PSt} {R : List (ByteArray × E) × PSt} (hp : pcoils s n st = some R) : pcoils s m st = some R := by
  obtain ⟨k, rfl⟩ := Nat.exists_eq_add_of_le h
  induction k with
  | zero => exact hp
  | succ k ih => exact pcoils_mono s _ _ _ (ih (by omega))
theorem ps_le {n m : Nat} (h : n ≤ m) {j : SJob} {st : PSt} {R : S × PSt} (hp : ps s n j st = some R) : ps s m j st = some R := by
  obtain ⟨k, rfl⟩ := Nat.exists_eq_add_of_le h
  induction k with
  | zero => exact hp
  | succ k ih => exact ps_mono s _ _ _ _ (ih (by omega))
def PSs (s : List Int) (j : SJob) (st : PSt) (R : S × PSt) : Prop := ∃ n, ps s n j st = some R
def PAs (s : List Int) (st : PSt) (R : List (ByteArray × E) × PSt) : Prop := ∃ n, pargs s n st = some R
def PCs (s : List Int) (st : PSt) (R : List (ByteArray × E) × PSt) : Prop := ∃ n, pcoils s n st = some R
/-! words that end things -/
theorem tl_ASG : bASG.toList = [58, 61] := by rw [ByteArray.toList_eq]; rfl
theorem tl_COM : bCOM.toList = [44] := by rw [ByteArray.toList_eq]; rfl
theorem tl_END : bEND.toList = [41] := by rw [ByteArray.toList_eq]; rfl
theorem tl_SEM : bSEM.toList = [59] := by rw [ByteArray.toList_eq]; rfl
theorem tl_IF : bIF.toList = [73, 70] := by rw [ByteArray.toList_eq]; rfl
theorem tl_THN : bTHN.toList = [84, 72, 69, 78] := by rw [ByteArray.toList_eq]; rfl
theorem tl_ELI : bELI.toList = [69, 76, 83, 73, 70] := by rw [ByteArray.toList_eq]; rfl
theorem tl_ELS : bELS.toList = [69, 76, 83, 69] := by rw [ByteArray.toList_eq]; rfl
theorem tl_EIF : bEIF.toList = [69, 78, 68, 95, 73, 70] := by rw [ByteArray.toList_eq]; rfl
theorem tl_FOR : bFOR.toList = [70, 79, 82] := by rw [ByteArray.toList_eq]; rfl
theorem tl_TO : bTO.toList = [84, 79] := by rw [ByteArray.toList_eq]; rfl
theorem tl_DO : bDO.toList = [68, 79] := by rw [ByteArray.toList_eq]; rfl
theorem tl_EFR : bEFR.toList = [69, 78, 68, 95, 70, 79, 82] := by rw [ByteArray.toList_eq]; rfl
theorem tl_RUN : bRUN.toList = [82, 85, 78, 71] := by rw [ByteArray.toList_eq]; rfl
theorem tl_ARR : bARR.toList = [61, 62] := by rw [ByteArray.toList_eq]; rfl
theorem tl_SET : bSET.toList = [83, 69, 84] := by rw [ByteArray.toList_eq]; rfl
theorem tl_RES : bRES.toList = [82, 69, 83, 69, 84] := by rw [ByteArray.toList_eq]; rfl
theorem stp_ASG : Stp bASG := ⟨by rw [tl_ASG]; decide, by rw [tl_ASG]; decide, by rw [tl_ASG]; decide⟩
theorem stp_COM : Stp bCOM := ⟨by rw [tl_COM]; decide, by rw [tl_COM]; decide, by rw [tl_COM]; decide⟩
theorem stp_END : Stp bEND := ⟨by rw [tl_END]; decide, by rw [tl_END]; decide, by rw [tl_END]; decide⟩
theorem stp_SEM : Stp bSEM := ⟨by rw [tl_SEM]; decide, by rw [tl_SEM]; decide, by rw [tl_SEM]; decide⟩
theorem stp_THN : Stp bTHN := ⟨by rw [tl_THN]; decide, by rw [tl_THN]; decide, by rw [tl_THN]; decide⟩
theorem stp_TO : Stp bTO := ⟨by rw [tl_TO]; decide, by rw [tl_TO]; decide, by rw [tl_TO]; decide⟩
theorem stp_DO : Stp bDO := ⟨by rw [tl_DO]; decide, by rw [tl_DO]; decide, by rw [tl_DO]; decide⟩
theorem stp_ARR : Stp bARR := ⟨by rw [tl_ARR]; decide, by rw [tl_ARR]; decide, by rw [tl_ARR]; decide⟩
theorem stp_PAR : Stp bPAR := ⟨by rw [tl_PAR]; decide, by rw [tl_PAR]; decide, by rw [tl_PAR]; decide⟩
/-- no statement begins here -/
structure Edr (x : ByteArray) : Prop where
  i : x.toList ≠ [73, 70]
  f : x.toList ≠ [70, 79, 82]
  r : x.toList ≠ [82, 85, 78, 71]
theorem edr_ELI : Edr bELI := ⟨by rw [tl_ELI]; decide, by rw [tl_ELI]; decide, by rw [tl_ELI]; decide⟩
theorem edr_ELS : Edr bELS := ⟨by rw [tl_ELS]; decide, by rw [tl_ELS]; decide, by rw [tl_ELS]; decide⟩
theorem edr_EIF : Edr bEIF := ⟨by rw [tl_EIF]; decide, by rw [tl_EIF]; decide, by rw [tl_EIF]; decide⟩
theorem edr_EFR : Edr bEFR := ⟨by rw [tl_EFR]; decide, by rw [tl_EFR]; decide, by rw [tl_EFR]; decide⟩
/-! arguments and coils -/
theorem tkl_itA {L : List (ByteArray × E)} (h : L ≠ []) : tkl (itA L false) = .sym bCOM :: tkl (itA L true) := by
  cases L with
  | nil => exact absurd rfl h
  | cons x L => rfl
theorem tkl_itC {L : List (ByteArray × E)} (h : L ≠ []) : tkl (itC L false) = .sym bCOM :: tkl (itC L true) := by
  cases L with
  | nil => exact absurd rfl h
  | cons x L => rfl
theorem back_args : ∀ (L : List (ByteArray × E)), L ≠ [] → (∀ y ∈ L, gN y.1 = true ∧ gE y.2) → ∀ (k : Nat) (d : Int), Stm s k (tkl (itA L true)) → 0 ≤ d → d + dP L ≤ 64 → tkIs (.sym bEND) (tks s (k + (tkl (itA L true)).length)).1 → (tks s k).1.k = 2 ∧ ∃ L', erP L' = erP L ∧ PAs s (.at k d) (L', .at (k + (tkl (itA L true)).length) d)
  | [], h, _ => absurd rfl h
  | (x, e) :: L, _, h => fun k d hs h0 hd ht => by
    have h2 : gE e := (h (x, e) (List.mem_cons_self ..)).2
    simp only [dP] at hd
    have hs : Stm s k (.nm x :: .sym bASG :: tkl (itE e 0 [32] ++ itA L false)) := hs
    obtain ⟨t1, s1⟩ := hs.hd
    obtain ⟨t2, s2⟩ := s1.hd
    rw [tkl_app] at s2
    obtain ⟨s3, s4⟩ := s2.app
    rw [tkl_len] at s4
    have hl : k + (tkl (itA ((x, e) :: L) true)).length = k + 1 + 1 + (itE e 0 [32]).length + (tkl (itA L false)).length := by
      show k + (Tok.nm x :: Tok.sym bASG :: tkl (itE e 0 [32] ++ itA L false)).length = _
      rw [List.length_cons, List.length_cons, tkl_app, List.length_append, tkl_len (itE e 0 [32])]
      omega
    rw [hl] at ht ⊢
    refine ⟨t1.1, ?_⟩
    by_cases hL : L = []
    · subst hL
      have ht : tkIs (.sym bEND) (tks s (k + 1 + 1 + (itE e 0 [32]).length)).1 := ht
      obtain ⟨e', a1, n, a2⟩ := back_ex h2 s3 h0 (by omega) stp_END ht
      refine ⟨[(x, e')], by simp [erP, a1], n + 1, ?_⟩
      unfold pargs
      rw [take_t t1.1]
      dsimp only
      rw [expect_t (sym_K t2 rfl), a2]
      dsimp only
      rw [accept_n (sym_Kn ht (by rw [tl_END, tl_COM]; decide)), if_neg Bool.false_ne_true, t1.2]
      rfl
    · rw [tkl_itA hL] at s4 ht ⊢
      obtain ⟨t3, s5⟩ := s4.hd
      have hl2 : k + 1 + 1 + (itE e 0 [32]).length + (Tok.sym bCOM :: tkl (itA L true)).length = k + 1 + 1 + (itE e 0 [32]).length + 1 + (tkl (itA L true)).length := by rw [List.length_cons]; omega
      rw [hl2] at ht ⊢
      obtain ⟨e', a1, n1, a2⟩ := back_ex h2 s3 h0 (by omega) stp_COM t3
      obtain ⟨_, L', b1, n2, b2⟩ := back_args L hL (fun y hy => h y (List.mem_cons_of_mem _ hy)) (k + 1 + 1 + (itE e 0 [32]).length + 1) d s5 h0 (by omega) ht
      refine ⟨(x, e') :: L', ?_, max n1 n2 + 1, ?_⟩
      · unfold erP at b1 ⊢
        rw [List.map_cons, List.map_cons, b1, a1]
      · unfold pargs
        rw [take_t t1.1]
        dsimp only
        rw [expect_t (sym_K t2 rfl), pj_le (Nat.le_max_left n1 n2) a2]
        dsimp only
        rw [accept_t (sym_K t3 rfl), if_pos rfl]
        dsimp only
        rw [pargs_le (Nat.le_max_right n1 n2) b2, t1.2]
theorem mode_n {k : Nat} {d : Int} (h : (tks s k).1.k = 2) : modeS s (.at k d) = (nb, .at k d) := by
  unfold modeS isMode
  have n1 : ∀ u, atS s u (.at k d) = false := fun u => isK_f (by omega)
  rw [n1, n1, n1]
  rfl
theorem mode_y {k : Nat} {d : Int} {x : ByteArray} (hx : x = bNOT ∨ x = bSET ∨ x = bRES) (h : tkIs (.sym x) (tks s k).1) : modeS s (.at k d) = (x, .at (k + 1) d) := by
  unfold modeS
  have : isMode s (.at k d) = true := by
    unfold isMode
    rcases hx with rfl | rfl | rfl
    · rw [show atS s bNOT (.at k d) = true from sym_K h rfl]; rfl
    · rw [show atS s bSET (.at k d) = true from sym_K h rfl]; simp
    · rw [show atS s bRES (.at k d) = true from sym_K h rfl]; simp
  rw [if_pos this, take_t h.1, h.2.1]
theorem back_coil {x : ByteArray} {e : E} (hx : x = nb ∨ x = bNOT ∨ x = bSET ∨ x = bRES) (h : gE e) (hp : e.isPl = true) {k : Nat} {d : Int} {y : ByteArray} (hs : Stm s k (tkl (if x.toList = [] then itE e 0 [32] else ([32], .sym x) :: itE e 0 [32]))) (h0 : 0 ≤ d) (hd : d + dE e 0 ≤ 64) (hy : Stp y) (t : tkIs (.sym y) (tks s (k + (if x.toList = [] then itE e 0 [32] else ([32], .sym x) :: itE e 0 [32]).length)).1) : ∃ e' : E, e'.er = e.er ∧ (modeS s (.at k d)).1 = x ∧ PJ s .plac (modeS s (.at k d)).2 (e', .at (k + (if x.toList = [] then itE e 0 [32] else ([32], .sym x) :: itE e 0 [32]).length) d) := by
  by_cases hn : x.toList = []
  · rw [if_pos hn] at hs t ⊢
    obtain ⟨a1, e', a2, a3⟩ := back_pl h hp hs h0 hd hy t
    rw [mode_n a1]
    refine ⟨e', a2, ?_, a3⟩
    exact (ba_eq (by rw [hn, ByteArray.toList_eq]; rfl)).symm
  · rw [if_neg hn] at hs t ⊢
    have hx : x = bNOT ∨ x = bSET ∨ x = bRES := by
      rcases hx with rfl | hx
      · exact absurd (by rw [ByteArray.toList_eq]; rfl) hn
      · exact hx
    obtain ⟨t1, s1⟩ := hs.hd
    have hl : k + ((([32], Tok.sym x) : It) :: itE e 0 [32]).length = k + 1 + (itE e 0 [32]).length := by rw [List.length_cons]; omega
    rw [hl] at t ⊢
    obtain ⟨a1, e', a2, a3⟩ := back_pl h hp s1 h0 hd hy t
    rw [mode_y hx t1]
    exact ⟨e', a2, rfl, a3⟩
theorem back_coils : ∀ (L : List (ByteArray × E)), L ≠ [] → (∀ y ∈ L, (y.1 = nb ∨ y.1 = bNOT ∨ y.1 = bSET ∨ y.1 = bRES) ∧ gE y.2 ∧ y.2.isPl = true) → ∀ (k : Nat) (d : Int), Stm s k (tkl (itC L true)) → 0 ≤ d → d + dP L ≤ 64 → tkIs (.sym bSEM) (tks s (k + (tkl (itC L true)).length)).1 → ∃ L', erP L' = erP L ∧ PCs s (.at k d) (L', .at (k + (tkl (itC L true)).length) d)
  | [], h, _ => absurd rfl h
  | (x, e) :: L, _, h => fun k d hs h0 hd ht => by
    have h2 : (x = nb ∨ x = bNOT ∨ x = bSET ∨ x = bRES) ∧ gE e ∧ e.isPl = true := h (x, e) (List.mem_cons_self ..)
    simp only [dP] at hd
    have hs : Stm s k (tkl ((if x.toList = [] then itE e 0 [32] else ([32], .sym x) :: itE e 0 [32]) ++ itC L false)) := hs
    rw [tkl_app] at hs
    obtain ⟨s3, s4⟩ := hs.app
    rw [tkl_len] at s4
    have hl : k + (tkl (itC ((x, e) :: L) true)).length = k + (if x.toList = [] then itE e 0 [32] else ([32], .sym x) :: itE e 0 [32]).length + (tkl (itC L false)).length := by
      show k + (tkl ((if x.toList = [] then itE e 0 [32] else ([32], .sym x) :: itE e 0 [32]) ++ itC L false)).length = _
      rw [tkl_app, List.length_append, tkl_len (if x.toList = [] then itE e 0 [32] else ([32], .sym x) :: itE e 0 [32])]
      omega
    rw [hl] at ht ⊢
    by_cases hL : L = []
    · subst hL
      have ht : tkIs (.sym bSEM) (tks s (k + (if x.toList = [] then itE e 0 [32] else ([32], .sym x) :: itE e 0 [32]).length)).1 := ht
      obtain ⟨e', a1, am, n, a2⟩ := back_coil h2.1 h2.2.1 h2.2.2 s3 h0 (by omega) stp_SEM ht
      refine ⟨[(x, e')], by simp [erP, a1], n + 1, ?_⟩
      unfold pcoils
      rw [a2]
      dsimp only
      rw [accept_n (sym_Kn ht (by rw [tl_SEM, tl_COM]; decide)), if_neg Bool.false_ne_true, am]
      rfl
    · rw [tkl_itC hL] at s4 ht ⊢
      obtain ⟨t3, s5⟩ := s4.hd
      have hl2 : k + (if x.toList = [] then itE e 0 [32] else ([32], .sym x) :: itE e 0 [32]).length + (Tok.sym bCOM :: tkl (itC L true)).length = k + (if x.toList = [] then itE e 0 [32] else ([32], .sym x) :: itE e 0 [32]).length + 1 + (tkl (itC L true)).length := by rw [List.length_cons]; omega
      rw [hl2] at ht ⊢
      obtain ⟨e', a1, am, n1, a2⟩ := back_coil h2.1 h2.2.1 h2.2.2 s3 h0 (by omega) stp_COM t3
      obtain ⟨L', b1, n2, b2⟩ := back_coils L hL (fun y hy => h y (List.mem_cons_of_mem _ hy)) (k + (if x.toList = [] then itE e 0 [32] else ([32], .sym x) :: itE e 0 [32]).length + 1) d s5 h0 (by omega) ht
      refine ⟨(x, e') :: L', ?_, max n1 n2 + 1, ?_⟩
      · unfold erP at b1 ⊢
        rw [List.map_cons, List.map_cons, b1, a1]
      · unfold pcoils
        rw [pj_le (Nat.le_max_left n1 n2) a2]
        dsimp only
        rw [accept_t (sym_K t3 rfl), if_pos rfl]
        dsimp only
        rw [pcoils_le (Nat.le_max_right n1 n2) b2, am]
end Go.Proofs.Qxb6500774a
