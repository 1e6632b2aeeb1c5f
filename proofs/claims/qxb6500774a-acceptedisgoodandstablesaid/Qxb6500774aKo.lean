import Derived.Test.Qxb6500774aKn
namespace Go.Proofs.Qxb6500774a
open Go.RowKit
set_option linter.unusedVariables false
set_option linter.unusedSimpArgs false

theorem modeS_da {s : List Int} {d : Int} {st : PSt} (h : DA d st) : DA d (modeS s st).2 := by
  unfold modeS
  split
  · exact takeS_da h 5
  · exact h
theorem pargs_da (s : List Int) : ∀ (n : Nat) (st : PSt) (R : List (ByteArray × E) × PSt) (d : Int), pargs s n st = some R → DA d st → DA d R.2 := by
  intro n
  induction n with
  | zero => intro st R d h; unfold pargs at h; cases h
  | succ n ih =>
    intro st R d h hd
    unfold pargs at h
    split at h
    · cases h
    · next e st3 h1 =>
      have h3 := pj_da s _ _ _ _ d h1 (expectS_da (takeS_da hd 2) _)
      split at h
      · split at h
        · cases h
        · next L st5 h2 => injection h with h; rw [← h]; exact ih _ (L, st5) d h2 (acceptS_da h3 _)
      · injection h with h; rw [← h]; exact h3
theorem pcoils_da (s : List Int) : ∀ (n : Nat) (st : PSt) (R : List (ByteArray × E) × PSt) (d : Int), pcoils s n st = some R → DA d st → DA d R.2 := by
  intro n
  induction n with
  | zero => intro st R d h; unfold pcoils at h; cases h
  | succ n ih =>
    intro st R d h hd
    unfold pcoils at h
    split at h
    · cases h
    · next e st3 h1 =>
      have h3 := pj_da s _ _ _ _ d h1 (modeS_da hd)
      split at h
      · split at h
        · cases h
        · next L st5 h2 => injection h with h; rw [← h]; exact ih _ (L, st5) d h2 (acceptS_da h3 _)
      · injection h with h; rw [← h]; exact h3
theorem ps_da (s : List Int) : ∀ (n : Nat) (j : SJob) (st : PSt) (R : S × PSt) (d : Int), ps s n j st = some R → DA d st → DA d R.2 := by
  intro n
  induction n with
  | zero => intro j st R d h; unfold ps at h; cases h
  | succ n ih =>
    intro j st R d h hd
    have lst : ∀ {j' : SJob} {st' : PSt}, DA d st' → (match ps s n j' st' with | none => none | some (A, st1) => match ps s n .stmts (expectS s bSEM st1) with | none => none | some (R, st2) => some (A.app R, st2)) = some R → DA d R.2 := fun {j' st'} h0 h => by
      split at h
      · cases h
      · next A st1 h1 =>
        split at h
        · cases h
        · next R2 st2 h2 => injection h with h; rw [← h]; exact ih _ _ (R2, st2) d h2 (expectS_da (ih _ _ _ d h1 h0) _)
    cases j with
    | stmts =>
      unfold ps at h
      split at h
      · exact lst hd h
      split at h
      · exact lst hd h
      split at h
      · exact lst hd h
      split at h
      · exact lst (acceptS_da hd _) h
      · injection h with h; rw [← h]; exact hd
    | simple l c =>
      unfold ps at h
      split at h
      · cases h
      · next t st1 h1 =>
        have h3 := pj_da s _ _ _ _ d h1 hd
        split at h
        · split at h
          · injection h with h; rw [← h]; exact expectS_da (acceptS_da h3 _) _
          · split at h
            · cases h
            · next L st3 h4 => injection h with h; rw [← h]; exact expectS_da (pargs_da s _ _ _ d h4 (acceptS_da h3 _)) _
        · split at h
          · cases h
          · next e st3 h4 => injection h with h; rw [← h]; exact pj_da s _ _ _ _ d h4 (expectS_da h3 _)
    | ifs l c =>
      unfold ps at h
      split at h
      · next ho =>
        have h0 := (openS_da hd).1 ho
        split at h
        · cases h
        · next A st1 h1 =>
          have h3 := ih _ _ _ (d + 1) h1 h0
          split at h
          · split at h
            · cases h
            · next L st2 h2 => injection h with h; rw [← h]; exact expectS_da (decS_da (ih _ _ _ (d + 1) h2 (acceptS_da h3 _))) _
          · injection h with h; rw [← h]; exact expectS_da (decS_da h3) _
      · next ho => injection h with h; rw [← h]; exact ((openS_da hd).2 ho).da d
    | arms =>
      unfold ps at h
      split at h
      · cases h
      · next e st1 h1 =>
        have h3 := pj_da s _ _ _ _ d h1 hd
        split at h
        · cases h
        · next L st2 h2 =>
          have h4 := ih _ _ _ d h2 (expectS_da h3 _)
          split at h
          · split at h
            · cases h
            · next R2 st3 h5 => injection h with h; rw [← h]; exact ih _ _ (R2, st3) d h5 (acceptS_da h4 _)
          · injection h with h; rw [← h]; exact h4
    | fors l c =>
      unfold ps at h
      split at h
      · next ho =>
        have h0 := (openS_da hd).1 ho
        split at h
        · cases h
        · next e1 st1 h1 =>
          have h2 := pj_da s _ _ _ _ (d + 1) h1 (expectS_da (takeS_da h0 2) _)
          split at h
          · cases h
          · next e2 st2 h3 =>
            have h4 := pj_da s _ _ _ _ (d + 1) h3 (expectS_da h2 _)
            split at h
            · cases h
            · next L st3 h5 => injection h with h; rw [← h]; exact expectS_da (decS_da (ih _ _ _ (d + 1) h5 (expectS_da h4 _))) _
      · next ho => injection h with h; rw [← h]; exact ((openS_da hd).2 ho).da d
    | rungs l c =>
      unfold ps at h
      split at h
      · cases h
      · next e st1 h1 =>
        have h3 := pj_da s _ _ _ _ d h1 hd
        split at h
        · cases h
        · next L st2 h2 => injection h with h; rw [← h]; exact pcoils_da s _ _ _ d h2 (expectS_da h3 _)
/-! ### A bad state stays bad -/
section
variable (s : List Int) (er l c : Int)
theorem take_bad (kk : Int) : (takeS s kk (.bad er l c)).2 = .bad er l c := rfl
theorem accept_bad (u : ByteArray) : acceptS s u (.bad er l c) = (false, .bad er l c) := by
  unfold acceptS
  rw [if_neg (by simp [atS])]
theorem expect_bad (u : ByteArray) : expectS s u (.bad er l c) = .bad er l c := by
  unfold expectS
  rw [if_neg (by simp [atS])]
  rfl
theorem mode_bad : modeS s (.bad er l c) = (nb, .bad er l c) := by
  unfold modeS isMode
  rw [if_neg (by simp [atS])]
theorem open_bad : openS s (.bad er l c) = (true, .bad er l c) := rfl
theorem dec_bad : decS (.bad er l c) = .bad er l c := rfl
theorem pargs_bad : ∀ (n : Nat) (R : List (ByteArray × E) × PSt), pargs s n (.bad er l c) = some R → R.2 = .bad er l c := by
  intro n
  cases n with
  | zero => intro R h; unfold pargs at h; cases h
  | succ n =>
    intro R h
    unfold pargs at h
    rw [take_bad, expect_bad] at h
    split at h
    · cases h
    · next e st3 h1 =>
      have e1 : st3 = .bad er l c := pj_bad s er l c _ _ _ h1
      rw [e1, accept_bad, if_neg Bool.false_ne_true] at h
      injection h with h; rw [← h]
theorem pcoils_bad : ∀ (n : Nat) (R : List (ByteArray × E) × PSt), pcoils s n (.bad er l c) = some R → R.2 = .bad er l c := by
  intro n
  cases n with
  | zero => intro R h; unfold pcoils at h; cases h
  | succ n =>
    intro R h
    unfold pcoils at h
    rw [mode_bad] at h
    split at h
    · cases h
    · next e st3 h1 =>
      have e1 : st3 = .bad er l c := pj_bad s er l c _ _ _ h1
      rw [e1, accept_bad, if_neg Bool.false_ne_true] at h
      injection h with h; rw [← h]
theorem ps_bad : ∀ (n : Nat) (j : SJob) (R : S × PSt), ps s n j (.bad er l c) = some R → R.2 = .bad er l c := by
  intro n
  induction n with
  | zero => intro j R h; unfold ps at h; cases h
  | succ n ih =>
    intro j R h
    cases j with
    | stmts =>
      unfold ps at h
      rw [if_neg (by simp [tokS]), if_neg (by simp [atS]), if_neg (by simp [atS]), accept_bad, if_neg Bool.false_ne_true] at h
      injection h with h; rw [← h]
    | simple l' c' =>
      unfold ps at h
      split at h
      · cases h
      · next t st1 h1 =>
        have e1 : st1 = .bad er l c := pj_bad s er l c _ _ _ h1
        rw [e1, accept_bad, expect_bad, if_neg (fun z => Bool.false_ne_true z.2)] at h
        split at h
        · cases h
        · next e st3 h4 =>
          have e3 : st3 = .bad er l c := pj_bad s er l c _ _ _ h4
          injection h with h; rw [← h, e3]
    | ifs l' c' =>
      unfold ps at h
      rw [open_bad, if_pos rfl] at h
      dsimp only at h
      split at h
      · cases h
      · next A st1 h1 =>
        have e1 : st1 = .bad er l c := ih _ _ h1
        rw [e1, accept_bad, if_neg Bool.false_ne_true, dec_bad, expect_bad] at h
        injection h with h; rw [← h]
    | arms =>
      unfold ps at h
      split at h
      · cases h
      · next e st1 h1 =>
        have e1 : st1 = .bad er l c := pj_bad s er l c _ _ _ h1
        rw [e1, expect_bad] at h
        split at h
        · cases h
        · next L st2 h2 =>
          have e2 : st2 = .bad er l c := ih _ _ h2
          rw [e2, accept_bad, if_neg Bool.false_ne_true] at h
          injection h with h; rw [← h]
    | fors l' c' =>
      unfold ps at h
      rw [open_bad, if_pos rfl] at h
      dsimp only at h
      rw [take_bad, expect_bad] at h
      split at h
      · cases h
      · next e1 st1 h1 =>
        have q1 : st1 = .bad er l c := pj_bad s er l c _ _ _ h1
        rw [q1, expect_bad] at h
        split at h
        · cases h
        · next e2 st2 h3 =>
          have q2 : st2 = .bad er l c := pj_bad s er l c _ _ _ h3
          rw [q2, expect_bad] at h
          split at h
          · cases h
          · next L st3 h5 =>
            have q3 : st3 = .bad er l c := ih _ _ h5
            injection h with h; rw [← h, q3, dec_bad, expect_bad]
    | rungs l' c' =>
      unfold ps at h
      split at h
      · cases h
      · next e st1 h1 =>
        have e1 : st1 = .bad er l c := pj_bad s er l c _ _ _ h1
        rw [e1, expect_bad] at h
        split at h
        · cases h
        · next L st2 h2 =>
          have e2 : st2 = .bad er l c := pcoils_bad s er l c _ _ h2
          injection h with h; rw [← h, e2]
end
theorem isAt.of {st : PSt} {d : Int} (hd : DA d st) (h0 : 0 ≤ d ∧ d ≤ 64) (hb : ¬ isB st) : isAt st := by
  cases st with
  | «at» k e => have hd : e = d := hd; show 0 ≤ e ∧ e ≤ 64; omega
  | bad e l c => exact absurd trivial hb
theorem isAt.nb {st : PSt} (h : isAt st) : ¬ isB st := by
  cases st with
  | «at» k e => exact fun z => z
  | bad e l c => exact h.elim
theorem isB.ex {st : PSt} (h : isB st) : ∃ e l c, st = .bad e l c := by
  cases st with
  | «at» k e => exact h.elim
  | bad e l c => exact ⟨e, l, c, rfl⟩
section
variable {s : List Int}
theorem isAt.ps {n : Nat} {j : SJob} {st : PSt} {R : S × PSt} {d : Int} (h : ps s n j st = some R) (hd : DA d st) (h0 : 0 ≤ d ∧ d ≤ 64) (hR : isAt R.2) : isAt st := isAt.of hd h0 fun z => by
  obtain ⟨e, l, c, rfl⟩ := z.ex
  rw [ps_bad s e l c n j R h] at hR
  exact hR
theorem isAt.pargs {n : Nat} {st : PSt} {R : List (ByteArray × E) × PSt} {d : Int} (h : pargs s n st = some R) (hd : DA d st) (h0 : 0 ≤ d ∧ d ≤ 64) (hR : isAt R.2) : isAt st := isAt.of hd h0 fun z => by
  obtain ⟨e, l, c, rfl⟩ := z.ex
  rw [pargs_bad s e l c n R h] at hR
  exact hR
theorem isAt.pcoils {n : Nat} {st : PSt} {R : List (ByteArray × E) × PSt} {d : Int} (h : pcoils s n st = some R) (hd : DA d st) (h0 : 0 ≤ d ∧ d ≤ 64) (hR : isAt R.2) : isAt st := isAt.of hd h0 fun z => by
  obtain ⟨e, l, c, rfl⟩ := z.ex
  rw [pcoils_bad s e l c n R h] at hR
  exact hR
theorem isAt.acc {u : ByteArray} {st : PSt} (h : isAt (acceptS s u st).2) : isAt st := by
  unfold acceptS at h
  split at h
  · exact (isAt.take h).1
  · exact h
theorem isAt.mode {st : PSt} (h : isAt (modeS s st).2) : isAt st := by
  unfold modeS at h
  split at h
  · exact (isAt.take h).1
  · exact h
end
end Go.Proofs.Qxb6500774a
