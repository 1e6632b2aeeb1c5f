import Derived.Test.Qxb6500774aKh
namespace Go.Proofs.Qxb6500774a
open Go.RowKit
set_option linter.unusedVariables false
set_option linter.unusedSimpArgs false

/-! ### Depth through the plain parser -/
def DA (d : Int) : PSt → Prop
  | .at _ e => e = d
  | .bad _ _ _ => True
def isB : PSt → Prop
  | .at _ _ => False
  | .bad _ _ _ => True
theorem failS_b (s : List Int) (er : Int) (st : PSt) : isB (failS s er st) := by
  cases st <;> trivial
theorem isB.da {st : PSt} (h : isB st) (d : Int) : DA d st := by
  cases st with
  | «at» k e => exact h.elim
  | bad e l c => trivial
theorem takeS_da {s : List Int} {d : Int} {st : PSt} (h : DA d st) (kk : Int) : DA d (takeS s kk st).2 := by
  cases st with
  | «at» k e =>
    unfold takeS
    dsimp only
    split
    · exact h
    · exact (failS_b s 5 (.at k e)).da d
  | bad e l c => trivial
theorem acceptS_da {s : List Int} {d : Int} {st : PSt} (h : DA d st) (u : ByteArray) : DA d (acceptS s u st).2 := by
  unfold acceptS
  split
  · exact takeS_da h 5
  · exact h
theorem expectS_da {s : List Int} {d : Int} {st : PSt} (h : DA d st) (u : ByteArray) : DA d (expectS s u st) := by
  unfold expectS
  split
  · exact takeS_da h 5
  · exact (failS_b s 5 _).da d
theorem openS_da {s : List Int} {d : Int} {st : PSt} (h : DA d st) : ((openS s st).1 = true → DA (d + 1) (openS s st).2) ∧ ((openS s st).1 ≠ true → isB (openS s st).2) := by
  cases st with
  | «at» k e =>
    have h : e = d := h
    unfold openS
    dsimp only
    split
    · exact ⟨fun z => by simp at z, fun _ => failS_b s 6 (.at k e)⟩
    · exact ⟨fun _ => by rw [h]; exact rfl, fun z => absurd rfl z⟩
  | bad e l c => exact ⟨fun _ => trivial, fun z => absurd rfl z⟩
theorem decS_da {d : Int} {st : PSt} (h : DA (d + 1) st) : DA d (decS st) := by
  cases st with
  | «at» k e =>
    have h : e = d + 1 := h
    show e - 1 = d
    omega
  | bad e l c => trivial
theorem pj_da (s : List Int) : ∀ (n : Nat) (j : Job) (st : PSt) (R : E × PSt) (d : Int), pj s n j st = some R → DA d st → DA d R.2 := by
  intro n
  induction n with
  | zero => intro j st R d h; unfold pj at h; cases h
  | succ n ih =>
    intro j st R d h hd
    cases j with
    | expr min =>
      unfold pj at h
      split at h
      · cases h
      · next e st1 h1 => exact ih _ _ _ d h (ih _ _ _ d h1 hd)
    | loop min left =>
      unfold pj at h
      split at h
      · split at h
        · cases h
        · next r st2 h1 => exact ih _ _ _ d h (ih _ _ _ d h1 (takeS_da hd 5))
      · injection h with h; rw [← h]; exact hd
    | oper =>
      unfold pj at h
      split at h
      · exact ih _ _ _ d h hd
      split at h
      · split at h
        · next ho =>
          split at h
          · cases h
          · next e st2 h1 => injection h with h; rw [← h]; exact decS_da (ih _ _ _ (d + 1) h1 ((openS_da hd).1 ho))
        · next ho => injection h with h; rw [← h]; exact ((openS_da hd).2 ho).da d
      split at h
      · split at h
        · next ho =>
          split at h
          · cases h
          · next e st2 h1 => injection h with h; rw [← h]; exact expectS_da (decS_da (ih _ _ _ (d + 1) h1 ((openS_da hd).1 ho))) _
        · next ho => injection h with h; rw [← h]; exact ((openS_da hd).2 ho).da d
      split at h
      · injection h with h; rw [← h]; exact takeS_da hd _
      split at h
      · injection h with h; rw [← h]; exact takeS_da hd _
      split at h
      · injection h with h; rw [← h]; exact takeS_da hd _
      · injection h with h; rw [← h]; exact (failS_b s 5 _).da d
    | plac =>
      unfold pj at h
      exact ih _ _ _ d h (takeS_da hd 2)
    | placL e =>
      unfold pj at h
      split at h
      · exact ih _ _ _ d h (takeS_da (acceptS_da hd _) 2)
      split at h
      · split at h
        · next ho =>
          split at h
          · cases h
          · next i st2 h1 => exact ih _ _ _ d h (expectS_da (decS_da (ih _ _ _ (d + 1) h1 ((openS_da hd).1 ho))) _)
        · next ho => injection h with h; rw [← h]; exact ((openS_da hd).2 ho).da d
      · injection h with h; rw [← h]; exact hd
theorem DA.ok {d : Int} {st : PSt} (h : DA d st) (hd : 0 ≤ d ∧ d ≤ 64) : DOk st := by
  cases st with
  | «at» k e => have h : e = d := h; show 0 ≤ e ∧ e ≤ 64; omega
  | bad e l c => trivial
theorem DOk.da {st : PSt} (h : DOk st) : ∃ d, (0 ≤ d ∧ d ≤ 64) ∧ DA d st := by
  cases st with
  | «at» k e => exact ⟨e, h, rfl⟩
  | bad e l c => exact ⟨0, by omega, trivial⟩
/-- the parser's depth goes down by one -/
theorem InS.dec {B p : Nat} {a : Option Addr} {cp : Nat} {s : List Int} {w : World} {st : PSt} {d : Int} (h : InS B p a cp s w st) (hd : DA (d + 1) st) (h0 : 0 ≤ d ∧ d ≤ 64) : ∃ dd, w.cell? ⟨p, 10, none⟩ = some (.int .i64 dd) ∧ w.frozen? ⟨p, 10, none⟩ = false ∧ InS B p a cp s (w.setCell ⟨p, 10, none⟩ (.int .i64 (IntKind.i64.wrap (dd - 1)))) (decS st) := by
  cases st with
  | «at» k e =>
    have hd : e = d + 1 := hd
    refine ⟨e, h.1.c10, h.1.fr 10, ?_⟩
    rw [show IntKind.i64.wrap (e - 1) = e - 1 by rw [IntKind.wrap_i64]; omega]
    exact ⟨h.1.dep (e - 1), h.2⟩
  | bad e l c =>
    obtain ⟨he, q, t, d', ht, hp⟩ := h
    exact ⟨d', hp.c10, hp.fr 10, he, q, t, _, ht, hp.dep _⟩
/-- a bad state stays as it is -/
theorem pj_bad (s : List Int) (er l c : Int) : ∀ (n : Nat) (j : Job) (R : E × PSt), pj s n j (.bad er l c) = some R → R.2 = .bad er l c := by
  intro n
  induction n with
  | zero => intro j R h; unfold pj at h; cases h
  | succ n ih =>
    intro j R h
    cases j with
    | expr min =>
      unfold pj at h
      split at h
      · cases h
      · next e st1 h1 =>
        have e1 : st1 = .bad er l c := ih _ _ h1
        rw [e1] at h
        exact ih _ _ h
    | loop min left =>
      unfold pj at h
      rw [if_neg (by simp [powS, tokS])] at h
      injection h with h; rw [← h]
    | oper =>
      unfold pj at h
      rw [if_neg (by simp [tokS]), if_neg (by simp [atS]), if_neg (by simp [atS]), if_neg (by simp [tokS]), if_neg (by simp [tokS]), if_neg (by simp [atS])] at h
      injection h with h; rw [← h]; rfl
    | plac =>
      unfold pj at h
      exact ih _ _ h
    | placL e =>
      unfold pj at h
      rw [if_neg (by simp [acceptS, atS]), if_neg (by simp [atS])] at h
      injection h with h; rw [← h]
end Go.Proofs.Qxb6500774a
