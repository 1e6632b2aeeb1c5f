import Derived.Test.Qxb6500774aKi
namespace Go.Proofs.Qxb6500774a
open Go.RowKit
set_option linter.unusedVariables false
set_option linter.unusedSimpArgs false

section
variable {B p : Nat} {a : Option Addr} {cp : Nat} {s : List Int}
theorem fld81 (t : TK) (w : World) : (Instr.field 81 (tkV t) 1).run Try.prog w = .ok (.string t.x) w := by kernel_rfl
/-- expression, with fuel below N -/
def EX1 (B p : Nat) (a : Option Addr) (cp : Nat) (s : List Int) (N : Nat) : Prop := ∀ m, m < N → ∀ (st : PSt) (R : E × PSt) (w : World), pj s m (.expr 1) st = some R → InS B p a cp s w st → DOk st → Calls Try.prog 44 #[.pointer (some ⟨p, 0, none⟩), .int .i64 1] w (XPost B p a cp s w R)
/-- place's loop -/
def PLR (B p : Nat) (a : Option Addr) (cp : Nat) (s : List Int) (w : World) (r0 r1 N : Nat) (d : Int) (RR : E × PSt) (wr : World) (m : Nat) : Prop := ∃ (e : E) (st : PSt) (f : XP), m < N ∧ pj s m (.placL e) st = some RR ∧ DA d st ∧ PX B p a cp s w wr r0 r1 st f ∧ (isAt st → ET wr (DX w r0 r1) e f)
theorem InS.tok {w : World} {st : PSt} (h : InS B p a cp s w st) : ∃ q t d fe fl fc, PK B p a cp s w q t d fe fl fc ∧ (isAt st → t = tokS s st) := by
  cases st with
  | «at» k d => exact ⟨_, _, _, _, _, _, h.1, fun _ => rfl⟩
  | bad er l c =>
    obtain ⟨he, q, t, d, ht, hp⟩ := h
    exact ⟨q, t, d, er, l, c, hp, fun z => z.elim⟩
theorem openK_st {w : World} {st : PSt} {d : Int} (h : InS B p a cp s w st) (hda : DA d st) (hd : 0 ≤ d ∧ d ≤ 64) {u : ByteArray} (hat : atS s u st = true) : Calls Try.prog 94 #[.pointer (some ⟨p, 0, none⟩)] w (StP B p a cp s w (.bool (openS s st).1) (openS s st).2) := by
  cases st with
  | «at» k e =>
    have hda : e = d := hda
    refine openK_any w h (by omega) ?_
    have hat : isK (tks s k).1 u = true := hat
    unfold isK at hat
    simp only [Bool.and_eq_true, beq_iff_eq] at hat
    exact hat.1
  | bad er l c => cases hat
theorem isAt.ex {u : ByteArray} {st : PSt} (h : isAt (expectS s u st)) : isAt st := by
  unfold expectS at h
  split at h
  · cases st with
    | «at» k d =>
      unfold takeS at h
      dsimp only at h
      split at h
      · exact h
      · exact h.elim
    | bad er l c => exact h.elim
  · cases st with
    | «at» k d => exact h.elim
    | bad er l c => exact h.elim
theorem isAt.take {kk : Int} {st : PSt} (h : isAt (takeS s kk st).2) : isAt st ∧ (takeS s kk st).1 = tokS s st ∧ (tokS s st).k = kk := by
  cases st with
  | «at» k d =>
    unfold takeS at h ⊢
    dsimp only at h ⊢
    split at h
    · next hk => rw [if_pos hk]; exact ⟨h, rfl, hk⟩
    · exact h.elim
  | bad er l c => exact h.elim
noncomputable def ob93 : Code := ((Try.f93.body.bind (loopOf 0)).getD .skip)
end
end Go.Proofs.Qxb6500774a
