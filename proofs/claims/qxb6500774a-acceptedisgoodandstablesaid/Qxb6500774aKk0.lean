import Derived.Test.Qxb6500774aKj
namespace Go.Proofs.Qxb6500774a
open Go.RowKit
set_option linter.unusedVariables false
set_option linter.unusedSimpArgs false

section
variable {B p : Nat} {a : Option Addr} {cp : Nat} {s : List Int}
theorem next_v0 {q : Pl} (h : (nextP s q).1.k = 5) : (nextP s q).1.v = 0 ∨ (nextP s q).1.x.toList = [84, 82, 85, 69] := by
  unfold nextP at h ⊢
  split
  · next hs =>
    rw [if_pos hs] at h
    generalize (skP s q).2 = q1 at *
    unfold nx2 at h ⊢
    have hn : ∀ t : TK, (negT t).k = 5 → t.k = 5 := fun t z => by
      unfold negT at z
      split at z
      · cases z
      · exact z
    split
    · next h1 => rw [if_pos h1] at h; cases h
    · next h1 =>
      rw [if_neg h1] at h
      split
      · next h2 => rw [if_pos h2] at h; cases hn _ h
      · next h2 =>
        rw [if_neg h2] at h
        split
        · next h3 =>
          rw [if_pos h3] at h
          split
          · exact .inl rfl
          · exact .inl rfl
        · next h3 =>
          rw [if_neg h3] at h
          split
          · next h4 => rw [if_pos h4] at h; cases hn _ h
          · next h4 =>
            show (wordT q1 (strOfNums (run1 s q1.o))).v = 0 ∨ (wordT q1 (strOfNums (run1 s q1.o))).x.toList = _
            unfold wordT
            dsimp only
            split
            · next h5 => exact .inr h5
            · exact .inl rfl
  · exact .inl rfl
theorem tks_v0 {k : Nat} (h : (tks s k).1.k = 5) : (tks s k).1.v = 0 ∨ (tks s k).1.x.toList = [84, 82, 85, 69] := by
  cases k with
  | zero =>
    unfold tks at h ⊢
    split
    · exact .inl rfl
    · next hl => rw [if_neg hl] at h; exact next_v0 h
  | succ k => exact next_v0 h
theorem at_v0 {st : PSt} {u : ByteArray} (h : atS s u st = true) (hu : u.toList ≠ [84, 82, 85, 69]) : (tokS s st).v = 0 := by
  cases st with
  | «at» k d =>
    have h : isK (tks s k).1 u = true := h
    unfold isK at h
    simp only [Bool.and_eq_true, beq_iff_eq] at h
    rcases tks_v0 h.1 with q | q
    · exact q
    · rw [h.2] at q; exact absurd q hu
  | bad e l c => rfl
/-- the parser's token, in whatever state -/
theorem InS.all {w : World} {st : PSt} (h : InS B p a cp s w st) : ∃ q t d fe fl fc, PK B p a cp s w q t d fe fl fc ∧ (isAt st → t = tokS s st) ∧ (tokS s st).k = t.k := by
  cases st with
  | «at» k d => exact ⟨_, _, _, _, _, _, h.1, fun _ => rfl, rfl⟩
  | bad er l c =>
    obtain ⟨he, q, t, d, ht, hp⟩ := h
    exact ⟨q, t, d, er, l, c, hp, fun z => z.elim, ht.symm⟩
theorem PX.finx {w0 w : World} {r0 r1 : Nat} {st : PSt} {f f' : XP} {e : E} (h : PX B p a cp s w0 w r0 r1 st f) (ht : isAt st → ET w (DX w0 r0 r1) e f') : XPost B p a cp s w0 (e, st) (.returned (xV f')) (set7 w r0 f') := by
  have g := h.ge
  have b := h.hb
  exact ⟨f', rfl, (((((((h.ex.setNew (p := r0) (j := 0) g.1 _).setNew (p := r0) (j := 1) g.1 _).setNew (p := r0) (j := 2) g.1 _).setNew (p := r0) (j := 3) g.1 _).setNew (p := r0) (j := 4) g.1 _).setNew (p := r0) (j := 5) g.1 _).setNew (p := r0) (j := 6) g.1 _), h.ins.ex (ex_set7 w r0 f') (fun k z => by omega), fun z => (ht z).keep (ex_set7 w r0 f') (fun g z => .inl (.inr (.inl z))) (fun g z => .inl (.inl z))⟩
/-- a tree that a call has left is apart from the blocks at work -/
theorem ET.ofCall {w0 wd wc : World} {r0 r1 : Nat} {e : E} {f : XP} (h : ET wc (fun k => k < wd.heap.size) e f) (h0 : w0.heap.size ≤ wd.heap.size) (h1 : r0 < wd.heap.size ∧ r1 < wd.heap.size) : ET wc (DX w0 r0 r1) e f :=
  h.keep (Ex.refl (fun _ => False) _) (fun _ z => z.elim) (fun g z => .inl (by rcases z with z | z | z <;> omega))
/-- one field of the expression at work turns -/
theorem PX.set1 {w0 w : World} {r0 r1 : Nat} {st : PSt} {f : XP} (h : PX B p a cp s w0 w r0 r1 st f) {j : Nat} {v : Value} {f' : XP} (ht : XK (w.setCell ⟨r1, j, none⟩ v) r1 f') : PX B p a cp s w0 (w.setCell ⟨r1, j, none⟩ v) r0 r1 st f' :=
  have g := h.ge
  have b := h.hb
  have ex : Ex (fun k => k = r1) w (w.setCell ⟨r1, j, none⟩ v) := (Ex.refl (fun k => k = r1) w).set (p := r1) rfl _
  ⟨h.ins.ex ex (fun k z => by omega), h.ex.setNew (p := r1) g.2.1 _, h.tr.keep ex (by omega), ht, h.ge, h.hb⟩
theorem XK.putk {w : World} {r : Nat} {e : XP} (h : XK w r e) (k : Int) : XK (w.setCell ⟨r, 0, none⟩ (.int .i64 k)) r { e with k := k } := by
  refine ⟨?_, ?_, ?_, ?_, ?_, ?_, ?_, fun j => by rw [set_frozen]; exact h.fz j⟩
  all_goals simp [go_sem, h.c0, h.c1, h.c2, h.c3, h.c4, h.c5, h.c6]
theorem XK.putx {w : World} {r : Nat} {e : XP} (h : XK w r e) (x : ByteArray) : XK (w.setCell ⟨r, 1, none⟩ (.string x)) r { e with x := x } := by
  refine ⟨?_, ?_, ?_, ?_, ?_, ?_, ?_, fun j => by rw [set_frozen]; exact h.fz j⟩
  all_goals simp [go_sem, h.c0, h.c1, h.c2, h.c3, h.c4, h.c5, h.c6]
theorem XK.putq {w : World} {r : Nat} {e : XP} (h : XK w r e) (q : Option Addr) (n c : Nat) : XK (w.setCell ⟨r, 4, none⟩ (.slice q n c)) r { e with q := q, ql := n, qc := c } := by
  refine ⟨?_, ?_, ?_, ?_, ?_, ?_, ?_, fun j => by rw [set_frozen]; exact h.fz j⟩
  all_goals simp [go_sem, h.c0, h.c1, h.c2, h.c3, h.c4, h.c5, h.c6]
theorem set_alloc (w : World) (o : Obj) {r j : Nat} (v : Value) (h : r < w.heap.size) : (w.alloc o).setCell ⟨r, j, none⟩ v = (w.setCell ⟨r, j, none⟩ v).alloc o := by
  simp [go_sem, h]
/-- an operand's contract, with fuel below N -/
def OP (B p : Nat) (a : Option Addr) (cp : Nat) (s : List Int) (N : Nat) : Prop := ∀ m, m < N → ∀ (st : PSt) (R : E × PSt) (w : World), pj s m .oper st = some R → InS B p a cp s w st → DOk st → Calls Try.prog 77 #[.pointer (some ⟨p, 0, none⟩)] w (XPost B p a cp s w R)
end
end Go.Proofs.Qxb6500774a
