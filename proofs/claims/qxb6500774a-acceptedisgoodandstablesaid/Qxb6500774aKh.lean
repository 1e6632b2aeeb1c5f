import Derived.Test.Qxb6500774aKg
namespace Go.Proofs.Qxb6500774a
open Go.RowKit
set_option linter.unusedVariables false
set_option linter.unusedSimpArgs false

/-! ### The least of the numbers that fit: a loop's measure -/
theorem least_ex (P : Nat → Prop) (h : ∃ n, P n) : ∃ n, P n ∧ ∀ m, P m → n ≤ m := by
  obtain ⟨n, hn⟩ := h
  induction n using Nat.strongRecOn with
  | ind n ih =>
    by_cases hm : ∃ m, m < n ∧ P m
    · obtain ⟨m, h1, h2⟩ := hm
      exact ih m h1 h2
    · exact ⟨n, hn, fun m h2 => Nat.le_of_not_lt fun z => hm ⟨m, z, h2⟩⟩
open Classical in
noncomputable def lm (P : Nat → Prop) : Nat := if h : ∃ n, P n then Classical.choose (least_ex P h) else 0
theorem lm_spec {P : Nat → Prop} (h : ∃ n, P n) : P (lm P) ∧ ∀ m, P m → lm P ≤ m := by
  unfold lm
  rw [dif_pos h]
  exact Classical.choose_spec (least_ex P h)
theorem lm_lt {P Q : Nat → Prop} {n : Nat} (hQ : Q n) (hn : n < lm P) : lm Q < lm P := Nat.lt_of_le_of_lt ((lm_spec ⟨n, hQ⟩).2 n hQ) hn
/-! ### An expression's block -/
structure XK (w : World) (r : Nat) (e : XP) : Prop where
  c0 : w.cell? ⟨r, 0, none⟩ = some (.int .i64 e.k)
  c1 : w.cell? ⟨r, 1, none⟩ = some (.string e.x)
  c2 : w.cell? ⟨r, 2, none⟩ = some (.int .i64 e.n)
  c3 : w.cell? ⟨r, 3, none⟩ = some (.string e.m)
  c4 : w.cell? ⟨r, 4, none⟩ = some (.slice e.q e.ql e.qc)
  c5 : w.cell? ⟨r, 5, none⟩ = some (.int .i64 e.li)
  c6 : w.cell? ⟨r, 6, none⟩ = some (.int .i64 e.co)
  fz : ∀ j, w.frozen? ⟨r, j, none⟩ = false
def xO (e : XP) : Obj := .cells #[.int .i64 e.k, .string e.x, .int .i64 e.n, .string e.m, .slice e.q e.ql e.qc, .int .i64 e.li, .int .i64 e.co] 47
theorem XK.new (w : World) (e : XP) : XK (w.alloc (xO e)) w.heap.size e := by
  have n := fun j u h => new_cells w [.int .i64 e.k, .string e.x, .int .i64 e.n, .string e.m, .slice e.q e.ql e.qc, .int .i64 e.li, .int .i64 e.co] 47 j u h
  exact ⟨n 0 _ rfl, n 1 _ rfl, n 2 _ rfl, n 3 _ rfl, n 4 _ rfl, n 5 _ rfl, n 6 _ rfl, fun j => by simp [go_sem, xO]⟩
theorem XK.keep {w w' : World} {r : Nat} {e : XP} (h : XK w r e) {S : Nat → Prop} (ex : Ex S w w') (hr : ¬ S r) : XK w' r e :=
  have hl : r < w.heap.size := World.block_lt_of_cell? _ _ h.c0
  ⟨ex.cell hr h.c0, ex.cell hr h.c1, ex.cell hr h.c2, ex.cell hr h.c3, ex.cell hr h.c4, ex.cell hr h.c5, ex.cell hr h.c6, fun j => (ex.frozen hr hl).trans (h.fz j)⟩
def set7 (w : World) (r : Nat) (f : XP) : World := ((((((w.setCell ⟨r, 0, none⟩ (.int .i64 f.k)).setCell ⟨r, 1, none⟩ (.string f.x)).setCell ⟨r, 2, none⟩ (.int .i64 f.n)).setCell ⟨r, 3, none⟩ (.string f.m)).setCell ⟨r, 4, none⟩ (.slice f.q f.ql f.qc)).setCell ⟨r, 5, none⟩ (.int .i64 f.li)).setCell ⟨r, 6, none⟩ (.int .i64 f.co)
theorem XK.put {w : World} {r : Nat} {e : XP} (h : XK w r e) (f : XP) : XK (set7 w r f) r f := by
  unfold set7
  refine ⟨?_, ?_, ?_, ?_, ?_, ?_, ?_, fun j => by rw [set_frozen, set_frozen, set_frozen, set_frozen, set_frozen, set_frozen, set_frozen]; exact h.fz j⟩
  all_goals simp [go_sem, h.c0, h.c1, h.c2, h.c3, h.c4, h.c5, h.c6]
theorem ex_set7 (w : World) (r : Nat) (f : XP) : Ex (fun k => k = r) w (set7 w r f) := ((((((Ex.refl (fun k => k = r) w).set (p := r) (j := 0) rfl _).set (p := r) (j := 1) rfl _).set (p := r) (j := 2) rfl _).set (p := r) (j := 3) rfl _).set (p := r) (j := 4) rfl _).set (p := r) (j := 5) rfl _ |>.set (p := r) (j := 6) rfl _
theorem XK.putm {w : World} {r : Nat} {e : XP} (h : XK w r e) (x : ByteArray) : XK (w.setCell ⟨r, 3, none⟩ (.string x)) r { e with m := x } := by
  refine ⟨?_, ?_, ?_, ?_, ?_, ?_, ?_, fun j => by rw [set_frozen]; exact h.fz j⟩
  all_goals simp [go_sem, h.c0, h.c1, h.c2, h.c3, h.c4, h.c5, h.c6]
def x00 : XP := ⟨0, nb, 0, nb, none, 0, 0, 0, 0⟩
/-- an expression in the making: the result's block r0, the expression's block r1 -/
structure PX (B p : Nat) (a : Option Addr) (cp : Nat) (s : List Int) (w0 w : World) (r0 r1 : Nat) (st : PSt) (f : XP) : Prop where
  ins : InS B p a cp s w st
  ex : Ex (fun k => k = p) w0 w
  tr : XK w r0 x00
  te : XK w r1 f
  ge : w0.heap.size ≤ r0 ∧ w0.heap.size ≤ r1 ∧ r0 ≠ r1
  hb : B ≤ w0.heap.size ∧ p < B
def DX (w0 : World) (r0 r1 : Nat) (k : Nat) : Prop := k < w0.heap.size ∨ k = r0 ∨ k = r1
section
variable {B p : Nat} {a : Option Addr} {cp : Nat} {s : List Int} {w0 w w' : World} {r0 r1 : Nat} {st st' : PSt} {f : XP} {e : E}
theorem PX.lt (h : PX B p a cp s w0 w r0 r1 st f) : r0 < w.heap.size ∧ r1 < w.heap.size := ⟨World.block_lt_of_cell? _ _ h.tr.c0, World.block_lt_of_cell? _ _ h.te.c0⟩
theorem PX.low (h : PX B p a cp s w0 w r0 r1 st f) (ex : Ex (fun _ => False) w w') : PX B p a cp s w0 w' r0 r1 st f :=
  ⟨h.ins.ex ex (fun _ z => z.elim), h.ex.trans (ex.mono (fun _ z => z.elim)), h.tr.keep ex (fun z => z), h.te.keep ex (fun z => z), h.ge, h.hb⟩
/-- a call of the parser's -/
theorem PX.call (h : PX B p a cp s w0 w r0 r1 st f) (ex : Ex (fun k => k = p) w w') (hi : InS B p a cp s w' st') : PX B p a cp s w0 w' r0 r1 st' f :=
  have g := h.ge
  have b := h.hb
  ⟨hi, h.ex.trans ex, h.tr.keep ex (by omega), h.te.keep ex (by omega), h.ge, h.hb⟩
theorem PX.put (h : PX B p a cp s w0 w r0 r1 st f) (f' : XP) : PX B p a cp s w0 (set7 w r1 f') r0 r1 st f' :=
  have g := h.ge
  have b := h.hb
  ⟨h.ins.ex (ex_set7 w r1 f') (fun k z => by omega), (((((((h.ex.setNew (p := r1) (j := 0) g.2.1 _).setNew (p := r1) (j := 1) g.2.1 _).setNew (p := r1) (j := 2) g.2.1 _).setNew (p := r1) (j := 3) g.2.1 _).setNew (p := r1) (j := 4) g.2.1 _).setNew (p := r1) (j := 5) g.2.1 _).setNew (p := r1) (j := 6) g.2.1 _), h.tr.keep (ex_set7 w r1 f') (by omega), h.te.put f', h.ge, h.hb⟩
theorem PX.putm (h : PX B p a cp s w0 w r0 r1 st f) (x : ByteArray) : PX B p a cp s w0 (w.setCell ⟨r1, 3, none⟩ (.string x)) r0 r1 st { f with m := x } :=
  have g := h.ge
  have b := h.hb
  have ex : Ex (fun k => k = r1) w (w.setCell ⟨r1, 3, none⟩ (.string x)) := (Ex.refl (fun k => k = r1) w).set (p := r1) rfl _
  ⟨h.ins.ex ex (fun k z => by omega), h.ex.setNew (p := r1) g.2.1 _, h.tr.keep ex (by omega), h.te.putm x, h.ge, h.hb⟩
/-- the tree lives on -/
theorem ET.dx (h : ET w (DX w0 r0 r1) e f) (ex : Ex (fun k => k = p) w w') (hp : p < w0.heap.size) : ET w' (DX w0 r0 r1) e f := h.keep ex (fun g z => .inl (.inl (by rw [z]; exact hp))) (fun g z => .inl z)
theorem ET.dlow (h : ET w (DX w0 r0 r1) e f) (ex : Ex (fun _ => False) w w') : ET w' (DX w0 r0 r1) e f := h.keep ex (fun g z => z.elim) (fun g z => .inl z)
theorem ET.ds (h : ET w (DX w0 r0 r1) e f) (ex : Ex (fun k => k = r1) w w') : ET w' (DX w0 r0 r1) e f := h.keep ex (fun g z => .inl (.inr (.inr z))) (fun g z => .inl z)
theorem PX.fin (h : PX B p a cp s w0 w r0 r1 st f) (ht : isAt st → ET w (DX w0 r0 r1) e f) : XPost B p a cp s w0 (e, st) (.returned (xV f)) (set7 w r0 f) := by
  have g := h.ge
  have b := h.hb
  exact ⟨f, rfl, (((((((h.ex.setNew (p := r0) (j := 0) g.1 _).setNew (p := r0) (j := 1) g.1 _).setNew (p := r0) (j := 2) g.1 _).setNew (p := r0) (j := 3) g.1 _).setNew (p := r0) (j := 4) g.1 _).setNew (p := r0) (j := 5) g.1 _).setNew (p := r0) (j := 6) g.1 _), h.ins.ex (ex_set7 w r0 f) (fun k z => by omega), fun z => (ht z).keep (ex_set7 w r0 f) (fun g z => .inl (.inr (.inl z))) (fun g z => .inl (.inl z))⟩
end
end Go.Proofs.Qxb6500774a
