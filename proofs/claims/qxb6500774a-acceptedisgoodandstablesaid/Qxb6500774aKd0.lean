import Derived.Test.Qxb6500774aKc
import Derived.Test.Qxb6500774aNx1
namespace Go.Proofs.Qxb6500774a
open Go.RowKit
set_option linter.unusedVariables false
set_option linter.unusedSimpArgs false
variable {R : Nat → Option Value}

structure TK where
  k : Int
  x : ByteArray
  v : Int
  e : Int
  l : Int
  c : Int
def tkV (t : TK) : Value := .agg #[.int .i64 t.k, .string t.x, .int .i64 t.v, .int .i64 t.e, .int .i64 t.l, .int .i64 t.c]
theorem TB.put3 {w : World} {r : Nat} {k : Int} {x : ByteArray} {v e l c : Int} (h : TB w r k x v e l c) (e' : Int) : TB (w.setCell ⟨r, 3, none⟩ (.int .i64 e')) r k x v e' l c := by
  constructor <;> simp [go_sem, h.c0, h.c1, h.c2, h.c3, h.c4, h.c5, h.f0, h.f1, h.f2, h.f3, h.f4, h.f5]
/-- next at work: the lexer at q, the result's block r0, the token's block r1 -/
structure NW (R : Nat → Option Value) (w0 w : World) (p : Nat) (a : Option Addr) (cp : Nat) (s : List Int) (q : Pl) (r0 r1 : Nat) (t : TK) : Prop where
  lx : LX R w p a cp s q
  ok : PlOk s q
  ex : Ex (fun k => k = p) w0 w
  tr : TB w r0 0 ⟨#[]⟩ 0 0 0 0
  tb : TB w r1 t.k t.x t.v t.e t.l t.c
  ge : w0.heap.size ≤ r0 ∧ w0.heap.size ≤ r1 ∧ r0 ≠ r1
  l0 : ∃ q0, LX R w0 p a cp s q0
section
variable {w0 w w' : World} {p : Nat} {a : Option Addr} {cp : Nat} {s : List Int} {q q' : Pl} {r0 r1 : Nat} {t : TK}
theorem NW.pp (h : NW R w0 w p a cp s q r0 r1 t) : p < w0.heap.size := by
  obtain ⟨q0, h0⟩ := h.l0
  exact World.block_lt_of_cell? _ _ h0.c0
theorem NW.low (h : NW R w0 w p a cp s q r0 r1 t) (e : Below w.heap.size w w') : NW R w0 w' p a cp s q r0 r1 t :=
  ⟨h.lx.below e, h.ok, h.ex.trans ((Ex.of (S := fun _ => False) e).mono (fun _ z => z.elim)), h.tr.keep (Ex.of (S := fun _ => False) e) (fun z => z), h.tb.keep (Ex.of (S := fun _ => False) e) (fun z => z), h.ge, h.l0⟩
theorem NW.lex (h : NW R w0 w p a cp s q r0 r1 t) (e : Ex (fun k => k = p) w w') (hx : LX R w' p a cp s q') (ok : PlOk s q') : NW R w0 w' p a cp s q' r0 r1 t :=
  have hp := h.pp
  have g := h.ge
  ⟨hx, ok, h.ex.trans e, h.tr.keep e (by omega), h.tb.keep e (by omega), h.ge, h.l0⟩
theorem TB.oth {w : World} {r g : Nat} {k : Int} {x : ByteArray} {v e l c : Int} (h : TB w r k x v e l c) (hg : r ≠ g) (j : Nat) (y : Value) : TB (w.setCell ⟨g, j, none⟩ y) r k x v e l c := h.keep (S := fun k => k = g) ((Ex.refl (fun k => k = g) w).set (p := g) (j := j) rfl y) hg
theorem NW.set (h : NW R w0 w p a cp s q r0 r1 t) (j : Nat) (y : Value) {t' : TK} (ht : TB (w.setCell ⟨r1, j, none⟩ y) r1 t'.k t'.x t'.v t'.e t'.l t'.c) : NW R w0 (w.setCell ⟨r1, j, none⟩ y) p a cp s q r0 r1 t' := by
  obtain ⟨q0, h0⟩ := h.l0
  exact ⟨h.lx.otherN h0 h.ge.2.1 j y, h.ok, h.ex.setNew (p := r1) h.ge.2.1 y, h.tr.oth h.ge.2.2 j y, ht, h.ge, ⟨q0, h0⟩⟩
theorem NW.k (h : NW R w0 w p a cp s q r0 r1 t) (k' : Int) : NW R w0 (w.setCell ⟨r1, 0, none⟩ (.int .i64 k')) p a cp s q r0 r1 { t with k := k' } := h.set 0 _ (h.tb.put0 k')
theorem NW.x (h : NW R w0 w p a cp s q r0 r1 t) (x' : ByteArray) : NW R w0 (w.setCell ⟨r1, 1, none⟩ (.string x')) p a cp s q r0 r1 { t with x := x' } := h.set 1 _ (h.tb.put1 x')
theorem NW.v (h : NW R w0 w p a cp s q r0 r1 t) (v' : Int) : NW R w0 (w.setCell ⟨r1, 2, none⟩ (.int .i64 v')) p a cp s q r0 r1 { t with v := v' } := h.set 2 _ (h.tb.put2 v')
theorem NW.e (h : NW R w0 w p a cp s q r0 r1 t) (e' : Int) : NW R w0 (w.setCell ⟨r1, 3, none⟩ (.int .i64 e')) p a cp s q r0 r1 { t with e := e' } := h.set 3 _ (h.tb.put3 e')
def NxPost (R : Nat → Option Value) (w0 : World) (p : Nat) (a : Option Addr) (cp : Nat) (s : List Int) (r : TK × Pl) (e : Ending) (w' : World) : Prop := e = .returned (tkV r.1) ∧ Ex (fun k => k = p) w0 w' ∧ LX R w' p a cp s r.2 ∧ PlOk s r.2
def six (w : World) (r : Nat) (t : TK) : World := (((((w.setCell ⟨r, 0, none⟩ (.int .i64 t.k)).setCell ⟨r, 1, none⟩ (.string t.x)).setCell ⟨r, 2, none⟩ (.int .i64 t.v)).setCell ⟨r, 3, none⟩ (.int .i64 t.e)).setCell ⟨r, 4, none⟩ (.int .i64 t.l)).setCell ⟨r, 5, none⟩ (.int .i64 t.c)
theorem NW.fin (h : NW R w0 w p a cp s q r0 r1 t) : NxPost R w0 p a cp s (t, q) (.returned (tkV t)) (six w r0 t) := by
  obtain ⟨q0, h0⟩ := h.l0
  have g := h.ge.1
  exact ⟨rfl, (((((h.ex.setNew (p := r0) (j := 0) g _).setNew (p := r0) (j := 1) g _).setNew (p := r0) (j := 2) g _).setNew (p := r0) (j := 3) g _).setNew (p := r0) (j := 4) g _).setNew (p := r0) (j := 5) g _, (((((h.lx.otherN h0 g 0 _).otherN h0 g 1 _).otherN h0 g 2 _).otherN h0 g 3 _).otherN h0 g 4 _).otherN h0 g 5 _, h.ok⟩
theorem NW.res (h : NW R w0 w p a cp s q r0 r1 t) : (six w r0 t).cell? ⟨r0, 0, none⟩ = some (.int .i64 t.k) ∧ (six w r0 t).cell? ⟨r0, 1, none⟩ = some (.string t.x) ∧ (six w r0 t).cell? ⟨r0, 2, none⟩ = some (.int .i64 t.v) ∧ (six w r0 t).cell? ⟨r0, 3, none⟩ = some (.int .i64 t.e) ∧ (six w r0 t).cell? ⟨r0, 4, none⟩ = some (.int .i64 t.l) ∧ (six w r0 t).cell? ⟨r0, 5, none⟩ = some (.int .i64 t.c) := by
  have h := h.tr
  unfold six
  refine ⟨?_, ?_, ?_, ?_, ?_, ?_⟩ <;> simp [go_sem, h.c0, h.c1, h.c2, h.c3, h.c4, h.c5]
end
/-! ### The next token, plain -/
def run1 (s : List Int) (o : Nat) : List Int := ((s.drop o).take (wlen (s.drop o))).map upP
def tk0 (q : Pl) : TK := ⟨0, ⟨#[]⟩, 0, 0, q.l, (q.o : Int) - q.b + 1⟩
def negT (t : TK) : TK := if t.v < 0 then { t with k := 1, e := 4 } else t
def msV (B : List Int) : Int := if 2 ≤ B.length ∧ B.getD (B.length - 2) 0 = 77 ∧ B.getD (B.length - 1) 0 = 83 then decimalP (B.take (B.length - 2)) else -1
def wordT (q : Pl) (x : ByteArray) : TK := { tk0 q with k := if kwP x.toList = true then 5 else 2, x := x, v := if x.toList = [84, 82, 85, 69] then 1 else 0 }
def nx2 (s : List Int) (q : Pl) : TK × Pl :=
  if s.length ≤ q.o then (tk0 q, q)
  else if dgP (byP s q.o) = true then (negT { tk0 q with k := 3, v := decimalP (run1 s q.o) }, ⟨q.o + wlen (s.drop q.o), q.l, q.b⟩)
  else if ltP (byP s q.o) = false then
    (if mkP (byP s q.o) (byP s ((q.o + 1 : Nat) : Int)) = [] then ({ tk0 q with k := 1, e := 2, x := strOfNums [] }, q) else ({ tk0 q with k := 5, x := strOfNums (mkP (byP s q.o) (byP s ((q.o + 1 : Nat) : Int))) }, ⟨q.o + (mkP (byP s q.o) (byP s ((q.o + 1 : Nat) : Int))).length, q.l, q.b⟩))
  else if run1 s q.o = [84] ∧ byP s ((q.o + 1 : Nat) : Int) = 35 then (negT { tk0 q with k := 4, v := msV (run1 s (q.o + 2)) }, ⟨q.o + 2 + wlen (s.drop (q.o + 2)), q.l, q.b⟩)
  else (wordT q (strOfNums (run1 s q.o)), ⟨q.o + wlen (s.drop q.o), q.l, q.b⟩)
def nextP (s : List Int) (q : Pl) : TK × Pl := if (skP s q).1 = true then nx2 s (skP s q).2 else ({ tk0 (skP s q).2 with k := 1, e := 3 }, (skP s q).2)
theorem wlen_drop (s : List Int) {o : Nat} (ho : o ≤ s.length) : o + wlen (s.drop o) ≤ s.length := by
  have := wlen_le (s.drop o)
  rw [List.length_drop] at this
  omega
theorem run1_len (s : List Int) (o : Nat) : (run1 s o).length = wlen (s.drop o) := by
  unfold run1
  rw [List.length_map, List.length_take]
  have := wlen_le (s.drop o)
  omega
end Go.Proofs.Qxb6500774a
