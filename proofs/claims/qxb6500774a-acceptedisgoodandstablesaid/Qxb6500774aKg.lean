import Derived.Test.Qxb6500774aKf
namespace Go.Proofs.Qxb6500774a
open Go.RowKit
set_option linter.unusedVariables false
set_option linter.unusedSimpArgs false

/-! ### Expressions -/
inductive E where
  | num (v l c : Int)
  | tim (v l c : Int)
  | bol (v l c : Int)
  | nm (x : ByteArray) (l c : Int)
  | fld (e : E) (x : ByteArray) (l c : Int)
  | idx (e i : E) (l c : Int)
  | un (op : ByteArray) (e : E) (l c : Int)
  | bin (op : ByteArray) (a b : E) (l c : Int)
def E.l : E → Int
  | .num _ l _ => l
  | .tim _ l _ => l
  | .bol _ l _ => l
  | .nm _ l _ => l
  | .fld _ _ l _ => l
  | .idx _ _ l _ => l
  | .un _ _ l _ => l
  | .bin _ _ _ l _ => l
def E.c : E → Int
  | .num _ _ c => c
  | .tim _ _ c => c
  | .bol _ _ c => c
  | .nm _ _ c => c
  | .fld _ _ _ c => c
  | .idx _ _ _ c => c
  | .un _ _ _ c => c
  | .bin _ _ _ _ c => c
/-- An expression's seven fields. -/
structure XP where
  k : Int
  x : ByteArray
  n : Int
  m : ByteArray
  q : Option Addr
  ql : Nat
  qc : Nat
  li : Int
  co : Int
def xV (e : XP) : Value := .agg #[.int .i64 e.k, .string e.x, .int .i64 e.n, .string e.m, .slice e.q e.ql e.qc, .int .i64 e.li, .int .i64 e.co]
def nb : ByteArray := ⟨#[]⟩
/-- the seven cells from off on -/
structure RC (w : World) (g off : Nat) (e : XP) : Prop where
  c0 : w.cell? ⟨g, off, none⟩ = some (.int .i64 e.k)
  c1 : w.cell? ⟨g, off + 1, none⟩ = some (.string e.x)
  c2 : w.cell? ⟨g, off + 2, none⟩ = some (.int .i64 e.n)
  c3 : w.cell? ⟨g, off + 3, none⟩ = some (.string e.m)
  c4 : w.cell? ⟨g, off + 4, none⟩ = some (.slice e.q e.ql e.qc)
  c5 : w.cell? ⟨g, off + 5, none⟩ = some (.int .i64 e.li)
  c6 : w.cell? ⟨g, off + 6, none⟩ = some (.int .i64 e.co)
theorem RC.keep {w w' : World} {g off : Nat} {e : XP} (h : RC w g off e) {S : Nat → Prop} (ex : Ex S w w') (hg : ¬ S g) : RC w' g off e :=
  ⟨ex.cell hg h.c0, ex.cell hg h.c1, ex.cell hg h.c2, ex.cell hg h.c3, ex.cell hg h.c4, ex.cell hg h.c5, ex.cell hg h.c6⟩
/-- f holds the tree e; no block of the tree's lies in D -/
def ET (w : World) (D : Nat → Prop) : E → XP → Prop
  | .num v l c, f => f = ⟨0, nb, v, nb, none, 0, 0, l, c⟩
  | .tim v l c, f => f = ⟨1, nb, v, nb, none, 0, 0, l, c⟩
  | .bol v l c, f => f = ⟨2, nb, v, nb, none, 0, 0, l, c⟩
  | .nm x l c, f => f = ⟨3, nb, 0, x, none, 0, 0, l, c⟩
  | .fld e x l c, f => ∃ g f1, f = ⟨4, nb, 0, x, some ⟨g, 0, none⟩, 1, 1, l, c⟩ ∧ (g < w.heap.size ∧ ¬ D g) ∧ RC w g 0 f1 ∧ ET w D e f1
  | .idx e i l c, f => ∃ g f1 f2, f = ⟨5, nb, 0, nb, some ⟨g, 0, none⟩, 2, 2, l, c⟩ ∧ (g < w.heap.size ∧ ¬ D g) ∧ RC w g 0 f1 ∧ RC w g 7 f2 ∧ ET w D e f1 ∧ ET w D i f2
  | .un op e l c, f => ∃ g f1, f = ⟨6, op, 0, nb, some ⟨g, 0, none⟩, 1, 1, l, c⟩ ∧ (g < w.heap.size ∧ ¬ D g) ∧ RC w g 0 f1 ∧ ET w D e f1
  | .bin op a b l c, f => ∃ g f1 f2, f = ⟨7, op, 0, nb, some ⟨g, 0, none⟩, 2, 2, l, c⟩ ∧ (g < w.heap.size ∧ ¬ D g) ∧ RC w g 0 f1 ∧ RC w g 7 f2 ∧ ET w D a f1 ∧ ET w D b f2
theorem ET.keep {w w' : World} {D D' S : Nat → Prop} (ex : Ex S w w') (hS : ∀ g, S g → D g ∨ w.heap.size ≤ g) (hD : ∀ g, D' g → D g ∨ w.heap.size ≤ g) : ∀ {e : E} {f : XP}, ET w D e f → ET w' D' e f := by
  have ok : ∀ {g : Nat}, (g < w.heap.size ∧ ¬ D g) → (g < w'.heap.size ∧ ¬ D' g) ∧ ¬ S g := fun {g} h => ⟨⟨Nat.lt_of_lt_of_le h.1 ex.size, fun z => by rcases hD g z with q | q; exact h.2 q; omega⟩, fun z => by rcases hS g z with q | q; exact h.2 q; omega⟩
  intro e
  induction e with
  | num v l c => intro f h; exact h
  | tim v l c => intro f h; exact h
  | bol v l c => intro f h; exact h
  | nm x l c => intro f h; exact h
  | fld e x l c ih =>
    rintro f ⟨g, f1, h1, h2, h3, h4⟩
    exact ⟨g, f1, h1, (ok h2).1, h3.keep ex (ok h2).2, ih h4⟩
  | idx e i l c ih ih2 =>
    rintro f ⟨g, f1, f2, h1, h2, h3, h4, h5, h6⟩
    exact ⟨g, f1, f2, h1, (ok h2).1, h3.keep ex (ok h2).2, h4.keep ex (ok h2).2, ih h5, ih2 h6⟩
  | un op e l c ih =>
    rintro f ⟨g, f1, h1, h2, h3, h4⟩
    exact ⟨g, f1, h1, (ok h2).1, h3.keep ex (ok h2).2, ih h4⟩
  | bin op a b l c ih ih2 =>
    rintro f ⟨g, f1, f2, h1, h2, h3, h4, h5, h6⟩
    exact ⟨g, f1, f2, h1, (ok h2).1, h3.keep ex (ok h2).2, h4.keep ex (ok h2).2, ih h5, ih2 h6⟩
theorem ET.lc {w : World} {D : Nat → Prop} {e : E} {f : XP} (h : ET w D e f) : f.li = e.l ∧ f.co = e.c := by
  cases e with
  | num v l c => rw [show f = _ from h]; exact ⟨rfl, rfl⟩
  | tim v l c => rw [show f = _ from h]; exact ⟨rfl, rfl⟩
  | bol v l c => rw [show f = _ from h]; exact ⟨rfl, rfl⟩
  | nm x l c => rw [show f = _ from h]; exact ⟨rfl, rfl⟩
  | fld e x l c => obtain ⟨g, f1, h1, _⟩ := h; rw [h1]; exact ⟨rfl, rfl⟩
  | idx e i l c => obtain ⟨g, f1, f2, h1, _⟩ := h; rw [h1]; exact ⟨rfl, rfl⟩
  | un op e l c => obtain ⟨g, f1, h1, _⟩ := h; rw [h1]; exact ⟨rfl, rfl⟩
  | bin op a b l c => obtain ⟨g, f1, f2, h1, _⟩ := h; rw [h1]; exact ⟨rfl, rfl⟩
/-! ### The parser of expressions, plain -/
inductive Job where
  | expr (min : Int)
  | loop (min : Int) (left : E)
  | oper
  | plac
  | placL (e : E)
def junk : E := .num 0 0 0
def tokS (s : List Int) : PSt → TK
  | .at k _ => (tks s k).1
  | .bad _ _ _ => ⟨1, nb, 0, 0, 0, 0⟩
def decS : PSt → PSt
  | .at k d => .at k (d - 1)
  | b => b
def openS (s : List Int) : PSt → Bool × PSt
  | .at k d => if 64 ≤ d then (false, failS s 6 (.at k d)) else (true, .at (k + 1) (d + 1))
  | b => (true, b)
def bNOT : ByteArray := ⟨#[78, 79, 84]⟩
def bMIN : ByteArray := ⟨#[45]⟩
def bPAR : ByteArray := ⟨#[40]⟩
def bEND : ByteArray := ⟨#[41]⟩
def bTRU : ByteArray := ⟨#[84, 82, 85, 69]⟩
def bFAL : ByteArray := ⟨#[70, 65, 76, 83, 69]⟩
def bDOT : ByteArray := ⟨#[46]⟩
def bBRA : ByteArray := ⟨#[91]⟩
def bKET : ByteArray := ⟨#[93]⟩
def powS (s : List Int) (min : Int) (st : PSt) : Bool := ((tokS s st).k == 5) && decide (min ≤ powP (tokS s st).x.toList)
def pj (s : List Int) : Nat → Job → PSt → Option (E × PSt)
  | 0, _, _ => none
  | n + 1, .expr min, st => match pj s n .oper st with
    | none => none
    | some (e, st1) => pj s n (.loop min e) st1
  | n + 1, .loop min left, st => if powS s min st = true then
      (match pj s n (.expr (powP (takeS s 5 st).1.x.toList + 1)) (takeS s 5 st).2 with
       | none => none
       | some (r, st2) => pj s n (.loop min (.bin (takeS s 5 st).1.x left r left.l left.c)) st2)
    else some (left, st)
  | n + 1, .oper, st => if (tokS s st).k = 2 then pj s n .plac st
    else if atS s bNOT st = true ∨ atS s bMIN st = true then
      (if (openS s st).1 = true then
        (match pj s n .oper (openS s st).2 with
         | none => none
         | some (e, st2) => some (.un (tokS s st).x e (tokS s st).l (tokS s st).c, decS st2))
       else some (junk, (openS s st).2))
    else if atS s bPAR st = true then
      (if (openS s st).1 = true then
        (match pj s n (.expr 1) (openS s st).2 with
         | none => none
         | some (e, st2) => some (e, expectS s bEND (decS st2)))
       else some (junk, (openS s st).2))
    else if (tokS s st).k = 3 then some (.num (tokS s st).v (tokS s st).l (tokS s st).c, (takeS s 3 st).2)
    else if (tokS s st).k = 4 then some (.tim (tokS s st).v (tokS s st).l (tokS s st).c, (takeS s 4 st).2)
    else if atS s bTRU st = true ∨ atS s bFAL st = true then some (.bol (tokS s st).v (tokS s st).l (tokS s st).c, (takeS s 5 st).2)
    else some (junk, failS s 5 st)
  | n + 1, .plac, st => pj s n (.placL (.nm (takeS s 2 st).1.x (tokS s st).l (tokS s st).c)) (takeS s 2 st).2
  | n + 1, .placL e, st => if (acceptS s bDOT st).1 = true then pj s n (.placL (.fld e (takeS s 2 (acceptS s bDOT st).2).1.x e.l e.c)) (takeS s 2 (acceptS s bDOT st).2).2
    else if atS s bBRA st = true then
      (if (openS s st).1 = true then
        (match pj s n (.expr 1) (openS s st).2 with
         | none => none
         | some (i, st2) => pj s n (.placL (.idx e i e.l e.c)) (expectS s bKET (decS st2)))
       else some (e, (openS s st).2))
    else some (e, st)
/-! ### What a call leaves -/
def isAt : PSt → Prop
  | .at _ d => 0 ≤ d ∧ d ≤ 64
  | .bad _ _ _ => False
def DOk : PSt → Prop
  | .at _ d => 0 ≤ d ∧ d ≤ 64
  | .bad _ _ _ => True
def XPost (B p : Nat) (a : Option Addr) (cp : Nat) (s : List Int) (w : World) (R : E × PSt) (e : Ending) (w' : World) : Prop := ∃ f, e = .returned (xV f) ∧ Ex (fun k => k = p) w w' ∧ InS B p a cp s w' R.2 ∧ (isAt R.2 → ET w' (fun k => k < w.heap.size) R.1 f)
set_option linter.unusedSimpArgs false in
set_option maxRecDepth 100000 in
set_option maxHeartbeats 4000000 in
/-- parser.open, at a mark -/
theorem openK_any {B p : Nat} {a : Option Addr} {cp : Nat} {s : List Int} (w : World) {k : Nat} {d : Int} (h : InS B p a cp s w (.at k d)) (hd : 0 ≤ d ∧ d ≤ 64) (hk : (tks s k).1.k = 5) :
    Calls Try.prog 94 #[.pointer (some ⟨p, 0, none⟩)] w (StP B p a cp s w (.bool (openS s (.at k d)).1) (openS s (.at k d)).2) := by
  have c10 := h.1.c10
  have f10 := h.1.fr 10
  unfold openS
  dsimp only
  by_cases h64 : 64 ≤ d
  · rw [if_pos h64]
    have HF := hide (failK_any w h 6 (by decide))
    have d1 : decide ((64 : Int) ≤ d) = true := decide_eq_true h64
    generalize failS s 6 (.at k d) = fs at *
    clear h hk h64
    go_enter Try.func94, Try.ntmps94
    go_wp2_with fail
    refine HF.out.mono ?_
    rintro e w' ⟨rfl, hex, hi⟩
    go_wp2
    go_ret
    exact ⟨rfl, hex, hi⟩
  · rw [if_neg h64]
    have d1 : decide ((64 : Int) ≤ d) = false := decide_eq_false h64
    have hw1 : IntKind.i64.wrap (d + 1) = d + 1 := by rw [IntKind.wrap_i64]; omega
    have HD : Hid (InS B p a cp s (w.setCell ⟨p, 10, none⟩ (.int .i64 (d + 1))) (.at k (d + 1))) := ⟨h.1.dep (d + 1), h.2⟩
    have HE : Hid (Ex (fun k => k = p) w (w.setCell ⟨p, 10, none⟩ (.int .i64 (d + 1)))) := (Ex.refl (fun k => k = p) w).set (p := p) rfl _
    have HT := hide (takeK_any _ HD.out 5 (by decide))
    have e : takeS s 5 (.at k (d + 1)) = ((tks s k).1, .at (k + 1) (d + 1)) := by unfold takeS; dsimp only; rw [if_pos hk]
    rw [e] at HT
    clear h hk h64 e HD
    generalize (tks s k).1 = t at *
    go_enter Try.func94, Try.ntmps94
    go_wp2_with fail
    refine HT.out.mono ?_
    rintro e w' ⟨rfl, hex, hi⟩
    go_wp2
    go_ret
    exact ⟨rfl, HE.out.trans hex, hi⟩
end Go.Proofs.Qxb6500774a
