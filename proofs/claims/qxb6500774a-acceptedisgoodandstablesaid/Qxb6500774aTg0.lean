import Derived.Test.Qxb6500774aTf2
namespace Go.Proofs.Qxb6500774a
open Go.RowKit
set_option linter.unusedVariables false
set_option linter.unusedSimpArgs false

/-- a declaration's text; pv, nx: the classes before and behind it -/
def prD1 (x : Dc) : List Int := [32, 32] ++ strL x.nm ++ [32, 58, 32] ++ (if x.arr = true then [65, 82, 82, 65, 89, 32, 91] ++ decL x.lo.toNat ++ [46, 46] ++ decL x.hi.toNat ++ [93, 32, 79, 70, 32] else []) ++ strL x.ty ++ (match x.ini with | none => [] | some e => [32, 58, 61, 32] ++ prE e 0) ++ [59, 10]
def hdC (pv : Option ByteArray) (x : Dc) : Bool := match pv with
  | none => true
  | some p => !(p.toList == x.cls.toList)
def ftC (x : Dc) : List Dc → Bool
  | [] => true
  | y :: _ => !(y.cls.toList == x.cls.toList)
def prDs : Option ByteArray → List Dc → List Int
  | _, [] => []
  | pv, x :: L => (if hdC pv x = true then strL x.cls ++ [10] else []) ++ prD1 x ++ (if ftC x L = true then [69, 78, 68, 95, 86, 65, 82, 10] else []) ++ prDs (some x.cls) L
def prPg (P : Pg) : List Int := ([80, 82, 79, 71, 82, 65, 77, 32] ++ strL P.nm ++ [10]) ++ prDs none P.ds ++ pr P.bd 1 true ++ [69, 78, 68, 95, 80, 82, 79, 71, 82, 65, 77, 10]
/-- a good declaration -/
structure gD (x : Dc) : Prop where
  cls : x.cls = bVAR ∨ x.cls = bVIN ∨ x.cls = bVOU
  nm : gN x.nm = true
  ty : gN x.ty = true
  lo : 0 ≤ x.lo ∧ x.lo ≤ 9223372036854775807
  hi : 0 ≤ x.hi ∧ x.hi ≤ 9223372036854775807
  na : x.arr = false → x.lo = 0 ∧ x.hi = 0
  ini : ∀ e, x.ini = some e → gE e
theorem DS.go {b : Nat} {w w' : World} {L : List Dc} {F : List (List Value)} (h : DS w (PD w b) L F) (g : PGo b w w') : DS w' (PD w' b) L F := h.keep g.ex (fun _ z => .inl z) (PD.go g)
theorem IN.go {b : Nat} {w w' : World} {o : Option E} {v : SLc} (h : IN w (PD w b) o v) (g : PGo b w w') : IN w' (PD w' b) o v := h.keep g.ex (fun _ z => .inl z) (PD.go g)
theorem DS.hd {w : World} {D : Nat → Prop} {L : List Dc} {F : List (List Value)} (h : DS w D L F) : (L = [] ∧ F = []) ∨ ∃ x v F' L', L = x :: L' ∧ F = [.string x.cls, .string x.nm, .string x.ty, .bool x.arr, .int .i64 x.lo, .int .i64 x.hi, .slice v.q v.n v.c, .int .i64 x.l, .int .i64 x.c] :: F' ∧ IN w D x.ini v ∧ DS w D L' F' := by
  cases L with
  | nil => exact .inl ⟨rfl, h⟩
  | cons x L =>
    obtain ⟨f, F', h1, h2, h3⟩ := h
    exact .inr ⟨x, f, F', L, rfl, h1, h2, h3⟩
structure BD (b : Nat) (w : World) (r : Nat) (x : Dc) (vi : SLc) : Prop where
  te : DK w r ⟨x.cls, x.nm, x.ty, x.arr, x.lo, x.hi, vi, x.l, x.c⟩
  nd : ¬ PD w b r
theorem BD.go {b r : Nat} {w w' : World} {x : Dc} {vi : SLc} (h : BD b w r x vi) (g : PGo b w w') : BD b w' r x vi := ⟨h.te.keep g.ex h.nd, nd_go h.nd h.te.lt g⟩
theorem BD.new {w : World} {b : Nat} {X : List Int} {i : Int} (h : PR w b X i) (x : Dc) (vi : SLc) : BD b (w.alloc (.cells #[.string x.cls, .string x.nm, .string x.ty, .bool x.arr, .int .i64 x.lo, .int .i64 x.hi, .slice vi.q vi.n vi.c, .int .i64 x.l, .int .i64 x.c] 66)) w.heap.size x vi := ⟨DK.new w ⟨x.cls, x.nm, x.ty, x.arr, x.lo, x.hi, vi, x.l, x.c⟩, h.ndAl _⟩
structure BP (b : Nat) (w : World) (r : Nat) (nm : ByteArray) (vd vb : SLc) : Prop where
  te : P3 w r nm vd vb
  nd : ¬ PD w b r
theorem BP.go {b r : Nat} {w w' : World} {nm : ByteArray} {vd vb : SLc} (h : BP b w r nm vd vb) (g : PGo b w w') : BP b w' r nm vd vb := ⟨h.te.keep g.ex h.nd, nd_go h.nd h.te.lt g⟩
theorem P3.new1 (w : World) (x : ByteArray) (vd vb : SLc) : P3 (w.alloc (.cells #[.string x, .slice vd.q vd.n vd.c, .slice vb.q vb.n vb.c] 29)) w.heap.size x vd vb := by
  have n := fun j u h => new_cells w [.string x, .slice vd.q vd.n vd.c, .slice vb.q vb.n vb.c] 29 j u h
  exact ⟨n 0 _ rfl, n 1 _ rfl, n 2 _ rfl, fun j => by simp [go_sem]⟩
end Go.Proofs.Qxb6500774a
