import Derived.Test.Qxb6500774aGd1
namespace Go.Proofs.Qxb6500774a
open Go.RowKit
set_option linter.unusedVariables false
set_option linter.unusedSimpArgs false

/-! ### Raw trees: lists of expressions, with a label each (of an argument or a coil) -/
inductive Z where
  | nil
  | ex (x : ByteArray) (k : Int) (op : ByteArray) (v : Int) (nm : ByteArray) (kd : Z) (l c : Int) (r : Z)
def Z.len : Z → Nat
  | .nil => 0
  | .ex _ _ _ _ _ _ _ _ r => r.len + 1
def eqB (x y : ByteArray) : Bool := x.toList == y.toList
/-- the same but for the label and the kids -/
def hdZ (pl : Bool) (f g : XP) : Bool := (!pl || (f.li == g.li && f.co == g.co)) && (f.k == g.k) && eqB f.x g.x && (f.n == g.n) && eqB f.m g.m
def sZ (pl : Bool) : Z → Z → Bool
  | .nil, .nil => true
  | .ex x k op v nm kd l c r, .ex x' k' op' v' nm' kd' l' c' r' => (eqB x x' && (hdZ pl ⟨k, op, v, nm, none, 0, 0, l, c⟩ ⟨k', op', v', nm', none, 0, 0, l', c'⟩ && sZ pl kd kd')) && sZ pl r r'
  | _, _ => false
/-- a list of expressions in memory; b: each with its label ahead -/
def ZT (w : World) : Bool → Z → List (List Value) → Prop
  | _, .nil, F => F = []
  | b, .ex x k op v nm kd l c r, F => ∃ sl FK F', F = ((if b = true then [.string x] else []) ++ xL ⟨k, op, v, nm, sl.q, sl.n, sl.c, l, c⟩) :: F' ∧ (b = false → x = nb) ∧ RW w ND FK sl ∧ ZT w false kd FK ∧ ZT w b r F'
theorem ZT.low {w w' : World} (ex : Ex (fun _ => False) w w') : ∀ {A : Z} {b : Bool} {F : List (List Value)}, ZT w b A F → ZT w' b A F := by
  intro A
  induction A with
  | nil => intro b F h; exact h
  | ex x k op v nm kd l c r ih1 ih =>
    rintro b F ⟨sl, FK, F', h1, h2, h3, h4, h5⟩
    exact ⟨sl, FK, F', h1, h2, h3.low ex, ih1 h4, ih h5⟩
theorem ZT.len {w : World} : ∀ {A : Z} {b : Bool} {F : List (List Value)}, ZT w b A F → F.length = A.len ∧ ∀ V ∈ F, V.length = if b = true then 8 else 7 := by
  intro A
  induction A with
  | nil => rintro b F rfl; exact ⟨rfl, fun V h => by cases h⟩
  | ex x k op v nm kd l c r ih1 ih =>
    rintro b F ⟨sl, FK, F', rfl, h2, h3, h4, h5⟩
    have := ih h5
    refine ⟨by show _ + 1 = _ + 1; rw [this.1], fun V h => ?_⟩
    rcases List.mem_cons.1 h with rfl | h
    · cases b <;> rfl
    · exact this.2 V h
theorem sZ_len {pl : Bool} : ∀ {A B : Z}, A.len ≠ B.len → sZ pl A B = false := by
  intro A
  induction A with
  | nil =>
    intro B h
    cases B with
    | nil => exact absurd rfl h
    | ex x k op v nm kd l c r => rfl
  | ex x k op v nm kd l c r ih1 ih =>
    intro B h
    cases B with
    | nil => rfl
    | ex x' k' op' v' nm' kd' l' c' r' =>
      simp only [sZ]
      rw [ih (fun z => h (by show _ + 1 = _ + 1; rw [z])), Bool.and_false]
/-- SameExprs of A with any list -/
def SXS (A : Z) : Prop := ∀ (w : World) (B : Z) (pl : Bool) (va vb : SLc) (FA FB : List (List Value)), RW w ND FA va → ZT w false A FA → RW w ND FB vb → ZT w false B FB → Calls Try.prog 40 #[slV va, slV vb, .bool pl] w (RdB w (sZ pl A B))
/-- SameExpr of an expression with the kids A -/
def SXE (A : Z) : Prop := ∀ (w : World) (B : Z) (pl : Bool) (f g : XP) (FA FB : List (List Value)), RW w ND FA ⟨f.q, f.ql, f.qc⟩ → ZT w false A FA → RW w ND FB ⟨g.q, g.ql, g.qc⟩ → ZT w false B FB → Calls Try.prog 42 #[xV f, xV g, .bool pl] w (RdB w (hdZ pl f g && sZ pl A B))
end Go.Proofs.Qxb6500774a
