import Derived.Test.Qxb6500774aKm
namespace Go.Proofs.Qxb6500774a
open Go.RowKit
set_option linter.unusedVariables false
set_option linter.unusedSimpArgs false

/-! ### Statements: a list of statements or of arms, head and rest -/
inductive S where
  | nil
  | asg (t e : E) (l c : Int) (r : S)
  | call (x : ByteArray) (ag : List (ByteArray × E)) (l c : Int) (r : S)
  | iff (A L : S) (l c : Int) (r : S)
  | arm (e : E) (L r : S)
  | fr (x : ByteArray) (a e : E) (L : S) (l c : Int) (r : S)
  | rung (e : E) (cs : List (ByteArray × E)) (l c : Int) (r : S)
def S.app : S → S → S
  | .nil, T => T
  | .asg t e l c r, T => .asg t e l c (r.app T)
  | .call x ag l c r, T => .call x ag l c (r.app T)
  | .iff A L l c r, T => .iff A L l c (r.app T)
  | .arm e L r, T => .arm e L (r.app T)
  | .fr x a e L l c r, T => .fr x a e L l c (r.app T)
  | .rung e cs l c r, T => .rung e cs l c (r.app T)
theorem S.app_nil (A : S) : A.app .nil = A := by
  induction A with
  | nil => rfl
  | asg t e l c r ih => show S.asg t e l c (r.app .nil) = _; rw [ih]
  | call x ag l c r ih => show S.call x ag l c (r.app .nil) = _; rw [ih]
  | iff A L l c r _ _ ih => show S.iff A L l c (r.app .nil) = _; rw [ih]
  | arm e L r _ ih => show S.arm e L (r.app .nil) = _; rw [ih]
  | fr x a e L l c r _ ih => show S.fr x a e L l c (r.app .nil) = _; rw [ih]
  | rung e cs l c r ih => show S.rung e cs l c (r.app .nil) = _; rw [ih]
theorem S.app_assoc (A T U : S) : (A.app T).app U = A.app (T.app U) := by
  induction A with
  | nil => rfl
  | asg t e l c r ih => show S.asg t e l c ((r.app T).app U) = S.asg t e l c (r.app (T.app U)); rw [ih]
  | call x ag l c r ih => show S.call x ag l c ((r.app T).app U) = S.call x ag l c (r.app (T.app U)); rw [ih]
  | iff A L l c r _ _ ih => show S.iff A L l c ((r.app T).app U) = S.iff A L l c (r.app (T.app U)); rw [ih]
  | arm e L r _ ih => show S.arm e L ((r.app T).app U) = S.arm e L (r.app (T.app U)); rw [ih]
  | fr x a e L l c r _ ih => show S.fr x a e L l c ((r.app T).app U) = S.fr x a e L l c (r.app (T.app U)); rw [ih]
  | rung e cs l c r ih => show S.rung e cs l c ((r.app T).app U) = S.rung e cs l c (r.app (T.app U)); rw [ih]
/-! ### In memory -/
structure SLc where
  q : Option Addr
  n : Nat
  c : Nat
def slV (v : SLc) : Value := .slice v.q v.n v.c
def nl : SLc := ⟨none, 0, 0⟩
/-- A statement's ten fields. -/
structure SP where
  k : Int
  x : ByteArray
  ex : SLc
  ar : SLc
  el : SLc
  bo : SLc
  ag : SLc
  co : SLc
  li : Int
  cl : Int
def spL (f : SP) : List Value := [.int .i64 f.k, .string f.x, slV f.ex, slV f.ar, slV f.el, slV f.bo, slV f.ag, slV f.co, .int .i64 f.li, .int .i64 f.cl]
def xL (e : XP) : List Value := [.int .i64 e.k, .string e.x, .int .i64 e.n, .string e.m, .slice e.q e.ql e.qc, .int .i64 e.li, .int .i64 e.co]
/-- the cells of block g from 0 on -/
def RV (w : World) (g : Nat) (V : List Value) : Prop := ∀ j v, V[j]? = some v → w.cell? ⟨g, j, none⟩ = some v
theorem RV.keep {w w' : World} {g : Nat} {V : List Value} (h : RV w g V) {T : Nat → Prop} (ex : Ex T w w') (hg : ¬ T g) : RV w' g V := fun j v hj => ex.cell hg (h j v hj)
/-- a slice whose elements are F -/
def RW (w : World) (D : Nat → Prop) (F : List (List Value)) (v : SLc) : Prop := v.n = F.length ∧ (v.n ≤ v.c ∧ v.c ≤ maxLen) ∧ (0 < v.n → ∃ g, v.q = some ⟨g, 0, none⟩ ∧ (g < w.heap.size ∧ ¬ D g) ∧ RV w g F.flatten)
theorem RW.nil (w : World) (D : Nat → Prop) : RW w D [] nl := ⟨rfl, ⟨Nat.le_refl _, Nat.zero_le _⟩, fun h => absurd h (Nat.lt_irrefl 0)⟩
theorem okD {w w' : World} {D D' T : Nat → Prop} (ex : Ex T w w') (hS : ∀ g, T g → D g ∨ w.heap.size ≤ g) (hD : ∀ g, D' g → D g ∨ w.heap.size ≤ g) {g : Nat} (h : g < w.heap.size ∧ ¬ D g) : (g < w'.heap.size ∧ ¬ D' g) ∧ ¬ T g :=
  ⟨⟨Nat.lt_of_lt_of_le h.1 ex.size, fun z => by rcases hD g z with q | q; exact h.2 q; omega⟩, fun z => by rcases hS g z with q | q; exact h.2 q; omega⟩
theorem RW.keep {w w' : World} {D D' T : Nat → Prop} (ex : Ex T w w') (hS : ∀ g, T g → D g ∨ w.heap.size ≤ g) (hD : ∀ g, D' g → D g ∨ w.heap.size ≤ g) {F : List (List Value)} {v : SLc} (h : RW w D F v) : RW w' D' F v :=
  ⟨h.1, h.2.1, fun hn => by
    obtain ⟨g, h1, h2, h3⟩ := h.2.2 hn
    have := okD ex hS hD h2
    exact ⟨g, h1, this.1, h3.keep ex this.2⟩⟩
def PA (w : World) (D : Nat → Prop) : List (ByteArray × E) → List (List Value) → Prop
  | [], F => F = []
  | (x, e) :: L, F => ∃ f F', F = (.string x :: xL f) :: F' ∧ ET w D e f ∧ PA w D L F'
theorem PA.keep {w w' : World} {D D' T : Nat → Prop} (ex : Ex T w w') (hS : ∀ g, T g → D g ∨ w.heap.size ≤ g) (hD : ∀ g, D' g → D g ∨ w.heap.size ≤ g) : ∀ {L : List (ByteArray × E)} {F : List (List Value)}, PA w D L F → PA w' D' L F := by
  intro L
  induction L with
  | nil => intro F h; exact h
  | cons x L ih =>
    rintro F ⟨f, F', h1, h2, h3⟩
    exact ⟨f, F', h1, h2.keep ex hS hD, ih h3⟩
theorem PA.snoc {w : World} {D : Nat → Prop} {x : ByteArray} {e : E} {f : XP} (he : ET w D e f) : ∀ {L : List (ByteArray × E)} {F : List (List Value)}, PA w D L F → PA w D (L ++ [(x, e)]) (F ++ [.string x :: xL f]) := by
  intro L
  induction L with
  | nil => rintro F rfl; exact ⟨f, [], rfl, he, rfl⟩
  | cons y L ih =>
    rintro F ⟨f1, F', h1, h2, h3⟩
    exact ⟨f1, F' ++ [.string x :: xL f], by rw [h1]; rfl, h2, ih h3⟩
theorem PA.len {w : World} {D : Nat → Prop} : ∀ {L : List (ByteArray × E)} {F : List (List Value)}, PA w D L F → F.length = L.length ∧ ∀ V ∈ F, V.length = 8 := by
  intro L
  induction L with
  | nil => rintro F rfl; exact ⟨rfl, fun V h => by cases h⟩
  | cons y L ih =>
    rintro F ⟨f1, F', h1, h2, h3⟩
    have := ih h3
    subst h1
    refine ⟨by simp [this.1], fun V h => ?_⟩
    rcases List.mem_cons.1 h with rfl | h
    · rfl
    · exact this.2 V h
def SS (w : World) (D : Nat → Prop) : S → Bool → List (List Value) → Prop
  | .nil, _, F => F = []
  | .asg t e l c r, b, F => b = false ∧ ∃ g f1 f2 F', F = spL ⟨0, nb, ⟨some ⟨g, 0, none⟩, 2, 2⟩, nl, nl, nl, nl, nl, l, c⟩ :: F' ∧ (g < w.heap.size ∧ ¬ D g) ∧ RC w g 0 f1 ∧ RC w g 7 f2 ∧ ET w D t f1 ∧ ET w D e f2 ∧ SS w D r b F'
  | .call x ag l c r, b, F => b = false ∧ ∃ v A F', F = spL ⟨1, x, nl, nl, nl, nl, v, nl, l, c⟩ :: F' ∧ RW w D A v ∧ PA w D ag A ∧ SS w D r b F'
  | .iff A L l c r, b, F => b = false ∧ ∃ va vl FA FL F', F = spL ⟨2, nb, nl, va, vl, nl, nl, nl, l, c⟩ :: F' ∧ RW w D FA va ∧ RW w D FL vl ∧ SS w D A true FA ∧ SS w D L false FL ∧ SS w D r b F'
  | .arm e L r, b, F => b = true ∧ ∃ f vl FL F', F = (xL f ++ [slV vl]) :: F' ∧ ET w D e f ∧ RW w D FL vl ∧ SS w D L false FL ∧ SS w D r b F'
  | .fr x a e L l c r, b, F => b = false ∧ ∃ g f1 f2 vl FL F', F = spL ⟨3, x, ⟨some ⟨g, 0, none⟩, 2, 2⟩, nl, nl, vl, nl, nl, l, c⟩ :: F' ∧ (g < w.heap.size ∧ ¬ D g) ∧ RC w g 0 f1 ∧ RC w g 7 f2 ∧ ET w D a f1 ∧ ET w D e f2 ∧ RW w D FL vl ∧ SS w D L false FL ∧ SS w D r b F'
  | .rung e cs l c r, b, F => b = false ∧ ∃ g f1 v A F', F = spL ⟨4, nb, ⟨some ⟨g, 0, none⟩, 1, 1⟩, nl, nl, nl, nl, v, l, c⟩ :: F' ∧ (g < w.heap.size ∧ ¬ D g) ∧ RC w g 0 f1 ∧ ET w D e f1 ∧ RW w D A v ∧ PA w D cs A ∧ SS w D r b F'
theorem SS.keep {w w' : World} {D D' T : Nat → Prop} (ex : Ex T w w') (hS : ∀ g, T g → D g ∨ w.heap.size ≤ g) (hD : ∀ g, D' g → D g ∨ w.heap.size ≤ g) : ∀ {A : S} {b : Bool} {F : List (List Value)}, SS w D A b F → SS w' D' A b F := by
  have ok : ∀ {g : Nat}, (g < w.heap.size ∧ ¬ D g) → (g < w'.heap.size ∧ ¬ D' g) ∧ ¬ T g := fun h => okD ex hS hD h
  intro A
  induction A with
  | nil => intro b F h; exact h
  | asg t e l c r ih =>
    rintro b F ⟨hb, g, f1, f2, F', h1, h2, h3, h4, h5, h6, h7⟩
    exact ⟨hb, g, f1, f2, F', h1, (ok h2).1, h3.keep ex (ok h2).2, h4.keep ex (ok h2).2, h5.keep ex hS hD, h6.keep ex hS hD, ih h7⟩
  | call x ag l c r ih =>
    rintro b F ⟨hb, v, A, F', h1, h2, h3, h4⟩
    exact ⟨hb, v, A, F', h1, h2.keep ex hS hD, h3.keep ex hS hD, ih h4⟩
  | iff A L l c r ih1 ih2 ih =>
    rintro b F ⟨hb, va, vl, FA, FL, F', h1, h2, h3, h4, h5, h6⟩
    exact ⟨hb, va, vl, FA, FL, F', h1, h2.keep ex hS hD, h3.keep ex hS hD, ih1 h4, ih2 h5, ih h6⟩
  | arm e L r ih1 ih =>
    rintro b F ⟨hb, f, vl, FL, F', h1, h2, h3, h4, h5⟩
    exact ⟨hb, f, vl, FL, F', h1, h2.keep ex hS hD, h3.keep ex hS hD, ih1 h4, ih h5⟩
  | fr x a e L l c r ih1 ih =>
    rintro b F ⟨hb, g, f1, f2, vl, FL, F', h1, h2, h3, h4, h5, h6, h7, h8, h9⟩
    exact ⟨hb, g, f1, f2, vl, FL, F', h1, (ok h2).1, h3.keep ex (ok h2).2, h4.keep ex (ok h2).2, h5.keep ex hS hD, h6.keep ex hS hD, h7.keep ex hS hD, ih1 h8, ih h9⟩
  | rung e cs l c r ih =>
    rintro b F ⟨hb, g, f1, v, A, F', h1, h2, h3, h4, h5, h6, h7⟩
    exact ⟨hb, g, f1, v, A, F', h1, (ok h2).1, h3.keep ex (ok h2).2, h4.keep ex hS hD, h5.keep ex hS hD, h6.keep ex hS hD, ih h7⟩
theorem SS.app {w : World} {D : Nat → Prop} {T : S} {G : List (List Value)} {b : Bool} (hT : SS w D T b G) : ∀ {A : S} {F : List (List Value)}, SS w D A b F → SS w D (A.app T) b (F ++ G) := by
  intro A
  induction A with
  | nil => rintro F rfl; exact hT
  | asg t e l c r ih =>
    rintro F ⟨hb, g, f1, f2, F', h1, h2, h3, h4, h5, h6, h7⟩
    exact ⟨hb, g, f1, f2, F' ++ G, by rw [h1]; rfl, h2, h3, h4, h5, h6, ih h7⟩
  | call x ag l c r ih =>
    rintro F ⟨hb, v, A, F', h1, h2, h3, h4⟩
    exact ⟨hb, v, A, F' ++ G, by rw [h1]; rfl, h2, h3, ih h4⟩
  | iff A L l c r ih1 ih2 ih =>
    rintro F ⟨hb, va, vl, FA, FL, F', h1, h2, h3, h4, h5, h6⟩
    exact ⟨hb, va, vl, FA, FL, F' ++ G, by rw [h1]; rfl, h2, h3, h4, h5, ih h6⟩
  | arm e L r ih1 ih =>
    rintro F ⟨hb, f, vl, FL, F', h1, h2, h3, h4, h5⟩
    exact ⟨hb, f, vl, FL, F' ++ G, by rw [h1]; rfl, h2, h3, h4, ih h5⟩
  | fr x a e L l c r ih1 ih =>
    rintro F ⟨hb, g, f1, f2, vl, FL, F', h1, h2, h3, h4, h5, h6, h7, h8, h9⟩
    exact ⟨hb, g, f1, f2, vl, FL, F' ++ G, by rw [h1]; rfl, h2, h3, h4, h5, h6, h7, h8, ih h9⟩
  | rung e cs l c r ih =>
    rintro F ⟨hb, g, f1, v, A, F', h1, h2, h3, h4, h5, h6, h7⟩
    exact ⟨hb, g, f1, v, A, F' ++ G, by rw [h1]; rfl, h2, h3, h4, h5, h6, ih h7⟩
theorem SS.len {w : World} {D : Nat → Prop} : ∀ {A : S} {b : Bool} {F : List (List Value)}, SS w D A b F → ∀ V ∈ F, V.length = if b = true then 8 else 10 := by
  intro A
  induction A with
  | nil => rintro b F rfl V h; cases h
  | asg t e l c r ih =>
    rintro b F ⟨hb, g, f1, f2, F', rfl, h2, h3, h4, h5, h6, h7⟩ V h
    rcases List.mem_cons.1 h with rfl | h
    · rw [hb]; rfl
    · exact ih h7 V h
  | call x ag l c r ih =>
    rintro b F ⟨hb, v, A, F', rfl, h2, h3, h4⟩ V h
    rcases List.mem_cons.1 h with rfl | h
    · rw [hb]; rfl
    · exact ih h4 V h
  | iff A L l c r ih1 ih2 ih =>
    rintro b F ⟨hb, va, vl, FA, FL, F', rfl, h2, h3, h4, h5, h6⟩ V h
    rcases List.mem_cons.1 h with rfl | h
    · rw [hb]; rfl
    · exact ih h6 V h
  | arm e L r ih1 ih =>
    rintro b F ⟨hb, f, vl, FL, F', rfl, h2, h3, h4, h5⟩ V h
    rcases List.mem_cons.1 h with rfl | h
    · rw [hb]; rfl
    · exact ih h5 V h
  | fr x a e L l c r ih1 ih =>
    rintro b F ⟨hb, g, f1, f2, vl, FL, F', rfl, h2, h3, h4, h5, h6, h7, h8, h9⟩ V h
    rcases List.mem_cons.1 h with rfl | h
    · rw [hb]; rfl
    · exact ih h9 V h
  | rung e cs l c r ih =>
    rintro b F ⟨hb, g, f1, v, A, F', rfl, h2, h3, h4, h5, h6, h7⟩ V h
    rcases List.mem_cons.1 h with rfl | h
    · rw [hb]; rfl
    · exact ih h7 V h
/-! ### The parser of statements, plain -/
def bASG : ByteArray := ⟨#[58, 61]⟩
def bCOM : ByteArray := ⟨#[44]⟩
def bSEM : ByteArray := ⟨#[59]⟩
def bIF : ByteArray := ⟨#[73, 70]⟩
def bTHN : ByteArray := ⟨#[84, 72, 69, 78]⟩
def bELI : ByteArray := ⟨#[69, 76, 83, 73, 70]⟩
def bELS : ByteArray := ⟨#[69, 76, 83, 69]⟩
def bEIF : ByteArray := ⟨#[69, 78, 68, 95, 73, 70]⟩
def bFOR : ByteArray := ⟨#[70, 79, 82]⟩
def bTO : ByteArray := ⟨#[84, 79]⟩
def bDO : ByteArray := ⟨#[68, 79]⟩
def bEFR : ByteArray := ⟨#[69, 78, 68, 95, 70, 79, 82]⟩
def bRUN : ByteArray := ⟨#[82, 85, 78, 71]⟩
def bARR : ByteArray := ⟨#[61, 62]⟩
def bSET : ByteArray := ⟨#[83, 69, 84]⟩
def bRES : ByteArray := ⟨#[82, 69, 83, 69, 84]⟩
def E.isNm : E → Bool
  | .nm _ _ _ => true
  | _ => false
def E.nmx : E → ByteArray
  | .nm x _ _ => x
  | _ => nb
/-- arguments of a call, one or more -/
def pargs (s : List Int) : Nat → PSt → Option (List (ByteArray × E) × PSt)
  | 0, _ => none
  | n + 1, st => match pj s n (.expr 1) (expectS s bASG (takeS s 2 st).2) with
    | none => none
    | some (e, st3) => if (acceptS s bCOM st3).1 = true then
        (match pargs s n (acceptS s bCOM st3).2 with
         | none => none
         | some (L, st5) => some (((takeS s 2 st).1.x, e) :: L, st5))
      else some ([((takeS s 2 st).1.x, e)], st3)
def isMode (s : List Int) (st : PSt) : Bool := atS s bNOT st || atS s bSET st || atS s bRES st
def modeS (s : List Int) (st : PSt) : ByteArray × PSt := if isMode s st = true then ((takeS s 5 st).1.x, (takeS s 5 st).2) else (nb, st)
/-- coils, one or more -/
def pcoils (s : List Int) : Nat → PSt → Option (List (ByteArray × E) × PSt)
  | 0, _ => none
  | n + 1, st => match pj s n .plac (modeS s st).2 with
    | none => none
    | some (e, st3) => if (acceptS s bCOM st3).1 = true then
        (match pcoils s n (acceptS s bCOM st3).2 with
         | none => none
         | some (L, st5) => some (((modeS s st).1, e) :: L, st5))
      else some ([((modeS s st).1, e)], st3)
inductive SJob where
  | stmts
  | simple (l c : Int)
  | ifs (l c : Int)
  | arms
  | fors (l c : Int)
  | rungs (l c : Int)
def ps (s : List Int) : Nat → SJob → PSt → Option (S × PSt)
  | 0, _, _ => none
  | n + 1, .stmts, st =>
    if (tokS s st).k = 2 then
      (match ps s n (.simple (tokS s st).l (tokS s st).c) st with
       | none => none
       | some (A, st1) => match ps s n .stmts (expectS s bSEM st1) with
         | none => none
         | some (R, st2) => some (A.app R, st2))
    else if atS s bIF st = true then
      (match ps s n (.ifs (tokS s st).l (tokS s st).c) st with
       | none => none
       | some (A, st1) => match ps s n .stmts (expectS s bSEM st1) with
         | none => none
         | some (R, st2) => some (A.app R, st2))
    else if atS s bFOR st = true then
      (match ps s n (.fors (tokS s st).l (tokS s st).c) st with
       | none => none
       | some (A, st1) => match ps s n .stmts (expectS s bSEM st1) with
         | none => none
         | some (R, st2) => some (A.app R, st2))
    else if (acceptS s bRUN st).1 = true then
      (match ps s n (.rungs (tokS s st).l (tokS s st).c) (acceptS s bRUN st).2 with
       | none => none
       | some (A, st1) => match ps s n .stmts (expectS s bSEM st1) with
         | none => none
         | some (R, st2) => some (A.app R, st2))
    else some (.nil, st)
  | n + 1, .simple l c, st => match pj s n .plac st with
    | none => none
    | some (t, st1) => if t.isNm = true ∧ (acceptS s bPAR st1).1 = true then
        (if atS s bEND (acceptS s bPAR st1).2 = true then some (.call t.nmx [] l c .nil, expectS s bEND (acceptS s bPAR st1).2)
         else match pargs s n (acceptS s bPAR st1).2 with
          | none => none
          | some (L, st3) => some (.call t.nmx L l c .nil, expectS s bEND st3))
      else match pj s n (.expr 1) (expectS s bASG st1) with
        | none => none
        | some (e, st3) => some (.asg t e l c .nil, st3)
  | n + 1, .ifs l c, st => if (openS s st).1 = true then
      (match ps s n .arms (openS s st).2 with
       | none => none
       | some (A, st1) => if (acceptS s bELS st1).1 = true then
          (match ps s n .stmts (acceptS s bELS st1).2 with
           | none => none
           | some (L, st2) => some (.iff A L l c .nil, expectS s bEIF (decS st2)))
         else some (.iff A .nil l c .nil, expectS s bEIF (decS st1)))
    else some (.nil, (openS s st).2)
  | n + 1, .arms, st => match pj s n (.expr 1) st with
    | none => none
    | some (e, st1) => match ps s n .stmts (expectS s bTHN st1) with
      | none => none
      | some (L, st2) => if (acceptS s bELI st2).1 = true then
          (match ps s n .arms (acceptS s bELI st2).2 with
           | none => none
           | some (R, st3) => some (.arm e L R, st3))
        else some (.arm e L .nil, st2)
  | n + 1, .fors l c, st => if (openS s st).1 = true then
      (match pj s n (.expr 1) (expectS s bASG (takeS s 2 (openS s st).2).2) with
       | none => none
       | some (e1, st1) => match pj s n (.expr 1) (expectS s bTO st1) with
         | none => none
         | some (e2, st2) => match ps s n .stmts (expectS s bDO st2) with
           | none => none
           | some (L, st3) => some (.fr (takeS s 2 (openS s st).2).1.x e1 e2 L l c .nil, expectS s bEFR (decS st3)))
    else some (.nil, (openS s st).2)
  | n + 1, .rungs l c, st => match pj s n (.expr 1) st with
    | none => none
    | some (e, st1) => match pcoils s n (expectS s bARR st1) with
      | none => none
      | some (L, st2) => some (.rung e L l c .nil, st2)
end Go.Proofs.Qxb6500774a
