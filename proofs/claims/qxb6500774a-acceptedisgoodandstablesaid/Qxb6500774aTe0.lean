import Derived.Test.Qxb6500774aTd
namespace Go.Proofs.Qxb6500774a
open Go.RowKit
set_option linter.unusedVariables false
set_option linter.unusedSimpArgs false

/-! ### The text of statements -/
def prA : List (ByteArray × E) → Bool → List Int
  | [], _ => []
  | (x, e) :: L, first => (if first = true then [] else [44, 32]) ++ strL x ++ [32, 58, 61, 32] ++ prE e 0 ++ prA L false
def prC : List (ByteArray × E) → Bool → List Int
  | [], _ => []
  | (x, e) :: L, first => (if first = true then [] else [44, 32]) ++ strL x ++ (if x.toList = [] then [] else [32]) ++ prE e 0 ++ prC L false
def S.isNil : S → Bool
  | .nil => true
  | _ => false
/-- a list at margin n; first: of an IF's arms -/
def pr : S → Nat → Bool → List Int
  | .nil, _, _ => []
  | .asg t e _ _ r, n, _ => mrg n ++ (prE t 0 ++ ([32, 58, 61, 32] ++ prE e 0)) ++ [59, 10] ++ pr r n true
  | .call x ag _ _ r, n, _ => mrg n ++ (strL x ++ [40] ++ prA ag true ++ [41]) ++ [59, 10] ++ pr r n true
  | .iff A L _ _ r, n, _ => mrg n ++ (pr A n true ++ (if L.isNil = true then [] else mrg n ++ [69, 76, 83, 69, 10] ++ pr L (n + 1) true) ++ (mrg n ++ [69, 78, 68, 95, 73, 70])) ++ [59, 10] ++ pr r n true
  | .arm e L r, n, first => (if first = true then [] else mrg n ++ [69, 76, 83]) ++ ([73, 70, 32] ++ prE e 0) ++ [32, 84, 72, 69, 78, 10] ++ pr L (n + 1) true ++ pr r n false
  | .fr x a e L _ _ r, n, _ => mrg n ++ ([70, 79, 82, 32] ++ strL x ++ [32, 58, 61, 32] ++ prE a 0 ++ ([32, 84, 79, 32] ++ prE e 0) ++ [32, 68, 79, 10] ++ pr L (n + 1) true ++ (mrg n ++ [69, 78, 68, 95, 70, 79, 82])) ++ [59, 10] ++ pr r n true
  | .rung e cs _ _ r, n, _ => mrg n ++ ([82, 85, 78, 71, 32] ++ prE e 0 ++ [32, 61, 62, 32] ++ prC cs true) ++ [59, 10] ++ pr r n true
/-- the head's own text -/
def hdT : S → Nat → List Int
  | .nil, _ => []
  | .asg t e _ _ _, _ => prE t 0 ++ ([32, 58, 61, 32] ++ prE e 0)
  | .call x ag _ _ _, _ => strL x ++ [40] ++ prA ag true ++ [41]
  | .iff A L _ _ _, n => pr A n true ++ (if L.isNil = true then [] else mrg n ++ [69, 76, 83, 69, 10] ++ pr L (n + 1) true) ++ (mrg n ++ [69, 78, 68, 95, 73, 70])
  | .arm _ _ _, _ => []
  | .fr x a e L _ _ _, n => [70, 79, 82, 32] ++ strL x ++ [32, 58, 61, 32] ++ prE a 0 ++ ([32, 84, 79, 32] ++ prE e 0) ++ [32, 68, 79, 10] ++ pr L (n + 1) true ++ (mrg n ++ [69, 78, 68, 95, 70, 79, 82])
  | .rung e cs _ _ _, _ => [82, 85, 78, 71, 32] ++ prE e 0 ++ [32, 61, 62, 32] ++ prC cs true
def S.tl : S → S
  | .nil => .nil
  | .asg _ _ _ _ r => r
  | .call _ _ _ _ r => r
  | .iff _ _ _ _ r => r
  | .arm _ _ r => r
  | .fr _ _ _ _ _ _ r => r
  | .rung _ _ _ _ r => r
def S.isSt : S → Bool
  | .nil => false
  | .arm _ _ _ => false
  | _ => true
theorem pr_head (A : S) (n : Nat) (f : Bool) (h : A.isSt = true) : pr A n f = mrg n ++ hdT A n ++ [59, 10] ++ pr A.tl n true := by
  cases A with
  | nil => cases h
  | arm e L r => cases h
  | _ => rfl
/-! ### Good statements -/
def gPs (L : List (ByteArray × E)) : Prop := ∀ x ∈ L, gE x.2
def gS : S → Prop
  | .nil => True
  | .asg t e _ _ r => gE t ∧ gE e ∧ t.isPl = true ∧ gS r
  | .call x ag _ _ r => gN x = true ∧ (∀ y ∈ ag, gN y.1 = true ∧ gE y.2) ∧ gS r
  | .iff A L _ _ r => gS A ∧ gS L ∧ A.isNil = false ∧ gS r
  | .arm e L r => gE e ∧ gS L ∧ gS r
  | .fr x a e L _ _ r => gN x = true ∧ gE a ∧ gE e ∧ gS L ∧ gS r
  | .rung e cs _ _ r => gE e ∧ (∀ y ∈ cs, (y.1 = nb ∨ y.1 = bNOT ∨ y.1 = bSET ∨ y.1 = bRES) ∧ gE y.2 ∧ y.2.isPl = true) ∧ cs ≠ [] ∧ gS r
/-! ### Memory -/
theorem SS.go {b : Nat} {w w' : World} {A : S} {t : Bool} {F : List (List Value)} (h : SS w (PD w b) A t F) (g : PGo b w w') : SS w' (PD w' b) A t F := h.keep g.ex (fun _ z => .inl z) (PD.go g)
theorem RW.go {b : Nat} {w w' : World} {F : List (List Value)} {v : SLc} (h : RW w (PD w b) F v) (g : PGo b w w') : RW w' (PD w' b) F v := h.keep g.ex (fun _ z => .inl z) (PD.go g)
theorem PA.go {b : Nat} {w w' : World} {L : List (ByteArray × E)} {F : List (List Value)} (h : PA w (PD w b) L F) (g : PGo b w w') : PA w' (PD w' b) L F := h.keep g.ex (fun _ z => .inl z) (PD.go g)
structure BS (b : Nat) (w : World) (r : Nat) (f : SP) : Prop where
  te : SK w r f
  nd : ¬ PD w b r
def spV (f : SP) : Value := .agg #[.int .i64 f.k, .string f.x, .slice f.ex.q f.ex.n f.ex.c, .slice f.ar.q f.ar.n f.ar.c, .slice f.el.q f.el.n f.el.c, .slice f.bo.q f.bo.n f.bo.c, .slice f.ag.q f.ag.n f.ag.c, .slice f.co.q f.co.n f.co.c, .int .i64 f.li, .int .i64 f.cl]
theorem PR.ndAl {w : World} {b : Nat} {X : List Int} {i : Int} (h : PR w b X i) (o : Obj) : ¬ PD (w.alloc o) b w.heap.size := fun z => by
  obtain ⟨v, h1, _⟩ := h.ex
  rcases z with z | z
  · have := h.lt; omega
  · exact h.nd (Nat.le_refl _) (.inr (obk.low h1 ((Ex.refl (fun _ => False) w).alloc _) z))
theorem BS.new {w : World} {b : Nat} {X : List Int} {i : Int} (h : PR w b X i) (f : SP) : BS b (w.alloc (spO f)) w.heap.size f := ⟨SK.new w f, h.ndAl _⟩
theorem nd_go {b r : Nat} {w w' : World} (h : ¬ PD w b r) (hl : r < w.heap.size) (g : PGo b w w') : ¬ PD w' b r := fun z => by
  rcases PD.go g r z with q | q
  · exact h q
  · omega
theorem BS.go {b r : Nat} {w w' : World} {f : SP} (h : BS b w r f) (g : PGo b w w') : BS b w' r f := ⟨h.te.keep g.ex h.nd, nd_go h.nd h.te.lt g⟩
/-- the row of a list: block g, cells -/
theorem RV.go {b g : Nat} {w w' : World} {V : List Value} (h : RV w g V) (hg : g < w.heap.size ∧ ¬ PD w b g) (gg : PGo b w w') : RV w' g V ∧ (g < w'.heap.size ∧ ¬ PD w' b g) := ⟨h.keep gg.ex hg.2, Nat.lt_of_lt_of_le hg.1 gg.ex.size, nd_go hg.2 hg.1 gg⟩
/-- cell k * m + j of a row of elements of m cells -/
theorem flat_get {m : Nat} : ∀ {F : List (List Value)} (_ : ∀ V ∈ F, V.length = m) {k : Nat} {V : List Value} (_ : F[k]? = some V) {j : Nat} (_ : j < m), F.flatten[k * m + j]? = V[j]? := by
  intro F
  induction F with
  | nil => intro _ k V h; simp at h
  | cons U F ih =>
    intro hm k V hk j hj
    have hU := hm U (List.mem_cons_self ..)
    rw [List.flatten_cons]
    cases k with
    | zero =>
      simp at hk
      subst hk
      rw [Nat.zero_mul, Nat.zero_add, List.getElem?_append_left (by omega)]
    | succ k =>
      simp at hk
      rw [List.getElem?_append_right (by rw [hU, Nat.succ_mul]; omega), hU, show (k + 1) * m + j - m = k * m + j by rw [Nat.succ_mul]; omega]
      exact ih (fun V h => hm V (List.mem_cons_of_mem _ h)) hk hj
theorem RV.at {w : World} {g m : Nat} {F : List (List Value)} (h : RV w g F.flatten) (hm : ∀ V ∈ F, V.length = m) {k : Nat} {V : List Value} (hk : F[k]? = some V) {j : Nat} (hj : j < m) {v : Value} (hv : V[j]? = some v) : w.cell? ⟨g, k * m + j, none⟩ = some v := h _ _ (by rw [flat_get hm hk hj]; exact hv)
/-- how deep lists lie within one another -/
def sdep : S → Nat
  | .nil => 0
  | .asg _ _ _ _ r => sdep r
  | .call _ _ _ _ r => sdep r
  | .iff A L _ _ r => max (max (sdep A) (1 + sdep L)) (sdep r)
  | .arm _ L r => max (1 + sdep L) (sdep r)
  | .fr _ _ _ L _ _ r => max (1 + sdep L) (sdep r)
  | .rung _ _ _ _ r => sdep r
theorem sdep_tl (A : S) : sdep A.tl ≤ sdep A := by
  cases A with
  | nil => exact Nat.le_refl _
  | asg t e l c r => exact Nat.le_refl _
  | call x ag l c r => exact Nat.le_refl _
  | iff A L l c r => exact Nat.le_max_right _ _
  | arm e L r => exact Nat.le_max_right _ _
  | fr x a e L l c r => exact Nat.le_max_right _ _
  | rung e cs l c r => exact Nat.le_refl _
/-- one statement's contract -/
def STC (A : S) : Prop := ∀ (w : World) (b : Nat) (X : List Int) (n : Nat) (f : SP) (F : List (List Value)), PR w b X n → SS w (PD w b) A false (spL f :: F) → (X ++ hdT A n).length ≤ 1099511627776 → n + sdep A ≤ 1000000 →
    Calls Try.prog 69 #[.pointer (some ⟨b, 0, none⟩), spV f] w (PRPost w b (X ++ hdT A n) n)
/-- a list's contract -/
def LST (A : S) : Prop := ∀ (w : World) (b : Nat) (X : List Int) (n : Nat) (v : SLc) (F : List (List Value)), PR w b X n → RW w (PD w b) F v → SS w (PD w b) A false F → (X ++ pr A (n + 1) true).length ≤ 1099511627776 → n + 1 + sdep A ≤ 1000000 →
    Calls Try.prog 32 #[.pointer (some ⟨b, 0, none⟩), slV v] w (PRPost w b (X ++ pr A (n + 1) true) n)
/-- each statement of the list is printed as it should -/
def SOK : S → Prop
  | .nil => True
  | .asg t e l c r => STC (.asg t e l c r) ∧ SOK r
  | .call x ag l c r => STC (.call x ag l c r) ∧ SOK r
  | .iff A L l c r => STC (.iff A L l c r) ∧ SOK r
  | .arm _ L r => LST L ∧ SOK r
  | .fr x a e L l c r => STC (.fr x a e L l c r) ∧ SOK r
  | .rung e cs l c r => STC (.rung e cs l c r) ∧ SOK r
theorem SOK.hd {A : S} (h : SOK A) (hs : A.isSt = true) : STC A ∧ SOK A.tl := by
  cases A with
  | nil => cases hs
  | arm e L r => cases hs
  | asg t e l c r => exact h
  | call x ag l c r => exact h
  | iff A L l c r => exact h
  | fr x a e L l c r => exact h
  | rung e cs l c r => exact h
theorem SS.hd {w : World} {D : Nat → Prop} {A : S} {F : List (List Value)} (h : SS w D A false F) : (A = .nil ∧ F = []) ∨ ∃ f F', A.isSt = true ∧ F = spL f :: F' ∧ SS w D A.tl false F' := by
  cases A with
  | nil => exact .inl ⟨rfl, h⟩
  | arm e L r => exact absurd h.1 Bool.false_ne_true
  | asg t e l c r =>
    obtain ⟨hb, g, f1, f2, F', h1, h2, h3, h4, h5, h6, h7⟩ := h
    exact .inr ⟨_, F', rfl, h1, h7⟩
  | call x ag l c r =>
    obtain ⟨hb, v, A, F', h1, h2, h3, h4⟩ := h
    exact .inr ⟨_, F', rfl, h1, h4⟩
  | iff A L l c r =>
    obtain ⟨hb, va, vl, FA, FL, F', h1, h2, h3, h4, h5, h6⟩ := h
    exact .inr ⟨_, F', rfl, h1, h6⟩
  | fr x a e L l c r =>
    obtain ⟨hb, g, f1, f2, vl, FL, F', h1, h2, h3, h4, h5, h6, h7, h8, h9⟩ := h
    exact .inr ⟨_, F', rfl, h1, h9⟩
  | rung e cs l c r =>
    obtain ⟨hb, g, f1, v, A, F', h1, h2, h3, h4, h5, h6, h7⟩ := h
    exact .inr ⟨_, F', rfl, h1, h7⟩
end Go.Proofs.Qxb6500774a
