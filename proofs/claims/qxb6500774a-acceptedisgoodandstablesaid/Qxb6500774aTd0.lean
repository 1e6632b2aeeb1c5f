import Derived.Test.Qxb6500774aTc
namespace Go.Proofs.Qxb6500774a
open Go.RowKit
set_option linter.unusedVariables false
set_option linter.unusedSimpArgs false

def wdC (c : UInt8) : Bool := (48 ≤ c && c ≤ 57) || (65 ≤ c && c ≤ 90) || c == 95
/-- a name as the tree holds it -/
def gN (x : ByteArray) : Bool := !x.toList.isEmpty && !(match x.toList with | [] => false | c :: _ => 48 ≤ c && c ≤ 57) && !kwP x.toList && x.toList.all wdC
def E.isPl : E → Bool
  | .nm _ _ _ => true
  | .fld _ _ _ _ => true
  | .idx _ _ _ _ => true
  | _ => false
def gE : E → Prop
  | .num v _ _ => 0 ≤ v ∧ v ≤ 9223372036854775807
  | .tim v _ _ => 0 ≤ v ∧ v ≤ 9223372036854775807
  | .bol v _ _ => v = 0 ∨ v = 1
  | .nm x _ _ => gN x = true
  | .fld e x _ _ => gE e ∧ gN x = true ∧ e.isPl = true
  | .idx e i _ _ => gE e ∧ gE i ∧ e.isPl = true
  | .un op e _ _ => gE e ∧ (op = bNOT ∨ op = bMIN)
  | .bin op a b _ _ => gE a ∧ gE b ∧ 0 < powP op.toList
/-- an expression's text beside an operator of power min -/
def prE : E → Int → List Int
  | .num v _ _, _ => decL v.toNat
  | .tim v _ _, _ => [84, 35] ++ decL v.toNat ++ [109, 115]
  | .bol v _ _, _ => if v = 0 then [70, 65, 76, 83, 69] else [84, 82, 85, 69]
  | .nm x _ _, _ => strL x
  | .fld e x _ _, _ => prE e 0 ++ ([46] ++ strL x)
  | .idx e i _ _, _ => prE e 0 ++ ([91] ++ prE i 0) ++ [93]
  | .un op e _ _, _ => (if op.toList = [78, 79, 84] then [78, 79, 84, 32] else strL op) ++ prE e 8
  | .bin op a b _ _, m => (if powP op.toList < m then [40] else []) ++ prE a (powP op.toList) ++ ([32] ++ strL op ++ [32] ++ prE b (powP op.toList + 1)) ++ (if powP op.toList < m then [41] else [])
/-- a box of one's own, apart from the printer -/
structure BX (b : Nat) (w : World) (r : Nat) (f : XP) : Prop where
  te : XK w r f
  nd : ¬ PD w b r
theorem PR.nd {w : World} {b : Nat} {X : List Int} {i : Int} (h : PR w b X i) {r : Nat} (hr : w.heap.size ≤ r) : ¬ PD w b r := fun z => by
  rcases z with z | ⟨v, h1, h2⟩
  · have := h.lt; omega
  · obtain ⟨u, h3, h4⟩ := h.ex
    rw [h1] at h3
    injection h3 with h3
    subst h3
    have := (h4.lt r h2).2
    omega
theorem BX.new {w : World} {b : Nat} {X : List Int} {i : Int} (h : PR w b X i) (f : XP) : BX b (w.alloc (xO f)) w.heap.size f := by
  refine ⟨XK.new w f, fun z => ?_⟩
  obtain ⟨v, h1, _⟩ := h.ex
  rcases z with z | z
  · have := h.lt; omega
  · exact h.nd (Nat.le_refl _) (.inr (obk.low h1 ((Ex.refl (fun _ => False) w).alloc _) z))
theorem BX.go {b r : Nat} {w w' : World} {f : XP} (h : BX b w r f) (g : PGo b w w') : BX b w' r f := ⟨h.te.keep g.ex h.nd, fun z => by
  rcases PD.go g r z with q | q
  · exact h.nd q
  · have := World.block_lt_of_cell? _ _ h.te.c0
    have : r < w.heap.size := this
    omega⟩
theorem RC.go {b g o : Nat} {w w' : World} {f : XP} (h : RC w g o f) (hg : g < w.heap.size ∧ ¬ PD w b g) (gg : PGo b w w') : RC w' g o f ∧ (g < w'.heap.size ∧ ¬ PD w' b g) := ⟨h.keep gg.ex hg.2, Nat.lt_of_lt_of_le hg.1 gg.ex.size, fun z => by
  rcases PD.go gg g z with q | q
  · exact hg.2 q
  · omega⟩
/-- printing e, with room for it -/
def PEX (e : E) : Prop := ∀ (w : World) (b : Nat) (X : List Int) (i : Int) (be : ByteArray) (f : XP) (min : Int), PR w b X i → ET w (PD w b) e f → (X ++ strL be ++ prE e min).length ≤ 1099511627776 → 0 ≤ min → min ≤ 8 →
    Calls Try.prog 31 #[.pointer (some ⟨b, 0, none⟩), .string be, xV f, .int .i64 min] w (PRPost w b (X ++ strL be ++ prE e min) i)
end Go.Proofs.Qxb6500774a
