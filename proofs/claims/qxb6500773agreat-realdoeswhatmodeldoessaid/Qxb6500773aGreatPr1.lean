import Derived.Test.Qxb6500773aGreatPd2
import Derived.Laws.OwnMore
namespace Go.Proofs.Qxb6500773aGreat
set_option maxRecDepth 100000
open Go.RowKit

/-! ### Byte buffers -/
def BB (w : World) (B : Nat) (v : Value) (X : List Int) : Prop := w.ownsRow B 5 1 v X.length (X.map (Value.int .u8))
theorem BB.keep {w w' : World} {B : Nat} {v : Value} {X : List Int} (h : BB w B v X) {S : Nat → Prop} (k : Ex S w w') (hs : ∀ j, v.ownBlock = some j → ¬ S j) : BB w' B v X := own_kept h k hs
theorem BB.below {w w' : World} {B : Nat} {v : Value} {X : List Int} (h : BB w B v X) (k : Below w.heap.size w w') : BB w' B v X := h.keep (Ex.of (S := fun _ => False) k) (fun _ _ e => e)
/-- From the buffer v in w to the buffer v' in w'. -/
structure BG (w : World) (B : Nat) (v : Value) (w' : World) (v' : Value) (Y : List Int) : Prop where
  bb : BB w' B v' Y
  ex : Ex (fun k => v.ownBlock = some k) w w'
  own : ∀ k, v'.ownBlock = some k → v.ownBlock = some k ∨ w.heap.size ≤ k
theorem BG.refl {w : World} {B : Nat} {v : Value} {X : List Int} (h : BB w B v X) : BG w B v w v X := ⟨h, Ex.refl _ _, fun _ z => .inl z⟩
theorem BG.trans {w w1 w2 : World} {B : Nat} {v v1 v2 : Value} {X Y : List Int} (h : BG w B v w1 v1 X) (k : BG w1 B v1 w2 v2 Y) : BG w B v w2 v2 Y :=
  ⟨k.bb, h.ex.trans2 k.ex h.own, fun j z => (k.own j z).elim (h.own j) (fun z => .inr (Nat.le_trans h.ex.size z))⟩
theorem BG.below {w w1 w2 : World} {B : Nat} {v v1 : Value} {X : List Int} (h : BG w B v w1 v1 X) (k : Below w1.heap.size w1 w2) : BG w B v w2 v1 X :=
  ⟨h.bb.below k, h.ex.trans (Ex.of k), h.own⟩
theorem BG.drew {w w1 : World} {B : Nat} {v v1 : Value} {X : List Int} (h : BG w B v w1 v1 X) : BG w B v w1.drew v1 X := h.below ((Below.refl _ _).drew)
theorem bg_app {w w2 : World} {B : Nat} {o : Obj} {v : Value} {X : List Int} (_h : BB w B v X) {n g cap : Nat} {Z : List Int} {V : List Value} (hr : w2.ownsRow B 5 1 (.slice (some ⟨g, 0, none⟩) n cap) n (X.map (Value.int .u8) ++ V)) (hg : (w.alloc o).grownBy w2 v.ownBlock) (hat : v.ownBlock = some g ∨ g = (w.alloc o).heap.size) (hV : V = Z.map (Value.int .u8) := by rfl) (hn : n = (X ++ Z).length := by simp) :
    BG w B v w2 (.slice (some ⟨g, 0, none⟩) (X ++ Z).length cap) (X ++ Z) := by
  subst hV
  subst hn
  refine ⟨by unfold BB; rw [List.map_append]; exact hr, (Ex.of (be1 w o)).trans (Ex.ofGrown hg (fun k z => z.symm)), fun j z => ?_⟩
  cases z
  exact hat.imp id (fun z => by rw [z]; exact (be1 w o).size)
/-- What a function that writes to a buffer gives. -/
def ApPost (w : World) (B : Nat) (v : Value) (Y : List Int) (e : Ending) (w' : World) : Prop := ∃ v', e = .returned v' ∧ BG w B v w' v' Y
/-! ### A literal's number -/
set_option linter.unusedSimpArgs false in
set_option maxHeartbeats 2000000 in
/-- cnf.Lit.Negative -/
theorem negative_any (w : World) (l : Int) (h : 0 ≤ l ∧ l ≤ 2147483647) : Calls Tryz.prog 107 #[.int .i32 l] w fun e w' => e = .returned (.bool (l % 2 != 0)) ∧ w' = w := by
  have ha := and_one l h
  go_enter Tryz.func107, Tryz.ntmps107
  go_wp2
  go_ret
  exact ⟨rfl, rfl⟩
/-- The number of a packed literal. -/
def dimP (l : Int) : Int := if l % 2 = 0 then l / 2 else -(l / 2)
set_option linter.unusedSimpArgs false in
set_option maxHeartbeats 2000000 in
/-- cnf.Lit.Dimacs -/
theorem dimacs_any (w : World) (l : Int) (h : 0 ≤ l ∧ l ≤ 2147483647) : Calls Tryz.prog 42 #[.int .i32 l] w fun e w' => e = .returned (.int .i64 (dimP l)) ∧ w' = w := by
  have w1 : IntKind.i64.wrap (l / 2) = l / 2 := by rw [IntKind.wrap_i64]; omega
  have w2 : IntKind.i64.wrap (-(l / 2)) = -(l / 2) := by rw [IntKind.wrap_i64]; omega
  have w3 : IntKind.i32.wrap (l / 2) = l / 2 := by rw [IntKind.wrap_i32]; omega
  have w4 : IntKind.i32.wrap l = l := by rw [IntKind.wrap_i32]; omega
  have hcn := negative_any w l h
  go_enter Tryz.func42, Tryz.ntmps42
  go_wp2_with fail
  refine hcn.mono ?_
  rintro e w' ⟨rfl, rfl⟩
  by_cases h2 : l % 2 = 0
  · have hb : (l % 2 != 0) = false := by simp [h2]
    have HD := hide (show dimP l = l / 2 by unfold dimP; rw [if_pos h2])
    go_wp2
    go_ret
    exact ⟨ret_int HD.out.symm, rfl⟩
  · have hb : (l % 2 != 0) = true := by simpa using h2
    have HD := hide (show dimP l = -(l / 2) by unfold dimP; rw [if_neg h2])
    go_wp2
    go_ret
    exact ⟨ret_int HD.out.symm, rfl⟩
end Go.Proofs.Qxb6500773aGreat
