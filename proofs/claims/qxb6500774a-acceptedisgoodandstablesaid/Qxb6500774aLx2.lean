import Derived.Test.Qxb6500774aLx1
namespace Go.Proofs.Qxb6500774a
open Go.RowKit

set_option maxRecDepth 100000 in
theorem isLetter_any (w : World) (c : Int) : Calls Try.prog 89 #[.int .u8 c] w fun e w' => e = .returned (.bool (ltP c)) ∧ w' = w := by
  obtain ⟨b1, d1⟩ : ∃ b, decide ((65 : Int) ≤ c) = b := ⟨_, rfl⟩
  obtain ⟨b2, d2⟩ : ∃ b, decide (c ≤ (90 : Int)) = b := ⟨_, rfl⟩
  obtain ⟨b3, d3⟩ : ∃ b, decide ((97 : Int) ≤ c) = b := ⟨_, rfl⟩
  obtain ⟨b4, d4⟩ : ∃ b, decide (c ≤ (122 : Int)) = b := ⟨_, rfl⟩
  obtain ⟨b5, d5⟩ : ∃ b, (c == (95 : Int)) = b := ⟨_, rfl⟩
  have e : ltP c = ((b1 && b2) || ((b3 && b4) || b5)) := by
    rw [← d1, ← d2, ← d3, ← d4, ← d5]
    unfold ltP
    rw [Bool.decide_or, Bool.decide_or, Bool.decide_and, Bool.decide_and]
    rfl
  rw [e]
  clear e
  cases b1 <;> cases b2 <;> cases b3 <;> cases b4 <;> cases b5 <;> (go_enter Try.func89, Try.ntmps89; go_wp2; go_ret; exact ⟨rfl, rfl⟩)
end Go.Proofs.Qxb6500774a
