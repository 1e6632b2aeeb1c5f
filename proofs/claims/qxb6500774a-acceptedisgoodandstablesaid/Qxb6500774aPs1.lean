import Derived.Test.Qxb6500774aLx6
namespace Go.Proofs.Qxb6500774a
open Go.RowKit

/-! ### The parser: cells 0..3 lexer, 4 kind, 5 text, 6 val, 7 err, 8 line, 9 col, 10 depth, 11..13 fault -/
set_option maxRecDepth 100000 in
set_option maxHeartbeats 4000000 in
/-- parser.at -/
theorem at_any (w : World) (p : Nat) (kd : Int) (t u : ByteArray) (c4 : w.cell? ⟨p, 4, none⟩ = some (.int .i64 kd)) (c5 : w.cell? ⟨p, 5, none⟩ = some (.string t)) :
    Calls Try.prog 72 #[.pointer (some ⟨p, 0, none⟩), .string u] w fun e w' => e = .returned (.bool ((kd == 5) && (t.toList == u.toList))) ∧ w' = w := by
  by_cases h : kd = 5
  · subst h
    rw [show ((5 : Int) == 5 && (t.toList == u.toList)) = (t.toList == u.toList) by simp]
    obtain ⟨b, hb⟩ : ∃ b, (t.toList == u.toList) = b := ⟨_, rfl⟩
    rw [hb]
    go_enter Try.func72, Try.ntmps72
    go_wp2
    go_ret
    exact ⟨rfl, rfl⟩
  · have d1 : (kd == 5) = false := by simpa using h
    rw [d1, Bool.false_and]
    go_enter Try.func72, Try.ntmps72
    go_wp2
    go_ret
    exact ⟨rfl, rfl⟩
end Go.Proofs.Qxb6500774a
