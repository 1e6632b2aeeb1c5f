import Derived.Test.Qxb6500774aTg2
namespace Go.Proofs.Qxb6500774a
open Go.RowKit
set_option linter.unusedVariables false
set_option linter.unusedSimpArgs false

set_option maxRecDepth 100000 in
set_option maxHeartbeats 4000000 in
theorem digit_any (w : World) (c : Int) (d1 d2 : Bool) (h1 : decide ((48 : Int) ≤ c) = d1) (h2 : decide (c ≤ 57) = d2) : Calls Try.prog 62 #[.int .u8 c] w fun e w' => e = .returned (.bool (d1 && d2)) ∧ w' = w := by
  cases d1 <;> cases d2 <;> (go_enter Try.func62, Try.ntmps62) <;> go_wp2 <;> go_ret <;> exact ⟨rfl, rfl⟩
set_option maxRecDepth 100000 in
set_option maxHeartbeats 4000000 in
theorem keyword_no (w : World) (t : ByteArray) (h : kwP t.toList = false) : Calls Try.prog 63 #[.string t] w fun e w' => e = .returned (.bool false) ∧ w' = w := by
  have d0 : (t.toList == [80, 82, 79, 71, 82, 65, 77]) = false := by
    cases q : (t.toList == [80, 82, 79, 71, 82, 65, 77]) with
    | false => rfl
    | true => rw [show t.toList = [80, 82, 79, 71, 82, 65, 77] by simpa using q] at h; exact absurd h (by decide)
  have d1 : (t.toList == [69, 78, 68, 95, 80, 82, 79, 71, 82, 65, 77]) = false := by
    cases q : (t.toList == [69, 78, 68, 95, 80, 82, 79, 71, 82, 65, 77]) with
    | false => rfl
    | true => rw [show t.toList = [69, 78, 68, 95, 80, 82, 79, 71, 82, 65, 77] by simpa using q] at h; exact absurd h (by decide)
  have d2 : (t.toList == [86, 65, 82]) = false := by
    cases q : (t.toList == [86, 65, 82]) with
    | false => rfl
    | true => rw [show t.toList = [86, 65, 82] by simpa using q] at h; exact absurd h (by decide)
  have d3 : (t.toList == [86, 65, 82, 95, 73, 78, 80, 85, 84]) = false := by
    cases q : (t.toList == [86, 65, 82, 95, 73, 78, 80, 85, 84]) with
    | false => rfl
    | true => rw [show t.toList = [86, 65, 82, 95, 73, 78, 80, 85, 84] by simpa using q] at h; exact absurd h (by decide)
  have d4 : (t.toList == [86, 65, 82, 95, 79, 85, 84, 80, 85, 84]) = false := by
    cases q : (t.toList == [86, 65, 82, 95, 79, 85, 84, 80, 85, 84]) with
    | false => rfl
    | true => rw [show t.toList = [86, 65, 82, 95, 79, 85, 84, 80, 85, 84] by simpa using q] at h; exact absurd h (by decide)
  have d5 : (t.toList == [69, 78, 68, 95, 86, 65, 82]) = false := by
    cases q : (t.toList == [69, 78, 68, 95, 86, 65, 82]) with
    | false => rfl
    | true => rw [show t.toList = [69, 78, 68, 95, 86, 65, 82] by simpa using q] at h; exact absurd h (by decide)
  have d6 : (t.toList == [65, 82, 82, 65, 89]) = false := by
    cases q : (t.toList == [65, 82, 82, 65, 89]) with
    | false => rfl
    | true => rw [show t.toList = [65, 82, 82, 65, 89] by simpa using q] at h; exact absurd h (by decide)
  have d7 : (t.toList == [79, 70]) = false := by
    cases q : (t.toList == [79, 70]) with
    | false => rfl
    | true => rw [show t.toList = [79, 70] by simpa using q] at h; exact absurd h (by decide)
  have d8 : (t.toList == [73, 70]) = false := by
    cases q : (t.toList == [73, 70]) with
    | false => rfl
    | true => rw [show t.toList = [73, 70] by simpa using q] at h; exact absurd h (by decide)
  have d9 : (t.toList == [84, 72, 69, 78]) = false := by
    cases q : (t.toList == [84, 72, 69, 78]) with
    | false => rfl
    | true => rw [show t.toList = [84, 72, 69, 78] by simpa using q] at h; exact absurd h (by decide)
  have d10 : (t.toList == [69, 76, 83, 73, 70]) = false := by
    cases q : (t.toList == [69, 76, 83, 73, 70]) with
    | false => rfl
    | true => rw [show t.toList = [69, 76, 83, 73, 70] by simpa using q] at h; exact absurd h (by decide)
  have d11 : (t.toList == [69, 76, 83, 69]) = false := by
    cases q : (t.toList == [69, 76, 83, 69]) with
    | false => rfl
    | true => rw [show t.toList = [69, 76, 83, 69] by simpa using q] at h; exact absurd h (by decide)
  have d12 : (t.toList == [69, 78, 68, 95, 73, 70]) = false := by
    cases q : (t.toList == [69, 78, 68, 95, 73, 70]) with
    | false => rfl
    | true => rw [show t.toList = [69, 78, 68, 95, 73, 70] by simpa using q] at h; exact absurd h (by decide)
  have d13 : (t.toList == [70, 79, 82]) = false := by
    cases q : (t.toList == [70, 79, 82]) with
    | false => rfl
    | true => rw [show t.toList = [70, 79, 82] by simpa using q] at h; exact absurd h (by decide)
  have d14 : (t.toList == [84, 79]) = false := by
    cases q : (t.toList == [84, 79]) with
    | false => rfl
    | true => rw [show t.toList = [84, 79] by simpa using q] at h; exact absurd h (by decide)
  have d15 : (t.toList == [68, 79]) = false := by
    cases q : (t.toList == [68, 79]) with
    | false => rfl
    | true => rw [show t.toList = [68, 79] by simpa using q] at h; exact absurd h (by decide)
  have d16 : (t.toList == [69, 78, 68, 95, 70, 79, 82]) = false := by
    cases q : (t.toList == [69, 78, 68, 95, 70, 79, 82]) with
    | false => rfl
    | true => rw [show t.toList = [69, 78, 68, 95, 70, 79, 82] by simpa using q] at h; exact absurd h (by decide)
  have d17 : (t.toList == [82, 85, 78, 71]) = false := by
    cases q : (t.toList == [82, 85, 78, 71]) with
    | false => rfl
    | true => rw [show t.toList = [82, 85, 78, 71] by simpa using q] at h; exact absurd h (by decide)
  have d18 : (t.toList == [83, 69, 84]) = false := by
    cases q : (t.toList == [83, 69, 84]) with
    | false => rfl
    | true => rw [show t.toList = [83, 69, 84] by simpa using q] at h; exact absurd h (by decide)
  have d19 : (t.toList == [82, 69, 83, 69, 84]) = false := by
    cases q : (t.toList == [82, 69, 83, 69, 84]) with
    | false => rfl
    | true => rw [show t.toList = [82, 69, 83, 69, 84] by simpa using q] at h; exact absurd h (by decide)
  have d20 : (t.toList == [73, 78, 86, 65, 82, 73, 65, 78, 84]) = false := by
    cases q : (t.toList == [73, 78, 86, 65, 82, 73, 65, 78, 84]) with
    | false => rfl
    | true => rw [show t.toList = [73, 78, 86, 65, 82, 73, 65, 78, 84] by simpa using q] at h; exact absurd h (by decide)
  have d21 : (t.toList == [82, 69, 83, 80, 79, 78, 83, 69]) = false := by
    cases q : (t.toList == [82, 69, 83, 80, 79, 78, 83, 69]) with
    | false => rfl
    | true => rw [show t.toList = [82, 69, 83, 80, 79, 78, 83, 69] by simpa using q] at h; exact absurd h (by decide)
  have d22 : (t.toList == [87, 73, 84, 72, 73, 78]) = false := by
    cases q : (t.toList == [87, 73, 84, 72, 73, 78]) with
    | false => rfl
    | true => rw [show t.toList = [87, 73, 84, 72, 73, 78] by simpa using q] at h; exact absurd h (by decide)
  have d23 : (t.toList == [84, 82, 85, 69]) = false := by
    cases q : (t.toList == [84, 82, 85, 69]) with
    | false => rfl
    | true => rw [show t.toList = [84, 82, 85, 69] by simpa using q] at h; exact absurd h (by decide)
  have d24 : (t.toList == [70, 65, 76, 83, 69]) = false := by
    cases q : (t.toList == [70, 65, 76, 83, 69]) with
    | false => rfl
    | true => rw [show t.toList = [70, 65, 76, 83, 69] by simpa using q] at h; exact absurd h (by decide)
  have d25 : (t.toList == [79, 82]) = false := by
    cases q : (t.toList == [79, 82]) with
    | false => rfl
    | true => rw [show t.toList = [79, 82] by simpa using q] at h; exact absurd h (by decide)
  have d26 : (t.toList == [88, 79, 82]) = false := by
    cases q : (t.toList == [88, 79, 82]) with
    | false => rfl
    | true => rw [show t.toList = [88, 79, 82] by simpa using q] at h; exact absurd h (by decide)
  have d27 : (t.toList == [65, 78, 68]) = false := by
    cases q : (t.toList == [65, 78, 68]) with
    | false => rfl
    | true => rw [show t.toList = [65, 78, 68] by simpa using q] at h; exact absurd h (by decide)
  have d28 : (t.toList == [77, 79, 68]) = false := by
    cases q : (t.toList == [77, 79, 68]) with
    | false => rfl
    | true => rw [show t.toList = [77, 79, 68] by simpa using q] at h; exact absurd h (by decide)
  have d29 : (t.toList == [78, 79, 84]) = false := by
    cases q : (t.toList == [78, 79, 84]) with
    | false => rfl
    | true => rw [show t.toList = [78, 79, 84] by simpa using q] at h; exact absurd h (by decide)
  clear h
  go_enter Try.func63, Try.ntmps63
  go_wp2
  go_ret
  exact ⟨rfl, rfl⟩
set_option maxRecDepth 100000 in
set_option maxHeartbeats 4000000 in
theorem level_any (w : World) (t : ByteArray) : Calls Try.prog 65 #[.string t] w fun e w' => e = .returned (.int .i64 (powP t.toList)) ∧ w' = w := by
  by_cases h0 : t.toList = [79, 82]
  · have e : powP t.toList = 1 := by rw [h0]; decide
    have d0 : (t.toList == [79, 82]) = true := by simpa using h0
    rw [e]
    clear e h0
    go_enter Try.func65, Try.ntmps65
    go_wp2
    go_ret
    exact ⟨rfl, rfl⟩
  have d0 : (t.toList == [79, 82]) = false := by simpa using h0
  by_cases h1 : t.toList = [88, 79, 82]
  · have e : powP t.toList = 2 := by rw [h1]; decide
    have d1 : (t.toList == [88, 79, 82]) = true := by simpa using h1
    rw [e]
    clear e h1
    go_enter Try.func65, Try.ntmps65
    go_wp2
    go_ret
    exact ⟨rfl, rfl⟩
  have d1 : (t.toList == [88, 79, 82]) = false := by simpa using h1
  by_cases h2 : t.toList = [65, 78, 68]
  · have e : powP t.toList = 3 := by rw [h2]; decide
    have d2 : (t.toList == [65, 78, 68]) = true := by simpa using h2
    rw [e]
    clear e h2
    go_enter Try.func65, Try.ntmps65
    go_wp2
    go_ret
    exact ⟨rfl, rfl⟩
  have d2 : (t.toList == [65, 78, 68]) = false := by simpa using h2
  by_cases h3 : t.toList = [61]
  · have e : powP t.toList = 4 := by rw [h3]; decide
    have d3 : (t.toList == [61]) = true := by simpa using h3
    rw [e]
    clear e h3
    go_enter Try.func65, Try.ntmps65
    go_wp2
    go_ret
    exact ⟨rfl, rfl⟩
  have d3 : (t.toList == [61]) = false := by simpa using h3
  by_cases h4 : t.toList = [60, 62]
  · have e : powP t.toList = 4 := by rw [h4]; decide
    have d4 : (t.toList == [60, 62]) = true := by simpa using h4
    rw [e]
    clear e h4
    go_enter Try.func65, Try.ntmps65
    go_wp2
    go_ret
    exact ⟨rfl, rfl⟩
  have d4 : (t.toList == [60, 62]) = false := by simpa using h4
  by_cases h5 : t.toList = [60]
  · have e : powP t.toList = 5 := by rw [h5]; decide
    have d5 : (t.toList == [60]) = true := by simpa using h5
    rw [e]
    clear e h5
    go_enter Try.func65, Try.ntmps65
    go_wp2
    go_ret
    exact ⟨rfl, rfl⟩
  have d5 : (t.toList == [60]) = false := by simpa using h5
  by_cases h6 : t.toList = [60, 61]
  · have e : powP t.toList = 5 := by rw [h6]; decide
    have d6 : (t.toList == [60, 61]) = true := by simpa using h6
    rw [e]
    clear e h6
    go_enter Try.func65, Try.ntmps65
    go_wp2
    go_ret
    exact ⟨rfl, rfl⟩
  have d6 : (t.toList == [60, 61]) = false := by simpa using h6
  by_cases h7 : t.toList = [62]
  · have e : powP t.toList = 5 := by rw [h7]; decide
    have d7 : (t.toList == [62]) = true := by simpa using h7
    rw [e]
    clear e h7
    go_enter Try.func65, Try.ntmps65
    go_wp2
    go_ret
    exact ⟨rfl, rfl⟩
  have d7 : (t.toList == [62]) = false := by simpa using h7
  by_cases h8 : t.toList = [62, 61]
  · have e : powP t.toList = 5 := by rw [h8]; decide
    have d8 : (t.toList == [62, 61]) = true := by simpa using h8
    rw [e]
    clear e h8
    go_enter Try.func65, Try.ntmps65
    go_wp2
    go_ret
    exact ⟨rfl, rfl⟩
  have d8 : (t.toList == [62, 61]) = false := by simpa using h8
  by_cases h9 : t.toList = [43]
  · have e : powP t.toList = 6 := by rw [h9]; decide
    have d9 : (t.toList == [43]) = true := by simpa using h9
    rw [e]
    clear e h9
    go_enter Try.func65, Try.ntmps65
    go_wp2
    go_ret
    exact ⟨rfl, rfl⟩
  have d9 : (t.toList == [43]) = false := by simpa using h9
  by_cases h10 : t.toList = [45]
  · have e : powP t.toList = 6 := by rw [h10]; decide
    have d10 : (t.toList == [45]) = true := by simpa using h10
    rw [e]
    clear e h10
    go_enter Try.func65, Try.ntmps65
    go_wp2
    go_ret
    exact ⟨rfl, rfl⟩
  have d10 : (t.toList == [45]) = false := by simpa using h10
  by_cases h11 : t.toList = [42]
  · have e : powP t.toList = 7 := by rw [h11]; decide
    have d11 : (t.toList == [42]) = true := by simpa using h11
    rw [e]
    clear e h11
    go_enter Try.func65, Try.ntmps65
    go_wp2
    go_ret
    exact ⟨rfl, rfl⟩
  have d11 : (t.toList == [42]) = false := by simpa using h11
  by_cases h12 : t.toList = [47]
  · have e : powP t.toList = 7 := by rw [h12]; decide
    have d12 : (t.toList == [47]) = true := by simpa using h12
    rw [e]
    clear e h12
    go_enter Try.func65, Try.ntmps65
    go_wp2
    go_ret
    exact ⟨rfl, rfl⟩
  have d12 : (t.toList == [47]) = false := by simpa using h12
  by_cases h13 : t.toList = [77, 79, 68]
  · have e : powP t.toList = 7 := by rw [h13]; decide
    have d13 : (t.toList == [77, 79, 68]) = true := by simpa using h13
    rw [e]
    clear e h13
    go_enter Try.func65, Try.ntmps65
    go_wp2
    go_ret
    exact ⟨rfl, rfl⟩
  have d13 : (t.toList == [77, 79, 68]) = false := by simpa using h13
  have e : powP t.toList = 0 := by unfold powP; simp only [h0, h1, h2, h3, h4, h5, h6, h7, h8, h9, h10, h11, h12, h13, if_false]
  rw [e]
  clear e h0 h1 h2 h3 h4 h5 h6 h7 h8 h9 h10 h11 h12 h13
  go_enter Try.func65, Try.ntmps65
  go_wp2
  go_ret
  exact ⟨rfl, rfl⟩
end Go.Proofs.Qxb6500774a
