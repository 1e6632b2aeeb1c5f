import Derived.Test.Qxb6500774aLx5
namespace Go.Proofs.Qxb6500774a
open Go.RowKit

def powP (t : List UInt8) : Int := if t = [79, 82] then 1 else if t = [88, 79, 82] then 2 else if t = [65, 78, 68] then 3 else if t = [61] then 4 else if t = [60, 62] then 4 else if t = [60] then 5 else if t = [60, 61] then 5 else if t = [62] then 5 else if t = [62, 61] then 5 else if t = [43] then 6 else if t = [45] then 6 else if t = [42] then 7 else if t = [47] then 7 else if t = [77, 79, 68] then 7 else 0
set_option maxRecDepth 100000 in
set_option maxHeartbeats 4000000 in
theorem power_any (w : World) (t : ByteArray) : Calls Try.prog 67 #[.string t] w fun e w' => e = .returned (.int .i64 (powP t.toList)) ∧ w' = w := by
  by_cases h0 : t.toList = [79, 82]
  · have e : powP t.toList = 1 := by rw [h0]; decide
    have d0 : (t.toList == [79, 82]) = true := by simpa using h0
    rw [e]
    clear e h0
    go_enter Try.func67, Try.ntmps67
    go_wp2
    go_ret
    exact ⟨rfl, rfl⟩
  have d0 : (t.toList == [79, 82]) = false := by simpa using h0
  by_cases h1 : t.toList = [88, 79, 82]
  · have e : powP t.toList = 2 := by rw [h1]; decide
    have d1 : (t.toList == [88, 79, 82]) = true := by simpa using h1
    rw [e]
    clear e h1
    go_enter Try.func67, Try.ntmps67
    go_wp2
    go_ret
    exact ⟨rfl, rfl⟩
  have d1 : (t.toList == [88, 79, 82]) = false := by simpa using h1
  by_cases h2 : t.toList = [65, 78, 68]
  · have e : powP t.toList = 3 := by rw [h2]; decide
    have d2 : (t.toList == [65, 78, 68]) = true := by simpa using h2
    rw [e]
    clear e h2
    go_enter Try.func67, Try.ntmps67
    go_wp2
    go_ret
    exact ⟨rfl, rfl⟩
  have d2 : (t.toList == [65, 78, 68]) = false := by simpa using h2
  by_cases h3 : t.toList = [61]
  · have e : powP t.toList = 4 := by rw [h3]; decide
    have d3 : (t.toList == [61]) = true := by simpa using h3
    rw [e]
    clear e h3
    go_enter Try.func67, Try.ntmps67
    go_wp2
    go_ret
    exact ⟨rfl, rfl⟩
  have d3 : (t.toList == [61]) = false := by simpa using h3
  by_cases h4 : t.toList = [60, 62]
  · have e : powP t.toList = 4 := by rw [h4]; decide
    have d4 : (t.toList == [60, 62]) = true := by simpa using h4
    rw [e]
    clear e h4
    go_enter Try.func67, Try.ntmps67
    go_wp2
    go_ret
    exact ⟨rfl, rfl⟩
  have d4 : (t.toList == [60, 62]) = false := by simpa using h4
  by_cases h5 : t.toList = [60]
  · have e : powP t.toList = 5 := by rw [h5]; decide
    have d5 : (t.toList == [60]) = true := by simpa using h5
    rw [e]
    clear e h5
    go_enter Try.func67, Try.ntmps67
    go_wp2
    go_ret
    exact ⟨rfl, rfl⟩
  have d5 : (t.toList == [60]) = false := by simpa using h5
  by_cases h6 : t.toList = [60, 61]
  · have e : powP t.toList = 5 := by rw [h6]; decide
    have d6 : (t.toList == [60, 61]) = true := by simpa using h6
    rw [e]
    clear e h6
    go_enter Try.func67, Try.ntmps67
    go_wp2
    go_ret
    exact ⟨rfl, rfl⟩
  have d6 : (t.toList == [60, 61]) = false := by simpa using h6
  by_cases h7 : t.toList = [62]
  · have e : powP t.toList = 5 := by rw [h7]; decide
    have d7 : (t.toList == [62]) = true := by simpa using h7
    rw [e]
    clear e h7
    go_enter Try.func67, Try.ntmps67
    go_wp2
    go_ret
    exact ⟨rfl, rfl⟩
  have d7 : (t.toList == [62]) = false := by simpa using h7
  by_cases h8 : t.toList = [62, 61]
  · have e : powP t.toList = 5 := by rw [h8]; decide
    have d8 : (t.toList == [62, 61]) = true := by simpa using h8
    rw [e]
    clear e h8
    go_enter Try.func67, Try.ntmps67
    go_wp2
    go_ret
    exact ⟨rfl, rfl⟩
  have d8 : (t.toList == [62, 61]) = false := by simpa using h8
  by_cases h9 : t.toList = [43]
  · have e : powP t.toList = 6 := by rw [h9]; decide
    have d9 : (t.toList == [43]) = true := by simpa using h9
    rw [e]
    clear e h9
    go_enter Try.func67, Try.ntmps67
    go_wp2
    go_ret
    exact ⟨rfl, rfl⟩
  have d9 : (t.toList == [43]) = false := by simpa using h9
  by_cases h10 : t.toList = [45]
  · have e : powP t.toList = 6 := by rw [h10]; decide
    have d10 : (t.toList == [45]) = true := by simpa using h10
    rw [e]
    clear e h10
    go_enter Try.func67, Try.ntmps67
    go_wp2
    go_ret
    exact ⟨rfl, rfl⟩
  have d10 : (t.toList == [45]) = false := by simpa using h10
  by_cases h11 : t.toList = [42]
  · have e : powP t.toList = 7 := by rw [h11]; decide
    have d11 : (t.toList == [42]) = true := by simpa using h11
    rw [e]
    clear e h11
    go_enter Try.func67, Try.ntmps67
    go_wp2
    go_ret
    exact ⟨rfl, rfl⟩
  have d11 : (t.toList == [42]) = false := by simpa using h11
  by_cases h12 : t.toList = [47]
  · have e : powP t.toList = 7 := by rw [h12]; decide
    have d12 : (t.toList == [47]) = true := by simpa using h12
    rw [e]
    clear e h12
    go_enter Try.func67, Try.ntmps67
    go_wp2
    go_ret
    exact ⟨rfl, rfl⟩
  have d12 : (t.toList == [47]) = false := by simpa using h12
  by_cases h13 : t.toList = [77, 79, 68]
  · have e : powP t.toList = 7 := by rw [h13]; decide
    have d13 : (t.toList == [77, 79, 68]) = true := by simpa using h13
    rw [e]
    clear e h13
    go_enter Try.func67, Try.ntmps67
    go_wp2
    go_ret
    exact ⟨rfl, rfl⟩
  have d13 : (t.toList == [77, 79, 68]) = false := by simpa using h13
  have e : powP t.toList = 0 := by unfold powP; simp only [h0, h1, h2, h3, h4, h5, h6, h7, h8, h9, h10, h11, h12, h13, if_false]
  rw [e]
  clear e h0 h1 h2 h3 h4 h5 h6 h7 h8 h9 h10 h11 h12 h13
  go_enter Try.func67, Try.ntmps67
  go_wp2
  go_ret
  exact ⟨rfl, rfl⟩
def kwP (t : List UInt8) : Bool := if t = [80, 82, 79, 71, 82, 65, 77] then true else if t = [69, 78, 68, 95, 80, 82, 79, 71, 82, 65, 77] then true else if t = [86, 65, 82] then true else if t = [86, 65, 82, 95, 73, 78, 80, 85, 84] then true else if t = [86, 65, 82, 95, 79, 85, 84, 80, 85, 84] then true else if t = [69, 78, 68, 95, 86, 65, 82] then true else if t = [65, 82, 82, 65, 89] then true else if t = [79, 70] then true else if t = [73, 70] then true else if t = [84, 72, 69, 78] then true else if t = [69, 76, 83, 73, 70] then true else if t = [69, 76, 83, 69] then true else if t = [69, 78, 68, 95, 73, 70] then true else if t = [70, 79, 82] then true else if t = [84, 79] then true else if t = [68, 79] then true else if t = [69, 78, 68, 95, 70, 79, 82] then true else if t = [82, 85, 78, 71] then true else if t = [83, 69, 84] then true else if t = [82, 69, 83, 69, 84] then true else if t = [73, 78, 86, 65, 82, 73, 65, 78, 84] then true else if t = [82, 69, 83, 80, 79, 78, 83, 69] then true else if t = [87, 73, 84, 72, 73, 78] then true else if t = [84, 82, 85, 69] then true else if t = [70, 65, 76, 83, 69] then true else if t = [79, 82] then true else if t = [88, 79, 82] then true else if t = [65, 78, 68] then true else if t = [77, 79, 68] then true else if t = [78, 79, 84] then true else false
set_option maxRecDepth 100000 in
set_option maxHeartbeats 4000000 in
theorem isKeyword_any (w : World) (t : ByteArray) : Calls Try.prog 92 #[.string t] w fun e w' => e = .returned (.bool (kwP t.toList)) ∧ w' = w := by
  by_cases h0 : t.toList = [80, 82, 79, 71, 82, 65, 77]
  · have e : kwP t.toList = true := by rw [h0]; decide
    have d0 : (t.toList == [80, 82, 79, 71, 82, 65, 77]) = true := by simpa using h0
    rw [e]
    clear e h0
    go_enter Try.func92, Try.ntmps92
    go_wp2
    go_ret
    exact ⟨rfl, rfl⟩
  have d0 : (t.toList == [80, 82, 79, 71, 82, 65, 77]) = false := by simpa using h0
  by_cases h1 : t.toList = [69, 78, 68, 95, 80, 82, 79, 71, 82, 65, 77]
  · have e : kwP t.toList = true := by rw [h1]; decide
    have d1 : (t.toList == [69, 78, 68, 95, 80, 82, 79, 71, 82, 65, 77]) = true := by simpa using h1
    rw [e]
    clear e h1
    go_enter Try.func92, Try.ntmps92
    go_wp2
    go_ret
    exact ⟨rfl, rfl⟩
  have d1 : (t.toList == [69, 78, 68, 95, 80, 82, 79, 71, 82, 65, 77]) = false := by simpa using h1
  by_cases h2 : t.toList = [86, 65, 82]
  · have e : kwP t.toList = true := by rw [h2]; decide
    have d2 : (t.toList == [86, 65, 82]) = true := by simpa using h2
    rw [e]
    clear e h2
    go_enter Try.func92, Try.ntmps92
    go_wp2
    go_ret
    exact ⟨rfl, rfl⟩
  have d2 : (t.toList == [86, 65, 82]) = false := by simpa using h2
  by_cases h3 : t.toList = [86, 65, 82, 95, 73, 78, 80, 85, 84]
  · have e : kwP t.toList = true := by rw [h3]; decide
    have d3 : (t.toList == [86, 65, 82, 95, 73, 78, 80, 85, 84]) = true := by simpa using h3
    rw [e]
    clear e h3
    go_enter Try.func92, Try.ntmps92
    go_wp2
    go_ret
    exact ⟨rfl, rfl⟩
  have d3 : (t.toList == [86, 65, 82, 95, 73, 78, 80, 85, 84]) = false := by simpa using h3
  by_cases h4 : t.toList = [86, 65, 82, 95, 79, 85, 84, 80, 85, 84]
  · have e : kwP t.toList = true := by rw [h4]; decide
    have d4 : (t.toList == [86, 65, 82, 95, 79, 85, 84, 80, 85, 84]) = true := by simpa using h4
    rw [e]
    clear e h4
    go_enter Try.func92, Try.ntmps92
    go_wp2
    go_ret
    exact ⟨rfl, rfl⟩
  have d4 : (t.toList == [86, 65, 82, 95, 79, 85, 84, 80, 85, 84]) = false := by simpa using h4
  by_cases h5 : t.toList = [69, 78, 68, 95, 86, 65, 82]
  · have e : kwP t.toList = true := by rw [h5]; decide
    have d5 : (t.toList == [69, 78, 68, 95, 86, 65, 82]) = true := by simpa using h5
    rw [e]
    clear e h5
    go_enter Try.func92, Try.ntmps92
    go_wp2
    go_ret
    exact ⟨rfl, rfl⟩
  have d5 : (t.toList == [69, 78, 68, 95, 86, 65, 82]) = false := by simpa using h5
  by_cases h6 : t.toList = [65, 82, 82, 65, 89]
  · have e : kwP t.toList = true := by rw [h6]; decide
    have d6 : (t.toList == [65, 82, 82, 65, 89]) = true := by simpa using h6
    rw [e]
    clear e h6
    go_enter Try.func92, Try.ntmps92
    go_wp2
    go_ret
    exact ⟨rfl, rfl⟩
  have d6 : (t.toList == [65, 82, 82, 65, 89]) = false := by simpa using h6
  by_cases h7 : t.toList = [79, 70]
  · have e : kwP t.toList = true := by rw [h7]; decide
    have d7 : (t.toList == [79, 70]) = true := by simpa using h7
    rw [e]
    clear e h7
    go_enter Try.func92, Try.ntmps92
    go_wp2
    go_ret
    exact ⟨rfl, rfl⟩
  have d7 : (t.toList == [79, 70]) = false := by simpa using h7
  by_cases h8 : t.toList = [73, 70]
  · have e : kwP t.toList = true := by rw [h8]; decide
    have d8 : (t.toList == [73, 70]) = true := by simpa using h8
    rw [e]
    clear e h8
    go_enter Try.func92, Try.ntmps92
    go_wp2
    go_ret
    exact ⟨rfl, rfl⟩
  have d8 : (t.toList == [73, 70]) = false := by simpa using h8
  by_cases h9 : t.toList = [84, 72, 69, 78]
  · have e : kwP t.toList = true := by rw [h9]; decide
    have d9 : (t.toList == [84, 72, 69, 78]) = true := by simpa using h9
    rw [e]
    clear e h9
    go_enter Try.func92, Try.ntmps92
    go_wp2
    go_ret
    exact ⟨rfl, rfl⟩
  have d9 : (t.toList == [84, 72, 69, 78]) = false := by simpa using h9
  by_cases h10 : t.toList = [69, 76, 83, 73, 70]
  · have e : kwP t.toList = true := by rw [h10]; decide
    have d10 : (t.toList == [69, 76, 83, 73, 70]) = true := by simpa using h10
    rw [e]
    clear e h10
    go_enter Try.func92, Try.ntmps92
    go_wp2
    go_ret
    exact ⟨rfl, rfl⟩
  have d10 : (t.toList == [69, 76, 83, 73, 70]) = false := by simpa using h10
  by_cases h11 : t.toList = [69, 76, 83, 69]
  · have e : kwP t.toList = true := by rw [h11]; decide
    have d11 : (t.toList == [69, 76, 83, 69]) = true := by simpa using h11
    rw [e]
    clear e h11
    go_enter Try.func92, Try.ntmps92
    go_wp2
    go_ret
    exact ⟨rfl, rfl⟩
  have d11 : (t.toList == [69, 76, 83, 69]) = false := by simpa using h11
  by_cases h12 : t.toList = [69, 78, 68, 95, 73, 70]
  · have e : kwP t.toList = true := by rw [h12]; decide
    have d12 : (t.toList == [69, 78, 68, 95, 73, 70]) = true := by simpa using h12
    rw [e]
    clear e h12
    go_enter Try.func92, Try.ntmps92
    go_wp2
    go_ret
    exact ⟨rfl, rfl⟩
  have d12 : (t.toList == [69, 78, 68, 95, 73, 70]) = false := by simpa using h12
  by_cases h13 : t.toList = [70, 79, 82]
  · have e : kwP t.toList = true := by rw [h13]; decide
    have d13 : (t.toList == [70, 79, 82]) = true := by simpa using h13
    rw [e]
    clear e h13
    go_enter Try.func92, Try.ntmps92
    go_wp2
    go_ret
    exact ⟨rfl, rfl⟩
  have d13 : (t.toList == [70, 79, 82]) = false := by simpa using h13
  by_cases h14 : t.toList = [84, 79]
  · have e : kwP t.toList = true := by rw [h14]; decide
    have d14 : (t.toList == [84, 79]) = true := by simpa using h14
    rw [e]
    clear e h14
    go_enter Try.func92, Try.ntmps92
    go_wp2
    go_ret
    exact ⟨rfl, rfl⟩
  have d14 : (t.toList == [84, 79]) = false := by simpa using h14
  by_cases h15 : t.toList = [68, 79]
  · have e : kwP t.toList = true := by rw [h15]; decide
    have d15 : (t.toList == [68, 79]) = true := by simpa using h15
    rw [e]
    clear e h15
    go_enter Try.func92, Try.ntmps92
    go_wp2
    go_ret
    exact ⟨rfl, rfl⟩
  have d15 : (t.toList == [68, 79]) = false := by simpa using h15
  by_cases h16 : t.toList = [69, 78, 68, 95, 70, 79, 82]
  · have e : kwP t.toList = true := by rw [h16]; decide
    have d16 : (t.toList == [69, 78, 68, 95, 70, 79, 82]) = true := by simpa using h16
    rw [e]
    clear e h16
    go_enter Try.func92, Try.ntmps92
    go_wp2
    go_ret
    exact ⟨rfl, rfl⟩
  have d16 : (t.toList == [69, 78, 68, 95, 70, 79, 82]) = false := by simpa using h16
  by_cases h17 : t.toList = [82, 85, 78, 71]
  · have e : kwP t.toList = true := by rw [h17]; decide
    have d17 : (t.toList == [82, 85, 78, 71]) = true := by simpa using h17
    rw [e]
    clear e h17
    go_enter Try.func92, Try.ntmps92
    go_wp2
    go_ret
    exact ⟨rfl, rfl⟩
  have d17 : (t.toList == [82, 85, 78, 71]) = false := by simpa using h17
  by_cases h18 : t.toList = [83, 69, 84]
  · have e : kwP t.toList = true := by rw [h18]; decide
    have d18 : (t.toList == [83, 69, 84]) = true := by simpa using h18
    rw [e]
    clear e h18
    go_enter Try.func92, Try.ntmps92
    go_wp2
    go_ret
    exact ⟨rfl, rfl⟩
  have d18 : (t.toList == [83, 69, 84]) = false := by simpa using h18
  by_cases h19 : t.toList = [82, 69, 83, 69, 84]
  · have e : kwP t.toList = true := by rw [h19]; decide
    have d19 : (t.toList == [82, 69, 83, 69, 84]) = true := by simpa using h19
    rw [e]
    clear e h19
    go_enter Try.func92, Try.ntmps92
    go_wp2
    go_ret
    exact ⟨rfl, rfl⟩
  have d19 : (t.toList == [82, 69, 83, 69, 84]) = false := by simpa using h19
  by_cases h20 : t.toList = [73, 78, 86, 65, 82, 73, 65, 78, 84]
  · have e : kwP t.toList = true := by rw [h20]; decide
    have d20 : (t.toList == [73, 78, 86, 65, 82, 73, 65, 78, 84]) = true := by simpa using h20
    rw [e]
    clear e h20
    go_enter Try.func92, Try.ntmps92
    go_wp2
    go_ret
    exact ⟨rfl, rfl⟩
  have d20 : (t.toList == [73, 78, 86, 65, 82, 73, 65, 78, 84]) = false := by simpa using h20
  by_cases h21 : t.toList = [82, 69, 83, 80, 79, 78, 83, 69]
  · have e : kwP t.toList = true := by rw [h21]; decide
    have d21 : (t.toList == [82, 69, 83, 80, 79, 78, 83, 69]) = true := by simpa using h21
    rw [e]
    clear e h21
    go_enter Try.func92, Try.ntmps92
    go_wp2
    go_ret
    exact ⟨rfl, rfl⟩
  have d21 : (t.toList == [82, 69, 83, 80, 79, 78, 83, 69]) = false := by simpa using h21
  by_cases h22 : t.toList = [87, 73, 84, 72, 73, 78]
  · have e : kwP t.toList = true := by rw [h22]; decide
    have d22 : (t.toList == [87, 73, 84, 72, 73, 78]) = true := by simpa using h22
    rw [e]
    clear e h22
    go_enter Try.func92, Try.ntmps92
    go_wp2
    go_ret
    exact ⟨rfl, rfl⟩
  have d22 : (t.toList == [87, 73, 84, 72, 73, 78]) = false := by simpa using h22
  by_cases h23 : t.toList = [84, 82, 85, 69]
  · have e : kwP t.toList = true := by rw [h23]; decide
    have d23 : (t.toList == [84, 82, 85, 69]) = true := by simpa using h23
    rw [e]
    clear e h23
    go_enter Try.func92, Try.ntmps92
    go_wp2
    go_ret
    exact ⟨rfl, rfl⟩
  have d23 : (t.toList == [84, 82, 85, 69]) = false := by simpa using h23
  by_cases h24 : t.toList = [70, 65, 76, 83, 69]
  · have e : kwP t.toList = true := by rw [h24]; decide
    have d24 : (t.toList == [70, 65, 76, 83, 69]) = true := by simpa using h24
    rw [e]
    clear e h24
    go_enter Try.func92, Try.ntmps92
    go_wp2
    go_ret
    exact ⟨rfl, rfl⟩
  have d24 : (t.toList == [70, 65, 76, 83, 69]) = false := by simpa using h24
  by_cases h25 : t.toList = [79, 82]
  · have e : kwP t.toList = true := by rw [h25]; decide
    have d25 : (t.toList == [79, 82]) = true := by simpa using h25
    rw [e]
    clear e h25
    go_enter Try.func92, Try.ntmps92
    go_wp2
    go_ret
    exact ⟨rfl, rfl⟩
  have d25 : (t.toList == [79, 82]) = false := by simpa using h25
  by_cases h26 : t.toList = [88, 79, 82]
  · have e : kwP t.toList = true := by rw [h26]; decide
    have d26 : (t.toList == [88, 79, 82]) = true := by simpa using h26
    rw [e]
    clear e h26
    go_enter Try.func92, Try.ntmps92
    go_wp2
    go_ret
    exact ⟨rfl, rfl⟩
  have d26 : (t.toList == [88, 79, 82]) = false := by simpa using h26
  by_cases h27 : t.toList = [65, 78, 68]
  · have e : kwP t.toList = true := by rw [h27]; decide
    have d27 : (t.toList == [65, 78, 68]) = true := by simpa using h27
    rw [e]
    clear e h27
    go_enter Try.func92, Try.ntmps92
    go_wp2
    go_ret
    exact ⟨rfl, rfl⟩
  have d27 : (t.toList == [65, 78, 68]) = false := by simpa using h27
  by_cases h28 : t.toList = [77, 79, 68]
  · have e : kwP t.toList = true := by rw [h28]; decide
    have d28 : (t.toList == [77, 79, 68]) = true := by simpa using h28
    rw [e]
    clear e h28
    go_enter Try.func92, Try.ntmps92
    go_wp2
    go_ret
    exact ⟨rfl, rfl⟩
  have d28 : (t.toList == [77, 79, 68]) = false := by simpa using h28
  by_cases h29 : t.toList = [78, 79, 84]
  · have e : kwP t.toList = true := by rw [h29]; decide
    have d29 : (t.toList == [78, 79, 84]) = true := by simpa using h29
    rw [e]
    clear e h29
    go_enter Try.func92, Try.ntmps92
    go_wp2
    go_ret
    exact ⟨rfl, rfl⟩
  have d29 : (t.toList == [78, 79, 84]) = false := by simpa using h29
  have e : kwP t.toList = false := by unfold kwP; simp only [h0, h1, h2, h3, h4, h5, h6, h7, h8, h9, h10, h11, h12, h13, h14, h15, h16, h17, h18, h19, h20, h21, h22, h23, h24, h25, h26, h27, h28, h29, if_false]
  rw [e]
  clear e h0 h1 h2 h3 h4 h5 h6 h7 h8 h9 h10 h11 h12 h13 h14 h15 h16 h17 h18 h19 h20 h21 h22 h23 h24 h25 h26 h27 h28 h29
  go_enter Try.func92, Try.ntmps92
  go_wp2
  go_ret
  exact ⟨rfl, rfl⟩
end Go.Proofs.Qxb6500774a
