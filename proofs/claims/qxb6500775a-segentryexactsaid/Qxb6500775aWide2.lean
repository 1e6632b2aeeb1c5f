import Derived.Test.Qxb6500775aWide
namespace Go.Proofs.Qxb6500775a
open Go.RowKit

theorem ret_bool {a b : Bool} (h : a = b) : Ending.returned (.bool a) = .returned (.bool b) := by rw [h]
theorem squareU64_any (w : World) (a : Int) (ha : Word a) :
    Calls Try.prog 117 #[.int .u64 a] w fun e w' => e = .returned (.agg #[.int .u64 (a * a / 18446744073709551616), .int .u64 (a * a % 18446744073709551616)]) ∧ Below w.heap.size w w' := by
  go_enter Try.func117, Try.ntmps117
  go_wp2_with fail
  refine (mulU64_any _ a a ha ha).mono ?_
  rintro e w1 ⟨rfl, hb⟩
  have c0 : w1.cell? ⟨w.heap.size, 0, none⟩ = some (.int .u64 0) := by rw [bat hb 0 (by simp)]; simp [go_sem]
  have c1 : w1.cell? ⟨w.heap.size, 1, none⟩ = some (.int .u64 0) := by rw [bat hb 1 (by simp)]; simp [go_sem]
  have f0 : w1.frozen? ⟨w.heap.size, 0, none⟩ = false := by rw [batf hb 0 (by simp)]; simp [go_sem]
  have f1 : w1.frozen? ⟨w.heap.size, 1, none⟩ = false := by rw [batf hb 1 (by simp)]; simp [go_sem]
  have HB := hide hb
  clear hb
  go_wp2
  exact bodyPost_ret (v := .agg #[.int .u64 (a * a / 18446744073709551616), .int .u64 (a * a % 18446744073709551616)]) (by simp [results, Try.results117, go_sem, c0, c1]) rfl ⟨rfl, ((((Below.refl _ _).alloc (Nat.le_refl _) _).trans (HB.out.mono (by simp))).setCell (by simp) _).setCell (by simp) _⟩

/-- |v| -/
def abs' (v : Int) : Int := if v < 0 then -v else v
theorem absU64_any (w : World) (v : Int) (h0 : -9223372036854775808 ≤ v) (h1 : v < 9223372036854775808) :
    Calls Try.prog 68 #[.int .i64 v] w fun e w' => e = .returned (.int .u64 (abs' v)) ∧ w' = w := by
  by_cases h : v < 0
  · go_enter Try.func68, Try.ntmps68
    go_wp2
    go_ret
    refine ⟨ret_int ?_, rfl⟩
    rw [abs', if_pos h]
    simp only [IntKind.wrap_u64]
    omega
  · go_enter Try.func68, Try.ntmps68
    go_wp2
    go_ret
    exact ⟨ret_int (by rw [abs', if_neg (by omega)]), rfl⟩

/-- The number of two words. -/
def v128 (h l : Int) : Int := h * 18446744073709551616 + l
theorem cmpU128_any (w : World) (ah al bh bl : Int) (h1 : Word ah) (h2 : Word al) (h3 : Word bh) (h4 : Word bl) :
    Calls Try.prog 113 #[.agg #[.int .u64 ah, .int .u64 al], .agg #[.int .u64 bh, .int .u64 bl]] w fun e w' => e = .returned (.int .i64 (cmp3 (v128 ah al) (v128 bh bl))) ∧ Below w.heap.size w w' := by
  obtain ⟨a0, a1⟩ := h1; obtain ⟨b0, b1⟩ := h2; obtain ⟨c0, c1⟩ := h3; obtain ⟨d0, d1⟩ := h4
  rcases (by omega : ah < bh ∨ bh < ah ∨ (ah = bh ∧ al < bl) ∨ (ah = bh ∧ bl < al) ∨ (ah = bh ∧ al = bl)) with h | h | ⟨h, h'⟩ | ⟨h, h'⟩ | ⟨h, h'⟩
  · have hne : (ah != bh) = true := by simp; omega
    go_enter Try.func113, Try.ntmps113
    go_wp2
    go_ret
    exact ⟨ret_int (by rw [cmp3, if_pos (by unfold v128; omega)]), ((Below.refl _ _).alloc (Nat.le_refl _) _).alloc (by simp) _⟩
  · have hne : (ah != bh) = true := by simp; omega
    go_enter Try.func113, Try.ntmps113
    go_wp2
    go_ret
    exact ⟨ret_int (by rw [cmp3, if_neg (by unfold v128; omega), if_pos (by unfold v128; omega)]), ((Below.refl _ _).alloc (Nat.le_refl _) _).alloc (by simp) _⟩
  · subst h
    have hne : (al != bl) = true := by simp; omega
    go_enter Try.func113, Try.ntmps113
    go_wp2
    go_ret
    exact ⟨ret_int (by rw [cmp3, if_pos (by unfold v128; omega)]), ((Below.refl _ _).alloc (Nat.le_refl _) _).alloc (by simp) _⟩
  · subst h
    have hne : (al != bl) = true := by simp; omega
    go_enter Try.func113, Try.ntmps113
    go_wp2
    go_ret
    exact ⟨ret_int (by rw [cmp3, if_neg (by unfold v128; omega), if_pos (by unfold v128; omega)]), ((Below.refl _ _).alloc (Nat.le_refl _) _).alloc (by simp) _⟩
  · subst h; subst h'
    go_enter Try.func113, Try.ntmps113
    go_wp2
    go_ret
    exact ⟨ret_int (by rw [cmp3, if_neg (by omega), if_neg (by omega)]), ((Below.refl _ _).alloc (Nat.le_refl _) _).alloc (by simp) _⟩

/-! ### inMap, allInMap; the law's inBound, onMap -/
def inB (v : Int) : Bool := decide (-1048576 ≤ v ∧ v ≤ 1048576)
theorem inB_true {v : Int} : inB v = true ↔ -1048576 ≤ v ∧ v ≤ 1048576 := by simp [inB]
theorem inB_false {v : Int} : inB v = false ↔ (v < -1048576 ∨ 1048576 < v) := by simp [inB]; omega
theorem inMap_any (w : World) (v : Int) : Calls Try.prog 111 #[.int .i64 v] w fun e w' => e = .returned (.bool (inB v)) ∧ w' = w := by
  rcases (by omega : v < -1048576 ∨ (-1048576 ≤ v ∧ v ≤ 1048576) ∨ (-1048576 ≤ v ∧ 1048576 < v)) with h | ⟨h, h'⟩ | ⟨h, h'⟩
  · go_enter Try.func111, Try.ntmps111
    go_wp2
    go_ret
    exact ⟨ret_bool (by rw [Bool.eq_iff_iff]; simp [inB] <;> omega), rfl⟩
  · go_enter Try.func111, Try.ntmps111
    go_wp2
    go_ret
    exact ⟨ret_bool (by rw [Bool.eq_iff_iff]; simp [inB] <;> omega), rfl⟩
  · go_enter Try.func111, Try.ntmps111
    go_wp2
    go_ret
    exact ⟨ret_bool (by rw [Bool.eq_iff_iff]; simp [inB] <;> omega), rfl⟩
theorem inBound_any (w : World) (v : Int) : Calls Try.prog 75 #[.int .i64 v] w fun e w' => e = .returned (.bool (inB v)) ∧ w' = w := by
  rcases (by omega : v < -1048576 ∨ (-1048576 ≤ v ∧ v ≤ 1048576) ∨ (-1048576 ≤ v ∧ 1048576 < v)) with h | ⟨h, h'⟩ | ⟨h, h'⟩
  · go_enter Try.func75, Try.ntmps75
    go_wp2
    go_ret
    exact ⟨ret_bool (by rw [Bool.eq_iff_iff]; simp [inB] <;> omega), rfl⟩
  · go_enter Try.func75, Try.ntmps75
    go_wp2
    go_ret
    exact ⟨ret_bool (by rw [Bool.eq_iff_iff]; simp [inB] <;> omega), rfl⟩
  · go_enter Try.func75, Try.ntmps75
    go_wp2
    go_ret
    exact ⟨ret_bool (by rw [Bool.eq_iff_iff]; simp [inB] <;> omega), rfl⟩

/-- Six coordinates on the map. -/
def inB6 (a b c d e f : Int) : Bool := inB a && inB b && inB c && inB d && inB e && inB f
set_option maxHeartbeats 1000000 in
theorem allInMap_any (w : World) (a b c d e f : Int) : Calls Try.prog 71 #[.int .i64 a, .int .i64 b, .int .i64 c, .int .i64 d, .int .i64 e, .int .i64 f] w fun r w' => r = .returned (.bool (inB6 a b c d e f)) ∧ w' = w := by
  rcases (by cases inB a <;> cases inB b <;> cases inB c <;> cases inB d <;> cases inB e <;> simp : inB a = false ∨ (inB a = true ∧ inB b = false) ∨ (inB a = true ∧ inB b = true ∧ inB c = false) ∨ (inB a = true ∧ inB b = true ∧ inB c = true ∧ inB d = false) ∨ (inB a = true ∧ inB b = true ∧ inB c = true ∧ inB d = true ∧ inB e = false) ∨ (inB a = true ∧ inB b = true ∧ inB c = true ∧ inB d = true ∧ inB e = true)) with h1 | ⟨h1, h2⟩ | ⟨h1, h2, h3⟩ | ⟨h1, h2, h3, h4⟩ | ⟨h1, h2, h3, h4, h5⟩ | ⟨h1, h2, h3, h4, h5⟩
  all_goals
    go_enter Try.func71, Try.ntmps71
    go_wp2_with (go_at_call 111; refine (inMap_any _ _).mono ?_; rintro e' w' ⟨rfl, rfl⟩)
    go_ret
    exact ⟨ret_bool (by simp [inB6, *]), rfl⟩
end Go.Proofs.Qxb6500775a
