import Derived.Test.Qxb6500775aWide2
namespace Go.Proofs.Qxb6500775a
open Go.RowKit

theorem sq_bd {x : Int} (h0 : -4194304 ≤ x) (h1 : x ≤ 4194304) : 0 ≤ x * x ∧ x * x ≤ 17592186044416 := by
  have e : x * x = (abs' x) * (abs' x) := by unfold abs'; split <;> grind
  have a0 : 0 ≤ abs' x := by unfold abs'; split <;> omega
  have a1 : abs' x ≤ 4194304 := by unfold abs'; split <;> omega
  rw [e]
  exact ⟨Int.mul_nonneg a0 a0, by have := Int.mul_le_mul a1 a1 a0 (by omega); omega⟩
theorem mul_bd {x y : Int} (h0 : -4194304 ≤ x) (h1 : x ≤ 4194304) (g0 : -4194304 ≤ y) (g1 : y ≤ 4194304) : -17592186044416 ≤ x * y ∧ x * y ≤ 17592186044416 := by
  have p := sq_bd h0 h1
  have q := sq_bd g0 g1
  have e1 : (x + y) * (x + y) = x * x + 2 * (x * y) + y * y := by grind
  have e2 : (x - y) * (x - y) = x * x - 2 * (x * y) + y * y := by grind
  have n1 : 0 ≤ (x + y) * (x + y) := by
    rcases Int.le_total 0 (x + y) with h | h
    · exact Int.mul_nonneg h h
    · exact Int.mul_nonneg_of_nonpos_of_nonpos h h
  have n2 : 0 ≤ (x - y) * (x - y) := by
    rcases Int.le_total 0 (x - y) with h | h
    · exact Int.mul_nonneg h h
    · exact Int.mul_nonneg_of_nonpos_of_nonpos h h
  omega

/-- fixmath.viewSegment, for coordinates whose differences are at most 2^22. -/
theorem view_any (w : World) (ax ay bx by' cx cy : Int) (h1 : -4194304 ≤ bx - ax ∧ bx - ax ≤ 4194304) (h2 : -4194304 ≤ by' - ay ∧ by' - ay ≤ 4194304) (h3 : -4194304 ≤ cx - ax ∧ cx - ax ≤ 4194304) (h4 : -4194304 ≤ cy - ay ∧ cy - ay ≤ 4194304) :
    Calls Try.prog 73 #[.int .i64 ax, .int .i64 ay, .int .i64 bx, .int .i64 by', .int .i64 cx, .int .i64 cy] w fun e w' =>
      e = .returned (.agg #[.int .i64 (bx - ax), .int .i64 (by' - ay), .int .i64 (cx - ax), .int .i64 (cy - ay), .int .i64 ((cx - ax) * (bx - ax) + (cy - ay) * (by' - ay)), .int .i64 ((bx - ax) * (bx - ax) + (by' - ay) * (by' - ay))]) ∧ Below w.heap.size w w' := by
  have m1 := mul_bd h3.1 h3.2 h1.1 h1.2
  have m2 := mul_bd h4.1 h4.2 h2.1 h2.2
  have m3 := sq_bd h1.1 h1.2
  have m4 := sq_bd h2.1 h2.2
  go_enter Try.func73, Try.ntmps73
  go_wp2
  exact bodyPost_ret (v := .agg #[.int .i64 (bx - ax), .int .i64 (by' - ay), .int .i64 (cx - ax), .int .i64 (cy - ay), .int .i64 ((cx - ax) * (bx - ax) + (cy - ay) * (by' - ay)), .int .i64 ((bx - ax) * (bx - ax) + (by' - ay) * (by' - ay))]) (by simp [results, Try.results73, go_sem]) rfl ⟨rfl, ((Below.refl _ _).alloc (Nat.le_refl _) _).alloc (by simp) _⟩

/-- Where the nearest point lies: 0 at the start, 1 at the end, 2 between. -/
def near (al len : Int) : Int := if al ≤ 0 then 0 else if len ≤ al then 1 else 2
theorem nearest_any (w : World) (dx dy wx wy al len : Int) : Calls Try.prog 79 #[.agg #[.int .i64 dx, .int .i64 dy, .int .i64 wx, .int .i64 wy, .int .i64 al, .int .i64 len]] w fun e w' =>
    e = .returned (.int .i64 (near al len)) ∧ Below w.heap.size w w' := by
  by_cases h : al ≤ 0
  · go_enter Try.func79, Try.ntmps79
    go_wp2
    go_ret
    exact ⟨ret_int (by rw [near, if_pos h]), (Below.refl _ _).alloc (Nat.le_refl _) _⟩
  · by_cases h' : len ≤ al
    · go_enter Try.func79, Try.ntmps79
      go_wp2
      go_ret
      exact ⟨ret_int (by rw [near, if_neg (by omega), if_pos h']), (Below.refl _ _).alloc (Nat.le_refl _) _⟩
    · go_enter Try.func79, Try.ntmps79
      go_wp2
      go_ret
      exact ⟨ret_int (by rw [near, if_neg (by omega), if_neg (by omega)]), (Below.refl _ _).alloc (Nat.le_refl _) _⟩

theorem startSq_any (w : World) (dx dy wx wy al len : Int) (h3 : -4194304 ≤ wx ∧ wx ≤ 4194304) (h4 : -4194304 ≤ wy ∧ wy ≤ 4194304) : Calls Try.prog 80 #[.agg #[.int .i64 dx, .int .i64 dy, .int .i64 wx, .int .i64 wy, .int .i64 al, .int .i64 len]] w fun e w' =>
    e = .returned (.int .i64 (wx * wx + wy * wy)) ∧ Below w.heap.size w w' := by
  have m3 := sq_bd h3.1 h3.2
  have m4 := sq_bd h4.1 h4.2
  go_enter Try.func80, Try.ntmps80
  go_wp2
  go_ret
  exact ⟨rfl, (Below.refl _ _).alloc (Nat.le_refl _) _⟩

theorem endSq_any (w : World) (dx dy wx wy al len : Int) (h3 : -4194304 ≤ wx - dx ∧ wx - dx ≤ 4194304) (h4 : -4194304 ≤ wy - dy ∧ wy - dy ≤ 4194304) : Calls Try.prog 81 #[.agg #[.int .i64 dx, .int .i64 dy, .int .i64 wx, .int .i64 wy, .int .i64 al, .int .i64 len]] w fun e w' =>
    e = .returned (.int .i64 ((wx - dx) * (wx - dx) + (wy - dy) * (wy - dy))) ∧ Below w.heap.size w w' := by
  have m3 := sq_bd h3.1 h3.2
  have m4 := sq_bd h4.1 h4.2
  go_enter Try.func81, Try.ntmps81
  go_wp2
  go_ret
  exact ⟨rfl, (Below.refl _ _).alloc (Nat.le_refl _) _⟩

theorem abs_sq (x : Int) : abs' x * abs' x = x * x := by unfold abs'; split <;> grind
theorem abs_word {x : Int} (h0 : -9223372036854775808 ≤ x) (h1 : x < 9223372036854775808) : Word (abs' x) := by unfold abs'; constructor <;> split <;> omega

theorem crossSq_any (w : World) (dx dy wx wy al len : Int) (h1 : -4194304 ≤ dx ∧ dx ≤ 4194304) (h2 : -4194304 ≤ dy ∧ dy ≤ 4194304) (h3 : -4194304 ≤ wx ∧ wx ≤ 4194304) (h4 : -4194304 ≤ wy ∧ wy ≤ 4194304) : Calls Try.prog 83 #[.agg #[.int .i64 dx, .int .i64 dy, .int .i64 wx, .int .i64 wy, .int .i64 al, .int .i64 len]] w fun e w' =>
    e = .returned (.agg #[.int .u64 ((dx * wy - dy * wx) * (dx * wy - dy * wx) / 18446744073709551616), .int .u64 ((dx * wy - dy * wx) * (dx * wy - dy * wx) % 18446744073709551616)]) ∧ Below w.heap.size w w' := by
  have m1 := mul_bd h1.1 h1.2 h4.1 h4.2
  have m2 := mul_bd h2.1 h2.2 h3.1 h3.2
  go_enter Try.func83, Try.ntmps83
  go_wp2_with fail
  refine (absU64_any _ (dx * wy - dy * wx) (by omega) (by omega)).mono ?_
  rintro e w0 ⟨rfl, rfl⟩
  go_wp2_with fail
  refine (squareU64_any _ (abs' (dx * wy - dy * wx)) (abs_word (by omega) (by omega))).mono ?_
  rintro e w1 ⟨rfl, hb⟩
  rw [abs_sq]
  have c0 : w1.cell? ⟨w.heap.size + 1, 0, none⟩ = some (.int .u64 0) := by rw [bat hb 0 (by simp)]; simp [go_sem]
  have c1 : w1.cell? ⟨w.heap.size + 1, 1, none⟩ = some (.int .u64 0) := by rw [bat hb 1 (by simp)]; simp [go_sem]
  have f0 : w1.frozen? ⟨w.heap.size + 1, 0, none⟩ = false := by rw [batf hb 0 (by simp)]; simp [go_sem]
  have f1 : w1.frozen? ⟨w.heap.size + 1, 1, none⟩ = false := by rw [batf hb 1 (by simp)]; simp [go_sem]
  have HB := hide hb
  clear hb
  go_wp2
  exact bodyPost_ret (v := .agg #[.int .u64 ((dx * wy - dy * wx) * (dx * wy - dy * wx) / 18446744073709551616), .int .u64 ((dx * wy - dy * wx) * (dx * wy - dy * wx) % 18446744073709551616)]) (by simp [results, Try.results83, go_sem, c0, c1]) rfl ⟨rfl, (((((Below.refl _ _).alloc (Nat.le_refl _) _).alloc (by simp) _).trans (HB.out.mono (by simp <;> omega))).setCell (by simp) _).setCell (by simp) _⟩
end Go.Proofs.Qxb6500775a
