import Derived.Test.Qxb6500777aNoQ
namespace Go.Proofs.Qxb6500777a
open Go.RowKit

/-- In order: not after. -/
def inP (a b : Trk) : Bool := if a.x ≠ b.x then decide (a.x < b.x) else if a.y ≠ b.y then decide (a.y < b.y) else if a.co ≠ b.co then decide (a.co < b.co) else decide (a.sp ≤ b.sp)
theorem in_iff {a b : Trk} (h : beforeP b a = false) : inP a b = true := by
  rw [nb_iff] at h
  unfold inP
  split
  · rw [decide_eq_true_eq]; omega
  · split
    · rw [decide_eq_true_eq]; omega
    · split
      · rw [decide_eq_true_eq]; omega
      · rw [decide_eq_true_eq]; omega
/-- trackslaw.inOrder -/
theorem inOrder_any (w : World) (a b : Trk) : Calls Try.prog 36 #[.agg #[.int .i64 a.num, .int .i64 a.x, .int .i64 a.y, .int .i64 a.co, .int .i64 a.sp, .int .i64 a.st, .int .i64 a.ag], .agg #[.int .i64 b.num, .int .i64 b.x, .int .i64 b.y, .int .i64 b.co, .int .i64 b.sp, .int .i64 b.st, .int .i64 b.ag]] w fun e w' => e = .returned (.bool (inP a b)) ∧ Below w.heap.size w w' := by
  by_cases h0 : a.x = b.x
  · have e0 : (a.x != b.x) = false := by simp [h0]
    have H0 := hide h0
    clear h0
    by_cases h1 : a.y = b.y
    · have e1 : (a.y != b.y) = false := by simp [h1]
      have H1 := hide h1
      clear h1
      by_cases h2 : a.co = b.co
      · have e2 : (a.co != b.co) = false := by simp [h2]
        have H2 := hide h2
        clear h2
        go_enter Try.func36, Try.ntmps36
        go_wp2
        go_ret
        exact ⟨ret_bool (by simp [inP, H0.out, H1.out, H2.out]), be2 _ _ _⟩
      · have e2 : (a.co != b.co) = true := by simp [h2]
        have H2 := hide h2
        clear h2
        go_enter Try.func36, Try.ntmps36
        go_wp2
        go_ret
        exact ⟨ret_bool (by simp [inP, H0.out, H1.out, H2.out]), be2 _ _ _⟩
    · have e1 : (a.y != b.y) = true := by simp [h1]
      have H1 := hide h1
      clear h1
      go_enter Try.func36, Try.ntmps36
      go_wp2
      go_ret
      exact ⟨ret_bool (by simp [inP, H0.out, H1.out]), be2 _ _ _⟩
  · have e0 : (a.x != b.x) = true := by simp [h0]
    have H0 := hide h0
    clear h0
    go_enter Try.func36, Try.ntmps36
    go_wp2
    go_ret
    exact ⟨ret_bool (by simp [inP, H0.out]), be2 _ _ _⟩
end Go.Proofs.Qxb6500777a
