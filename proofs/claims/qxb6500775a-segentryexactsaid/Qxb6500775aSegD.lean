import Derived.Test.Qxb6500775aSegR
namespace Go.Proofs.Qxb6500775a
open Go.RowKit

/-- Does the segment (a, b) - (c, d) meet the disc about (e, f) of radius r? -/
def hitB (a b c d e f r : Int) : Bool :=
  decide (0 ≤ r) && meetsB ((e - a) * (c - a) + (f - b) * (d - b)) ((c - a) * (c - a) + (d - b) * (d - b)) ((c - a) * (f - b) - (d - b) * (e - a)) ((e - a) * (e - a) + (f - b) * (f - b)) ((e - a - (c - a)) * (e - a - (c - a)) + (f - b - (d - b)) * (f - b - (d - b))) r
theorem inB6_true {a b c d e f : Int} (h : inB6 a b c d e f = true) : (-1048576 ≤ a ∧ a ≤ 1048576) ∧ (-1048576 ≤ b ∧ b ≤ 1048576) ∧ (-1048576 ≤ c ∧ c ≤ 1048576) ∧ (-1048576 ≤ d ∧ d ≤ 1048576) ∧ (-1048576 ≤ e ∧ e ≤ 1048576) ∧ (-1048576 ≤ f ∧ f ≤ 1048576) := by
  simp [inB6, inB_true] at h
  omega
theorem hit_neg {a b c d e f r : Int} (h : r < 0) : hitB a b c d e f r = false := by
  unfold hitB; rw [decide_eq_false (by omega)]; rfl
theorem hit_cover {a b c d e f r : Int} (h : inB6 a b c d e f = true) (hr : 4194304 ≤ r) : hitB a b c d e f r = true := by
  obtain ⟨ha, hb, hc, hd, he, hf⟩ := inB6_true h
  unfold hitB
  rw [covers hr (by omega) (by omega) (by omega) (by omega), decide_eq_true (by omega)]; rfl
theorem hit_out {a b c d e f r : Int} (hr : 0 ≤ r) (h : outB a b c d e f r = true) : hitB a b c d e f r = false := by
  have l1 := lo2_le (a := a) (b := c)
  have l2 := lo2_le (a := b) (b := d)
  simp [outB] at h
  unfold hitB
  rcases (by omega : ((e - a < -r ∧ e - a - (c - a) < -r) ∨ (r < e - a ∧ r < e - a - (c - a))) ∨ ((f - b < -r ∧ f - b - (d - b) < -r) ∨ (r < f - b ∧ r < f - b - (d - b)))) with h' | h'
  · rw [side hr h']; simp
  · rw [meets_swap, side hr h']; simp

set_option maxHeartbeats 2000000 in
theorem SegDisc_out (w : World) (a b c d e f r : Int) (h : inB6 a b c d e f = false) :
    Calls Try.prog 30 #[.int .i64 a, .int .i64 b, .int .i64 c, .int .i64 d, .int .i64 e, .int .i64 f, .int .i64 r] w fun x w' => x = .returned (.tuple #[.bool false, .int .i64 4]) ∧ w' = w := by
  go_enter Try.func30, Try.ntmps30
  go_wp2_with fail
  refine (allInMap_any _ a b c d e f).mono ?_
  rintro x w' ⟨rfl, rfl⟩
  rw [h]
  go_wp2
  go_ret2
  exact ⟨rfl, rfl⟩

set_option maxHeartbeats 2000000 in
theorem SegDisc_in (w : World) (a b c d e f r : Int) (h : inB6 a b c d e f = true) :
    Calls Try.prog 30 #[.int .i64 a, .int .i64 b, .int .i64 c, .int .i64 d, .int .i64 e, .int .i64 f, .int .i64 r] w fun x w' => x = .returned (.tuple #[.bool (hitB a b c d e f r), .int .i64 0]) ∧ Below w.heap.size w w' := by
  obtain ⟨ha, hb, hc, hd, he, hf⟩ := inB6_true h
  by_cases c1 : r < 0
  · rw [hit_neg c1]
    go_enter Try.func30, Try.ntmps30
    go_wp2_with fail
    refine (allInMap_any _ a b c d e f).mono ?_
    rintro x w' ⟨rfl, rfl⟩
    rw [h]
    go_wp2
    go_ret2
    exact ⟨rfl, Below.refl _ _⟩
  by_cases c2 : 4194304 ≤ r
  · rw [hit_cover h c2]
    go_enter Try.func30, Try.ntmps30
    go_wp2_with fail
    refine (allInMap_any _ a b c d e f).mono ?_
    rintro x w' ⟨rfl, rfl⟩
    rw [h]
    go_wp2
    go_ret2
    exact ⟨rfl, Below.refl _ _⟩
  cases c3 : outB a b c d e f r
  · have HH : Hid (hitB a b c d e f r = meetsB ((e - a) * (c - a) + (f - b) * (d - b)) ((c - a) * (c - a) + (d - b) * (d - b)) ((c - a) * (f - b) - (d - b) * (e - a)) ((e - a) * (e - a) + (f - b) * (f - b)) ((e - a - (c - a)) * (e - a - (c - a)) + (f - b - (d - b)) * (f - b - (d - b))) r) := by
      show _ = _
      unfold hitB; rw [decide_eq_true (by omega)]; rfl
    go_enter Try.func30, Try.ntmps30
    go_wp2_with fail
    refine (allInMap_any _ a b c d e f).mono ?_
    rintro x w' ⟨rfl, rfl⟩
    rw [h]
    go_wp2_with fail
    refine (outside_any _ a b c d e f r he hf (by omega)).mono ?_
    rintro x w'' ⟨rfl, rfl⟩
    rw [c3]
    go_wp2_with fail
    refine (view_any _ a b c d e f (by omega) (by omega) (by omega) (by omega)).mono ?_
    rintro x w1 ⟨rfl, b1⟩
    have B1 := hide b1
    clear b1
    go_wp2_with fail
    refine (meets_any _ (c - a) (d - b) (e - a) (f - b) r (by omega) (by omega) (by omega) (by omega) (by omega) (by omega) (by omega)).mono ?_
    rintro x w2 ⟨rfl, b2⟩
    rw [← HH.out]
    have B2 := hide (lecB B1.out b2)
    clear b2
    go_wp2
    go_ret2
    exact ⟨rfl, B2.out⟩
  · rw [hit_out (by omega) c3]
    go_enter Try.func30, Try.ntmps30
    go_wp2_with fail
    refine (allInMap_any _ a b c d e f).mono ?_
    rintro x w' ⟨rfl, rfl⟩
    rw [h]
    go_wp2_with fail
    refine (outside_any _ a b c d e f r he hf (by omega)).mono ?_
    rintro x w'' ⟨rfl, rfl⟩
    rw [c3]
    go_wp2
    go_ret2
    exact ⟨rfl, Below.refl _ _⟩

/-- fixmathlaw.onMap. -/
theorem onMap_any (w : World) (k a b c d e f g : Int) : Calls Try.prog 31 #[.agg #[.int .i64 k, .int .i64 a, .int .i64 b, .int .i64 c, .int .i64 d, .int .i64 e, .int .i64 f, .int .i64 g]] w fun r w' => r = .returned (.bool (inB6 a b c d e f)) ∧ Below w.heap.size w w' := by
  rcases (by cases inB a <;> cases inB b <;> cases inB c <;> cases inB d <;> cases inB e <;> simp : inB a = false ∨ (inB a = true ∧ inB b = false) ∨ (inB a = true ∧ inB b = true ∧ inB c = false) ∨ (inB a = true ∧ inB b = true ∧ inB c = true ∧ inB d = false) ∨ (inB a = true ∧ inB b = true ∧ inB c = true ∧ inB d = true ∧ inB e = false) ∨ (inB a = true ∧ inB b = true ∧ inB c = true ∧ inB d = true ∧ inB e = true)) with h1 | ⟨h1, h2⟩ | ⟨h1, h2, h3⟩ | ⟨h1, h2, h3, h4⟩ | ⟨h1, h2, h3, h4, h5⟩ | ⟨h1, h2, h3, h4, h5⟩
  all_goals
    go_enter Try.func31, Try.ntmps31
    go_wp2_with (go_at_call 75; refine (inBound_any _ _).mono ?_; rintro e' w' ⟨rfl, rfl⟩)
    go_ret
    exact ⟨ret_bool (by simp [inB6, *]), (Below.refl _ _).alloc (Nat.le_refl _) _⟩
end Go.Proofs.Qxb6500775a
