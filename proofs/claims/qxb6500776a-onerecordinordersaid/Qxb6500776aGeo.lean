import Derived.Test.Qxb6500776aNum
import Derived.Test.Qxb6500776aShip
import Derived.Test.Qxb6500776aStep
namespace Go.Proofs.Qxb6500776a
open Go.RowKit

theorem cmp3_le {a b : Int} : cmp3 a b ≤ 0 ↔ a ≤ b := by unfold cmp3; split <;> (try split) <;> omega
def wrsP (n p q : Int) : Bool := if n - p - q ≤ 0 then true else decide ((n - p - q) * (n - p - q) ≤ 4 * (p * q))
set_option maxHeartbeats 2000000 in
theorem wrs_any (w : World) (n p q : Int) (hn : 0 ≤ n ∧ n ≤ 1152921504606846976) (hp : 0 ≤ p ∧ p ≤ 1152921504606846976) (hq : 0 ≤ q ∧ q ≤ 1152921504606846976) :
    Calls Try.prog 21 #[.int .i64 n, .int .i64 p, .int .i64 q] w fun e w' => e = .returned (.bool (wrsP n p q)) ∧ Below w.heap.size w w' := by
  obtain ⟨v, hv⟩ : ∃ v, n - p - q = v := ⟨_, rfl⟩
  have hf : wrsP n p q = if v ≤ 0 then true else decide (v * v ≤ 4 * (p * q)) := by unfold wrsP; rw [hv]
  rw [hf]
  clear hf
  by_cases h0 : v ≤ 0
  · rw [if_pos h0]
    go_enter Try.func21, Try.ntmps21
    go_wp2
    go_ret
    exact ⟨rfl, Below.refl _ _⟩
  · rw [if_neg h0]
    go_enter Try.func21, Try.ntmps21
    go_wp2_with fail
    refine (Of_any _ v (by omega) (by omega)).mono ?_
    rintro e w1 ⟨s1, a1, n1, c1, rfl, i1, b1⟩
    have HB := hide b1
    have I1 := hide i1
    clear i1 b1
    go_wp2_with fail
    refine (Of_any _ v (by omega) (by omega)).mono ?_
    rintro e w2 ⟨s2, a2, n2, c2, rfl, i2, b2⟩
    replace I1 := hide (I1.out.below b2)
    replace HB := hide (lec HB.out b2)
    have I2 := hide i2
    clear i2 b2
    go_wp2_with fail
    refine (Mul_any _ s1 s2 a1 a2 n1 n2 c1 c2 2 2 (v) (v) (by omega) I1.out I2.out).mono ?_
    rintro e w3 ⟨s3, a3, n3, c3, rfl, i3, b3⟩
    clear I1 I2
    replace HB := hide (lec HB.out b3)
    have I3 := hide i3
    clear i3 b3
    go_wp2_with fail
    refine (Of_any _ 4 (by omega) (by omega)).mono ?_
    rintro e w4 ⟨s4, a4, n4, c4, rfl, i4, b4⟩
    replace I3 := hide (I3.out.below b4)
    replace HB := hide (lec HB.out b4)
    have I4 := hide i4
    clear i4 b4
    go_wp2_with fail
    refine (Of_any _ p (by omega) (by omega)).mono ?_
    rintro e w5 ⟨s5, a5, n5, c5, rfl, i5, b5⟩
    replace I3 := hide (I3.out.below b5)
    replace I4 := hide (I4.out.below b5)
    replace HB := hide (lec HB.out b5)
    have I5 := hide i5
    clear i5 b5
    go_wp2_with fail
    refine (Of_any _ q (by omega) (by omega)).mono ?_
    rintro e w6 ⟨s6, a6, n6, c6, rfl, i6, b6⟩
    replace I3 := hide (I3.out.below b6)
    replace I4 := hide (I4.out.below b6)
    replace I5 := hide (I5.out.below b6)
    replace HB := hide (lec HB.out b6)
    have I6 := hide i6
    clear i6 b6
    go_wp2_with fail
    refine (Mul_any _ s5 s6 a5 a6 n5 n6 c5 c6 2 2 (p) (q) (by omega) I5.out I6.out).mono ?_
    rintro e w7 ⟨s7, a7, n7, c7, rfl, i7, b7⟩
    clear I5 I6
    replace I3 := hide (I3.out.below b7)
    replace I4 := hide (I4.out.below b7)
    replace HB := hide (lec HB.out b7)
    have I7 := hide i7
    clear i7 b7
    go_wp2_with fail
    refine (Mul_any _ s4 s7 a4 a7 n4 n7 c4 c7 2 4 (4) (p * q) (by omega) I4.out I7.out).mono ?_
    rintro e w8 ⟨s8, a8, n8, c8, rfl, i8, b8⟩
    clear I4 I7
    replace I3 := hide (I3.out.below b8)
    replace HB := hide (lec HB.out b8)
    have I8 := hide i8
    clear i8 b8
    go_wp2_with fail
    refine (Cmp_any _ s3 s8 a3 a8 n3 n8 c3 c8 4 6 (v * v) (4 * (p * q)) (by omega) (by omega) I3.out I8.out).mono ?_
    rintro e w9 ⟨rfl, b9⟩
    replace HB := hide (lec HB.out b9)
    clear b9 I3 I8
    go_wp2
    go_ret
    exact ⟨ret_bool (by rw [Bool.eq_iff_iff]; simp [cmp3_le]), HB.out⟩
end Go.Proofs.Qxb6500776a
