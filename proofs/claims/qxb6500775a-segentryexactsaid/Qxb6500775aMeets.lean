import Derived.Test.Qxb6500775aSegOf
import Derived.Test.Qxb6500775aSegD
import Derived.Test.Qxb6500775aIsqrtW
namespace Go.Proofs.Qxb6500775a
open Go.RowKit

theorem seg10 {w w1 : World} {v0 v1 v2 v3 v4 v5 v6 v7 v8 v9 : Value} (b : Below (w.alloc (.cells #[v0, v1, v2, v3, v4, v5, v6, v7, v8, v9] 53)).heap.size (w.alloc (.cells #[v0, v1, v2, v3, v4, v5, v6, v7, v8, v9] 53)) w1) :
    w1.cell? ⟨w.heap.size, 0, none⟩ = some v0 ∧ w1.cell? ⟨w.heap.size, 1, none⟩ = some v1 ∧ w1.cell? ⟨w.heap.size, 2, none⟩ = some v2 ∧ w1.cell? ⟨w.heap.size, 3, none⟩ = some v3 ∧ w1.cell? ⟨w.heap.size, 4, none⟩ = some v4 ∧ w1.cell? ⟨w.heap.size, 5, none⟩ = some v5 ∧ w1.cell? ⟨w.heap.size, 6, none⟩ = some v6 ∧ w1.cell? ⟨w.heap.size, 7, none⟩ = some v7 ∧ w1.cell? ⟨w.heap.size, 8, none⟩ = some v8 ∧ w1.cell? ⟨w.heap.size, 9, none⟩ = some v9 := by
  refine ⟨?_, ?_, ?_, ?_, ?_, ?_, ?_, ?_, ?_, ?_⟩ <;> (rw [bat b _ (by simp)]; simp [go_sem])

set_option maxHeartbeats 4000000 in
theorem Meets1 (w : World) (s1 : Bool) (a1 : Option Addr) (n1 c1 : Nat) (s2 : Bool) (a2 : Option Addr) (n2 c2 : Nat) (s3 : Bool) (a3 : Option Addr) (n3 c3 : Nat) (s4 : Bool) (a4 : Option Addr) (n4 c4 : Nat) (s5 : Bool) (a5 : Option Addr) (n5 c5 : Nat) (al len cr st en r : Int) (hr : -9223372036854775808 ≤ r ∧ r < 9223372036854775808) (g1 : IsI 8 w s1 a1 n1 c1 al) (g2 : IsI 8 w s2 a2 n2 c2 len) (g3 : IsI 8 w s3 a3 n3 c3 cr) (g4 : IsI 8 w s4 a4 n4 c4 st) (g5 : IsI 8 w s5 a5 n5 c5 en) (h1 : al ≤ 0) :
    Calls Try.prog 33 #[.agg #[.bool s1, .slice a1 n1 c1, .bool s2, .slice a2 n2 c2, .bool s3, .slice a3 n3 c3, .bool s4, .slice a4 n4 c4, .bool s5, .slice a5 n5 c5], .int .i64 r] w fun e w' => e = .returned (.bool (meetsB al len cr st en r)) ∧ Below w.heap.size w w' := by
  have G1 := hide (g1.below ((Below.refl _ _).alloc (Nat.le_refl _) (.cells #[.bool s1, .slice a1 n1 c1, .bool s2, .slice a2 n2 c2, .bool s3, .slice a3 n3 c3, .bool s4, .slice a4 n4 c4, .bool s5, .slice a5 n5 c5] 53)))
  have G2 := hide (g2.below ((Below.refl _ _).alloc (Nat.le_refl _) (.cells #[.bool s1, .slice a1 n1 c1, .bool s2, .slice a2 n2 c2, .bool s3, .slice a3 n3 c3, .bool s4, .slice a4 n4 c4, .bool s5, .slice a5 n5 c5] 53)))
  have G3 := hide (g3.below ((Below.refl _ _).alloc (Nat.le_refl _) (.cells #[.bool s1, .slice a1 n1 c1, .bool s2, .slice a2 n2 c2, .bool s3, .slice a3 n3 c3, .bool s4, .slice a4 n4 c4, .bool s5, .slice a5 n5 c5] 53)))
  have G4 := hide (g4.below ((Below.refl _ _).alloc (Nat.le_refl _) (.cells #[.bool s1, .slice a1 n1 c1, .bool s2, .slice a2 n2 c2, .bool s3, .slice a3 n3 c3, .bool s4, .slice a4 n4 c4, .bool s5, .slice a5 n5 c5] 53)))
  have G5 := hide (g5.below ((Below.refl _ _).alloc (Nat.le_refl _) (.cells #[.bool s1, .slice a1 n1 c1, .bool s2, .slice a2 n2 c2, .bool s3, .slice a3 n3 c3, .bool s4, .slice a4 n4 c4, .bool s5, .slice a5 n5 c5] 53)))
  have BW := hide ((Below.refl w.heap.size w).alloc (Nat.le_refl _) (.cells #[.bool s1, .slice a1 n1 c1, .bool s2, .slice a2 n2 c2, .bool s3, .slice a3 n3 c3, .bool s4, .slice a4 n4 c4, .bool s5, .slice a5 n5 c5] 53))
  clear g1 g2 g3 g4 g5
  go_enter Try.func33, Try.ntmps33
  go_wp2_with fail
  refine (Of_any _ (r) (by omega) (by omega)).mono ?_
  rintro e qw1 ⟨qs1, qa1, qn1, qc1, rfl, qi1, qb1⟩
  have qI1 := hide qi1
  have qL1 := hide qb1
  clear qi1 qb1
  go_wp2_with fail
  refine (square_any _ qs1 qa1 qn1 qc1 2 (r) (by omega) qI1.out).mono ?_
  rintro e qw2 ⟨qs2, qa2, qn2, qc2, rfl, qi2, qb2⟩
  have qI2 := hide qi2
  have qL2 := hide qb2
  clear qi2 qb2
  go_upto_region 2 with fail
  have bx := boxI qw2 qs2 qa2 qn2 qc2
  generalize qw2.alloc (.cells #[.bool qs2, .slice qa2 qn2 qc2] 26) = qw3 at *
  generalize qw2.heap.size = p5 at *
  have qL3 := hide bx.bel
  have BX := hide bx
  obtain ⟨x0, x1, _, _⟩ := bx
  obtain ⟨t0, t1, t2, t3, t4, t5, t6, t7, t8, t9⟩ := seg10 (lec qL1.out (lec qL2.out qL3.out))
  go_wp2_with fail
  refine (Sign_any _ s1 a1 n1 c1 8 al (G1.out.below (lec qL1.out (lec qL2.out qL3.out)))).mono ?_
  rintro e qw4 ⟨rfl, qb4⟩
  have qL4 := hide qb4
  clear qb4
  replace t0 := cellKeep qL4.out t0
  replace t1 := cellKeep qL4.out t1
  replace t2 := cellKeep qL4.out t2
  replace t3 := cellKeep qL4.out t3
  replace t4 := cellKeep qL4.out t4
  replace t5 := cellKeep qL4.out t5
  replace t6 := cellKeep qL4.out t6
  replace t7 := cellKeep qL4.out t7
  replace t8 := cellKeep qL4.out t8
  replace t9 := cellKeep qL4.out t9
  replace x0 := cellKeep qL4.out x0
  replace x1 := cellKeep qL4.out x1
  have hs : sgn al ≤ 0 := sgn_le.2 h1
  go_wp2_with fail
  refine (Cmp_any _ s4 qs2 a4 qa2 n4 qn2 c4 qc2 8 4 8 (st) ((r) * (r)) (by omega) (by omega) (by omega) (G4.out.below (lec qL1.out (lec qL2.out (lec qL3.out qL4.out)))) (qI2.out.below (lec qL3.out qL4.out))).mono ?_
  rintro e qw5 ⟨rfl, qb5⟩
  have qL5 := hide qb5
  clear qb5
  have hall := (lec qL1.out (lec qL2.out (lec qL3.out (lec qL4.out qL5.out))))
  have HA := hide (lec BW.out hall)
  clear hall
  go_wp2
  go_ret
  exact ⟨ret_bool (by rw [meetsB, if_pos h1, Bool.eq_iff_iff]; simp only [decide_eq_true_eq, sgn_le]; omega), HA.out⟩

set_option maxHeartbeats 4000000 in
theorem Meets2 (w : World) (s1 : Bool) (a1 : Option Addr) (n1 c1 : Nat) (s2 : Bool) (a2 : Option Addr) (n2 c2 : Nat) (s3 : Bool) (a3 : Option Addr) (n3 c3 : Nat) (s4 : Bool) (a4 : Option Addr) (n4 c4 : Nat) (s5 : Bool) (a5 : Option Addr) (n5 c5 : Nat) (al len cr st en r : Int) (hr : -9223372036854775808 ≤ r ∧ r < 9223372036854775808) (g1 : IsI 8 w s1 a1 n1 c1 al) (g2 : IsI 8 w s2 a2 n2 c2 len) (g3 : IsI 8 w s3 a3 n3 c3 cr) (g4 : IsI 8 w s4 a4 n4 c4 st) (g5 : IsI 8 w s5 a5 n5 c5 en) (h1 : ¬ al ≤ 0) (h2 : len ≤ al) :
    Calls Try.prog 33 #[.agg #[.bool s1, .slice a1 n1 c1, .bool s2, .slice a2 n2 c2, .bool s3, .slice a3 n3 c3, .bool s4, .slice a4 n4 c4, .bool s5, .slice a5 n5 c5], .int .i64 r] w fun e w' => e = .returned (.bool (meetsB al len cr st en r)) ∧ Below w.heap.size w w' := by
  have G1 := hide (g1.below ((Below.refl _ _).alloc (Nat.le_refl _) (.cells #[.bool s1, .slice a1 n1 c1, .bool s2, .slice a2 n2 c2, .bool s3, .slice a3 n3 c3, .bool s4, .slice a4 n4 c4, .bool s5, .slice a5 n5 c5] 53)))
  have G2 := hide (g2.below ((Below.refl _ _).alloc (Nat.le_refl _) (.cells #[.bool s1, .slice a1 n1 c1, .bool s2, .slice a2 n2 c2, .bool s3, .slice a3 n3 c3, .bool s4, .slice a4 n4 c4, .bool s5, .slice a5 n5 c5] 53)))
  have G3 := hide (g3.below ((Below.refl _ _).alloc (Nat.le_refl _) (.cells #[.bool s1, .slice a1 n1 c1, .bool s2, .slice a2 n2 c2, .bool s3, .slice a3 n3 c3, .bool s4, .slice a4 n4 c4, .bool s5, .slice a5 n5 c5] 53)))
  have G4 := hide (g4.below ((Below.refl _ _).alloc (Nat.le_refl _) (.cells #[.bool s1, .slice a1 n1 c1, .bool s2, .slice a2 n2 c2, .bool s3, .slice a3 n3 c3, .bool s4, .slice a4 n4 c4, .bool s5, .slice a5 n5 c5] 53)))
  have G5 := hide (g5.below ((Below.refl _ _).alloc (Nat.le_refl _) (.cells #[.bool s1, .slice a1 n1 c1, .bool s2, .slice a2 n2 c2, .bool s3, .slice a3 n3 c3, .bool s4, .slice a4 n4 c4, .bool s5, .slice a5 n5 c5] 53)))
  have BW := hide ((Below.refl w.heap.size w).alloc (Nat.le_refl _) (.cells #[.bool s1, .slice a1 n1 c1, .bool s2, .slice a2 n2 c2, .bool s3, .slice a3 n3 c3, .bool s4, .slice a4 n4 c4, .bool s5, .slice a5 n5 c5] 53))
  clear g1 g2 g3 g4 g5
  go_enter Try.func33, Try.ntmps33
  go_wp2_with fail
  refine (Of_any _ (r) (by omega) (by omega)).mono ?_
  rintro e qw1 ⟨qs1, qa1, qn1, qc1, rfl, qi1, qb1⟩
  have qI1 := hide qi1
  have qL1 := hide qb1
  clear qi1 qb1
  go_wp2_with fail
  refine (square_any _ qs1 qa1 qn1 qc1 2 (r) (by omega) qI1.out).mono ?_
  rintro e qw2 ⟨qs2, qa2, qn2, qc2, rfl, qi2, qb2⟩
  have qI2 := hide qi2
  have qL2 := hide qb2
  clear qi2 qb2
  go_upto_region 2 with fail
  have bx := boxI qw2 qs2 qa2 qn2 qc2
  generalize qw2.alloc (.cells #[.bool qs2, .slice qa2 qn2 qc2] 26) = qw3 at *
  generalize qw2.heap.size = p5 at *
  have qL3 := hide bx.bel
  have BX := hide bx
  obtain ⟨x0, x1, _, _⟩ := bx
  obtain ⟨t0, t1, t2, t3, t4, t5, t6, t7, t8, t9⟩ := seg10 (lec qL1.out (lec qL2.out qL3.out))
  go_wp2_with fail
  refine (Sign_any _ s1 a1 n1 c1 8 al (G1.out.below (lec qL1.out (lec qL2.out qL3.out)))).mono ?_
  rintro e qw4 ⟨rfl, qb4⟩
  have qL4 := hide qb4
  clear qb4
  replace t0 := cellKeep qL4.out t0
  replace t1 := cellKeep qL4.out t1
  replace t2 := cellKeep qL4.out t2
  replace t3 := cellKeep qL4.out t3
  replace t4 := cellKeep qL4.out t4
  replace t5 := cellKeep qL4.out t5
  replace t6 := cellKeep qL4.out t6
  replace t7 := cellKeep qL4.out t7
  replace t8 := cellKeep qL4.out t8
  replace t9 := cellKeep qL4.out t9
  replace x0 := cellKeep qL4.out x0
  replace x1 := cellKeep qL4.out x1
  have hs : ¬ sgn al ≤ 0 := by have := sgn_le (z := al); omega
  go_wp2_with fail
  refine (Cmp_any _ s1 s2 a1 a2 n1 n2 c1 c2 8 8 8 (al) (len) (by omega) (by omega) (by omega) (G1.out.below (lec qL1.out (lec qL2.out (lec qL3.out qL4.out)))) (G2.out.below (lec qL1.out (lec qL2.out (lec qL3.out qL4.out))))).mono ?_
  rintro e qw5 ⟨rfl, qb5⟩
  have qL5 := hide qb5
  clear qb5
  replace t0 := cellKeep qL5.out t0
  replace t1 := cellKeep qL5.out t1
  replace t2 := cellKeep qL5.out t2
  replace t3 := cellKeep qL5.out t3
  replace t4 := cellKeep qL5.out t4
  replace t5 := cellKeep qL5.out t5
  replace t6 := cellKeep qL5.out t6
  replace t7 := cellKeep qL5.out t7
  replace t8 := cellKeep qL5.out t8
  replace t9 := cellKeep qL5.out t9
  replace x0 := cellKeep qL5.out x0
  replace x1 := cellKeep qL5.out x1
  have hs2 : 0 ≤ sgn (al - len) := by have := sgn_lt (z := al - len); omega
  go_wp2_with fail
  refine (Cmp_any _ s5 qs2 a5 qa2 n5 qn2 c5 qc2 8 4 8 (en) ((r) * (r)) (by omega) (by omega) (by omega) (G5.out.below (lec qL1.out (lec qL2.out (lec qL3.out (lec qL4.out qL5.out))))) (qI2.out.below (lec qL3.out (lec qL4.out qL5.out)))).mono ?_
  rintro e qw6 ⟨rfl, qb6⟩
  have qL6 := hide qb6
  clear qb6
  have hall := (lec qL1.out (lec qL2.out (lec qL3.out (lec qL4.out (lec qL5.out qL6.out)))))
  have HA := hide (lec BW.out hall)
  clear hall
  go_wp2
  go_ret
  exact ⟨ret_bool (by rw [meetsB, if_neg (by omega), if_pos h2, Bool.eq_iff_iff]; simp only [decide_eq_true_eq, sgn_le]; omega), HA.out⟩

set_option maxHeartbeats 4000000 in
theorem Meets3 (w : World) (s1 : Bool) (a1 : Option Addr) (n1 c1 : Nat) (s2 : Bool) (a2 : Option Addr) (n2 c2 : Nat) (s3 : Bool) (a3 : Option Addr) (n3 c3 : Nat) (s4 : Bool) (a4 : Option Addr) (n4 c4 : Nat) (s5 : Bool) (a5 : Option Addr) (n5 c5 : Nat) (al len cr st en r : Int) (hr : -9223372036854775808 ≤ r ∧ r < 9223372036854775808) (g1 : IsI 8 w s1 a1 n1 c1 al) (g2 : IsI 8 w s2 a2 n2 c2 len) (g3 : IsI 8 w s3 a3 n3 c3 cr) (g4 : IsI 8 w s4 a4 n4 c4 st) (g5 : IsI 8 w s5 a5 n5 c5 en) (h1 : ¬ al ≤ 0) (h2 : ¬ len ≤ al) :
    Calls Try.prog 33 #[.agg #[.bool s1, .slice a1 n1 c1, .bool s2, .slice a2 n2 c2, .bool s3, .slice a3 n3 c3, .bool s4, .slice a4 n4 c4, .bool s5, .slice a5 n5 c5], .int .i64 r] w fun e w' => e = .returned (.bool (meetsB al len cr st en r)) ∧ Below w.heap.size w w' := by
  have G1 := hide (g1.below ((Below.refl _ _).alloc (Nat.le_refl _) (.cells #[.bool s1, .slice a1 n1 c1, .bool s2, .slice a2 n2 c2, .bool s3, .slice a3 n3 c3, .bool s4, .slice a4 n4 c4, .bool s5, .slice a5 n5 c5] 53)))
  have G2 := hide (g2.below ((Below.refl _ _).alloc (Nat.le_refl _) (.cells #[.bool s1, .slice a1 n1 c1, .bool s2, .slice a2 n2 c2, .bool s3, .slice a3 n3 c3, .bool s4, .slice a4 n4 c4, .bool s5, .slice a5 n5 c5] 53)))
  have G3 := hide (g3.below ((Below.refl _ _).alloc (Nat.le_refl _) (.cells #[.bool s1, .slice a1 n1 c1, .bool s2, .slice a2 n2 c2, .bool s3, .slice a3 n3 c3, .bool s4, .slice a4 n4 c4, .bool s5, .slice a5 n5 c5] 53)))
  have G4 := hide (g4.below ((Below.refl _ _).alloc (Nat.le_refl _) (.cells #[.bool s1, .slice a1 n1 c1, .bool s2, .slice a2 n2 c2, .bool s3, .slice a3 n3 c3, .bool s4, .slice a4 n4 c4, .bool s5, .slice a5 n5 c5] 53)))
  have G5 := hide (g5.below ((Below.refl _ _).alloc (Nat.le_refl _) (.cells #[.bool s1, .slice a1 n1 c1, .bool s2, .slice a2 n2 c2, .bool s3, .slice a3 n3 c3, .bool s4, .slice a4 n4 c4, .bool s5, .slice a5 n5 c5] 53)))
  have BW := hide ((Below.refl w.heap.size w).alloc (Nat.le_refl _) (.cells #[.bool s1, .slice a1 n1 c1, .bool s2, .slice a2 n2 c2, .bool s3, .slice a3 n3 c3, .bool s4, .slice a4 n4 c4, .bool s5, .slice a5 n5 c5] 53))
  clear g1 g2 g3 g4 g5
  go_enter Try.func33, Try.ntmps33
  go_wp2_with fail
  refine (Of_any _ (r) (by omega) (by omega)).mono ?_
  rintro e qw1 ⟨qs1, qa1, qn1, qc1, rfl, qi1, qb1⟩
  have qI1 := hide qi1
  have qL1 := hide qb1
  clear qi1 qb1
  go_wp2_with fail
  refine (square_any _ qs1 qa1 qn1 qc1 2 (r) (by omega) qI1.out).mono ?_
  rintro e qw2 ⟨qs2, qa2, qn2, qc2, rfl, qi2, qb2⟩
  have qI2 := hide qi2
  have qL2 := hide qb2
  clear qi2 qb2
  go_upto_region 2 with fail
  have bx := boxI qw2 qs2 qa2 qn2 qc2
  generalize qw2.alloc (.cells #[.bool qs2, .slice qa2 qn2 qc2] 26) = qw3 at *
  generalize qw2.heap.size = p5 at *
  have qL3 := hide bx.bel
  have BX := hide bx
  obtain ⟨x0, x1, _, _⟩ := bx
  obtain ⟨t0, t1, t2, t3, t4, t5, t6, t7, t8, t9⟩ := seg10 (lec qL1.out (lec qL2.out qL3.out))
  go_wp2_with fail
  refine (Sign_any _ s1 a1 n1 c1 8 al (G1.out.below (lec qL1.out (lec qL2.out qL3.out)))).mono ?_
  rintro e qw4 ⟨rfl, qb4⟩
  have qL4 := hide qb4
  clear qb4
  replace t0 := cellKeep qL4.out t0
  replace t1 := cellKeep qL4.out t1
  replace t2 := cellKeep qL4.out t2
  replace t3 := cellKeep qL4.out t3
  replace t4 := cellKeep qL4.out t4
  replace t5 := cellKeep qL4.out t5
  replace t6 := cellKeep qL4.out t6
  replace t7 := cellKeep qL4.out t7
  replace t8 := cellKeep qL4.out t8
  replace t9 := cellKeep qL4.out t9
  replace x0 := cellKeep qL4.out x0
  replace x1 := cellKeep qL4.out x1
  have hs : ¬ sgn al ≤ 0 := by have := sgn_le (z := al); omega
  go_wp2_with fail
  refine (Cmp_any _ s1 s2 a1 a2 n1 n2 c1 c2 8 8 8 (al) (len) (by omega) (by omega) (by omega) (G1.out.below (lec qL1.out (lec qL2.out (lec qL3.out qL4.out)))) (G2.out.below (lec qL1.out (lec qL2.out (lec qL3.out qL4.out))))).mono ?_
  rintro e qw5 ⟨rfl, qb5⟩
  have qL5 := hide qb5
  clear qb5
  replace t0 := cellKeep qL5.out t0
  replace t1 := cellKeep qL5.out t1
  replace t2 := cellKeep qL5.out t2
  replace t3 := cellKeep qL5.out t3
  replace t4 := cellKeep qL5.out t4
  replace t5 := cellKeep qL5.out t5
  replace t6 := cellKeep qL5.out t6
  replace t7 := cellKeep qL5.out t7
  replace t8 := cellKeep qL5.out t8
  replace t9 := cellKeep qL5.out t9
  replace x0 := cellKeep qL5.out x0
  replace x1 := cellKeep qL5.out x1
  have hs2 : sgn (al - len) < 0 := sgn_lt.2 (by omega)
  go_upto_region 6 with fail
  have Kcr := hide (G3.out.below (lec qL1.out (lec qL2.out (lec qL3.out (lec qL4.out qL5.out)))))
  have Klen := hide (G2.out.below (lec qL1.out (lec qL2.out (lec qL3.out (lec qL4.out qL5.out)))))
  have Krr := hide (qI2.out.below (lec qL3.out (lec qL4.out qL5.out)))
  have HB := hide (lec BW.out (lec qL1.out (lec qL2.out (lec qL3.out (lec qL4.out qL5.out)))))
  have zS := And.intro t2 (And.intro t3 (And.intro t4 (And.intro t5 (And.intro x0 x1))))
  clear t0 t1 t2 t3 t4 t5 t6 t7 t8 t9 x0 x1
  have ztok1 : True := trivial
  have ztok2 : True := trivial
  have ztok3 : True := trivial
  go_region_held3 (fun w' => w'.cell? ⟨w.heap.size, 2, none⟩ = some (.bool s2) ∧ w'.cell? ⟨w.heap.size, 3, none⟩ = some (.slice a2 n2 c2) ∧ w'.cell? ⟨w.heap.size, 4, none⟩ = some (.bool s3) ∧ w'.cell? ⟨w.heap.size, 5, none⟩ = some (.slice a3 n3 c3) ∧ w'.cell? ⟨p5, 0, none⟩ = some (.bool qs2) ∧ w'.cell? ⟨p5, 1, none⟩ = some (.slice qa2 qn2 qc2)) (first | (with_reducible exact zS) | (with_reducible exact (by simpa only [World.cell?_drew] using zS)) | (simp [*, go_sem, World.cell?_alloc_some]; done))
    (first
      | (go_at_call 77; have _t := ztok1; clear ztok1; refine (square_any _ s3 a3 n3 c3 8 (cr) (by omega) Kcr.out.dr).mono ?_; rintro e zw1 ⟨zs1, za1, zn1, zc1, rfl, zi1, zb1⟩; (try replace zb1 := of_drew zb1); have Kcr := hide (Kcr.out.below zb1); have Klen := hide (Klen.out.below zb1); have Krr := hide (Krr.out.below zb1); have zS := (And.intro (cellKeep zb1 zS.1) (And.intro (cellKeep zb1 zS.2.1) (And.intro (cellKeep zb1 zS.2.2.1) (And.intro (cellKeep zb1 zS.2.2.2.1) (And.intro (cellKeep zb1 zS.2.2.2.2.1) (cellKeep zb1 zS.2.2.2.2.2)))))); have HB := hide (lecB HB.out zb1); clear zb1; have zI1 := hide zi1; clear zi1)
      | (go_at_call 18; have _t := ztok2; clear ztok2; refine (Mul_any _ qs2 s2 qa2 a2 qn2 n2 qc2 c2 4 8 ((r) * (r)) (len) (by omega) Krr.out Klen.out).mono ?_; rintro e zw2 ⟨zs2, za2, zn2, zc2, rfl, zi2, zb2⟩; (try replace zb2 := of_drew zb2); have Kcr := hide (Kcr.out.below zb2); have Klen := hide (Klen.out.below zb2); have Krr := hide (Krr.out.below zb2); have zI1 := hide (zI1.out.below zb2); have zS := (And.intro (cellKeep zb2 zS.1) (And.intro (cellKeep zb2 zS.2.1) (And.intro (cellKeep zb2 zS.2.2.1) (And.intro (cellKeep zb2 zS.2.2.2.1) (And.intro (cellKeep zb2 zS.2.2.2.2.1) (cellKeep zb2 zS.2.2.2.2.2)))))); have HB := hide (lecB HB.out zb2); clear zb2; have zI2 := hide zi2; clear zi2)
      | (go_at_call 24; have _t := ztok3; clear ztok3; refine (Cmp_any _ zs1 zs2 za1 za2 zn1 zn2 zc1 zc2 16 12 16 ((cr) * (cr)) (((r) * (r)) * (len)) (by omega) (by omega) (by omega) zI1.out zI2.out).mono ?_; rintro e zw3 ⟨rfl, zb3⟩; (try replace zb3 := of_drew zb3); have Kcr := hide (Kcr.out.below zb3); have Klen := hide (Klen.out.below zb3); have Krr := hide (Krr.out.below zb3); have zI1 := hide (zI1.out.below zb3); have zI2 := hide (zI2.out.below zb3); have zS := (And.intro (cellKeep zb3 zS.1) (And.intro (cellKeep zb3 zS.2.1) (And.intro (cellKeep zb3 zS.2.2.1) (And.intro (cellKeep zb3 zS.2.2.2.1) (And.intro (cellKeep zb3 zS.2.2.2.2.1) (cellKeep zb3 zS.2.2.2.2.2)))))); have HB := hide (lecB HB.out zb3); clear zb3))
  go_wp2
  go_ret
  exact ⟨ret_bool (by rw [meetsB, if_neg (by omega), if_neg (by omega), Bool.eq_iff_iff]; simp only [decide_eq_true_eq, sgn_le]; omega), HB.out⟩

/-- Seg.Meets. -/
theorem Meets_any (w : World) (s1 : Bool) (a1 : Option Addr) (n1 c1 : Nat) (s2 : Bool) (a2 : Option Addr) (n2 c2 : Nat) (s3 : Bool) (a3 : Option Addr) (n3 c3 : Nat) (s4 : Bool) (a4 : Option Addr) (n4 c4 : Nat) (s5 : Bool) (a5 : Option Addr) (n5 c5 : Nat) (al len cr st en r : Int) (hr : -9223372036854775808 ≤ r ∧ r < 9223372036854775808) (g1 : IsI 8 w s1 a1 n1 c1 al) (g2 : IsI 8 w s2 a2 n2 c2 len) (g3 : IsI 8 w s3 a3 n3 c3 cr) (g4 : IsI 8 w s4 a4 n4 c4 st) (g5 : IsI 8 w s5 a5 n5 c5 en) :
    Calls Try.prog 33 #[.agg #[.bool s1, .slice a1 n1 c1, .bool s2, .slice a2 n2 c2, .bool s3, .slice a3 n3 c3, .bool s4, .slice a4 n4 c4, .bool s5, .slice a5 n5 c5], .int .i64 r] w fun e w' => e = .returned (.bool (meetsB al len cr st en r)) ∧ Below w.heap.size w w' := by
  by_cases h1 : al ≤ 0
  · exact Meets1 w s1 a1 n1 c1 s2 a2 n2 c2 s3 a3 n3 c3 s4 a4 n4 c4 s5 a5 n5 c5 al len cr st en r hr g1 g2 g3 g4 g5 h1
  · by_cases h2 : len ≤ al
    · exact Meets2 w s1 a1 n1 c1 s2 a2 n2 c2 s3 a3 n3 c3 s4 a4 n4 c4 s5 a5 n5 c5 al len cr st en r hr g1 g2 g3 g4 g5 h1 h2
    · exact Meets3 w s1 a1 n1 c1 s2 a2 n2 c2 s3 a3 n3 c3 s4 a4 n4 c4 s5 a5 n5 c5 al len cr st en r hr g1 g2 g3 g4 g5 h1 h2
end Go.Proofs.Qxb6500775a
