import Derived.Test.Qxb6500775aBig5
namespace Go.Proofs.Qxb6500775a
open Go.RowKit

theorem lec {a b c : World} (h : Below a.heap.size a b) (k : Below b.heap.size b c) : Below a.heap.size a c := h.trans (k.mono h.size)
theorem cellKeep {w w' : World} (hb : Below w.heap.size w w') {p : Addr} {v : Value} (h : w.cell? p = some v) : w'.cell? p = some v := (hb.cell (World.block_lt_of_cell? _ _ h)).trans h
theorem frozKeep {w w' : World} (hb : Below w.heap.size w w') {p : Addr} {v : Value} {x : Bool} (h : w.cell? p = some v) (hf : w.frozen? p = x) : w'.frozen? p = x := (hb.frozen (World.block_lt_of_cell? _ _ h)).trans hf

/-- fixmathm.square. -/
theorem square_any (w : World) (s : Bool) (a : Option Addr) (n c N : Nat) (z : Int) (hN : N + N < 1099511627776) (hi : IsI N w s a n c z) :
    Calls Try.prog 77 #[.agg #[.bool s, .slice a n c]] w (RetI (N + N) w (z * z)) := by
  have HI := hide hi
  clear hi
  go_enter Try.func77, Try.ntmps77
  go_wp2_with fail
  have hbel : Below w.heap.size w ((w.alloc (.cells #[.bool s, .slice a n c] 26)).alloc (.cells #[.bool false, .slice none 0 0] 26)) := ((Below.refl _ _).alloc (Nat.le_refl _) _).alloc (by simp) _
  refine (Mul_any _ s s a a n n c c N N z z hN (HI.out.below hbel) (HI.out.below hbel)).mono ?_
  rintro e w1 ⟨s1, a1, n1, c1, rfl, i1, b1⟩
  obtain ⟨c0, c1', f0, f1⟩ := box2 (rb := w.heap.size + 1) (.bool false) (.slice none 0 0) b1 (by simp) (by simp [go_sem]) (by simp [go_sem]) (by simp [go_sem]) (by simp [go_sem])
  have I1 := hide i1
  have L1 := hide b1
  have HB := hide hbel
  clear i1 b1 hbel
  go_wp2
  exact bodyPost_ret (v := .agg #[.bool s1, .slice a1 n1 c1]) (by simp [results, Try.results77, go_sem, c0, c1']) rfl (fin_I I1.out L1.out HB.out (by simp) (by simp) (by simp) (by simp))

set_option maxHeartbeats 1000000 in
/-- fixmathm.distSq. -/
theorem distSq_any (w : World) (ax ay bx by' : Int) (h1 : -9223372036854775808 ≤ ax ∧ ax < 9223372036854775808) (h2 : -9223372036854775808 ≤ ay ∧ ay < 9223372036854775808) (h3 : -9223372036854775808 ≤ bx ∧ bx < 9223372036854775808) (h4 : -9223372036854775808 ≤ by' ∧ by' < 9223372036854775808) :
    Calls Try.prog 78 #[.int .i64 ax, .int .i64 ay, .int .i64 bx, .int .i64 by'] w (RetI 7 w ((ax - bx) * (ax - bx) + (ay - by') * (ay - by'))) := by
  go_enter Try.func78, Try.ntmps78
  go_wp2_with fail
  refine (Of_any _ (ax) (by omega) (by omega)).mono ?_
  rintro e w1 ⟨s1, a1, n1, c1, rfl, i1, b1⟩
  have I1 := hide i1
  have L1 := hide b1
  clear i1 b1
  go_wp2_with fail
  refine (Of_any _ (bx) (by omega) (by omega)).mono ?_
  rintro e w2 ⟨s2, a2, n2, c2, rfl, i2, b2⟩
  have I2 := hide i2
  have L2 := hide b2
  clear i2 b2
  go_wp2_with fail
  refine (Sub_any _ s1 s2 a1 a2 n1 n2 c1 c2 2 2 2 (ax) (bx) (by omega) (by omega) (by omega) (I1.out.below L2.out) I2.out).mono ?_
  rintro e w3 ⟨s3, a3, n3, c3, rfl, i3, b3⟩
  have I3 := hide i3
  have L3 := hide b3
  clear i3 b3
  go_wp2_with fail
  refine (square_any _ s3 a3 n3 c3 3 ((ax) - (bx)) (by omega) I3.out).mono ?_
  rintro e w4 ⟨s4, a4, n4, c4, rfl, i4, b4⟩
  have I4 := hide i4
  have L4 := hide b4
  clear i4 b4
  go_wp2_with fail
  refine (Of_any _ (ay) (by omega) (by omega)).mono ?_
  rintro e w5 ⟨s5, a5, n5, c5, rfl, i5, b5⟩
  have I5 := hide i5
  have L5 := hide b5
  clear i5 b5
  go_wp2_with fail
  refine (Of_any _ (by') (by omega) (by omega)).mono ?_
  rintro e w6 ⟨s6, a6, n6, c6, rfl, i6, b6⟩
  have I6 := hide i6
  have L6 := hide b6
  clear i6 b6
  go_wp2_with fail
  refine (Sub_any _ s5 s6 a5 a6 n5 n6 c5 c6 2 2 2 (ay) (by') (by omega) (by omega) (by omega) (I5.out.below L6.out) I6.out).mono ?_
  rintro e w7 ⟨s7, a7, n7, c7, rfl, i7, b7⟩
  have I7 := hide i7
  have L7 := hide b7
  clear i7 b7
  go_wp2_with fail
  refine (square_any _ s7 a7 n7 c7 3 ((ay) - (by')) (by omega) I7.out).mono ?_
  rintro e w8 ⟨s8, a8, n8, c8, rfl, i8, b8⟩
  have I8 := hide i8
  have L8 := hide b8
  clear i8 b8
  go_wp2_with fail
  refine (Add_any _ s4 s8 a4 a8 n4 n8 c4 c8 6 6 6 (((ax) - (bx)) * ((ax) - (bx))) (((ay) - (by')) * ((ay) - (by'))) (by omega) (by omega) (by omega) (I4.out.below (lec L5.out (lec L6.out (lec L7.out L8.out)))) I8.out).mono ?_
  rintro e w9 ⟨s9, a9, n9, c9, rfl, i9, b9⟩
  have I9 := hide i9
  have L9 := hide b9
  clear i9 b9
  have hall := (lec L1.out (lec L2.out (lec L3.out (lec L4.out (lec L5.out (lec L6.out (lec L7.out (lec L8.out L9.out))))))))
  obtain ⟨c0, c1', f0, f1⟩ := box2 (rb := w.heap.size) (.bool false) (.slice none 0 0) hall (by simp) (by simp [go_sem]) (by simp [go_sem]) (by simp [go_sem]) (by simp [go_sem])
  have HA := hide hall
  clear hall
  go_wp2
  exact bodyPost_ret (v := .agg #[.bool s9, .slice a9 n9 c9]) (by simp [results, Try.results78, go_sem, c0, c1']) rfl (fin_I I9.out HA.out ((Below.refl _ _).alloc (Nat.le_refl _) _) (by simp) (by simp) (by simp) (by simp))
end Go.Proofs.Qxb6500775a
