import Derived.Test.Qxb6500775aBig5
import Derived.Test.Qxb6500775aRoot
import Derived.Test.Qxb6500775aOps
namespace Go.Proofs.Qxb6500775a
open Go.RowKit

/-- A number in a box of its own. -/
structure BoxI (w4 W4 : World) (p : Nat) (s : Bool) (a : Option Addr) (n c : Nat) : Prop where
  c0 : W4.cell? ⟨p, 0, none⟩ = some (.bool s)
  c1 : W4.cell? ⟨p, 1, none⟩ = some (.slice a n c)
  lt : p < W4.heap.size
  bel : Below w4.heap.size w4 W4
theorem boxI (w : World) (s : Bool) (a : Option Addr) (n c : Nat) : BoxI w (w.alloc (.cells #[.bool s, .slice a n c] 26)) w.heap.size s a n c :=
  ⟨by simp [go_sem], by simp [go_sem], by simp, (Below.refl _ _).alloc (Nat.le_refl _) _⟩
theorem BoxI.go {w4 W4 w5 : World} {p : Nat} {s : Bool} {a : Option Addr} {n c : Nat} (h : BoxI w4 W4 p s a n c) (hb : Below W4.heap.size W4 w5) : BoxI w4 w5 p s a n c :=
  ⟨(bat hb 0 h.lt).trans h.c0, (bat hb 1 h.lt).trans h.c1, Nat.lt_of_lt_of_le h.lt hb.size, h.bel.trans (hb.mono h.bel.size)⟩
theorem sgn_le {z : Int} : sgn z ≤ 0 ↔ z ≤ 0 := by unfold sgn; split <;> (try split) <;> omega
theorem sgn_lt {z : Int} : sgn z < 0 ↔ z < 0 := by unfold sgn; split <;> (try split) <;> omega

set_option maxHeartbeats 4000000 in
theorem isqrtExact_walk (w : World) (a : Option Addr) (n cap : Nat) (f : Nat → Nat → Int) (hn : n ≤ 9223372036854775807) (ho : OpsAt w a n f) :
    Calls Try.prog 4 #[.slice a n cap] w fun e w' => e = .returned (.bool true) ∧ Below w.heap.size w w' := by
  have HO := hide ho
  clear ho
  by_cases hsm : n ≤ 65536
  · go_enter Try.func4, Try.ntmps4
    go_wp2_with fail
    refine (small_any _ a n cap hn).mono ?_
    rintro e w' ⟨rfl, rfl⟩
    have hd : decide (n ≤ 65536) = true := by simpa using hsm
    rw [hd]
    clear hd
    go_wp2
    go_loopw [3] (fun i wr => ∃ k : Nat, k ≤ n ∧ i = .int .i64 k ∧ Below w'.heap.size w' wr) (fun i _ => n - (intOf i).toNat)
    case atStart => exact ⟨0, Nat.zero_le _, rfl, Below.refl _ _⟩
    case round =>
      obtain ⟨k, hk, rfl, hbel⟩ := hrel
      by_cases hlt : k < n
      · obtain ⟨b, off, rfl, hf⟩ := HO.out k hlt
        have hc : ∀ j, j < 8 → wr.cell? ⟨b, off + k * 8 + j, none⟩ = some (.int .i64 (f k j)) := fun j hj => (hbel.cell (World.block_lt_of_cell? _ _ (hf j hj).1)).trans (hf j hj).1
        have hc0 : wr.cell? ⟨b, off + k * 8, none⟩ = some (.int .i64 (f k 0)) := by simpa using hc 0 (by omega)
        have hc1 := hc 1 (by omega)
        have hb1 := (hf 1 (by omega)).2
        have HBel := hide hbel
        clear hc hf hbel
        generalize f k 0 = kd at *
        generalize f k 1 = x at *
        by_cases h32 : kd = 32
        · subst h32
          by_cases hx : x < 0
          · go_wp2_with fail
            refine (Isqrt_neg x _ hx).mono ?_
            rintro e w1 ⟨rfl, rfl⟩
            go_wp2
            go_roundw
            case rel => exact ⟨k + 1, by omega, by go_num, HBel.out⟩
            case measure => simp [intOf]; omega
          · go_wp2_with fail
            refine (Isqrt_any x _ (by omega) hb1.2).mono ?_
            rintro e w1 ⟨rfl, r, hr0, hr1, rfl, hlo, hhi⟩
            have HL := hide (And.intro hlo hhi)
            clear hlo hhi
            clear hc0 hc1 HO
            go_wp2_with fail
            refine (Of_any _ r (by omega) (by omega)).mono ?_
            rintro e w2 ⟨s2, a2, n2, c2, rfl, i2, b2⟩
            have I2 := hide i2
            have B2 := hide b2
            clear i2 b2
            go_wp2_with fail
            refine (Of_any _ r (by omega) (by omega)).mono ?_
            rintro e w3 ⟨s3, a3, n3, c3, rfl, i3, b3⟩
            have I3 := hide i3
            have I2' := hide (I2.out.below b3)
            have B3 := hide (B2.out.trans (b3.mono B2.out.size))
            clear i3 b3 I2 B2
            go_wp2_with fail
            refine (Mul_any _ s2 s3 a2 a3 n2 n3 c2 c3 2 2 r r (by omega) I2'.out I3.out).mono ?_
            rintro e w4 ⟨s4, a4, n4, c4, rfl, i4, b4⟩
            have I4 := hide i4
            have B4 := hide (B3.out.trans (b4.mono B3.out.size))
            clear i4 b4 I2' B3 I3
            go_wp2_with fail
            have x7 := boxI w4 s4 a4 n4 c4
            generalize w4.alloc (.cells #[.bool s4, .slice a4 n4 c4] 26) = W4 at *
            generalize w4.heap.size = p7 at *
            have X7 := hide x7
            have I4' := hide (I4.out.below x7.bel)
            have B4' := hide (B4.out.trans (x7.bel.mono B4.out.size))
            clear x7 I4 B4
            refine (Of_any _ (r + 1) (by omega) (by omega)).mono ?_
            rintro e w5 ⟨s5, a5, n5, c5, rfl, i5, b5⟩
            have I5 := hide i5
            have I4 := hide (I4'.out.below b5)
            have X7' := hide (X7.out.go b5)
            have B5 := hide (B4'.out.trans (b5.mono B4'.out.size))
            clear i5 b5 B4' X7 I4'
            go_wp2_with fail
            refine (Of_any _ (r + 1) (by omega) (by omega)).mono ?_
            rintro e w6 ⟨s6, a6, n6, c6, rfl, i6, b6⟩
            have I6 := hide i6
            have I4' := hide (I4.out.below b6)
            have I5' := hide (I5.out.below b6)
            have X7 := hide (X7'.out.go b6)
            have B6 := hide (B5.out.trans (b6.mono B5.out.size))
            clear i6 b6 B5 X7' I4 I5
            go_wp2_with fail
            refine (Mul_any _ s5 s6 a5 a6 n5 n6 c5 c6 2 2 (r + 1) (r + 1) (by omega) I5'.out I6.out).mono ?_
            rintro e w7 ⟨s7, a7, n7, c7, rfl, i7, b7⟩
            have I7 := hide i7
            have I4 := hide (I4'.out.below b7)
            have X7' := hide (X7.out.go b7)
            have B7 := hide (B6.out.trans (b7.mono B6.out.size))
            clear i7 b7 B6 X7 I4' I5' I6
            go_wp2_with fail
            have x8 := boxI w7 s7 a7 n7 c7
            generalize w7.alloc (.cells #[.bool s7, .slice a7 n7 c7] 26) = W7 at *
            have X7 := hide (X7'.out.go x8.bel)
            generalize w7.heap.size = p8 at *
            have I7' := hide (I7.out.below x8.bel)
            have I4' := hide (I4.out.below x8.bel)
            have B7' := hide (B7.out.trans (x8.bel.mono B7.out.size))
            have X8 := hide x8
            clear x8 I7 I4 B7 X7'
            have g1 : decide (0 < sgn (r * r - x)) = false := by
              have := HL.out.1
              have := sgn_le (z := r * r - x)
              simp; omega
            have g2 : decide (0 ≤ sgn (x - (r + 1) * (r + 1))) = false := by
              have := HL.out.2
              have := sgn_lt (z := x - (r + 1) * (r + 1))
              simp; omega
            have tok1 : True := trivial
            have tok2 : True := trivial
            obtain ⟨c70, c71, l7, _⟩ := X7.out
            obtain ⟨c80, c81, l8, _⟩ := X8.out
            go_region_held3 (fun w' => w'.cell? ⟨p7, 0, none⟩ = some (.bool s4) ∧ w'.cell? ⟨p7, 1, none⟩ = some (.slice a4 n4 c4) ∧ w'.cell? ⟨p8, 0, none⟩ = some (.bool s7) ∧ w'.cell? ⟨p8, 1, none⟩ = some (.slice a7 n7 c7)) (simp [*, go_sem])
              (first
                | (go_at_call 15; have _t := tok1; clear tok1; refine (Of_any _ x (by omega) (by omega)).mono ?_; rintro e w9 ⟨s9, a9, n9, c9, rfl, i9, b9⟩; have I9 := hide i9; have B9 := hide (of_drew b9); clear i9 b9; obtain ⟨d70, d71, m7, _⟩ := X7.out.go B9.out; obtain ⟨d80, d81, m8, _⟩ := X8.out.go B9.out)
                | (go_at_call_of 24 (a4); refine (Cmp_any _ s4 s9 a4 a9 n4 n9 c4 c9 4 2 4 (r * r) x (by omega) (by omega) (by omega) (I4'.out.below B9.out) I9.out).mono ?_; rintro e w10 ⟨rfl, b10⟩; have B10 := hide (B9.out.trans (b10.mono B9.out.size)); clear b10; obtain ⟨e70, e71, q7, _⟩ := X7.out.go B10.out; obtain ⟨e80, e81, q8, _⟩ := X8.out.go B10.out)
                | (go_at_call 15; have _t := tok2; clear tok2; refine (Of_any _ x (by omega) (by omega)).mono ?_; rintro e w11 ⟨s11, a11, n11, c11, rfl, i11, b11⟩; have I11 := hide i11; have B11 := hide (B10.out.trans (b11.mono B10.out.size)); clear i11 b11; obtain ⟨f70, f71, t7, _⟩ := X7.out.go B11.out; obtain ⟨f80, f81, t8, _⟩ := X8.out.go B11.out)
                | (go_at_call_of 24 (a7); refine (Cmp_any _ s11 s7 a11 a7 n11 n7 c11 c7 2 4 4 x ((r + 1) * (r + 1)) (by omega) (by omega) (by omega) I11.out (I7'.out.below B11.out)).mono ?_; rintro e w12 ⟨rfl, b12⟩; have B12 := hide (B11.out.trans (b12.mono B11.out.size)); clear b12; obtain ⟨y70, y71, y7, _⟩ := X7.out.go B12.out; obtain ⟨y80, y81, y8, _⟩ := X8.out.go B12.out))
            go_wp2
            go_roundw
            case rel => exact ⟨k + 1, by omega, by go_num, HBel.out.trans ((B7'.out.trans (B12.out.mono B7'.out.size)).mono HBel.out.size)⟩
            case measure => simp [intOf]; omega
        · have hne : (kd != 32) = true := by simp [h32]
          clear h32
          go_wp2
          go_roundw
          case rel => exact ⟨k + 1, by omega, by go_num, HBel.out⟩
          case measure => simp [intOf]; omega
      · go_wp2
        go_ret
        exact ⟨rfl, hbel⟩
  · go_enter Try.func4, Try.ntmps4
    go_wp2_with fail
    refine (small_any _ a n cap hn).mono ?_
    rintro e w' ⟨rfl, rfl⟩
    have hd : decide (n ≤ 65536) = false := by simpa using hsm
    rw [hd]
    clear hd
    go_wp2
    go_ret
    exact ⟨rfl, Below.refl _ _⟩
end Go.Proofs.Qxb6500775a
