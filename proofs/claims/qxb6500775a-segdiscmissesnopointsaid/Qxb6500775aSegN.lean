import Derived.Test.Qxb6500775aSegQ
import Derived.Test.Qxb6500775aSegDW
namespace Go.Proofs.Qxb6500775a
open Go.RowKit

/-- None of the seventeen points lies in a disc that the segment misses. -/
theorem points {dx dy wx wy r k : Int} (hk0 : 0 ≤ k) (hk : k ≤ 16)
    (h : (16 * -wx + k * dx) * (16 * -wx + k * dx) + (16 * -wy + k * dy) * (16 * -wy + k * dy) ≤ 256 * (r * r)) :
    meetsB (wx * dx + wy * dy) (dx * dx + dy * dy) (dx * wy - dy * wx) (wx * wx + wy * wy) ((wx - dx) * (wx - dx) + (wy - dy) * (wy - dy)) r = true := by
  have hl : 0 ≤ dx * dx + dy * dy := by have := sq_nonneg' dx; have := sq_nonneg' dy; omega
  unfold meetsB
  split
  · rename_i h1
    simp only [decide_eq_true_eq]
    have e : (16 * -wx + k * dx) * (16 * -wx + k * dx) + (16 * -wy + k * dy) * (16 * -wy + k * dy) = 256 * (wx * wx + wy * wy) + 32 * (k * -(wx * dx + wy * dy)) + k * k * (dx * dx + dy * dy) := by grind
    have p1 := Int.mul_nonneg hk0 (show 0 ≤ -(wx * dx + wy * dy) by omega)
    have p2 := Int.mul_nonneg (Int.mul_nonneg hk0 hk0) hl
    omega
  split
  · rename_i h1 h2
    simp only [decide_eq_true_eq]
    have e : (16 * -wx + k * dx) * (16 * -wx + k * dx) + (16 * -wy + k * dy) * (16 * -wy + k * dy) = 256 * ((wx - dx) * (wx - dx) + (wy - dy) * (wy - dy)) + 32 * ((16 - k) * ((wx * dx + wy * dy) - (dx * dx + dy * dy))) + (16 - k) * (16 - k) * (dx * dx + dy * dy) := by grind
    have p1 := Int.mul_nonneg (show 0 ≤ 16 - k by omega) (show 0 ≤ (wx * dx + wy * dy) - (dx * dx + dy * dy) by omega)
    have p2 := Int.mul_nonneg (Int.mul_nonneg (show 0 ≤ 16 - k by omega) (show 0 ≤ 16 - k by omega)) hl
    omega
  · rename_i h1 h2
    simp only [decide_eq_true_eq]
    have e : (dx * dx + dy * dy) * ((16 * -wx + k * dx) * (16 * -wx + k * dx) + (16 * -wy + k * dy) * (16 * -wy + k * dy)) = (16 * (wx * dx + wy * dy) - k * (dx * dx + dy * dy)) * (16 * (wx * dx + wy * dy) - k * (dx * dx + dy * dy)) + 256 * ((dx * wy - dy * wx) * (dx * wy - dy * wx)) := by grind
    have q := sq_nonneg' (16 * (wx * dx + wy * dy) - k * (dx * dx + dy * dy))
    have m := Int.mul_le_mul_of_nonneg_left h hl
    have e2 : (dx * dx + dy * dy) * (256 * (r * r)) = 256 * (r * r * (dx * dx + dy * dy)) := by grind
    omega
theorem hit_points {a b c d e f r k : Int} (hr : 0 ≤ r) (hk0 : 0 ≤ k) (hk : k ≤ 16)
    (h : (16 * (a - e) + k * (c - a)) * (16 * (a - e) + k * (c - a)) + (16 * (b - f) + k * (d - b)) * (16 * (b - f) + k * (d - b)) ≤ 256 * (r * r)) : hitB a b c d e f r = true := by
  unfold hitB
  rw [points (dx := c - a) (dy := d - b) (wx := e - a) (wy := f - b) (r := r) hk0 hk (by rw [show -(e - a) = a - e by omega, show -(f - b) = b - f by omega]; exact h), decide_eq_true hr]
  rfl
theorem hit_far {a b c d e f r : Int} (hr : 0 ≤ r) : hitB a b c d e f r = decide (farV ((e - a) * (c - a) + (f - b) * (d - b)) ((c - a) * (c - a) + (d - b) * (d - b)) ((c - a) * (f - b) - (d - b) * (e - a)) ((e - a) * (e - a) + (f - b) * (f - b)) ((e - a - (c - a)) * (e - a - (c - a)) + (f - b - (d - b)) * (f - b - (d - b))) ≤ r * r) := by
  rw [far_le (by have := sq_nonneg' (c - a); have := sq_nonneg' (d - b); omega)]
  unfold hitB; rw [decide_eq_true hr]; rfl
theorem far_bd {a b c d e f : Int} (h : inB6 a b c d e f = true) : 0 ≤ farV ((e - a) * (c - a) + (f - b) * (d - b)) ((c - a) * (c - a) + (d - b) * (d - b)) ((c - a) * (f - b) - (d - b) * (e - a)) ((e - a) * (e - a) + (f - b) * (f - b)) ((e - a - (c - a)) * (e - a - (c - a)) + (f - b - (d - b)) * (f - b - (d - b))) ∧ farV ((e - a) * (c - a) + (f - b) * (d - b)) ((c - a) * (c - a) + (d - b) * (d - b)) ((c - a) * (f - b) - (d - b) * (e - a)) ((e - a) * (e - a) + (f - b) * (f - b)) ((e - a - (c - a)) * (e - a - (c - a)) + (f - b - (d - b)) * (f - b - (d - b))) ≤ 35184372088832 := by
  obtain ⟨ha, hb, hc, hd, he, hf⟩ := inB6_true h
  have m3 := sq_bd (x := e - a) (by omega) (by omega)
  have m4 := sq_bd (x := f - b) (by omega) (by omega)
  have m5 := sq_bd (x := e - a - (c - a)) (by omega) (by omega)
  have m6 := sq_bd (x := f - b - (d - b)) (by omega) (by omega)
  have L := lagrange (c - a) (d - b) (e - a) (f - b)
  have aq := sq_nonneg' ((e - a) * (c - a) + (f - b) * (d - b))
  have cq := sq_nonneg' ((c - a) * (f - b) - (d - b) * (e - a))
  unfold farV
  split
  · omega
  split
  · omega
  · rename_i h1 h2
    have hl : 0 < (c - a) * (c - a) + (d - b) * (d - b) := by omega
    refine ⟨cdiv_nonneg cq hl, ?_⟩
    have : cdiv (((c - a) * (f - b) - (d - b) * (e - a)) * ((c - a) * (f - b) - (d - b) * (e - a))) ((c - a) * (c - a) + (d - b) * (d - b)) ≤ (e - a) * (e - a) + (f - b) * (f - b) := (cdiv_le hl).2 (by rw [Int.mul_comm ((c - a) * (c - a) + (d - b) * (d - b))] at L; omega)
    omega
theorem pt_bd {a e c k : Int} (ha : -1048576 ≤ a ∧ a ≤ 1048576) (hc : -1048576 ≤ c ∧ c ≤ 1048576) (he : -1048576 ≤ e ∧ e ≤ 1048576) (hk0 : 0 ≤ k) (hk : k ≤ 16) : -33554432 ≤ k * (c - a) ∧ k * (c - a) ≤ 33554432 ∧ 0 ≤ (16 * (a - e) + k * (c - a)) * (16 * (a - e) + k * (c - a)) ∧ (16 * (a - e) + k * (c - a)) * (16 * (a - e) + k * (c - a)) ≤ 4503599627370496 := by
  have m1 := Int.mul_le_mul_of_nonneg_left (show c - a ≤ 2097152 by omega) hk0
  have m2 := Int.mul_le_mul_of_nonneg_left (show -2097152 ≤ c - a by omega) hk0
  have b1 : -33554432 ≤ k * (c - a) := by omega
  have b2 : k * (c - a) ≤ 33554432 := by omega
  refine ⟨b1, b2, sq_nonneg' _, ?_⟩
  have c1 : -67108864 ≤ 16 * (a - e) + k * (c - a) := by omega
  have c2 : 16 * (a - e) + k * (c - a) ≤ 67108864 := by omega
  generalize 16 * (a - e) + k * (c - a) = x at *
  have := Int.mul_nonneg (show 0 ≤ 67108864 - x by omega) (show 0 ≤ 67108864 + x by omega)
  have e2 : (67108864 - x) * (67108864 + x) = 4503599627370496 - x * x := by grind
  omega


set_option maxRecDepth 100000 in
set_option maxHeartbeats 8000000 in
theorem segDiscMissesNoPoint_walk (w : World) (a : Option Addr) (n cap : Nat) (f : Nat → Nat → Int) (hn : n ≤ 9223372036854775807) (ho : OpsAt w a n f) :
    Calls Try.prog 8 #[.slice a n cap] w fun e w' => e = .returned (.bool true) ∧ Below w.heap.size w w' := by
  have HO := hide ho
  clear ho
  by_cases hsm : n ≤ 65536
  · go_enter Try.func8, Try.ntmps8
    go_wp2_with fail
    refine (small_any _ a n cap hn).mono ?_
    rintro e w' ⟨rfl, rfl⟩
    have hd : decide (n ≤ 65536) = true := by simpa using hsm
    rw [hd]
    clear hd
    go_wp2
    go_loopw [3] (fun i wr => ∃ k : Nat, k ≤ n ∧ i = .int .i64 k ∧ Below w'.heap.size w' wr) (fun i _ => n - (intOf i).toNat)
    case atStart => exact ⟨0, Nat.zero_le _, rfl, Below.refl _ _⟩
    case round =>
      obtain ⟨k, hk, rfl, hbel⟩ := hrel
      by_cases hlt : k < n
      · obtain ⟨b, off, rfl, hf⟩ := HO.out k hlt
        have hc : ∀ j, j < 8 → wr.cell? ⟨b, off + k * 8 + j, none⟩ = some (.int .i64 (f k j)) := fun j hj => (hbel.cell (World.block_lt_of_cell? _ _ (hf j hj).1)).trans (hf j hj).1
        have o0 : wr.cell? ⟨b, off + k * 8, none⟩ = some (.int .i64 (f k 0)) := by simpa using hc 0 (by omega)
        have o1 := hc 1 (by omega)
        have o2 := hc 2 (by omega)
        have o3 := hc 3 (by omega)
        have o4 := hc 4 (by omega)
        have o5 := hc 5 (by omega)
        have o6 := hc 6 (by omega)
        have o7 := hc 7 (by omega)
        have q1 := (hf 1 (by omega)).2
        have q2 := (hf 2 (by omega)).2
        have q3 := (hf 3 (by omega)).2
        have q4 := (hf 4 (by omega)).2
        have q5 := (hf 5 (by omega)).2
        have q6 := (hf 6 (by omega)).2
        have q7 := (hf 7 (by omega)).2
        have HBel := hide hbel
        clear hc hf hbel
        generalize f k 0 = kd at *
        generalize f k 1 = A at *
        generalize f k 2 = B at *
        generalize f k 3 = C at *
        generalize f k 4 = D at *
        generalize f k 5 = E at *
        generalize f k 6 = F at *
        generalize f k 7 = Gg at *
        have BB := hide ((Below.refl wr.heap.size wr).alloc (Nat.le_refl _) (.cells #[.int .i64 kd, .int .i64 A, .int .i64 B, .int .i64 C, .int .i64 D, .int .i64 E, .int .i64 F, .int .i64 Gg] 30))
        by_cases h57 : kd = 57
        · subst h57
          go_wp2_with fail
          refine (onMap_any _ 57 A B C D E F Gg).mono ?_
          rintro e w1 ⟨rfl, b1⟩
          obtain ⟨t0, t1, t2, t3, t4, t5, t6, t7⟩ := op8 b1
          have B1 := hide (lec BB.out b1)
          clear b1 o0 o1 o2 o3 o4 o5 o6 o7 BB
          cases hin : inB6 A B C D E F
          · go_wp2
            go_roundw
            case rel => exact ⟨k + 1, by omega, by go_num, HBel.out.trans (B1.out.mono HBel.out.size)⟩
            case measure => simp [intOf]; omega
          · by_cases hG : 0 ≤ Gg
            · have HIN := hide hin
              clear hin
              go_wp2_with fail
              refine (SegDisc_in _ A B C D E F Gg HIN.out).mono ?_
              rintro e W ⟨rfl, b2⟩
              replace t0 := cellKeep b2 t0
              replace t1 := cellKeep b2 t1
              replace t2 := cellKeep b2 t2
              replace t3 := cellKeep b2 t3
              replace t4 := cellKeep b2 t4
              replace t5 := cellKeep b2 t5
              replace t6 := cellKeep b2 t6
              replace t7 := cellKeep b2 t7
              have B2 := hide (lec B1.out b2)
              clear b2 B1
              generalize wr.heap.size = P at t0 t1 t2 t3 t4 t5 t6 t7 ⊢
              go_upto_region 9 with fail
              have S := t7
              have HB := hide (Below.refl W.heap.size W)
              have ne0 := blkNe S
              go_cut [7] (fun s wx => ∃ p, s = .pointer (some ⟨p, 0, none⟩) ∧ VarI 4 wx p (Gg * Gg) ∧ Below W.heap.size W wx)
              case first =>
                have tok1 : True := trivial
                have tok2 : True := trivial
                have tok3 : True := trivial
                go_region_held3 (fun w' => w'.cell? ⟨P, 7, none⟩ = some (.int .i64 Gg)) (first | (with_reducible exact S) | (with_reducible exact (by simpa only [World.cell?_drew] using S)) | (simp [*, go_sem, World.cell?_alloc_some]; done))
                  (first
                    | (go_at_call 15; have _t := tok1; clear tok1; refine (Of_any _ (Gg) (by omega) (by omega)).mono ?_; rintro e w1 ⟨s1, a1, n1, c1, rfl, i1, b1⟩; (try replace b1 := of_drew b1); (try (have bf0 := frozKeep b1 bx0 bf0; have bf1 := frozKeep b1 bx1 bf1; have bx0 := cellKeep b1 bx0; have bx1 := cellKeep b1 bx1)); (try (have bx0 := cellKeep b1 (cellNew0 W); have bx1 := cellKeep b1 (cellNew1 W); have bf0 := frozKeep b1 (cellNew0 W) (frozNew W 0); have bf1 := frozKeep b1 (cellNew1 W) (frozNew W 1); have bp := HB.out.size)); (first | have S := (cellKeep b1 S) | have S := (cellKeep b1 (cellAl _ S))); have ne1_0 := blkNe S; (first | have HB := hide (lecB HB.out b1) | have HB := hide (lecB (belAl HB.out _) b1)); clear b1; have I1 := hide i1; clear i1)
                    | (go_at_call 15; have _t := tok2; clear tok2; refine (Of_any _ (Gg) (by omega) (by omega)).mono ?_; rintro e w2 ⟨s2, a2, n2, c2, rfl, i2, b2⟩; (try replace b2 := of_drew b2); (try (have bf0 := frozKeep b2 bx0 bf0; have bf1 := frozKeep b2 bx1 bf1; have bx0 := cellKeep b2 bx0; have bx1 := cellKeep b2 bx1)); (try (have bx0 := cellKeep b2 (cellNew0 w1); have bx1 := cellKeep b2 (cellNew1 w1); have bf0 := frozKeep b2 (cellNew0 w1) (frozNew w1 0); have bf1 := frozKeep b2 (cellNew1 w1) (frozNew w1 1); have bp := HB.out.size)); (first | have I1 := hide (I1.out.below b2) | have I1 := hide ((I1.out.al _).below b2)); (first | have S := (cellKeep b2 S) | have S := (cellKeep b2 (cellAl _ S))); have ne2_0 := blkNe S; (first | have HB := hide (lecB HB.out b2) | have HB := hide (lecB (belAl HB.out _) b2)); clear b2; have I2 := hide i2; clear i2)
                    | (go_at_call 18; have _t := tok3; clear tok3; refine (Mul_any _ s1 s2 a1 a2 n1 n2 c1 c2 2 2 (Gg) (Gg) (by omega) (by first | exact I1.out | exact I1.out.al _) (by first | exact I2.out | exact I2.out.al _)).mono ?_; rintro e w3 ⟨s3, a3, n3, c3, rfl, i3, b3⟩; (try replace b3 := of_drew b3); (try (have bf0 := frozKeep b3 bx0 bf0; have bf1 := frozKeep b3 bx1 bf1; have bx0 := cellKeep b3 bx0; have bx1 := cellKeep b3 bx1)); (try (have bx0 := cellKeep b3 (cellNew0 w2); have bx1 := cellKeep b3 (cellNew1 w2); have bf0 := frozKeep b3 (cellNew0 w2) (frozNew w2 0); have bf1 := frozKeep b3 (cellNew1 w2) (frozNew w2 1); have bp := HB.out.size)); (first | have I1 := hide (I1.out.below b3) | have I1 := hide ((I1.out.al _).below b3)); (first | have I2 := hide (I2.out.below b3) | have I2 := hide ((I2.out.al _).below b3)); (first | have S := (cellKeep b3 S) | have S := (cellKeep b3 (cellAl _ S))); have ne3_0 := blkNe S; (first | have HB := hide (lecB HB.out b3) | have HB := hide (lecB (belAl HB.out _) b3)); clear b3; have I3 := hide i3; clear i3))
                all_goals
                  go_wp2_with fail
                  go_meet
                  first | exact ⟨_, rfl, varNew I3.out, belAl HB.out _⟩ | exact ⟨_, rfl, varSet I3.out bx0 bx1, belSet2 HB.out bp⟩
              obtain ⟨p, rfl, hv, hb⟩ := hcut
              replace t0 := cellKeep hb t0
              replace t1 := cellKeep hb t1
              replace t2 := cellKeep hb t2
              replace t3 := cellKeep hb t3
              replace t4 := cellKeep hb t4
              replace t5 := cellKeep hb t5
              replace t6 := cellKeep hb t6
              replace t7 := cellKeep hb t7
              have B3 := hide (lecB B2.out hb)
              clear hb B2 S HB ne0
              clear W
              obtain ⟨W, hW⟩ : ∃ W', W' = wc := ⟨_, rfl⟩
              subst hW
              obtain ⟨s1, a1, n1, c1, v0, v1, i1⟩ := hv
              have J1 := hide i1
              clear i1
              go_wp2
              go_loopw [8] (fun s wx => ∃ k2 : Nat, k2 ≤ 17 ∧ s = .int .i64 k2 ∧ Below W.heap.size W wx) (fun i _ => 17 - (intOf i).toNat)
              case atStart => exact ⟨0, Nat.zero_le _, rfl, Below.refl _ _⟩
              case round =>
                obtain ⟨k2, hk2, rfl, hbx⟩ := hrel
                have i1 := hide (J1.out.below hbx)
                have u0 := cellKeep hbx t0
                have u1 := cellKeep hbx t1
                have u2 := cellKeep hbx t2
                have u3 := cellKeep hbx t3
                have u4 := cellKeep hbx t4
                have u5 := cellKeep hbx t5
                have u6 := cellKeep hbx t6
                have u7 := cellKeep hbx t7
                have x0 := cellKeep hbx v0
                have x1 := cellKeep hbx v1
                have HB := hide hbx
                clear hbx
                clear t0 t1 t2 t3 t4 t5 t6 t7 v0 v1 J1
                by_cases hk3 : k2 < 17
                · obtain ⟨hA, hB, hC, hD, hE, hF⟩ := inB6_true HIN.out
                  have pX := pt_bd (a := A) (e := E) (c := C) (k := (k2 : Int)) (by omega) (by omega) (by omega) (by omega) (by omega)
                  have pY := pt_bd (a := B) (e := F) (c := D) (k := (k2 : Int)) (by omega) (by omega) (by omega) (by omega) (by omega)
                  have HQ : Hid (sgn ((16 * (A - E) + k2 * (C - A)) * (16 * (A - E) + k2 * (C - A)) + (16 * (B - F) + k2 * (D - B)) * (16 * (B - F) + k2 * (D - B)) - 256 * (Gg * Gg)) ≤ 0 → hitB A B C D E F Gg = true) := fun h => hit_points hG (k := (k2 : Int)) (by omega) (by omega) (by have := sgn_le.1 h; omega)
                  go_upto_region 15 with fail
                  have pXX : 0 ≤ (16 * (A - E) + (k2 : Int) * (C - A)) * (16 * (A - E) + (k2 : Int) * (C - A)) ∧ (16 * (A - E) + (k2 : Int) * (C - A)) * (16 * (A - E) + (k2 : Int) * (C - A)) ≤ 4503599627370496 := pX.2.2
                  have pYY : 0 ≤ (16 * (B - F) + (k2 : Int) * (D - B)) * (16 * (B - F) + (k2 : Int) * (D - B)) ∧ (16 * (B - F) + (k2 : Int) * (D - B)) * (16 * (B - F) + (k2 : Int) * (D - B)) ≤ 4503599627370496 := pY.2.2
                  clear pX pY
                  generalize 16 * (A - E) + (k2 : Int) * (C - A) = X at HQ pXX ⊢
                  generalize 16 * (B - F) + (k2 : Int) * (D - B) = Y at HQ pYY ⊢
                  have WX : Hid (IntKind.i64.wrap (X * X) = X * X) := IntWalk.i64_in _ ⟨by omega, by omega⟩
                  have WY : Hid (IntKind.i64.wrap (Y * Y) = Y * Y) := IntWalk.i64_in _ ⟨by omega, by omega⟩
                  have WS : Hid (IntKind.i64.wrap (X * X + Y * Y) = X * X + Y * Y) := IntWalk.i64_in _ ⟨by omega, by omega⟩
                  have yS := And.intro x0 x1
                  clear x0 x1
                  have ytok1 : True := trivial
                  have ytok2 : True := trivial
                  have ytok3 : True := trivial
                  have ytok4 : True := trivial
                  go_region_held3 (fun w' => w'.cell? ⟨p, 0, none⟩ = some (.bool s1) ∧ w'.cell? ⟨p, 1, none⟩ = some (.slice a1 n1 c1)) (first | (with_reducible exact yS) | (with_reducible exact (by simpa only [World.cell?_drew] using yS)) | (simp [*, go_sem, World.cell?_alloc_some]; done))
                    (first
                      | (go_at_call 15; have _t := ytok1; clear ytok1; (try rw [WX.out, WY.out, WS.out]); refine (Of_any _ (X * X + Y * Y) (by omega) (by omega)).mono ?_; rintro e yw1 ⟨ys1, ya1, yn1, yc1, rfl, yi1, yb1⟩; (try replace yb1 := of_drew yb1); have i1 := hide (i1.out.below yb1); have yS := (And.intro (cellKeep yb1 yS.1) (cellKeep yb1 yS.2)); have HB := hide (lecB HB.out yb1); clear yb1; have yI1 := hide yi1; clear yi1)
                      | (go_at_call 15; have _t := ytok2; clear ytok2; refine (Of_any _ (256) (by omega) (by omega)).mono ?_; rintro e yw2 ⟨ys2, ya2, yn2, yc2, rfl, yi2, yb2⟩; (try replace yb2 := of_drew yb2); have i1 := hide (i1.out.below yb2); have yI1 := hide (yI1.out.below yb2); have yS := (And.intro (cellKeep yb2 yS.1) (cellKeep yb2 yS.2)); have HB := hide (lecB HB.out yb2); clear yb2; have yI2 := hide yi2; clear yi2)
                      | (go_at_call 18; have _t := ytok3; clear ytok3; refine (Mul_any _ ys2 s1 ya2 a1 yn2 n1 yc2 c1 2 4 (256) (Gg * Gg) (by omega) yI2.out i1.out).mono ?_; rintro e yw3 ⟨ys3, ya3, yn3, yc3, rfl, yi3, yb3⟩; (try replace yb3 := of_drew yb3); have i1 := hide (i1.out.below yb3); have yI1 := hide (yI1.out.below yb3); have yI2 := hide (yI2.out.below yb3); have yS := (And.intro (cellKeep yb3 yS.1) (cellKeep yb3 yS.2)); have HB := hide (lecB HB.out yb3); clear yb3; have yI3 := hide yi3; clear yi3)
                      | (go_at_call 24; have _t := ytok4; clear ytok4; refine (Cmp_any _ ys1 ys3 ya1 ya3 yn1 yn3 yc1 yc3 2 6 6 (X * X + Y * Y) ((256) * (Gg * Gg)) (by omega) (by omega) (by omega) yI1.out yI3.out).mono ?_; rintro e yw4 ⟨rfl, yb4⟩; (try replace yb4 := of_drew yb4); have i1 := hide (i1.out.below yb4); have yI1 := hide (yI1.out.below yb4); have yI2 := hide (yI2.out.below yb4); have yI3 := hide (yI3.out.below yb4); have yS := (And.intro (cellKeep yb4 yS.1) (cellKeep yb4 yS.2)); have HB := hide (lecB HB.out yb4); clear yb4))
                  generalize sgn (X * X + Y * Y - 256 * (Gg * Gg)) = q at HQ ⊢
                  have HQ2 : Hid (decide (q ≤ 0) = true → hitB A B C D E F Gg = true) := fun h => HQ.out (of_decide_eq_true h)
                  generalize decide (q ≤ 0) = bb at HQ2 ⊢
                  cases bb
                  · go_wp2
                    go_roundw
                    case rel => exact ⟨k2 + 1, by omega, by go_num, HB.out⟩
                    case measure => simp [intOf]; omega
                  · have HH := hide (HQ2.out rfl)
                    rw [HH.out]
                    go_wp2
                    go_roundw
                    case rel => exact ⟨_, .int .i64 ((k2 : Int) + 1), ⟨k2 + 1, by omega, by go_num, HB.out⟩, rfl, HH.out, rfl⟩
                    case measure => simp [intOf]; omega
                · have e17 : k2 = 17 := by omega
                  subst e17
                  go_wp2_with fail
                  refine (SegDistSq_in _ A B C D E F HIN.out).mono ?_
                  rintro e w5 ⟨rfl, b5⟩
                  have fb := far_bd HIN.out
                  have HF := hide (hit_far (a := A) (b := B) (c := C) (d := D) (e := E) (f := F) hG)
                  generalize farV ((E - A) * (C - A) + (F - B) * (D - B)) ((C - A) * (C - A) + (D - B) * (D - B)) ((C - A) * (F - B) - (D - B) * (E - A)) ((E - A) * (E - A) + (F - B) * (F - B)) ((E - A - (C - A)) * (E - A - (C - A)) + (F - B - (D - B)) * (F - B - (D - B))) = far at fb HF ⊢
                  replace x0 := cellKeep b5 x0
                  replace x1 := cellKeep b5 x1
                  replace i1 := hide (i1.out.below b5)
                  replace HB := hide (lecB HB.out b5)
                  clear b5 u0 u1 u2 u3 u4 u5 u6 u7
                  go_upto_region 19 with fail
                  have yS := And.intro x0 x1
                  clear x0 x1
                  have ytok1 : True := trivial
                  have ytok2 : True := trivial
                  go_region_held3 (fun w' => w'.cell? ⟨p, 0, none⟩ = some (.bool s1) ∧ w'.cell? ⟨p, 1, none⟩ = some (.slice a1 n1 c1)) (first | (with_reducible exact yS) | (with_reducible exact (by simpa only [World.cell?_drew] using yS)) | (simp [*, go_sem, World.cell?_alloc_some]; done))
                    (first
                      | (go_at_call 15; have _t := ytok1; clear ytok1; refine (Of_any _ (far) (by omega) (by omega)).mono ?_; rintro e yw1 ⟨ys1, ya1, yn1, yc1, rfl, yi1, yb1⟩; (try replace yb1 := of_drew yb1); have i1 := hide (i1.out.below yb1); have yS := (And.intro (cellKeep yb1 yS.1) (cellKeep yb1 yS.2)); have HB := hide (lecB HB.out yb1); clear yb1; have yI1 := hide yi1; clear yi1)
                      | (go_at_call 24; have _t := ytok2; clear ytok2; refine (Cmp_any _ ys1 s1 ya1 a1 yn1 n1 yc1 c1 2 4 4 (far) (Gg * Gg) (by omega) (by omega) (by omega) yI1.out i1.out).mono ?_; rintro e yw2 ⟨rfl, yb2⟩; (try replace yb2 := of_drew yb2); have i1 := hide (i1.out.below yb2); have yI1 := hide (yI1.out.below yb2); have yS := (And.intro (cellKeep yb2 yS.1) (cellKeep yb2 yS.2)); have HB := hide (lecB HB.out yb2); clear yb2))
                  have hE : hitB A B C D E F Gg = decide (sgn (far - Gg * Gg) ≤ 0) := by
                    rw [HF.out, Bool.eq_iff_iff, decide_eq_true_iff, decide_eq_true_iff, sgn_le]
                    omega
                  rw [hE]
                  clear hE HF
                  generalize sgn (far - Gg * Gg) = q
                  generalize decide (q ≤ 0) = bb
                  cases bb
                  all_goals
                    go_wp2
                    go_roundw
                    case rel => exact ⟨k + 1, by omega, by go_num, HBel.out.trans ((lecB B3.out HB.out).mono HBel.out.size)⟩
                    case measure => simp [intOf]; omega
            · go_wp2
              go_roundw
              case rel => exact ⟨k + 1, by omega, by go_num, HBel.out.trans (B1.out.mono HBel.out.size)⟩
              case measure => simp [intOf]; omega
        · have hne : (kd != 57) = true := by simp [h57]
          clear h57
          go_wp2
          go_roundw
          case rel => exact ⟨k + 1, by omega, by go_num, HBel.out.trans (BB.out.mono HBel.out.size)⟩
          case measure => simp [intOf]; omega
      · go_wp2
        go_ret
        exact ⟨rfl, hbel⟩
  · go_enter Try.func8, Try.ntmps8
    go_wp2_with fail
    refine (small_any _ a n cap hn).mono ?_
    rintro e w' ⟨rfl, rfl⟩
    have hd : decide (n ≤ 65536) = false := by simpa using hsm
    rw [hd]
    clear hd
    go_wp2
    go_ret
    exact ⟨rfl, Below.refl _ _⟩
end Go.Proofs.Qxb6500775a
