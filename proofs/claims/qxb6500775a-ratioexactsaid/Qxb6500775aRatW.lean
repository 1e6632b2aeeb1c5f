import Derived.Test.Qxb6500775aRat3
import Derived.Test.Qxb6500775aDecW
import Derived.Test.Qxb6500775aOps
namespace Go.Proofs.Qxb6500775a
open Go.RowKit

theorem sgn_le' {z : Int} (h : 0 < z) : decide (sgn z ≤ 0) = false := by have := sgn_le0 (z := z); simp; omega
/-- What the law on ratios has at hand in a round: the tables b, the step at po. -/
structure RI (w wx : World) (b po : Nat) (kd A : Int) : Prop where
  tab : Tabs wx b
  o0 : wx.cell? ⟨po, 0, none⟩ = some (.int .i64 kd)
  o1 : wx.cell? ⟨po, 1, none⟩ = some (.int .i64 A)
  bel : Below b w wx
  sz : b ≤ wx.heap.size
theorem RI.below {w wx wy : World} {b po : Nat} {kd A : Int} (h : RI w wx b po kd A) (hb : Below wx.heap.size wx wy) : RI w wy b po kd A :=
  ⟨h.tab.below hb, cellKeep hb h.o0, cellKeep hb h.o1, h.bel.trans (hb.mono h.sz), Nat.le_trans h.sz hb.size⟩
theorem RI.drew {w wx : World} {b po : Nat} {kd A : Int} (h : RI w wx b po kd A) : RI w wx.drew b po kd A := h.below (Below.refl _ _).drew
set_option maxRecDepth 100000 in
set_option maxHeartbeats 8000000 in
theorem ratioExact_walk (w : World) (a : Option Addr) (n cap : Nat) (f : Nat → Nat → Int) (hn : n ≤ 9223372036854775807) (ho : OpsAt w a n f) :
    Calls Try.prog 11 #[.slice a n cap] w fun e w' => e = .returned (.bool true) ∧ Below w.heap.size w w' := by
  have HO := hide ho
  clear ho
  by_cases hsm : n ≤ 65536
  · go_enter Try.func11, Try.ntmps11
    go_wp2_with fail
    refine (small_any _ a n cap hn).mono ?_
    rintro e w' ⟨rfl, rfl⟩
    have hd : decide (n ≤ 65536) = true := by simpa using hsm
    rw [hd]
    clear hd
    go_wp2_with fail
    refine (new_any _).mono ?_
    rintro e w1 ⟨rfl, ht, hb⟩
    have HT := hide ht
    have HB := hide hb
    clear ht hb
    generalize hbb : w'.heap.size = b at *
    go_wp2
    go_loopw [4] (fun i wr => ∃ k : Nat, k ≤ n ∧ i = .int .i64 k ∧ Below b w' wr ∧ Tabs wr b) (fun i _ => n - (intOf i).toNat)
    case atStart => exact ⟨0, Nat.zero_le _, rfl, HB.out, HT.out⟩
    case round =>
      clear HT HB
      obtain ⟨k, hk, rfl, hbel, htab⟩ := hrel
      by_cases hlt : k < n
      · obtain ⟨bo, off, rfl, hf⟩ := HO.out k hlt
        have hc : ∀ j, j < 8 → wr.cell? ⟨bo, off + k * 8 + j, none⟩ = some (.int .i64 (f k j)) := fun j hj => (hbel.cell (by rw [← hbb]; exact World.block_lt_of_cell? _ _ (hf j hj).1)).trans (hf j hj).1
        have o0 : wr.cell? ⟨bo, off + k * 8, none⟩ = some (.int .i64 (f k 0)) := by simpa using hc 0 (by omega)
        have o1 := hc 1 (by omega)
        have o2 := hc 2 (by omega)
        have o3 := hc 3 (by omega)
        have o4 := hc 4 (by omega)
        have o5 := hc 5 (by omega)
        have o6 := hc 6 (by omega)
        have o7 := hc 7 (by omega)
        have q1 := (hf 1 (by omega)).2
        have HBel := hide hbel
        have HTab := hide htab
        clear hc hf hbel htab
        generalize f k 0 = kd at *
        generalize f k 1 = A at *
        generalize f k 2 = B at *
        generalize f k 3 = C at *
        generalize f k 4 = D at *
        generalize f k 5 = E at *
        generalize f k 6 = F at *
        generalize f k 7 = Gg at *
        go_upto_region 8 with fail
        have BB := hide ((Below.refl wr.heap.size wr).alloc (Nat.le_refl _) (.cells #[.int .i64 kd, .int .i64 A, .int .i64 B, .int .i64 C, .int .i64 D, .int .i64 E, .int .i64 F, .int .i64 Gg] 30))
        have hsz : b ≤ wr.heap.size := by have := HBel.out.size; rw [hbb] at this; exact this
        have HD : Hid (RI w' (wr.alloc (.cells #[.int .i64 kd, .int .i64 A, .int .i64 B, .int .i64 C, .int .i64 D, .int .i64 E, .int .i64 F, .int .i64 Gg] 30)) b wr.heap.size kd A) :=
          ⟨HTab.out.below BB.out, by simp [go_sem], by simp [go_sem], HBel.out.trans (BB.out.mono hsz), Nat.le_trans hsz BB.out.size⟩
        clear o0 o1 o2 o3 o4 o5 o6 o7 HTab HBel BB hsz
        generalize wr.alloc (.cells #[.int .i64 kd, .int .i64 A, .int .i64 B, .int .i64 C, .int .i64 D, .int .i64 E, .int .i64 F, .int .i64 Gg] 30) = W at *
        generalize wr.heap.size = po at *
        have t0 := HD.out.o0
        have t1 := HD.out.o1
        by_cases h64 : kd = 64
        · subst h64
          rcases (by omega : 45 < A ∨ A < -49 ∨ (-49 ≤ A ∧ A ≤ 45)) with hA | hA | ⟨hA1, hA2⟩
          · go_wp2_with fail
            refine (ratio_high _ b A hA).mono ?_
            rintro e w3 ⟨rfl, rfl⟩
            go_wp2
            go_roundw
            case rel => exact ⟨k + 1, by omega, by go_num, HD.out.bel, HD.out.tab⟩
            case measure => simp [intOf]; omega
          · go_wp2_with fail
            refine (ratio_low _ b A hA).mono ?_
            rintro e w3 ⟨rfl, rfl⟩
            have hA3 : ¬ 45 < A := by omega
            go_wp2
            go_roundw
            case rel => exact ⟨k + 1, by omega, by go_num, HD.out.bel, HD.out.tab⟩
            case measure => simp [intOf]; omega
          · obtain ⟨j, hj⟩ : ∃ j : Nat, A + 49 = j := ⟨(A + 49).toNat, by omega⟩
            have hj95 : j < 95 := by omega
            obtain ⟨g1, g2, g3⟩ := gain_at j hj95
            rw [show (j : Int) - 49 = A by omega] at g1 g2
            have hcall := fun w h => hide (ratio_mid w b j A hj hj95 h)
            generalize gainP j = G at *
            have gA : Hid (decide (0 < sgn (tenth (G : Int) A)) = false) := hide (sgn_gt g1)
            have gB : Hid (decide (sgn (tenth ((G : Int) + 1) A) ≤ 0) = false) := hide (sgn_le' g2)
            have hA3 : ¬ 45 < A := by omega
            have hA4 : ¬ A < -49 := by omega
            obtain ⟨G1, hG1⟩ : ∃ G1, (G : Int) + 1 = G1 := ⟨_, rfl⟩
            have hG1b : 0 ≤ G1 ∧ G1 ≤ 2147483648 := by omega
            have hG1w : IntKind.i64.wrap G1 = G1 := by rw [IntKind.wrap_i64]; omega
            rw [hG1] at gB
            have g3' : (G : Int) ≤ 2147483647 := by omega
            clear g1 g2 hj hj95
            go_wp2_with fail
            refine (hcall _ HD.out.tab).out.mono ?_
            rintro e w3 ⟨rfl, rfl⟩
            clear hcall
            go_upto_region 18 with fail
            go_cut [67] (fun s wx => s = .bool false ∧ RI w' wx b po 64 A)
            case first =>
              have u1 := HD.out.drew.o1
              go_region_law (first
                | (refine step_call rfl 15 #[.int .i64 (G : Int)] ?_ (Of_any _ (G : Int) (by omega) (by omega)) ?_; (focus (simp [go_sem]; done)); rintro e w6 ⟨s6, a6, n6, c6, rfl, i6, b6⟩; refine ⟨_, rfl, ?_⟩; have I6 := hide i6; have HD6 := hide (HD.out.drew.below b6); have y1 := HD6.out.o1; clear b6 i6)
                | (refine step_call rfl 41 #[.agg #[.bool s6, .slice a6 n6 c6], .int .i64 A] ?_ (cmpTenth_any _ s6 a6 n6 c6 2 (G : Int) A (by omega) (by omega) (by omega) I6.out) ?_; (focus (simp [go_sem]; done)); rintro e w7 ⟨rfl, b7⟩; refine ⟨_, rfl, ?_⟩; have HD7 := hide (HD6.out.below b7); clear b7))
              all_goals
                go_wp2_with fail
                go_meet
                case rel => exact ⟨by rw [gA.out], HD7.out⟩
            obtain ⟨rfl, hd6⟩ := hcut
            have HD6 := hide hd6
            clear hd6 HD gA t0 t1
            go_upto_region 20 with fail
            go_cut [74] (fun s wx => s = .bool false ∧ RI w' wx b po 64 A)
            case first =>
              have u1 := HD6.out.drew.o1
              go_region_law (first
                | (refine step_call rfl 15 #[.int .i64 G1] ?_ (Of_any _ G1 (by omega) (by omega)) ?_; (focus (simp [go_sem]; done)); rintro e w6 ⟨s6, a6, n6, c6, rfl, i6, b6⟩; refine ⟨_, rfl, ?_⟩; have I6 := hide i6; have HD7 := hide (HD6.out.drew.below b6); have y1 := HD7.out.o1; clear b6 i6)
                | (refine step_call rfl 41 #[.agg #[.bool s6, .slice a6 n6 c6], .int .i64 A] ?_ (cmpTenth_any _ s6 a6 n6 c6 2 G1 A (by omega) (by omega) (by omega) I6.out) ?_; (focus (simp [go_sem]; done)); rintro e w7 ⟨rfl, b7⟩; refine ⟨_, rfl, ?_⟩; have HD8 := hide (HD7.out.below b7); clear b7))
              all_goals
                go_wp2_with fail
                go_meet
                case rel => exact ⟨by rw [gB.out], HD8.out⟩
            obtain ⟨rfl, hd8⟩ := hcut
            have HD := hide hd8
            have t0 := hd8.o0
            have t1 := hd8.o1
            clear hd8 HD6 gB
            go_wp2
            go_roundw
            case rel => exact ⟨k + 1, by omega, by go_num, HD.out.bel, HD.out.tab⟩
            case measure => simp [intOf]; omega
        · have n64 : (kd == 64) = false := by simpa using h64
          clear h64
          by_cases hg : kd = 65 ∧ 1 ≤ A ∧ A ≤ 2147483647
          · obtain ⟨rfl, hA1, hA2⟩ := hg
            go_wp2_with fail
            refine (ratioLevel_any _ b A hA1 hA2 HD.out.tab).mono ?_
            rintro e w3 ⟨kk, rfl, ⟨k1, k2, k3, k4⟩, rfl⟩
            have gA : Hid (decide (sgn (tenth A kk) < 0) = false) := hide (sgn_lt' k3)
            have gB : Hid (decide (0 ≤ sgn (tenth A (kk + 1))) = false) := hide (sgn_ge k4)
            clear k3 k4
            obtain ⟨m, hm⟩ : ∃ m, kk + 1 = m := ⟨_, rfl⟩
            rw [hm] at gB
            have hm1 : -49 ≤ m ∧ m ≤ 46 := by omega
            have hmw : IntKind.i64.wrap m = m := by rw [IntKind.wrap_i64]; omega
            go_wp2_with fail
            refine (Of_any _ A (by omega) (by omega)).mono ?_
            rintro e w6 ⟨s6, a6, n6, c6, rfl, i6, b6⟩
            have I6 := hide i6
            have HD6 := hide (HD.out.below b6)
            clear i6 b6 HD t0 t1
            go_wp2_with fail
            refine (cmpTenth_any _ s6 a6 n6 c6 2 A kk (by omega) (by omega) (by omega) I6.out).mono ?_
            rintro e w7 ⟨rfl, b7⟩
            have HD7 := hide (HD6.out.below b7)
            have t1 := HD7.out.o1
            have hA' := gA.out
            clear b7 HD6 I6
            go_wp2_with fail
            refine (Of_any _ A (by omega) (by omega)).mono ?_
            rintro e w8 ⟨s8, a8, n8, c8, rfl, i8, b8⟩
            have I8 := hide i8
            have HD8 := hide (HD7.out.below b8)
            clear i8 b8 HD7 t1 hA'
            go_wp2_with fail
            refine (cmpTenth_any _ s8 a8 n8 c8 2 A m (by omega) (by omega) (by omega) I8.out).mono ?_
            rintro e w9 ⟨rfl, b9⟩
            have HD := hide (HD8.out.below b9)
            have hB' := gB.out
            clear b9 HD8 I8
            go_wp2
            go_roundw
            case rel => exact ⟨k + 1, by omega, by go_num, HD.out.bel, HD.out.tab⟩
            case measure => simp [intOf]; omega
          · rcases (by omega : kd ≠ 65 ∨ (kd = 65 ∧ A < 1) ∨ (kd = 65 ∧ 1 ≤ A ∧ 2147483647 < A)) with z | ⟨z, z1⟩ | ⟨z, z1, z2⟩
            · have n65 : (kd == 65) = false := by simpa using z
              clear z hg
              go_wp2
              go_roundw
              case rel => exact ⟨k + 1, by omega, by go_num, HD.out.bel, HD.out.tab⟩
              case measure => simp [intOf]; omega
            · subst z
              clear hg
              go_wp2
              go_roundw
              case rel => exact ⟨k + 1, by omega, by go_num, HD.out.bel, HD.out.tab⟩
              case measure => simp [intOf]; omega
            · subst z
              clear hg
              go_wp2
              go_roundw
              case rel => exact ⟨k + 1, by omega, by go_num, HD.out.bel, HD.out.tab⟩
              case measure => simp [intOf]; omega
      · go_wp2
        go_ret
        exact ⟨rfl, by rw [hbb]; exact hbel⟩
  · go_enter Try.func11, Try.ntmps11
    go_wp2_with fail
    refine (small_any _ a n cap hn).mono ?_
    rintro e w' ⟨rfl, rfl⟩
    have hd : decide (n ≤ 65536) = false := by simpa using hsm
    rw [hd]
    clear hd
    go_wp2
    go_ret
    exact ⟨rfl, Below.refl _ _⟩
end Go.Proofs.Qxb6500775a
