import Derived.Test.Qxb6500775aSgn
import Derived.Test.Qxb6500775aGain
namespace Go.Proofs.Qxb6500775a
open Go.RowKit

theorem absI128_any (w : World) (h l : Int) (h0 : -9223372036854775808 ≤ h) (h1 : h < 9223372036854775808) (hl : Word l) :
    Calls Try.prog 94 #[.agg #[.int .i64 h, .int .u64 l]] w fun e w' => e = .returned (.agg #[.int .u64 (abs' (v128 h l) / 18446744073709551616), .int .u64 (abs' (v128 h l) % 18446744073709551616)]) ∧ Below w.heap.size w w' := by
  obtain ⟨l0, l1⟩ := hl
  by_cases hs : 0 ≤ h
  · have ea : abs' (v128 h l) = v128 h l := by rw [abs', if_neg]; unfold v128; omega
    rw [ea]
    clear ea
    go_enter Try.func94, Try.ntmps94
    go_wp2
    refine bodyPost_ret (v := .agg #[.int .u64 _, .int .u64 _]) (by simp [results, Try.results94, go_sem]; exact ⟨rfl, rfl⟩) rfl ⟨ret_agg2 ?_ ?_, ((Below.refl _ _).alloc (Nat.le_refl _) _).alloc (by simp) _⟩
    · unfold v128; omega
    · unfold v128; omega
  · have ea : abs' (v128 h l) = -(v128 h l) := by rw [abs', if_pos]; unfold v128; omega
    rw [ea]
    have hx : bits BinOp.xor .u64 IntKind.u64.max (IntKind.u64.wrap h) = -1 - h := by
      rw [IntKind.wrap_u64, xor_max _ (by omega) (by omega)]; omega
    have hxw : IntKind.u64.wrap (-1 - h + 1) = - h := by rw [IntKind.wrap_u64]; omega
    by_cases hz : l = 0
    · subst hz
      clear ea
      go_enter Try.func94, Try.ntmps94
      go_wp2
      refine bodyPost_ret (v := .agg #[.int .u64 _, .int .u64 _]) (by simp [results, Try.results94, go_sem]; exact ⟨rfl, rfl⟩) rfl ⟨ret_agg2 ?_ ?_, ((Below.refl _ _).alloc (Nat.le_refl _) _).alloc (by simp) _⟩
      · unfold v128; omega
      · unfold v128; omega
    · have hl' : IntKind.u64.wrap (-l) = 18446744073709551616 - l := by rw [IntKind.wrap_u64]; omega
      have hl2 : (18446744073709551616 - l == 0) = false := by simp; omega
      clear ea
      go_enter Try.func94, Try.ntmps94
      go_wp2
      refine bodyPost_ret (v := .agg #[.int .u64 _, .int .u64 _]) (by simp [results, Try.results94, go_sem]; exact ⟨rfl, rfl⟩) rfl ⟨ret_agg2 ?_ ?_, ((Below.refl _ _).alloc (Nat.le_refl _) _).alloc (by simp) _⟩
      · unfold v128; omega
      · unfold v128; omega
theorem negU128_any (w : World) (h l : Int) (hh : Word h) (hl : Word l) (hm : v128 h l ≤ 170141183460469231731687303715884105728) :
    Calls Try.prog 96 #[.agg #[.int .u64 h, .int .u64 l]] w fun e w' => e = .returned (.agg #[.int .i64 (-(v128 h l) / 18446744073709551616), .int .u64 (-(v128 h l) % 18446744073709551616)]) ∧ Below w.heap.size w w' := by
  obtain ⟨l0, l1⟩ := hl
  obtain ⟨h0, h1⟩ := hh
  have hx : bits BinOp.xor .u64 IntKind.u64.max h = 18446744073709551615 - h := xor_max _ (by omega) (by omega)
  unfold v128 at *
  by_cases hz : l = 0
  · subst hz
    have hxw : IntKind.u64.wrap (18446744073709551615 - h + 1) = (18446744073709551616 - h) % 18446744073709551616 := by rw [IntKind.wrap_u64]; omega
    have hxi : IntKind.i64.wrap ((18446744073709551616 - h) % 18446744073709551616) = -h := by rw [IntKind.wrap_i64]; omega
    go_enter Try.func96, Try.ntmps96
    go_wp2
    refine bodyPost_ret (v := .agg #[.int .i64 _, .int .u64 _]) (by simp [results, Try.results96, go_sem]; exact ⟨rfl, rfl⟩) rfl ⟨ret_agg2 ?_ ?_, ((Below.refl _ _).alloc (Nat.le_refl _) _).alloc (by simp) _⟩
    · simp only [wrap64]; omega
    · omega
  · have hl' : IntKind.u64.wrap (-l) = 18446744073709551616 - l := by rw [IntKind.wrap_u64]; omega
    have hl2 : (18446744073709551616 - l == 0) = false := by simp; omega
    go_enter Try.func96, Try.ntmps96
    go_wp2
    refine bodyPost_ret (v := .agg #[.int .i64 _, .int .u64 _]) (by simp [results, Try.results96, go_sem]; exact ⟨rfl, rfl⟩) rfl ⟨ret_agg2 ?_ ?_, ((Below.refl _ _).alloc (Nat.le_refl _) _).alloc (by simp) _⟩
    · simp only [wrap64]; omega
    · omega
theorem cmp3_gt {a b : Int} (h : b < a) : cmp3 a b = 1 := by rw [cmp3, if_neg (by omega), if_pos h]
theorem cmp3_lt {a b : Int} (h : a < b) : cmp3 a b = -1 := by rw [cmp3, if_pos h]
theorem cmp3_eq {a b : Int} (h : a = b) : cmp3 a b = 0 := by rw [cmp3, if_neg (by omega), if_neg (by omega)]
theorem cmp3_gt0 {a b : Int} : 0 < cmp3 a b ↔ b < a := by unfold cmp3; split <;> (try split) <;> omega
theorem cmp3_lt0 {a b : Int} : cmp3 a b < 0 ↔ a < b := by unfold cmp3; split <;> (try split) <;> omega
theorem fromMax (w : World) : Calls Try.prog 57 #[.int .i64 2147483647] w fun e w' => e = .returned (.agg #[.int .i64 0, .int .u64 2147483647]) ∧ Below w.heap.size w w' := from64_any w 2147483647 (by omega) (by omega)
theorem fromMin (w : World) : Calls Try.prog 57 #[.int .i64 (-2147483648)] w fun e w' => e = .returned (.agg #[.int .i64 (-1), .int .u64 18446744071562067968]) ∧ Below w.heap.size w w' := from64_any w (-2147483648) (by omega) (by omega)
/-- The wide number that clampI128 holds in its box. -/
structure WB (w wx : World) (p : Nat) (h l : Int) : Prop where
  c0 : wx.cell? ⟨p, 0, none⟩ = some (.int .i64 h)
  c1 : wx.cell? ⟨p, 1, none⟩ = some (.int .u64 l)
  bel : Below w.heap.size w wx
theorem WB.below {w wx wy : World} {p : Nat} {h l : Int} (k : WB w wx p h l) (hb : Below wx.heap.size wx wy) : WB w wy p h l := ⟨cellKeep hb k.c0, cellKeep hb k.c1, lec k.bel hb⟩
theorem WB.drew {w wx : World} {p : Nat} {h l : Int} (k : WB w wx p h l) : WB w wx.drew p h l := k.below (Below.refl _ _).drew
set_option maxRecDepth 100000 in
set_option maxHeartbeats 1000000 in
/-- clampI128 into the range of Fix. -/
theorem clampI_any (w : World) (h l : Int) (hl : Word l) :
    Calls Try.prog 91 #[.agg #[.int .i64 h, .int .u64 l], .int .i64 (-2147483648), .int .i64 2147483647] w fun e w' => e = .returned (.tuple #[.int .i64 (clampV (v128 h l)), .bool (decide (clampE (v128 h l) = 1))]) ∧ Below w.heap.size w w' := by
  obtain ⟨x, hx⟩ : ∃ x, v128 h l = x := ⟨_, rfl⟩
  have HX := hide hx
  rw [hx]
  have hv1 : v128 0 2147483647 = 2147483647 := by decide
  have hv2 : v128 (-1) 18446744071562067968 = -2147483648 := by decide
  have hcmp := fun w => hide (cmpI128_any w h l 0 2147483647 hl ⟨by omega, by omega⟩)
  have hcmp2 := fun w => hide (cmpI128_any w h l (-1) 18446744071562067968 hl ⟨by omega, by omega⟩)
  rw [hx, hv1] at hcmp
  rw [hx, hv2] at hcmp2
  clear hv1 hv2
  have hl0 := hl.1
  have hl1 := hl.2
  rcases (by omega : 2147483647 < x ∨ x < -2147483648 ∨ (-2147483648 ≤ x ∧ x ≤ 2147483647)) with hc | hc | ⟨hc, hc'⟩
  · have e1 : clampV x = 2147483647 := by rw [clampV, if_pos hc]
    have e2 : clampE x = 1 := by rw [clampE, if_pos hc]
    rw [e1, e2]
    rw [cmp3_gt hc] at hcmp
    clear hx hcmp2 e1 e2
    go_enter Try.func91, Try.ntmps91
    go_upto_region 1 with fail
    have HW : Hid (WB w (w.alloc (.cells #[.int .i64 h, .int .u64 l] 78)) w.heap.size h l) := ⟨by simp [go_sem], by simp [go_sem], (Below.refl _ _).alloc (Nat.le_refl _) _⟩
    generalize w.alloc (.cells #[.int .i64 h, .int .u64 l] 78) = W at *
    generalize w.heap.size = p at HW ⊢
    have c0 := HW.out.drew.c0
    have c1 := HW.out.drew.c1
    go_region_law (first
      | (refine step_call rfl 57 #[.int .i64 2147483647] ?_ (fromMax _) ?_; (focus (simp [go_sem]; done)); rintro e w6 ⟨rfl, b6⟩; refine ⟨_, rfl, ?_⟩; have HW6 := hide (HW.out.drew.below b6); have y0 := HW6.out.c0; have y1 := HW6.out.c1; clear b6)
      | (refine step_call rfl 118 #[.agg #[.int .i64 h, .int .u64 l], .agg #[.int .i64 0, .int .u64 2147483647]] ?_ (hcmp _).out ?_; (focus (simp [go_sem]; done)); rintro e w7 ⟨rfl, b7⟩; refine ⟨_, rfl, ?_⟩; have HW7 := hide (HW6.out.below b7); clear b7))
    all_goals
      go_wp2
      exact bodyPost_ret (v := .tuple #[.int .i64 2147483647, .bool true]) (by simp [results, Try.results91, go_sem]) rfl ⟨rfl, HW7.out.bel⟩
  · have e1 : clampV x = -2147483648 := by rw [clampV, if_neg (by omega), if_pos hc]
    have e2 : clampE x = 1 := by rw [clampE, if_neg (by omega), if_pos hc]
    rw [e1, e2]
    rw [cmp3_lt (by omega)] at hcmp
    rw [cmp3_lt hc] at hcmp2
    clear hx e1 e2
    go_enter Try.func91, Try.ntmps91
    go_upto_region 1 with fail
    have HW : Hid (WB w (w.alloc (.cells #[.int .i64 h, .int .u64 l] 78)) w.heap.size h l) := ⟨by simp [go_sem], by simp [go_sem], (Below.refl _ _).alloc (Nat.le_refl _) _⟩
    generalize w.alloc (.cells #[.int .i64 h, .int .u64 l] 78) = W at *
    generalize w.heap.size = p at HW ⊢
    have c0 := HW.out.drew.c0
    have c1 := HW.out.drew.c1
    go_cut [12] (fun s wx => s = .bool false ∧ WB w wx p h l)
    case first =>
      go_region_law (first
        | (refine step_call rfl 57 #[.int .i64 2147483647] ?_ (fromMax _) ?_; (focus (simp [go_sem]; done)); rintro e w6 ⟨rfl, b6⟩; refine ⟨_, rfl, ?_⟩; have HW6 := hide (HW.out.drew.below b6); have y0 := HW6.out.c0; have y1 := HW6.out.c1; clear b6)
        | (refine step_call rfl 118 #[.agg #[.int .i64 h, .int .u64 l], .agg #[.int .i64 0, .int .u64 2147483647]] ?_ (hcmp _).out ?_; (focus (simp [go_sem]; done)); rintro e w7 ⟨rfl, b7⟩; refine ⟨_, rfl, ?_⟩; have HW7 := hide (HW6.out.below b7); clear b7))
      all_goals
        go_wp2_with fail
        go_meet
        case rel => exact ⟨rfl, HW7.out⟩
    obtain ⟨rfl, hw2⟩ := hcut
    clear HW c0 c1
    have HW := hide hw2
    have c0 := HW.out.drew.c0
    have c1 := HW.out.drew.c1
    clear hw2
    go_upto_region 3 with fail
    go_region_law (first
      | (refine step_call rfl 57 #[.int .i64 (-2147483648)] ?_ (fromMin _) ?_; (focus (simp [go_sem]; done)); rintro e w6 ⟨rfl, b6⟩; refine ⟨_, rfl, ?_⟩; have HW6 := hide (HW.out.drew.below b6); have y0 := HW6.out.c0; have y1 := HW6.out.c1; clear b6)
      | (refine step_call rfl 118 #[.agg #[.int .i64 h, .int .u64 l], .agg #[.int .i64 (-1), .int .u64 18446744071562067968]] ?_ (hcmp2 _).out ?_; (focus (simp [go_sem]; done)); rintro e w7 ⟨rfl, b7⟩; refine ⟨_, rfl, ?_⟩; have HW7 := hide (HW6.out.below b7); clear b7))
    all_goals
      go_wp2
      exact bodyPost_ret (v := .tuple #[.int .i64 (-2147483648), .bool true]) (by simp [results, Try.results91, go_sem]) rfl ⟨rfl, HW7.out.bel⟩
  · have e1 : clampV x = x := by rw [clampV, if_neg (by omega), if_neg (by omega)]
    have e2 : clampE x = 0 := by rw [clampE, if_neg (by omega), if_neg (by omega)]
    rw [e1, e2]
    have hx' := hx
    unfold v128 at hx'
    have hlx : IntKind.i64.wrap l = x := by rw [IntKind.wrap_i64]; omega
    have g1 : decide (0 < cmp3 x 2147483647) = false := by simp [cmp3_gt0]; omega
    have g2 : decide (cmp3 x (-2147483648) < 0) = false := by simp [cmp3_lt0]; omega
    have G1 := hide g1
    have G2 := hide g2
    have HLX := hide hlx
    clear hx e1 e2 hx' g1 g2 hlx
    go_enter Try.func91, Try.ntmps91
    go_upto_region 1 with fail
    have HW : Hid (WB w (w.alloc (.cells #[.int .i64 h, .int .u64 l] 78)) w.heap.size h l) := ⟨by simp [go_sem], by simp [go_sem], (Below.refl _ _).alloc (Nat.le_refl _) _⟩
    generalize w.alloc (.cells #[.int .i64 h, .int .u64 l] 78) = W at *
    generalize w.heap.size = p at HW ⊢
    have c0 := HW.out.drew.c0
    have c1 := HW.out.drew.c1
    go_cut [12] (fun s wx => s = .bool false ∧ WB w wx p h l)
    case first =>
      go_region_law (first
        | (refine step_call rfl 57 #[.int .i64 2147483647] ?_ (fromMax _) ?_; (focus (simp [go_sem]; done)); rintro e w6 ⟨rfl, b6⟩; refine ⟨_, rfl, ?_⟩; have HW6 := hide (HW.out.drew.below b6); have y0 := HW6.out.c0; have y1 := HW6.out.c1; clear b6)
        | (refine step_call rfl 118 #[.agg #[.int .i64 h, .int .u64 l], .agg #[.int .i64 0, .int .u64 2147483647]] ?_ (hcmp _).out ?_; (focus (simp [go_sem]; done)); rintro e w7 ⟨rfl, b7⟩; refine ⟨_, rfl, ?_⟩; have HW7 := hide (HW6.out.below b7); clear b7))
      all_goals
        go_wp2_with fail
        go_meet
        case rel => exact ⟨by rw [G1.out], HW7.out⟩
    obtain ⟨rfl, hw2⟩ := hcut
    clear HW c0 c1
    have HW := hide hw2
    have c0 := HW.out.drew.c0
    have c1 := HW.out.drew.c1
    clear hw2
    go_upto_region 3 with fail
    go_cut [18] (fun s wx => s = .bool false ∧ WB w wx p h l)
    case first =>
      go_region_law (first
        | (refine step_call rfl 57 #[.int .i64 (-2147483648)] ?_ (fromMin _) ?_; (focus (simp [go_sem]; done)); rintro e w6 ⟨rfl, b6⟩; refine ⟨_, rfl, ?_⟩; have HW6 := hide (HW.out.drew.below b6); have y0 := HW6.out.c0; have y1 := HW6.out.c1; clear b6)
        | (refine step_call rfl 118 #[.agg #[.int .i64 h, .int .u64 l], .agg #[.int .i64 (-1), .int .u64 18446744071562067968]] ?_ (hcmp2 _).out ?_; (focus (simp [go_sem]; done)); rintro e w7 ⟨rfl, b7⟩; refine ⟨_, rfl, ?_⟩; have HW7 := hide (HW6.out.below b7); clear b7))
      all_goals
        go_wp2_with fail
        go_meet
        case rel => exact ⟨by rw [G2.out], HW7.out⟩
    obtain ⟨rfl, hw2⟩ := hcut
    clear HW c0 c1
    have HW := hide hw2
    have c0 := HW.out.c0
    have c1 := HW.out.c1
    clear hw2
    have hlx := HLX.out
    go_wp2
    refine bodyPost_ret (v := .tuple #[.int .i64 x, .bool false]) (by simp [results, Try.results91, go_sem]) rfl ⟨rfl, HW.out.bel⟩
end Go.Proofs.Qxb6500775a
