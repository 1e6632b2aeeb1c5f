import Derived.Test.Qxb6500775aClm
import Derived.Test.Qxb6500775aRat2
import Derived.Test.Qxb6500775aDecW
namespace Go.Proofs.Qxb6500775a
open Go.RowKit

theorem CT.boxes {w : World} {NL NR : Nat} {L R : Int} {s1 s2 : Bool} {a1 a2 : Option Addr} {n1 c1 n2 c2 : Nat} (i1 : IsI NL w s1 a1 n1 c1 L) (i2 : IsI NR w s2 a2 n2 c2 R) :
    CT w ((w.alloc (.cells #[.bool s1, .slice a1 n1 c1] 26)).alloc (.cells #[.bool s2, .slice a2 n2 c2] 26)) w.heap.size (w.heap.size + 1) NL NR L R := by
  refine ⟨(varNew i1).below ((Below.refl _ _).alloc (Nat.le_refl _) _), ?_, fun j => by simp [go_sem], fun j => by simp [go_sem], ((Below.refl _ _).alloc (Nat.le_refl _) _).alloc (by simp) _, Nat.le_refl _, by omega, by omega⟩
  have := varNew (i2.al (.cells #[.bool s1, .slice a1 n1 c1] 26))
  simpa using this
set_option maxRecDepth 100000 in
set_option maxHeartbeats 4000000 in
theorem clamp_core (w : World) (q e : Int) (s1 s2 : Bool) (a1 a2 : Option Addr) (n1 c1 n2 c2 NL NR : Nat) (L R L' R' : Int) (al be : Bool) (hq : -2147483648 ≤ q ∧ q ≤ 2147483647)
    (hNL : NL ≤ 1000) (hNR : NR ≤ 1000) (i1 : IsI NL w s1 a1 n1 c1 L) (i2 : IsI NR w s2 a2 n2 c2 R) (hL : L' = if R < 0 then -L else L) (hR : R' = if R < 0 then -R else R)
    (hal : decide (sgn (q * R' - L') ≤ 0) = al) (hbe : decide (sgn (L' - (q + 1) * R') < 0) = be)
    (hc : (e = 0 ∧ al = true ∧ be = true) ∨ (e = 1 ∧ q = 2147483647 ∧ be = false) ∨ (e = 1 ∧ q = -2147483648 ∧ al = false)) :
    Calls Try.prog 17 #[.int .i64 q, .int .i64 e, .agg #[.bool s1, .slice a1 n1 c1], .agg #[.bool s2, .slice a2 n2 c2]] w fun x w' => x = .returned (.bool true) ∧ Below w.heap.size w w' := by
  have HAL := hide hal
  have HBE := hide hbe
  have HCC := hide hc
  have HC := hide (CT.boxes i1 i2)
  have HLR := hide (And.intro hL hR)
  clear hal hbe i1 i2 hc hL hR
  obtain ⟨q1, hq1⟩ : ∃ q1, q + 1 = q1 := ⟨_, rfl⟩
  rw [hq1] at HBE
  have hq1b : -2147483648 ≤ q1 ∧ q1 ≤ 2147483648 := by omega
  have hq1w : IntKind.i64.wrap q1 = q1 := by rw [IntKind.wrap_i64]; omega
  go_enter Try.func17, Try.ntmps17
  go_upto_region 1 with fail
  generalize (w.alloc (.cells #[.bool s1, .slice a1 n1 c1] 26)).alloc (.cells #[.bool s2, .slice a2 n2 c2] 26) = W at *
  obtain ⟨p7, hp7⟩ : ∃ p, w.heap.size + 1 = p := ⟨_, rfl⟩
  rw [hp7] at HC ⊢
  clear hp7
  generalize w.heap.size = p6 at HC ⊢
  obtain ⟨sr, ar, nr, cr, r0, r1, ir⟩ := HC.out.r
  have IR := hide ir
  clear ir
  go_wp2_with fail
  refine (Sign_any _ sr ar nr cr NR R IR.out).mono ?_
  rintro x w1 ⟨rfl, b1⟩
  have HC1 := hide (HC.out.below b1)
  clear b1 HC IR r0 r1
  go_upto_if 13 with fail
  go_cut [17] (fun _ wx => CT w wx p6 p7 NL NR L' R')
  case first =>
    by_cases hneg : R < 0
    · have hd : decide (sgn R < 0) = true := by rw [sgn_neg hneg]; rfl
      rw [hd]
      clear hd
      have hLR := HLR.out
      rw [if_pos hneg, if_pos hneg] at hLR
      have HLR2 := hide hLR
      clear hLR
      obtain ⟨sl, al', nl, cl, l0, l1, il⟩ := HC1.out.l
      have IL := hide il
      clear il
      go_wp2_with fail
      refine (Neg_any _ sl al' nl cl NL L IL.out).mono ?_
      rintro x w2 ⟨s3, a3, n3, c3, rfl, i3, b3⟩
      have HC2 := hide ((HC1.out.below b3).setL i3)
      have x0 := cellKeep b3 l0
      have x1 := cellKeep b3 l1
      have xf := (HC1.out.below b3).lf
      clear i3 b3 IL l0 l1
      go_upto_region 3 with fail
      generalize (w2.setCell ⟨p6, 0, none⟩ (.bool s3)).setCell ⟨p6, 1, none⟩ (.slice a3 n3 c3) = W2 at *
      clear x0 x1 xf
      obtain ⟨sr, ar, nr, cr, r0, r1, ir⟩ := HC2.out.r
      have IR := hide ir
      clear ir
      go_wp2_with fail
      refine (Neg_any _ sr ar nr cr NR R IR.out).mono ?_
      rintro x w3 ⟨s4, a4, n4, c4, rfl, i4, b4⟩
      have HC3 := hide ((HC2.out.below b4).setR i4)
      have x0 := cellKeep b4 r0
      have x1 := cellKeep b4 r1
      have xf := (HC2.out.below b4).rf
      clear i4 b4 IR r0 r1
      go_wp2
      go_meet
      case rel => rw [HLR2.out.1, HLR2.out.2]; exact HC3.out
    · have hd : decide (sgn R < 0) = false := by have := sgn_rng R; rcases (by omega : R = 0 ∨ 0 < R) with z | z; (subst z; rfl); (rw [sgn_pos z]; rfl)
      rw [hd]
      clear hd
      have hLR := HLR.out
      rw [if_neg hneg, if_neg hneg] at hLR
      have HLR2 := hide hLR
      clear hLR
      go_wp2
      go_meet
      case rel => rw [HLR2.out.1, HLR2.out.2]; exact HC1.out
  have HC2 := hide hcut
  clear hcut HC1 HLR
  go_upto_region 4 with fail
  go_cut [9] (fun s wx => s = .bool al ∧ CT w wx p6 p7 NL NR L' R')
  case first =>
    obtain ⟨sl, al', nl, cl, l0, l1, il⟩ := HC2.out.drew.l
    obtain ⟨sr, ar, nr, cr, r0, r1, ir⟩ := HC2.out.drew.r
    have IL := hide il
    have IR := hide ir
    clear il ir
    go_region_law (first
      | (refine step_call rfl 15 #[.int .i64 q] ?_ (Of_any _ q (by omega) (by omega)) ?_; (focus (simp [go_sem]; done)); rintro x w6 ⟨s6, a6, n6, c6, rfl, i6, b6⟩; refine ⟨_, rfl, ?_⟩; have I6 := hide i6; have HC6 := hide (HC2.out.drew.below b6); have IL6 := hide (IL.out.below b6); have IR6 := hide (IR.out.below b6); have y0 := cellKeep b6 r0; have y1 := cellKeep b6 r1; have y2 := cellKeep b6 l0; have y3 := cellKeep b6 l1; clear b6 i6)
      | (refine step_call rfl 18 #[.agg #[.bool s6, .slice a6 n6 c6], .agg #[.bool sr, .slice ar nr cr]] ?_ (Mul_any _ s6 sr a6 ar n6 nr c6 cr 2 NR q R' (by omega) I6.out IR6.out) ?_; (focus (simp [go_sem]; done)); rintro x w7 ⟨s7, a7, n7, c7, rfl, i7, b7⟩; refine ⟨_, rfl, ?_⟩; have I7 := hide i7; have HC7 := hide (HC6.out.below b7); have IL7 := hide (IL6.out.below b7); have z2 := cellKeep b7 y2; have z3 := cellKeep b7 y3; clear b7 i7)
      | (refine step_call rfl 24 #[.agg #[.bool s7, .slice a7 n7 c7], .agg #[.bool sl, .slice al' nl cl]] ?_ (Cmp_any _ s7 sl a7 al' n7 nl c7 cl (2 + NR) NL 2000 (q * R') L' (by omega) (by omega) (by omega) I7.out IL7.out) ?_; (focus (simp [go_sem]; done)); rintro x w8 ⟨rfl, b8⟩; refine ⟨_, rfl, ?_⟩; have HC8 := hide (HC7.out.below b8); clear b8))
    all_goals
      go_wp2_with fail
      go_meet
      case rel => exact ⟨by rw [HAL.out], HC8.out⟩
  obtain ⟨rfl, hc3⟩ := hcut
  have HC3 := hide hc3
  clear hc3 HC2 HAL
  go_upto_region 5 with fail
  go_cut [10] (fun s wx => s = .bool be ∧ CT w wx p6 p7 NL NR L' R')
  case first =>
    obtain ⟨sl, al', nl, cl, l0, l1, il⟩ := HC3.out.drew.l
    obtain ⟨sr, ar, nr, cr, r0, r1, ir⟩ := HC3.out.drew.r
    have IL := hide il
    have IR := hide ir
    clear il ir
    go_region_law (first
      | (refine step_call rfl 15 #[.int .i64 q1] ?_ (Of_any _ q1 (by omega) (by omega)) ?_; (focus (simp [go_sem]; done)); rintro x w6 ⟨s6, a6, n6, c6, rfl, i6, b6⟩; refine ⟨_, rfl, ?_⟩; have I6 := hide i6; have HC6 := hide (HC3.out.drew.below b6); have IL6 := hide (IL.out.below b6); have IR6 := hide (IR.out.below b6); have y0 := cellKeep b6 r0; have y1 := cellKeep b6 r1; have y2 := cellKeep b6 l0; have y3 := cellKeep b6 l1; clear b6 i6)
      | (refine step_call rfl 18 #[.agg #[.bool s6, .slice a6 n6 c6], .agg #[.bool sr, .slice ar nr cr]] ?_ (Mul_any _ s6 sr a6 ar n6 nr c6 cr 2 NR q1 R' (by omega) I6.out IR6.out) ?_; (focus (simp [go_sem]; done)); rintro x w7 ⟨s7, a7, n7, c7, rfl, i7, b7⟩; refine ⟨_, rfl, ?_⟩; have I7 := hide i7; have HC7 := hide (HC6.out.below b7); have IL7 := hide (IL6.out.below b7); have z2 := cellKeep b7 y2; have z3 := cellKeep b7 y3; clear b7 i7)
      | (refine step_call rfl 24 #[.agg #[.bool sl, .slice al' nl cl], .agg #[.bool s7, .slice a7 n7 c7]] ?_ (Cmp_any _ sl s7 al' a7 nl n7 cl c7 NL (2 + NR) 2000 L' (q1 * R') (by omega) (by omega) (by omega) IL7.out I7.out) ?_; (focus (simp [go_sem]; done)); rintro x w8 ⟨rfl, b8⟩; refine ⟨_, rfl, ?_⟩; have HC8 := hide (HC7.out.below b8); clear b8))
    all_goals
      go_wp2_with fail
      go_meet
      case rel => exact ⟨by rw [HBE.out], HC8.out⟩
  obtain ⟨rfl, hc4⟩ := hcut
  have HC4 := hide hc4
  clear hc4 HC3 HBE
  rcases HCC.out with ⟨rfl, rfl, rfl⟩ | ⟨rfl, rfl, rfl⟩ | ⟨rfl, rfl, rfl⟩
  · go_wp2
    go_ret
    exact ⟨rfl, HC4.out.bel⟩
  · go_wp2
    go_ret
    exact ⟨rfl, HC4.out.bel⟩
  · go_wp2
    go_ret
    exact ⟨rfl, HC4.out.bel⟩
/-- isClampedFloor at the clamped floor. -/
theorem isClamp_any (w : World) (s1 s2 : Bool) (a1 a2 : Option Addr) (n1 c1 n2 c2 NL NR : Nat) (L R : Int) (hNL : NL ≤ 1000) (hNR : NR ≤ 1000) (i1 : IsI NL w s1 a1 n1 c1 L) (i2 : IsI NR w s2 a2 n2 c2 R) (hz : R ≠ 0) :
    Calls Try.prog 17 #[.int .i64 (clampV (fq L R)), .int .i64 (clampE (fq L R)), .agg #[.bool s1, .slice a1 n1 c1], .agg #[.bool s2, .slice a2 n2 c2]] w fun x w' => x = .returned (.bool true) ∧ Below w.heap.size w w' := by
  obtain ⟨L', hL⟩ : ∃ L', L' = if R < 0 then -L else L := ⟨_, rfl⟩
  obtain ⟨R', hR⟩ : ∃ R', R' = if R < 0 then -R else R := ⟨_, rfl⟩
  have hR0 : 0 < R' := by rw [hR]; split <;> omega
  have hf : fq L R = L' / R' := by
    unfold fq
    rw [hL, hR]
    by_cases h : R < 0
    · rw [if_neg (by omega), if_pos h, if_pos h]
    · rw [if_pos (by omega), if_neg h, if_neg h]
  obtain ⟨f, hff⟩ : ∃ f, L' / R' = f := ⟨_, rfl⟩
  rw [hf, hff]
  have e1 := Int.mul_ediv_add_emod L' R'
  have r0 := Int.emod_nonneg L' (show R' ≠ 0 by omega)
  have r1 := Int.emod_lt_of_pos L' hR0
  rw [hff] at e1
  have key : ∀ x : Int, x ≤ f → x * R' ≤ L' := fun x hx => by have := Int.mul_le_mul_of_nonneg_right hx (Int.le_of_lt hR0); rw [Int.mul_comm f] at this; omega
  have key2 : ∀ x : Int, f < x → L' < x * R' := fun x hx => by
    have := Int.mul_le_mul_of_nonneg_right (show f + 1 ≤ x by omega) (Int.le_of_lt hR0)
    rw [Int.add_mul, Int.mul_comm f] at this; omega
  refine clamp_core w _ _ s1 s2 a1 a2 n1 c1 n2 c2 NL NR L R L' R' _ _ ?_ hNL hNR i1 i2 hL hR rfl rfl ?_
  · unfold clampV; split; omega; split <;> omega
  · rcases (by omega : 2147483647 < f ∨ f < -2147483648 ∨ (-2147483648 ≤ f ∧ f ≤ 2147483647)) with h | h | ⟨h, h'⟩
    · right; left
      have ev : clampV f = 2147483647 := by rw [clampV, if_pos h]
      have ee : clampE f = 1 := by rw [clampE, if_pos h]
      rw [ev, ee]
      refine ⟨rfl, rfl, ?_⟩
      rw [show (2147483647 + 1 : Int) = 2147483648 from rfl]
      have := key 2147483648 (by omega)
      have := sgn_lt0 (z := L' - 2147483648 * R')
      simp; omega
    · right; right
      have ev : clampV f = -2147483648 := by rw [clampV, if_neg (by omega), if_pos h]
      have ee : clampE f = 1 := by rw [clampE, if_neg (by omega), if_pos h]
      rw [ev, ee]
      refine ⟨rfl, rfl, ?_⟩
      have := key2 (-2147483648) (by omega)
      have := sgn_le0 (z := -2147483648 * R' - L')
      simp; omega
    · left
      have ev : clampV f = f := by rw [clampV, if_neg (by omega), if_neg (by omega)]
      have ee : clampE f = 0 := by rw [clampE, if_neg (by omega), if_neg (by omega)]
      rw [ev, ee]
      have := key f (by omega)
      have := key2 (f + 1) (by omega)
      have := sgn_le0 (z := f * R' - L')
      have := sgn_lt0 (z := L' - (f + 1) * R')
      exact ⟨rfl, by simp; omega, by simp; omega⟩
end Go.Proofs.Qxb6500775a
