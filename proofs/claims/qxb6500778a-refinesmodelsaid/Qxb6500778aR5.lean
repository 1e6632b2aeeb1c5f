import Derived.Test.Qxb6500778aR1
namespace Go.Proofs.Qxb6500778a
open Go.RowKit

set_option linter.unusedSimpArgs false in
set_option maxRecDepth 100000 in
set_option maxHeartbeats 8000000 in
theorem wf_5 (w : World) (dv hp pr ln ix cl : Int) (pm up : Bool) : Calls Try.prog 80 #[.agg #[.int .i64 5, .int .i64 dv, .int .i64 hp, .int .i64 pr, .int .i64 ln, .int .i64 ix, .int .i64 cl, .bool pm, .bool up]] w fun e w' => e = .returned (.bool (wfB ⟨5, dv, hp, pr, ln, ix, cl, pm, up⟩)) ∧ Ex (fun _ => False) w w' := by
  have HE : Hid (Ex (fun _ => False) w (w.alloc (.cells #[.int .i64 5, .int .i64 dv, .int .i64 hp, .int .i64 pr, .int .i64 ln, .int .i64 ix, .int .i64 cl, .bool pm, .bool up] 45))) := (Ex.refl _ w).alloc _
  have nc := fun j u h => new_cells w [.int .i64 5, .int .i64 dv, .int .i64 hp, .int .i64 pr, .int .i64 ln, .int .i64 ix, .int .i64 cl, .bool pm, .bool up] 45 j u h
  have c0 := nc 0 _ rfl
  have c1 := nc 1 _ rfl
  have c2 := nc 2 _ rfl
  have c3 := nc 3 _ rfl
  have c4 := nc 4 _ rfl
  have c5 := nc 5 _ rfl
  have c6 := nc 6 _ rfl
  have c7 := nc 7 _ rfl
  have c8 := nc 8 _ rfl
  simp only [Addr.add_mid, Nat.zero_add] at c0 c1 c2 c3 c4 c5 c6 c7 c8
  clear nc
  have HW : Hid (wfB ⟨5, dv, hp, pr, ln, ix, cl, pm, up⟩ = (gdB dv && ((hp == 0) && (((pr == 0) && (ln == 0)) && (((cl == 0) && !pm) && (ix == 0)))))) := rfl
  rw [HW.out]
  clear HW
  obtain ⟨b_h, hb_h⟩ : ∃ b, (hp == 0) = b := ⟨_, rfl⟩
  obtain ⟨b_p, hb_p⟩ : ∃ b, (pr == 0) = b := ⟨_, rfl⟩
  obtain ⟨b_l, hb_l⟩ : ∃ b, (ln == 0) = b := ⟨_, rfl⟩
  obtain ⟨b_c, hb_c⟩ : ∃ b, (cl == 0) = b := ⟨_, rfl⟩
  obtain ⟨b_i, hb_i⟩ : ∃ b, (ix == 0) = b := ⟨_, rfl⟩
  try rw [hb_h]
  try rw [hb_p]
  try rw [hb_l]
  try rw [hb_c]
  try rw [hb_i]
  cases b_p <;> cases b_c <;> (go_enter Try.func80, Try.ntmps80; go_wp2_with (first | (go_at_call 85; refine (goodDevM_any _ _).mono ?_; rintro e wq ⟨rfl, rfl⟩; simp only []) | (go_at_call 86; refine (goodIdxM_any _ _).mono ?_; rintro e wq ⟨rfl, rfl⟩; simp only []) | (go_at_call 79; refine (goodPrefixM_any _ _ _).mono ?_; rintro e wq ⟨rfl, rfl⟩; simp only [])); all_goals (go_ret; exact ⟨by simp_all <;> (intros; omega), (Ex.refl _ w).alloc _⟩))
set_option linter.unusedSimpArgs false in
set_option maxRecDepth 100000 in
set_option maxHeartbeats 8000000 in
theorem wf_6 (w : World) (kd : Int) (hk : kd < 0 ∨ 5 < kd) (dv hp pr ln ix cl : Int) (pm up : Bool) : Calls Try.prog 80 #[.agg #[.int .i64 kd, .int .i64 dv, .int .i64 hp, .int .i64 pr, .int .i64 ln, .int .i64 ix, .int .i64 cl, .bool pm, .bool up]] w fun e w' => e = .returned (.bool (wfB ⟨kd, dv, hp, pr, ln, ix, cl, pm, up⟩)) ∧ Ex (fun _ => False) w w' := by
  have e0 : (kd == 0) = false := by simp only [beq_eq_false_iff_ne]; omega
  have e1 : (kd == 1) = false := by simp only [beq_eq_false_iff_ne]; omega
  have e2 : (kd == 2) = false := by simp only [beq_eq_false_iff_ne]; omega
  have e3 : (kd == 3) = false := by simp only [beq_eq_false_iff_ne]; omega
  have e4 : (kd == 4) = false := by simp only [beq_eq_false_iff_ne]; omega
  have e5 : (kd == 5) = false := by simp only [beq_eq_false_iff_ne]; omega
  have hwf : wfB ⟨kd, dv, hp, pr, ln, ix, cl, pm, up⟩ = false := by
    unfold wfB
    simp only []
    rw [if_neg (by omega), if_neg (by omega), if_neg (by omega), if_neg (by omega), if_neg (by omega), if_neg (by omega)]
  rw [hwf]
  clear hwf hk
  have HE : Hid (Ex (fun _ => False) w (w.alloc (.cells #[.int .i64 kd, .int .i64 dv, .int .i64 hp, .int .i64 pr, .int .i64 ln, .int .i64 ix, .int .i64 cl, .bool pm, .bool up] 45))) := (Ex.refl _ w).alloc _
  have nc := fun j u h => new_cells w [.int .i64 kd, .int .i64 dv, .int .i64 hp, .int .i64 pr, .int .i64 ln, .int .i64 ix, .int .i64 cl, .bool pm, .bool up] 45 j u h
  have c0 := nc 0 _ rfl
  have c1 := nc 1 _ rfl
  have c2 := nc 2 _ rfl
  have c3 := nc 3 _ rfl
  have c4 := nc 4 _ rfl
  have c5 := nc 5 _ rfl
  have c6 := nc 6 _ rfl
  have c7 := nc 7 _ rfl
  have c8 := nc 8 _ rfl
  simp only [Addr.add_mid, Nat.zero_add] at c0 c1 c2 c3 c4 c5 c6 c7 c8
  clear nc
  obtain ⟨b_h, hb_h⟩ : ∃ b, (hp == 0) = b := ⟨_, rfl⟩
  obtain ⟨b_p, hb_p⟩ : ∃ b, (pr == 0) = b := ⟨_, rfl⟩
  obtain ⟨b_l, hb_l⟩ : ∃ b, (ln == 0) = b := ⟨_, rfl⟩
  obtain ⟨b_c, hb_c⟩ : ∃ b, (cl == 0) = b := ⟨_, rfl⟩
  obtain ⟨b_i, hb_i⟩ : ∃ b, (ix == 0) = b := ⟨_, rfl⟩
  try rw [hb_h]
  try rw [hb_p]
  try rw [hb_l]
  try rw [hb_c]
  try rw [hb_i]
  cases b_p <;> cases b_c <;> (go_enter Try.func80, Try.ntmps80; go_wp2_with (first | (go_at_call 85; refine (goodDevM_any _ _).mono ?_; rintro e wq ⟨rfl, rfl⟩; simp only []) | (go_at_call 86; refine (goodIdxM_any _ _).mono ?_; rintro e wq ⟨rfl, rfl⟩; simp only []) | (go_at_call 79; refine (goodPrefixM_any _ _ _).mono ?_; rintro e wq ⟨rfl, rfl⟩; simp only [])); all_goals (go_ret; exact ⟨by simp_all <;> (intros; omega), (Ex.refl _ w).alloc _⟩))
end Go.Proofs.Qxb6500778a
