import Derived.Test.Qxb6500774aTd0
import Derived.Test.Qxb6500774aUh
namespace Go.Proofs.Qxb6500774a
open Go.RowKit
set_option linter.unusedVariables false
set_option linter.unusedSimpArgs false

set_option linter.unusedSimpArgs false in
set_option linter.unusedVariables false in
set_option maxRecDepth 100000 in
set_option maxHeartbeats 32000000 in
theorem px_bin (op : ByteArray) (e j : E) (l c : Int) (ih : PEX e) (ih2 : PEX j) (hp0 : 0 < powP op.toList) (w : World) (b : Nat) (X : List Int) (i : Int) (be : ByteArray) (f : XP) (min : Int) (hpr : PR w b X i) (het : ET w (PD w b) (.bin op e j l c) f) (hl : (X ++ strL be ++ prE (.bin op e j l c) min).length ≤ 1099511627776) (hm0 : 0 ≤ min) (hm8 : min ≤ 8) (hpm : ¬ powP op.toList < min) :
    Calls Try.prog 31 #[.pointer (some ⟨b, 0, none⟩), .string be, xV f, .int .i64 min] w (PRPost w b (X ++ strL be ++ prE (.bin op e j l c) min) i) := by
  have HL := hide hl
  obtain ⟨g, f1, f2, rfl, hg, hk1, hk2, he1, he2⟩ := het
  have hpl := powP_le op.toList
  have HPE : Hid (prE (.bin op e j l c) min = [] ++ prE e (powP op.toList) ++ ([32] ++ strL op ++ [32] ++ prE j (powP op.toList + 1)) ++ []) := by
    show (if powP op.toList < min then [40] else []) ++ prE e (powP op.toList) ++ ([32] ++ strL op ++ [32] ++ prE j (powP op.toList + 1)) ++ (if powP op.toList < min then [41] else []) = _
    rw [if_neg hpm, if_neg hpm]
  rw [HPE.out] at HL ⊢
  have hpa := fun W : World => power_any W op
  have d1 : decide (powP op.toList < min) = false := decide_eq_false hpm
  generalize hpw : powP op.toList = pw at *
  have hw1 : IntKind.i64.wrap (pw + 1) = pw + 1 := by rw [IntKind.wrap_i64]; omega
  have hw2 : wrap64 (pw + 1) = pw + 1 := by unfold wrap64; omega
  have HPW : Hid (1 ≤ pw ∧ pw ≤ 7) := ⟨by omega, hpl.2⟩
  have hsz1 : ¬ 9223372036854775807 < 1 + op.size := by
    have := HL.out
    simp only [List.length_append] at this
    have := strL_len op
    omega
  have hsz2 : ¬ 9223372036854775807 < 1 + op.size + 1 := by
    have := HL.out
    simp only [List.length_append] at this
    have := strL_len op
    omega
  have hsz3 : ¬ 9223372036854775807 < (⟨#[32]⟩ ++ op : ByteArray).size + 1 := by rw [app_size]; exact hsz2
  have HSX : Hid (strL (⟨#[32]⟩ ++ op ++ ⟨#[32]⟩) = [32] ++ strL op ++ [32]) := by show _ = _; rw [strL_app, strL_app]; rfl
  clear hpw hpm hpl
  have ex1 : Ex (fun _ => False) w (w.alloc (xO (⟨7, op, 0, nb, some ⟨g, 0, none⟩, 2, 2, l, c⟩))) := (Ex.refl _ _).alloc _
  have HP1 := hide (hpr.low ex1)
  have HB1 := hide (BX.new hpr (⟨7, op, 0, nb, some ⟨g, 0, none⟩, 2, 2, l, c⟩))
  have HT1 := hide (text_any (w.alloc (xO (⟨7, op, 0, nb, some ⟨g, 0, none⟩, 2, 2, l, c⟩))) b X i be HP1.out.1 (by have := HL.out; rw [List.length_append, List.length_append] at this; omega))
  have HK := hide (RC.go hk1 hg (hpr.low ex1).2)
  have HE1 := hide (he1.go (hpr.low ex1).2)
  have HK2 := hide (RC.go hk2 hg (hpr.low ex1).2)
  have HE2 := hide (he2.go (hpr.low ex1).2)
  clear hpr hl ex1
  obtain ⟨w1, hw1⟩ : ∃ wzz, w.alloc (xO (⟨7, op, 0, nb, some ⟨g, 0, none⟩, 2, 2, l, c⟩)) = wzz := ⟨_, rfl⟩
  rw [hw1] at HP1 HB1 HT1 HK HE1 HK2 HE2
  have HW1 := hide hw1
  unfold xO at HW1
  clear hw1
  unfold xV
  dsimp only at HW1
  go_enter Try.func31, Try.ntmps31
  go_upto_region 1 with fail
  rw [HW1.out]
  generalize w.heap.size = r6 at *
  clear HW1
  go_wp2_with fail
  refine HT1.out.mono ?_
  rintro e9 w2 ⟨rfl, hp2, hg2⟩
  have HP2 := hide hp2
  have HG2 := hide (HP1.out.2.trans hg2)
  have HB2 := hide (HB1.out.go hg2)
  have HK' := hide (RC.go HK.out.1 HK.out.2 hg2)
  have HE1' := hide (HE1.out.go hg2)
  have HK2' := hide (RC.go HK2.out.1 HK.out.2 hg2)
  have HE2' := hide (HE2.out.go hg2)
  clear hp2 hg2 HP1 HB1 HT1 HK HE1 HK2 HE2
  simp only []
  have k0 := HB2.out.te.c0
  dsimp only at k0
  have k1 := HB2.out.te.c1
  dsimp only at k1
  go_upto_region 27 with (go_at_call 67; refine (hpa _).mono ?_; rintro e9 wq ⟨rfl, hwq⟩; subst wq; simp only [])
  have HP3 : Hid (PR w2 b (X ++ strL be ++ []) i) := by show PR _ _ _ _; rw [List.append_nil]; exact HP2.out
  have HG3 := HG2
  have HB3 := HB2
  have HK3 := HK'
  have HE3 := HE1'
  have HK23 := HK2'
  have HE23 := HE2'
  clear HP2 HG2 HB2 k0 k1 HK' HE1' HK2' HE2'
  have HC := hide (ih w2 b (X ++ strL be ++ []) i ⟨#[]⟩ f1 pw HP3.out HE3.out (by have := HL.out; rw [show strL ⟨#[]⟩ = [] from rfl, List.append_nil]; simp only [List.length_append] at this ⊢; omega) (by have := HPW.out; omega) (by have := HPW.out; omega))
  rw [show X ++ strL be ++ [] ++ strL ⟨#[]⟩ = X ++ strL be ++ [] by rw [show strL ⟨#[]⟩ = [] from rfl, List.append_nil]] at HC
  unfold xV at HC
  have q0 := HK3.out.1.c0
  have q1 := HK3.out.1.c1
  have q2 := HK3.out.1.c2
  have q3 := HK3.out.1.c3
  have q4 := HK3.out.1.c4
  have q5 := HK3.out.1.c5
  have q6 := HK3.out.1.c6
  have k4 := HB3.out.te.c4
  dsimp only at k4
  go_upto_region 29 with fail
  go_wp2_with fail
  refine HC.out.mono ?_
  rintro e9 w4 ⟨rfl, hp4, hg4⟩
  have HP4 := hide (hp4.low ((Ex.refl (fun _ => False) w4).drew))
  have HG4 := hide ((HG3.out.trans hg4).trans HP4.out.2)
  have HB4 := hide ((HB3.out.go hg4).go HP4.out.2)
  have HK4 := hide (RC.go (RC.go HK23.out.1 HK3.out.2 hg4).1 (RC.go HK23.out.1 HK3.out.2 hg4).2 HP4.out.2)
  have HE4 := hide ((HE23.out.go hg4).go HP4.out.2)
  clear hp4 hg4 HP3 HG3 HB3 HC q0 q1 q2 q3 q4 q5 q6 k4 HK3 HE3 HK23 HE23
  simp only []
  have HC := hide (ih2 w4.drew b (X ++ strL be ++ [] ++ prE e pw) i (⟨#[32]⟩ ++ op ++ ⟨#[32]⟩) f2 (pw + 1) HP4.out.1 HE4.out (by have := HL.out; rw [HSX.out]; simp only [List.length_append] at this ⊢; omega) (by have := HPW.out; omega) (by have := HPW.out; omega))
  rw [HSX.out] at HC
  unfold xV at HC
  go_upto_region 30 with fail
  refine wp_region_until (fun w6 => (w6.cell? ⟨r6, 1, none⟩ = some (.string op) ∧ w6.cell? ⟨r6, 4, none⟩ = some (.slice (some ⟨g, 0, none⟩) 2 2)) ∧ RC w6 g 7 f2) 11 (by kernel_rfl) (⟨⟨HB4.out.te.c1, HB4.out.te.c4⟩, HK4.out.1⟩) (fun hHeld => ?_)
  generalize w4.drew = w4d at *
  refine wpAnyU_take (i := 0) (v := ?_) [11] rfl (by kernel_rfl) (by kernel_rfl) (by kernel_rfl) (by kernel_rfl) (fun _ _ _ h => h) (Or.inl ⟨by rfl, ?_⟩) (by assumption) ?_
  rotate_left
  · (intro w hSw; (try dsimp only at hSw); (skip); go_simp; try (with_reducible rfl))
  try simp only [Act.put, List.getElem_toArray, List.getElem_cons_zero, List.getElem_cons_succ, List.setIfInBounds_toArray, List.set_cons_zero, List.set_cons_succ]
  refine wpAnyU_take (i := 1) (v := ?_) [2, 3, 4, 11] rfl (by kernel_rfl) (by kernel_rfl) (by kernel_rfl) (by kernel_rfl) (fun _ _ _ h => h) (Or.inl ⟨by rfl, ?_⟩) (by assumption) ?_
  rotate_left
  · (intro w hSw; (try dsimp only at hSw); (skip); go_simp; try (with_reducible rfl))
  try simp only [Act.put, List.getElem_toArray, List.getElem_cons_zero, List.getElem_cons_succ, List.setIfInBounds_toArray, List.set_cons_zero, List.set_cons_succ]
  refine wpAnyU_take (i := 2) (v := ?_) [3, 4, 11] rfl (by kernel_rfl) (by kernel_rfl) (by kernel_rfl) (by kernel_rfl) (fun _ _ _ h => h) (Or.inl ⟨by rfl, ?_⟩) (by assumption) ?_
  rotate_left
  · (intro w hSw; (try dsimp only at hSw); (obtain ⟨⟨k1, k4⟩, hrc⟩ := hSw; have q0 := hrc.c0; have q1 := hrc.c1; have q2 := hrc.c2; have q3 := hrc.c3; have q4 := hrc.c4; have q5 := hrc.c5; have q6 := hrc.c6); go_simp; try (with_reducible rfl))
  try simp only [Act.put, List.getElem_toArray, List.getElem_cons_zero, List.getElem_cons_succ, List.setIfInBounds_toArray, List.set_cons_zero, List.set_cons_succ]
  refine wpAnyU_take (i := 3) (v := ?_) [4, 11] rfl (by kernel_rfl) (by kernel_rfl) (by kernel_rfl) (by kernel_rfl) (fun _ _ _ h => h) (Or.inl ⟨by rfl, ?_⟩) (by assumption) ?_
  rotate_left
  · (intro w hSw; (try dsimp only at hSw); (skip); go_simp; try (with_reducible rfl))
  try simp only [Act.put, List.getElem_toArray, List.getElem_cons_zero, List.getElem_cons_succ, List.setIfInBounds_toArray, List.set_cons_zero, List.set_cons_succ]
  refine wpAnyU_take (i := 4) (v := ?_) [11] rfl (by kernel_rfl) (by kernel_rfl) (by kernel_rfl) (by kernel_rfl) (fun _ _ _ h => h) (Or.inl ⟨by rfl, ?_⟩) (by assumption) ?_
  rotate_left
  · (intro w hSw; (try dsimp only at hSw); (skip); go_simp; try (with_reducible rfl))
  try simp only [Act.put, List.getElem_toArray, List.getElem_cons_zero, List.getElem_cons_succ, List.setIfInBounds_toArray, List.set_cons_zero, List.set_cons_succ]
  refine wpAnyU_take (i := 5) (v := ?_) [6, 7, 8, 11] rfl (by kernel_rfl) (by kernel_rfl) (by kernel_rfl) (by kernel_rfl) (fun _ _ _ h => h) (Or.inl ⟨by rfl, ?_⟩) (by assumption) ?_
  rotate_left
  · (intro w hSw; (try dsimp only at hSw); (skip); go_simp; try (with_reducible rfl))
  try simp only [Act.put, List.getElem_toArray, List.getElem_cons_zero, List.getElem_cons_succ, List.setIfInBounds_toArray, List.set_cons_zero, List.set_cons_succ]
  refine wpAnyU_take (i := 6) (v := ?_) [7, 8, 11] rfl (by kernel_rfl) (by kernel_rfl) (by kernel_rfl) (by kernel_rfl) (fun _ _ _ h => h) (Or.inl ⟨by rfl, ?_⟩) (by assumption) ?_
  rotate_left
  · (intro w hSw; (try dsimp only at hSw); (obtain ⟨⟨k1, k4⟩, hrc⟩ := hSw; have q0 := hrc.c0; have q1 := hrc.c1; have q2 := hrc.c2; have q3 := hrc.c3; have q4 := hrc.c4; have q5 := hrc.c5; have q6 := hrc.c6); go_simp; try (with_reducible rfl))
  try simp only [Act.put, List.getElem_toArray, List.getElem_cons_zero, List.getElem_cons_succ, List.setIfInBounds_toArray, List.set_cons_zero, List.set_cons_succ]
  refine wpAnyU_take (i := 7) (v := ?_) [8, 11] rfl (by kernel_rfl) (by kernel_rfl) (by kernel_rfl) (by kernel_rfl) (fun _ _ _ h => h) (Or.inl ⟨by rfl, ?_⟩) (by assumption) ?_
  rotate_left
  · (intro w hSw; (try dsimp only at hSw); (skip); go_simp; try (with_reducible rfl))
  try simp only [Act.put, List.getElem_toArray, List.getElem_cons_zero, List.getElem_cons_succ, List.setIfInBounds_toArray, List.set_cons_zero, List.set_cons_succ]
  refine wpAnyU_take (i := 8) (v := ?_) [11] rfl (by kernel_rfl) (by kernel_rfl) (by kernel_rfl) (by kernel_rfl) (fun _ _ _ h => h) (Or.inl ⟨by rfl, ?_⟩) (by assumption) ?_
  rotate_left
  · (intro w hSw; (try dsimp only at hSw); (obtain ⟨⟨k1, k4⟩, hrc⟩ := hSw; have q0 := hrc.c0; have q1 := hrc.c1; have q2 := hrc.c2; have q3 := hrc.c3; have q4 := hrc.c4; have q5 := hrc.c5; have q6 := hrc.c6); go_simp; try (with_reducible rfl))
  try simp only [Act.put, List.getElem_toArray, List.getElem_cons_zero, List.getElem_cons_succ, List.setIfInBounds_toArray, List.set_cons_zero, List.set_cons_succ]
  refine wpAnyU_take (i := 9) (v := ?_) [10, 11] rfl (by kernel_rfl) (by kernel_rfl) (by kernel_rfl) (by kernel_rfl) (fun _ _ _ h => h) (Or.inl ⟨by rfl, ?_⟩) (by assumption) ?_
  rotate_left
  · (intro w hSw; (try dsimp only at hSw); (skip); go_simp; try (with_reducible rfl))
  try simp only [Act.put, List.getElem_toArray, List.getElem_cons_zero, List.getElem_cons_succ, List.setIfInBounds_toArray, List.set_cons_zero, List.set_cons_succ]
  refine wpAnyU_take (i := 10) (v := ?_) [11] rfl (by kernel_rfl) (by kernel_rfl) (by kernel_rfl) (by kernel_rfl) (fun _ _ _ h => h) (Or.inl ⟨by rfl, ?_⟩) (by assumption) ?_
  rotate_left
  · (intro w hSw; (try dsimp only at hSw); (skip); go_simp; try (with_reducible rfl))
  try simp only [Act.put, List.getElem_toArray, List.getElem_cons_zero, List.getElem_cons_succ, List.setIfInBounds_toArray, List.set_cons_zero, List.set_cons_succ]
  refine wpAnyU_ready (rs := [11]) (by kernel_rfl) (by simp) ?_
  refine AllReadyU.last rfl (fun K hK => ?_)
  refine step_call rfl 31 #[.pointer (some ⟨b, 0, none⟩), .string (⟨#[32]⟩ ++ op ++ ⟨#[32]⟩), .agg #[.int .i64 f2.k, .string f2.x, .int .i64 f2.n, .string f2.m, .slice f2.q f2.ql f2.qc, .int .i64 f2.li, .int .i64 f2.co], .int .i64 (pw + 1)] (by simp [go_sem]) HC.out ?_
  rintro e9 w5 ⟨rfl, hp5, hg5⟩
  have HP5 := hide hp5
  have HG5 := hide (HG4.out.trans hg5)
  clear hp5 hg5 HP4 HG4 HB4 HC HK4 HE4
  refine ⟨_, rfl, ?_⟩
  refine hK.out _ _ ?_
  clear hK K
  try simp only [Act.put, List.getElem_toArray, List.getElem_cons_zero, List.getElem_cons_succ, List.setIfInBounds_toArray, List.set_cons_zero, List.set_cons_succ]
  refine wpAnyU_done (by kernel_rfl) ?_ _
  rw [show X ++ strL be ++ [] ++ prE e pw ++ ([32] ++ strL op ++ [32]) ++ prE j (pw + 1) = X ++ strL be ++ ([] ++ prE e pw ++ ([32] ++ strL op ++ [32] ++ prE j (pw + 1)) ++ []) by simp only [List.append_assoc, List.append_nil, List.nil_append]] at HP5
  go_wp2
  exact bodyPost_ret (v := .tuple #[]) (by simp [results, Try.results31]) rfl ⟨rfl, HP5.out, HG5.out⟩
set_option linter.unusedSimpArgs false in
set_option linter.unusedVariables false in
set_option maxRecDepth 100000 in
set_option maxHeartbeats 32000000 in
theorem px_binp (op : ByteArray) (e j : E) (l c : Int) (ih : PEX e) (ih2 : PEX j) (hp0 : 0 < powP op.toList) (w : World) (b : Nat) (X : List Int) (i : Int) (be : ByteArray) (f : XP) (min : Int) (hpr : PR w b X i) (het : ET w (PD w b) (.bin op e j l c) f) (hl : (X ++ strL be ++ prE (.bin op e j l c) min).length ≤ 1099511627776) (hm0 : 0 ≤ min) (hm8 : min ≤ 8) (hpm : powP op.toList < min) :
    Calls Try.prog 31 #[.pointer (some ⟨b, 0, none⟩), .string be, xV f, .int .i64 min] w (PRPost w b (X ++ strL be ++ prE (.bin op e j l c) min) i) := by
  have HL := hide hl
  obtain ⟨g, f1, f2, rfl, hg, hk1, hk2, he1, he2⟩ := het
  have hpl := powP_le op.toList
  have HPE : Hid (prE (.bin op e j l c) min = [40] ++ prE e (powP op.toList) ++ ([32] ++ strL op ++ [32] ++ prE j (powP op.toList + 1)) ++ [41]) := by
    show (if powP op.toList < min then [40] else []) ++ prE e (powP op.toList) ++ ([32] ++ strL op ++ [32] ++ prE j (powP op.toList + 1)) ++ (if powP op.toList < min then [41] else []) = _
    rw [if_pos hpm, if_pos hpm]
  rw [HPE.out] at HL ⊢
  have hpa := fun W : World => power_any W op
  have d1 : decide (powP op.toList < min) = true := decide_eq_true hpm
  generalize hpw : powP op.toList = pw at *
  have hw1 : IntKind.i64.wrap (pw + 1) = pw + 1 := by rw [IntKind.wrap_i64]; omega
  have hw2 : wrap64 (pw + 1) = pw + 1 := by unfold wrap64; omega
  have HPW : Hid (1 ≤ pw ∧ pw ≤ 7) := ⟨by omega, hpl.2⟩
  have hsz1 : ¬ 9223372036854775807 < 1 + op.size := by
    have := HL.out
    simp only [List.length_append] at this
    have := strL_len op
    omega
  have hsz2 : ¬ 9223372036854775807 < 1 + op.size + 1 := by
    have := HL.out
    simp only [List.length_append] at this
    have := strL_len op
    omega
  have hsz3 : ¬ 9223372036854775807 < (⟨#[32]⟩ ++ op : ByteArray).size + 1 := by rw [app_size]; exact hsz2
  have HSX : Hid (strL (⟨#[32]⟩ ++ op ++ ⟨#[32]⟩) = [32] ++ strL op ++ [32]) := by show _ = _; rw [strL_app, strL_app]; rfl
  clear hpw hpm hpl
  have ex1 : Ex (fun _ => False) w (w.alloc (xO (⟨7, op, 0, nb, some ⟨g, 0, none⟩, 2, 2, l, c⟩))) := (Ex.refl _ _).alloc _
  have HP1 := hide (hpr.low ex1)
  have HB1 := hide (BX.new hpr (⟨7, op, 0, nb, some ⟨g, 0, none⟩, 2, 2, l, c⟩))
  have HT1 := hide (text_any (w.alloc (xO (⟨7, op, 0, nb, some ⟨g, 0, none⟩, 2, 2, l, c⟩))) b X i be HP1.out.1 (by have := HL.out; rw [List.length_append, List.length_append] at this; omega))
  have HK := hide (RC.go hk1 hg (hpr.low ex1).2)
  have HE1 := hide (he1.go (hpr.low ex1).2)
  have HK2 := hide (RC.go hk2 hg (hpr.low ex1).2)
  have HE2 := hide (he2.go (hpr.low ex1).2)
  clear hpr hl ex1
  obtain ⟨w1, hw1⟩ : ∃ wzz, w.alloc (xO (⟨7, op, 0, nb, some ⟨g, 0, none⟩, 2, 2, l, c⟩)) = wzz := ⟨_, rfl⟩
  rw [hw1] at HP1 HB1 HT1 HK HE1 HK2 HE2
  have HW1 := hide hw1
  unfold xO at HW1
  clear hw1
  unfold xV
  dsimp only at HW1
  go_enter Try.func31, Try.ntmps31
  go_upto_region 1 with fail
  rw [HW1.out]
  generalize w.heap.size = r6 at *
  clear HW1
  go_wp2_with fail
  refine HT1.out.mono ?_
  rintro e9 w2 ⟨rfl, hp2, hg2⟩
  have HP2 := hide hp2
  have HG2 := hide (HP1.out.2.trans hg2)
  have HB2 := hide (HB1.out.go hg2)
  have HK' := hide (RC.go HK.out.1 HK.out.2 hg2)
  have HE1' := hide (HE1.out.go hg2)
  have HK2' := hide (RC.go HK2.out.1 HK.out.2 hg2)
  have HE2' := hide (HE2.out.go hg2)
  clear hp2 hg2 HP1 HB1 HT1 HK HE1 HK2 HE2
  simp only []
  have k0 := HB2.out.te.c0
  dsimp only at k0
  have k1 := HB2.out.te.c1
  dsimp only at k1
  go_upto_region 27 with (go_at_call 67; refine (hpa _).mono ?_; rintro e9 wq ⟨rfl, hwq⟩; subst wq; simp only [])
  have HT := hide (text_any w2 b (X ++ strL be) i ⟨#[40]⟩ HP2.out (by have := HL.out; rw [show strL ⟨#[40]⟩ = [40] from rfl]; simp only [List.length_append] at this ⊢; omega))
  rw [show strL ⟨#[40]⟩ = [40] from rfl] at HT
  go_upto_region 28 with fail
  go_wp2_with fail
  refine HT.out.mono ?_
  rintro e9 w3 ⟨rfl, hp3, hg3⟩
  have HP3 := hide hp3
  have HG3 := hide (HG2.out.trans hg3)
  have HB3 := hide (HB2.out.go hg3)
  have HK3 := hide (RC.go HK'.out.1 HK'.out.2 hg3)
  have HE3 := hide (HE1'.out.go hg3)
  have HK23 := hide (RC.go HK2'.out.1 HK'.out.2 hg3)
  have HE23 := hide (HE2'.out.go hg3)
  clear hp3 hg3 HP2 HG2 HB2 HT k0 k1 HK' HE1' HK2' HE2'
  simp only []
  have HC := hide (ih w3 b (X ++ strL be ++ [40]) i ⟨#[]⟩ f1 pw HP3.out HE3.out (by have := HL.out; rw [show strL ⟨#[]⟩ = [] from rfl, List.append_nil]; simp only [List.length_append] at this ⊢; omega) (by have := HPW.out; omega) (by have := HPW.out; omega))
  rw [show X ++ strL be ++ [40] ++ strL ⟨#[]⟩ = X ++ strL be ++ [40] by rw [show strL ⟨#[]⟩ = [] from rfl, List.append_nil]] at HC
  unfold xV at HC
  have q0 := HK3.out.1.c0
  have q1 := HK3.out.1.c1
  have q2 := HK3.out.1.c2
  have q3 := HK3.out.1.c3
  have q4 := HK3.out.1.c4
  have q5 := HK3.out.1.c5
  have q6 := HK3.out.1.c6
  have k4 := HB3.out.te.c4
  dsimp only at k4
  go_upto_region 29 with fail
  go_wp2_with fail
  refine HC.out.mono ?_
  rintro e9 w4 ⟨rfl, hp4, hg4⟩
  have HP4 := hide (hp4.low ((Ex.refl (fun _ => False) w4).drew))
  have HG4 := hide ((HG3.out.trans hg4).trans HP4.out.2)
  have HB4 := hide ((HB3.out.go hg4).go HP4.out.2)
  have HK4 := hide (RC.go (RC.go HK23.out.1 HK3.out.2 hg4).1 (RC.go HK23.out.1 HK3.out.2 hg4).2 HP4.out.2)
  have HE4 := hide ((HE23.out.go hg4).go HP4.out.2)
  clear hp4 hg4 HP3 HG3 HB3 HC q0 q1 q2 q3 q4 q5 q6 k4 HK3 HE3 HK23 HE23
  simp only []
  have HC := hide (ih2 w4.drew b (X ++ strL be ++ [40] ++ prE e pw) i (⟨#[32]⟩ ++ op ++ ⟨#[32]⟩) f2 (pw + 1) HP4.out.1 HE4.out (by have := HL.out; rw [HSX.out]; simp only [List.length_append] at this ⊢; omega) (by have := HPW.out; omega) (by have := HPW.out; omega))
  rw [HSX.out] at HC
  unfold xV at HC
  go_upto_region 30 with fail
  refine wp_region_until (fun w6 => (w6.cell? ⟨r6, 1, none⟩ = some (.string op) ∧ w6.cell? ⟨r6, 4, none⟩ = some (.slice (some ⟨g, 0, none⟩) 2 2)) ∧ RC w6 g 7 f2) 11 (by kernel_rfl) (⟨⟨HB4.out.te.c1, HB4.out.te.c4⟩, HK4.out.1⟩) (fun hHeld => ?_)
  generalize w4.drew = w4d at *
  refine wpAnyU_take (i := 0) (v := ?_) [11] rfl (by kernel_rfl) (by kernel_rfl) (by kernel_rfl) (by kernel_rfl) (fun _ _ _ h => h) (Or.inl ⟨by rfl, ?_⟩) (by assumption) ?_
  rotate_left
  · (intro w hSw; (try dsimp only at hSw); (skip); go_simp; try (with_reducible rfl))
  try simp only [Act.put, List.getElem_toArray, List.getElem_cons_zero, List.getElem_cons_succ, List.setIfInBounds_toArray, List.set_cons_zero, List.set_cons_succ]
  refine wpAnyU_take (i := 1) (v := ?_) [2, 3, 4, 11] rfl (by kernel_rfl) (by kernel_rfl) (by kernel_rfl) (by kernel_rfl) (fun _ _ _ h => h) (Or.inl ⟨by rfl, ?_⟩) (by assumption) ?_
  rotate_left
  · (intro w hSw; (try dsimp only at hSw); (skip); go_simp; try (with_reducible rfl))
  try simp only [Act.put, List.getElem_toArray, List.getElem_cons_zero, List.getElem_cons_succ, List.setIfInBounds_toArray, List.set_cons_zero, List.set_cons_succ]
  refine wpAnyU_take (i := 2) (v := ?_) [3, 4, 11] rfl (by kernel_rfl) (by kernel_rfl) (by kernel_rfl) (by kernel_rfl) (fun _ _ _ h => h) (Or.inl ⟨by rfl, ?_⟩) (by assumption) ?_
  rotate_left
  · (intro w hSw; (try dsimp only at hSw); (obtain ⟨⟨k1, k4⟩, hrc⟩ := hSw; have q0 := hrc.c0; have q1 := hrc.c1; have q2 := hrc.c2; have q3 := hrc.c3; have q4 := hrc.c4; have q5 := hrc.c5; have q6 := hrc.c6); go_simp; try (with_reducible rfl))
  try simp only [Act.put, List.getElem_toArray, List.getElem_cons_zero, List.getElem_cons_succ, List.setIfInBounds_toArray, List.set_cons_zero, List.set_cons_succ]
  refine wpAnyU_take (i := 3) (v := ?_) [4, 11] rfl (by kernel_rfl) (by kernel_rfl) (by kernel_rfl) (by kernel_rfl) (fun _ _ _ h => h) (Or.inl ⟨by rfl, ?_⟩) (by assumption) ?_
  rotate_left
  · (intro w hSw; (try dsimp only at hSw); (skip); go_simp; try (with_reducible rfl))
  try simp only [Act.put, List.getElem_toArray, List.getElem_cons_zero, List.getElem_cons_succ, List.setIfInBounds_toArray, List.set_cons_zero, List.set_cons_succ]
  refine wpAnyU_take (i := 4) (v := ?_) [11] rfl (by kernel_rfl) (by kernel_rfl) (by kernel_rfl) (by kernel_rfl) (fun _ _ _ h => h) (Or.inl ⟨by rfl, ?_⟩) (by assumption) ?_
  rotate_left
  · (intro w hSw; (try dsimp only at hSw); (skip); go_simp; try (with_reducible rfl))
  try simp only [Act.put, List.getElem_toArray, List.getElem_cons_zero, List.getElem_cons_succ, List.setIfInBounds_toArray, List.set_cons_zero, List.set_cons_succ]
  refine wpAnyU_take (i := 5) (v := ?_) [6, 7, 8, 11] rfl (by kernel_rfl) (by kernel_rfl) (by kernel_rfl) (by kernel_rfl) (fun _ _ _ h => h) (Or.inl ⟨by rfl, ?_⟩) (by assumption) ?_
  rotate_left
  · (intro w hSw; (try dsimp only at hSw); (skip); go_simp; try (with_reducible rfl))
  try simp only [Act.put, List.getElem_toArray, List.getElem_cons_zero, List.getElem_cons_succ, List.setIfInBounds_toArray, List.set_cons_zero, List.set_cons_succ]
  refine wpAnyU_take (i := 6) (v := ?_) [7, 8, 11] rfl (by kernel_rfl) (by kernel_rfl) (by kernel_rfl) (by kernel_rfl) (fun _ _ _ h => h) (Or.inl ⟨by rfl, ?_⟩) (by assumption) ?_
  rotate_left
  · (intro w hSw; (try dsimp only at hSw); (obtain ⟨⟨k1, k4⟩, hrc⟩ := hSw; have q0 := hrc.c0; have q1 := hrc.c1; have q2 := hrc.c2; have q3 := hrc.c3; have q4 := hrc.c4; have q5 := hrc.c5; have q6 := hrc.c6); go_simp; try (with_reducible rfl))
  try simp only [Act.put, List.getElem_toArray, List.getElem_cons_zero, List.getElem_cons_succ, List.setIfInBounds_toArray, List.set_cons_zero, List.set_cons_succ]
  refine wpAnyU_take (i := 7) (v := ?_) [8, 11] rfl (by kernel_rfl) (by kernel_rfl) (by kernel_rfl) (by kernel_rfl) (fun _ _ _ h => h) (Or.inl ⟨by rfl, ?_⟩) (by assumption) ?_
  rotate_left
  · (intro w hSw; (try dsimp only at hSw); (skip); go_simp; try (with_reducible rfl))
  try simp only [Act.put, List.getElem_toArray, List.getElem_cons_zero, List.getElem_cons_succ, List.setIfInBounds_toArray, List.set_cons_zero, List.set_cons_succ]
  refine wpAnyU_take (i := 8) (v := ?_) [11] rfl (by kernel_rfl) (by kernel_rfl) (by kernel_rfl) (by kernel_rfl) (fun _ _ _ h => h) (Or.inl ⟨by rfl, ?_⟩) (by assumption) ?_
  rotate_left
  · (intro w hSw; (try dsimp only at hSw); (obtain ⟨⟨k1, k4⟩, hrc⟩ := hSw; have q0 := hrc.c0; have q1 := hrc.c1; have q2 := hrc.c2; have q3 := hrc.c3; have q4 := hrc.c4; have q5 := hrc.c5; have q6 := hrc.c6); go_simp; try (with_reducible rfl))
  try simp only [Act.put, List.getElem_toArray, List.getElem_cons_zero, List.getElem_cons_succ, List.setIfInBounds_toArray, List.set_cons_zero, List.set_cons_succ]
  refine wpAnyU_take (i := 9) (v := ?_) [10, 11] rfl (by kernel_rfl) (by kernel_rfl) (by kernel_rfl) (by kernel_rfl) (fun _ _ _ h => h) (Or.inl ⟨by rfl, ?_⟩) (by assumption) ?_
  rotate_left
  · (intro w hSw; (try dsimp only at hSw); (skip); go_simp; try (with_reducible rfl))
  try simp only [Act.put, List.getElem_toArray, List.getElem_cons_zero, List.getElem_cons_succ, List.setIfInBounds_toArray, List.set_cons_zero, List.set_cons_succ]
  refine wpAnyU_take (i := 10) (v := ?_) [11] rfl (by kernel_rfl) (by kernel_rfl) (by kernel_rfl) (by kernel_rfl) (fun _ _ _ h => h) (Or.inl ⟨by rfl, ?_⟩) (by assumption) ?_
  rotate_left
  · (intro w hSw; (try dsimp only at hSw); (skip); go_simp; try (with_reducible rfl))
  try simp only [Act.put, List.getElem_toArray, List.getElem_cons_zero, List.getElem_cons_succ, List.setIfInBounds_toArray, List.set_cons_zero, List.set_cons_succ]
  refine wpAnyU_ready (rs := [11]) (by kernel_rfl) (by simp) ?_
  refine AllReadyU.last rfl (fun K hK => ?_)
  refine step_call rfl 31 #[.pointer (some ⟨b, 0, none⟩), .string (⟨#[32]⟩ ++ op ++ ⟨#[32]⟩), .agg #[.int .i64 f2.k, .string f2.x, .int .i64 f2.n, .string f2.m, .slice f2.q f2.ql f2.qc, .int .i64 f2.li, .int .i64 f2.co], .int .i64 (pw + 1)] (by simp [go_sem]) HC.out ?_
  rintro e9 w5 ⟨rfl, hp5, hg5⟩
  have HP5 := hide hp5
  have HG5 := hide (HG4.out.trans hg5)
  clear hp5 hg5 HP4 HG4 HB4 HC HK4 HE4
  refine ⟨_, rfl, ?_⟩
  refine hK.out _ _ ?_
  clear hK K
  try simp only [Act.put, List.getElem_toArray, List.getElem_cons_zero, List.getElem_cons_succ, List.setIfInBounds_toArray, List.set_cons_zero, List.set_cons_succ]
  refine wpAnyU_done (by kernel_rfl) ?_ _
  have HT := hide (text_any w5 b (X ++ strL be ++ [40] ++ prE e pw ++ ([32] ++ strL op ++ [32]) ++ prE j (pw + 1)) i ⟨#[41]⟩ HP5.out (by have := HL.out; rw [show strL ⟨#[41]⟩ = [41] from rfl]; simp only [List.length_append] at this ⊢; omega))
  rw [show strL ⟨#[41]⟩ = [41] from rfl, show X ++ strL be ++ [40] ++ prE e pw ++ ([32] ++ strL op ++ [32]) ++ prE j (pw + 1) ++ [41] = X ++ strL be ++ ([40] ++ prE e pw ++ ([32] ++ strL op ++ [32] ++ prE j (pw + 1)) ++ [41]) by simp only [List.append_assoc]] at HT
  go_upto_region 32 with fail
  go_wp2_with fail
  refine HT.out.mono ?_
  rintro e9 w6 ⟨rfl, hp6, hg6⟩
  have HP6 := hide hp6
  have HG6 := hide (HG5.out.trans hg6)
  clear hp6 hg6 HP5 HG5 HT
  simp only []
  go_wp2
  exact bodyPost_ret (v := .tuple #[]) (by simp [results, Try.results31]) rfl ⟨rfl, HP6.out, HG6.out⟩
end Go.Proofs.Qxb6500774a
