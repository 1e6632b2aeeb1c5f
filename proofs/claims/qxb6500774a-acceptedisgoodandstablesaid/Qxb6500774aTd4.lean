import Derived.Test.Qxb6500774aTd0
namespace Go.Proofs.Qxb6500774a
open Go.RowKit
set_option linter.unusedVariables false
set_option linter.unusedSimpArgs false

set_option linter.unusedSimpArgs false in
set_option linter.unusedVariables false in
set_option maxRecDepth 100000 in
set_option maxHeartbeats 32000000 in
theorem px_not (e : E) (l c : Int) (ih : PEX e) (w : World) (b : Nat) (X : List Int) (i : Int) (be : ByteArray) (f : XP) (min : Int) (hpr : PR w b X i) (het : ET w (PD w b) (.un ⟨#[78, 79, 84]⟩ e l c) f) (hl : (X ++ strL be ++ prE (.un ⟨#[78, 79, 84]⟩ e l c) min).length ≤ 1099511627776) (hm0 : 0 ≤ min) (hm8 : min ≤ 8) :
    Calls Try.prog 31 #[.pointer (some ⟨b, 0, none⟩), .string be, xV f, .int .i64 min] w (PRPost w b (X ++ strL be ++ prE (.un ⟨#[78, 79, 84]⟩ e l c) min) i) := by
  have HL := hide hl
  obtain ⟨g, f1, rfl, hg, hk1, he1⟩ := het
  have HPE : Hid (prE (.un ⟨#[78, 79, 84]⟩ e l c) min = [78, 79, 84, 32] ++ prE e 8) := by
    show (if (⟨#[78, 79, 84]⟩ : ByteArray).toList = [78, 79, 84] then [78, 79, 84, 32] else strL ⟨#[78, 79, 84]⟩) ++ prE e 8 = _
    rw [if_pos (by simp)]
  rw [HPE.out] at HL ⊢
  have HL1 : Hid ((X ++ strL be ++ [78, 79, 84, 32] ++ strL ⟨#[]⟩ ++ prE e 8).length ≤ 1099511627776) := by
    have := HL.out
    show _ ≤ _
    rw [show strL ⟨#[]⟩ = [] from rfl, List.append_nil]
    simp only [List.length_append] at this ⊢
    omega
  have ex1 : Ex (fun _ => False) w (w.alloc (xO (⟨6, ⟨#[78, 79, 84]⟩, 0, nb, some ⟨g, 0, none⟩, 1, 1, l, c⟩))) := (Ex.refl _ _).alloc _
  have HP1 := hide (hpr.low ex1)
  have HB1 := hide (BX.new hpr (⟨6, ⟨#[78, 79, 84]⟩, 0, nb, some ⟨g, 0, none⟩, 1, 1, l, c⟩))
  have HT1 := hide (text_any (w.alloc (xO (⟨6, ⟨#[78, 79, 84]⟩, 0, nb, some ⟨g, 0, none⟩, 1, 1, l, c⟩))) b X i be HP1.out.1 (by have := HL.out; rw [List.length_append, List.length_append] at this; omega))
  have HK := hide (RC.go hk1 hg (hpr.low ex1).2)
  have HE1 := hide (he1.go (hpr.low ex1).2)
  clear hpr hl ex1
  obtain ⟨w1, hw1⟩ : ∃ wzz, w.alloc (xO (⟨6, ⟨#[78, 79, 84]⟩, 0, nb, some ⟨g, 0, none⟩, 1, 1, l, c⟩)) = wzz := ⟨_, rfl⟩
  rw [hw1] at HP1 HB1 HT1 HK HE1
  have HW1 := hide hw1
  unfold xO at HW1
  clear hw1
  unfold xV
  dsimp only at HW1
  go_enter Try.func31, Try.ntmps31
  go_upto_region 1 with fail
  rw [HW1.out]
  generalize w.heap.size = r6 at *
  clear HW1
  go_wp2_with fail
  refine HT1.out.mono ?_
  rintro e9 w2 ⟨rfl, hp2, hg2⟩
  have HP2 := hide hp2
  have HG2 := hide (HP1.out.2.trans hg2)
  have HB2 := hide (HB1.out.go hg2)
  have HK' := hide (RC.go HK.out.1 HK.out.2 hg2)
  have HE1' := hide (HE1.out.go hg2)
  clear hp2 hg2 HP1 HB1 HT1 HK HE1
  simp only []
  have k0 := HB2.out.te.c0
  dsimp only at k0
  have k1 := HB2.out.te.c1
  dsimp only at k1
  have HT := hide (text_any w2 b (X ++ strL be) i ⟨#[78, 79, 84, 32]⟩ HP2.out (by have := HL.out; rw [show strL ⟨#[78, 79, 84, 32]⟩ = [78, 79, 84, 32] from rfl]; simp only [List.length_append] at this ⊢; omega))
  rw [show strL ⟨#[78, 79, 84, 32]⟩ = [78, 79, 84, 32] from rfl] at HT
  go_upto_region 22 with fail
  go_wp2_with fail
  refine HT.out.mono ?_
  rintro e9 w3 ⟨rfl, hp3, hg3⟩
  have HP3 := hide hp3
  have HG3 := hide (HG2.out.trans hg3)
  have HB3 := hide (HB2.out.go hg3)
  have HK3 := hide (RC.go HK'.out.1 HK'.out.2 hg3)
  have HE3 := hide (HE1'.out.go hg3)
  clear hp3 hg3 HP2 HG2 HB2 HT k0 k1 HK' HE1'
  simp only []
  have HC := hide (ih w3 b (X ++ strL be ++ [78, 79, 84, 32]) i ⟨#[]⟩ f1 8 HP3.out HE3.out HL1.out (by decide) (by decide))
  rw [show X ++ strL be ++ [78, 79, 84, 32] ++ strL ⟨#[]⟩ = X ++ strL be ++ [78, 79, 84, 32] by rw [show strL ⟨#[]⟩ = [] from rfl, List.append_nil], List.append_assoc (X ++ strL be)] at HC
  unfold xV at HC
  have q0 := HK3.out.1.c0
  have q1 := HK3.out.1.c1
  have q2 := HK3.out.1.c2
  have q3 := HK3.out.1.c3
  have q4 := HK3.out.1.c4
  have q5 := HK3.out.1.c5
  have q6 := HK3.out.1.c6
  have k4 := HB3.out.te.c4
  dsimp only at k4
  go_upto_region 24 with fail
  go_wp2_with fail
  refine HC.out.mono ?_
  rintro e9 w4 ⟨rfl, hp4, hg4⟩
  have HP4 := hide hp4
  have HG4 := hide (HG3.out.trans hg4)
  clear hp4 hg4 HP3 HG3 HB3 HC q0 q1 q2 q3 q4 q5 q6 k4 HK3 HE3
  simp only []
  go_wp2
  exact bodyPost_ret (v := .tuple #[]) (by simp [results, Try.results31]) rfl ⟨rfl, HP4.out, HG4.out⟩
set_option linter.unusedSimpArgs false in
set_option linter.unusedVariables false in
set_option maxRecDepth 100000 in
set_option maxHeartbeats 32000000 in
theorem px_min (e : E) (l c : Int) (ih : PEX e) (w : World) (b : Nat) (X : List Int) (i : Int) (be : ByteArray) (f : XP) (min : Int) (hpr : PR w b X i) (het : ET w (PD w b) (.un ⟨#[45]⟩ e l c) f) (hl : (X ++ strL be ++ prE (.un ⟨#[45]⟩ e l c) min).length ≤ 1099511627776) (hm0 : 0 ≤ min) (hm8 : min ≤ 8) :
    Calls Try.prog 31 #[.pointer (some ⟨b, 0, none⟩), .string be, xV f, .int .i64 min] w (PRPost w b (X ++ strL be ++ prE (.un ⟨#[45]⟩ e l c) min) i) := by
  have HL := hide hl
  obtain ⟨g, f1, rfl, hg, hk1, he1⟩ := het
  have HPE : Hid (prE (.un ⟨#[45]⟩ e l c) min = [45] ++ prE e 8) := by
    show (if (⟨#[45]⟩ : ByteArray).toList = [78, 79, 84] then [78, 79, 84, 32] else strL ⟨#[45]⟩) ++ prE e 8 = _
    rw [if_neg (by simp)]; rfl
  rw [HPE.out] at HL ⊢
  have HL1 : Hid ((X ++ strL be ++ [45] ++ strL ⟨#[]⟩ ++ prE e 8).length ≤ 1099511627776) := by
    have := HL.out
    show _ ≤ _
    rw [show strL ⟨#[]⟩ = [] from rfl, List.append_nil]
    simp only [List.length_append] at this ⊢
    omega
  have ex1 : Ex (fun _ => False) w (w.alloc (xO (⟨6, ⟨#[45]⟩, 0, nb, some ⟨g, 0, none⟩, 1, 1, l, c⟩))) := (Ex.refl _ _).alloc _
  have HP1 := hide (hpr.low ex1)
  have HB1 := hide (BX.new hpr (⟨6, ⟨#[45]⟩, 0, nb, some ⟨g, 0, none⟩, 1, 1, l, c⟩))
  have HT1 := hide (text_any (w.alloc (xO (⟨6, ⟨#[45]⟩, 0, nb, some ⟨g, 0, none⟩, 1, 1, l, c⟩))) b X i be HP1.out.1 (by have := HL.out; rw [List.length_append, List.length_append] at this; omega))
  have HK := hide (RC.go hk1 hg (hpr.low ex1).2)
  have HE1 := hide (he1.go (hpr.low ex1).2)
  clear hpr hl ex1
  obtain ⟨w1, hw1⟩ : ∃ wzz, w.alloc (xO (⟨6, ⟨#[45]⟩, 0, nb, some ⟨g, 0, none⟩, 1, 1, l, c⟩)) = wzz := ⟨_, rfl⟩
  rw [hw1] at HP1 HB1 HT1 HK HE1
  have HW1 := hide hw1
  unfold xO at HW1
  clear hw1
  unfold xV
  dsimp only at HW1
  go_enter Try.func31, Try.ntmps31
  go_upto_region 1 with fail
  rw [HW1.out]
  generalize w.heap.size = r6 at *
  clear HW1
  go_wp2_with fail
  refine HT1.out.mono ?_
  rintro e9 w2 ⟨rfl, hp2, hg2⟩
  have HP2 := hide hp2
  have HG2 := hide (HP1.out.2.trans hg2)
  have HB2 := hide (HB1.out.go hg2)
  have HK' := hide (RC.go HK.out.1 HK.out.2 hg2)
  have HE1' := hide (HE1.out.go hg2)
  clear hp2 hg2 HP1 HB1 HT1 HK HE1
  simp only []
  have k0 := HB2.out.te.c0
  dsimp only at k0
  have k1 := HB2.out.te.c1
  dsimp only at k1
  have HT := hide (text_any w2 b (X ++ strL be) i ⟨#[45]⟩ HP2.out (by have := HL.out; rw [show strL ⟨#[45]⟩ = [45] from rfl]; simp only [List.length_append] at this ⊢; omega))
  rw [show strL ⟨#[45]⟩ = [45] from rfl] at HT
  go_upto_region 23 with fail
  go_wp2_with fail
  refine HT.out.mono ?_
  rintro e9 w3 ⟨rfl, hp3, hg3⟩
  have HP3 := hide hp3
  have HG3 := hide (HG2.out.trans hg3)
  have HB3 := hide (HB2.out.go hg3)
  have HK3 := hide (RC.go HK'.out.1 HK'.out.2 hg3)
  have HE3 := hide (HE1'.out.go hg3)
  clear hp3 hg3 HP2 HG2 HB2 HT k0 k1 HK' HE1'
  simp only []
  have HC := hide (ih w3 b (X ++ strL be ++ [45]) i ⟨#[]⟩ f1 8 HP3.out HE3.out HL1.out (by decide) (by decide))
  rw [show X ++ strL be ++ [45] ++ strL ⟨#[]⟩ = X ++ strL be ++ [45] by rw [show strL ⟨#[]⟩ = [] from rfl, List.append_nil], List.append_assoc (X ++ strL be)] at HC
  unfold xV at HC
  have q0 := HK3.out.1.c0
  have q1 := HK3.out.1.c1
  have q2 := HK3.out.1.c2
  have q3 := HK3.out.1.c3
  have q4 := HK3.out.1.c4
  have q5 := HK3.out.1.c5
  have q6 := HK3.out.1.c6
  have k4 := HB3.out.te.c4
  dsimp only at k4
  go_upto_region 24 with fail
  go_wp2_with fail
  refine HC.out.mono ?_
  rintro e9 w4 ⟨rfl, hp4, hg4⟩
  have HP4 := hide hp4
  have HG4 := hide (HG3.out.trans hg4)
  clear hp4 hg4 HP3 HG3 HB3 HC q0 q1 q2 q3 q4 q5 q6 k4 HK3 HE3
  simp only []
  go_wp2
  exact bodyPost_ret (v := .tuple #[]) (by simp [results, Try.results31]) rfl ⟨rfl, HP4.out, HG4.out⟩
end Go.Proofs.Qxb6500774a
