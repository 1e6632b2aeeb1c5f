import Derived.Test.Qxb6500774aTd0
namespace Go.Proofs.Qxb6500774a
open Go.RowKit
set_option linter.unusedVariables false
set_option linter.unusedSimpArgs false

set_option linter.unusedSimpArgs false in
set_option linter.unusedVariables false in
set_option maxRecDepth 100000 in
set_option maxHeartbeats 32000000 in
theorem px_fal (l c : Int)  (w : World) (b : Nat) (X : List Int) (i : Int) (be : ByteArray) (f : XP) (min : Int) (hpr : PR w b X i) (het : ET w (PD w b) (.bol 0 l c) f) (hl : (X ++ strL be ++ prE (.bol 0 l c) min).length ≤ 1099511627776) (hm0 : 0 ≤ min) (hm8 : min ≤ 8) :
    Calls Try.prog 31 #[.pointer (some ⟨b, 0, none⟩), .string be, xV f, .int .i64 min] w (PRPost w b (X ++ strL be ++ prE (.bol 0 l c) min) i) := by
  have HL := hide hl
  obtain rfl : f = _ := het
  have HPR : Hid (prE (.bol 0 l c) min = [70, 65, 76, 83, 69]) := rfl
  rw [HPR.out] at HL ⊢
  have ex1 : Ex (fun _ => False) w (w.alloc (xO (⟨2, nb, 0, nb, none, 0, 0, l, c⟩))) := (Ex.refl _ _).alloc _
  have HP1 := hide (hpr.low ex1)
  have HB1 := hide (BX.new hpr (⟨2, nb, 0, nb, none, 0, 0, l, c⟩))
  have HT1 := hide (text_any (w.alloc (xO (⟨2, nb, 0, nb, none, 0, 0, l, c⟩))) b X i be HP1.out.1 (by have := HL.out; rw [List.length_append, List.length_append] at this; omega))
  clear hpr hl ex1
  obtain ⟨w1, hw1⟩ : ∃ wzz, w.alloc (xO (⟨2, nb, 0, nb, none, 0, 0, l, c⟩)) = wzz := ⟨_, rfl⟩
  rw [hw1] at HP1 HB1 HT1
  have HW1 := hide hw1
  unfold xO at HW1
  clear hw1
  unfold xV
  dsimp only at HW1
  go_enter Try.func31, Try.ntmps31
  go_upto_region 1 with fail
  rw [HW1.out]
  generalize w.heap.size = r6 at *
  clear HW1
  go_wp2_with fail
  refine HT1.out.mono ?_
  rintro e9 w2 ⟨rfl, hp2, hg2⟩
  have HP2 := hide hp2
  have HG2 := hide (HP1.out.2.trans hg2)
  have HB2 := hide (HB1.out.go hg2)
  clear hp2 hg2 HP1 HB1 HT1
  simp only []
  have k0 := HB2.out.te.c0
  dsimp only at k0
  have k2 := HB2.out.te.c2
  dsimp only at k2
  have HT := hide (text_any w2 b (X ++ strL be) i ⟨#[70, 65, 76, 83, 69]⟩ HP2.out (by have := HL.out; rw [List.length_append] at this; exact this))
  go_upto_region 10 with fail
  go_wp2_with fail
  refine HT.out.mono ?_
  rintro e9 w3 ⟨rfl, hp2, hg2⟩
  have HP3 := hide hp2
  have HG3 := hide (HG2.out.trans hg2)
  clear hp2 hg2 HP2 HG2 HT
  simp only []
  go_wp2
  exact bodyPost_ret (v := .tuple #[]) (by simp [results, Try.results31]) rfl ⟨rfl, HP3.out, HG3.out⟩
set_option linter.unusedSimpArgs false in
set_option linter.unusedVariables false in
set_option maxRecDepth 100000 in
set_option maxHeartbeats 32000000 in
theorem px_tru (l c : Int)  (w : World) (b : Nat) (X : List Int) (i : Int) (be : ByteArray) (f : XP) (min : Int) (hpr : PR w b X i) (het : ET w (PD w b) (.bol 1 l c) f) (hl : (X ++ strL be ++ prE (.bol 1 l c) min).length ≤ 1099511627776) (hm0 : 0 ≤ min) (hm8 : min ≤ 8) :
    Calls Try.prog 31 #[.pointer (some ⟨b, 0, none⟩), .string be, xV f, .int .i64 min] w (PRPost w b (X ++ strL be ++ prE (.bol 1 l c) min) i) := by
  have HL := hide hl
  obtain rfl : f = _ := het
  have HPR : Hid (prE (.bol 1 l c) min = [84, 82, 85, 69]) := rfl
  rw [HPR.out] at HL ⊢
  have ex1 : Ex (fun _ => False) w (w.alloc (xO (⟨2, nb, 1, nb, none, 0, 0, l, c⟩))) := (Ex.refl _ _).alloc _
  have HP1 := hide (hpr.low ex1)
  have HB1 := hide (BX.new hpr (⟨2, nb, 1, nb, none, 0, 0, l, c⟩))
  have HT1 := hide (text_any (w.alloc (xO (⟨2, nb, 1, nb, none, 0, 0, l, c⟩))) b X i be HP1.out.1 (by have := HL.out; rw [List.length_append, List.length_append] at this; omega))
  clear hpr hl ex1
  obtain ⟨w1, hw1⟩ : ∃ wzz, w.alloc (xO (⟨2, nb, 1, nb, none, 0, 0, l, c⟩)) = wzz := ⟨_, rfl⟩
  rw [hw1] at HP1 HB1 HT1
  have HW1 := hide hw1
  unfold xO at HW1
  clear hw1
  unfold xV
  dsimp only at HW1
  go_enter Try.func31, Try.ntmps31
  go_upto_region 1 with fail
  rw [HW1.out]
  generalize w.heap.size = r6 at *
  clear HW1
  go_wp2_with fail
  refine HT1.out.mono ?_
  rintro e9 w2 ⟨rfl, hp2, hg2⟩
  have HP2 := hide hp2
  have HG2 := hide (HP1.out.2.trans hg2)
  have HB2 := hide (HB1.out.go hg2)
  clear hp2 hg2 HP1 HB1 HT1
  simp only []
  have k0 := HB2.out.te.c0
  dsimp only at k0
  have k2 := HB2.out.te.c2
  dsimp only at k2
  have HT := hide (text_any w2 b (X ++ strL be) i ⟨#[84, 82, 85, 69]⟩ HP2.out (by have := HL.out; rw [List.length_append] at this; exact this))
  go_upto_region 9 with fail
  go_wp2_with fail
  refine HT.out.mono ?_
  rintro e9 w3 ⟨rfl, hp2, hg2⟩
  have HP3 := hide hp2
  have HG3 := hide (HG2.out.trans hg2)
  clear hp2 hg2 HP2 HG2 HT
  simp only []
  go_wp2
  exact bodyPost_ret (v := .tuple #[]) (by simp [results, Try.results31]) rfl ⟨rfl, HP3.out, HG3.out⟩
set_option linter.unusedSimpArgs false in
set_option linter.unusedVariables false in
set_option maxRecDepth 100000 in
set_option maxHeartbeats 32000000 in
theorem px_nm (x : ByteArray) (l c : Int)  (w : World) (b : Nat) (X : List Int) (i : Int) (be : ByteArray) (f : XP) (min : Int) (hpr : PR w b X i) (het : ET w (PD w b) (.nm x l c) f) (hl : (X ++ strL be ++ prE (.nm x l c) min).length ≤ 1099511627776) (hm0 : 0 ≤ min) (hm8 : min ≤ 8) :
    Calls Try.prog 31 #[.pointer (some ⟨b, 0, none⟩), .string be, xV f, .int .i64 min] w (PRPost w b (X ++ strL be ++ prE (.nm x l c) min) i) := by
  have HL := hide hl
  obtain rfl : f = _ := het
  unfold prE at HL ⊢
  have ex1 : Ex (fun _ => False) w (w.alloc (xO (⟨3, nb, 0, x, none, 0, 0, l, c⟩))) := (Ex.refl _ _).alloc _
  have HP1 := hide (hpr.low ex1)
  have HB1 := hide (BX.new hpr (⟨3, nb, 0, x, none, 0, 0, l, c⟩))
  have HT1 := hide (text_any (w.alloc (xO (⟨3, nb, 0, x, none, 0, 0, l, c⟩))) b X i be HP1.out.1 (by have := HL.out; rw [List.length_append, List.length_append] at this; omega))
  clear hpr hl ex1
  obtain ⟨w1, hw1⟩ : ∃ wzz, w.alloc (xO (⟨3, nb, 0, x, none, 0, 0, l, c⟩)) = wzz := ⟨_, rfl⟩
  rw [hw1] at HP1 HB1 HT1
  have HW1 := hide hw1
  unfold xO at HW1
  clear hw1
  unfold xV
  dsimp only at HW1
  go_enter Try.func31, Try.ntmps31
  go_upto_region 1 with fail
  rw [HW1.out]
  generalize w.heap.size = r6 at *
  clear HW1
  go_wp2_with fail
  refine HT1.out.mono ?_
  rintro e9 w2 ⟨rfl, hp2, hg2⟩
  have HP2 := hide hp2
  have HG2 := hide (HP1.out.2.trans hg2)
  have HB2 := hide (HB1.out.go hg2)
  clear hp2 hg2 HP1 HB1 HT1
  simp only []
  have k0 := HB2.out.te.c0
  dsimp only at k0
  have k3 := HB2.out.te.c3
  dsimp only at k3
  have HT := hide (text_any w2 b (X ++ strL be) i x HP2.out (by have := HL.out; rw [List.length_append] at this; exact this))
  go_upto_region 12 with fail
  go_wp2_with fail
  refine HT.out.mono ?_
  rintro e9 w3 ⟨rfl, hp2, hg2⟩
  have HP3 := hide hp2
  have HG3 := hide (HG2.out.trans hg2)
  clear hp2 hg2 HP2 HG2 HT
  simp only []
  go_wp2
  exact bodyPost_ret (v := .tuple #[]) (by simp [results, Try.results31]) rfl ⟨rfl, HP3.out, HG3.out⟩
end Go.Proofs.Qxb6500774a
