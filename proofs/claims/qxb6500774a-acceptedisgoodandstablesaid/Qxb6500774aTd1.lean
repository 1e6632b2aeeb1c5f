import Derived.Test.Qxb6500774aTd0
namespace Go.Proofs.Qxb6500774a
open Go.RowKit
set_option linter.unusedVariables false
set_option linter.unusedSimpArgs false

set_option linter.unusedSimpArgs false in
set_option linter.unusedVariables false in
set_option maxRecDepth 100000 in
set_option maxHeartbeats 32000000 in
theorem px_num (v l c : Int) (hg : gE (.num v l c)) (w : World) (b : Nat) (X : List Int) (i : Int) (be : ByteArray) (f : XP) (min : Int) (hpr : PR w b X i) (het : ET w (PD w b) (.num v l c) f) (hl : (X ++ strL be ++ prE (.num v l c) min).length ≤ 1099511627776) (hm0 : 0 ≤ min) (hm8 : min ≤ 8) :
    Calls Try.prog 31 #[.pointer (some ⟨b, 0, none⟩), .string be, xV f, .int .i64 min] w (PRPost w b (X ++ strL be ++ prE (.num v l c) min) i) := by
  have HL := hide hl
  obtain rfl : f = _ := het
  obtain ⟨n, hn⟩ : ∃ n : Nat, v = n := ⟨v.toNat, by have := hg.1; omega⟩
  subst hn
  have hn2 : n ≤ 9223372036854775807 := by have := hg.2; omega
  have HNU := hide (fun W => numeral_any n W hn2)
  have HSZ : Hid (strL (strOfNums (decL n)) = decL n) := strL_of (byt_dec n)
  unfold prE at HL ⊢
  rw [show ((n : Int)).toNat = n by omega] at HL ⊢
  clear hg hn2
  have ex1 : Ex (fun _ => False) w (w.alloc (xO (⟨0, nb, (n : Int), nb, none, 0, 0, l, c⟩))) := (Ex.refl _ _).alloc _
  have HP1 := hide (hpr.low ex1)
  have HB1 := hide (BX.new hpr (⟨0, nb, (n : Int), nb, none, 0, 0, l, c⟩))
  have HT1 := hide (text_any (w.alloc (xO (⟨0, nb, (n : Int), nb, none, 0, 0, l, c⟩))) b X i be HP1.out.1 (by have := HL.out; rw [List.length_append, List.length_append] at this; omega))
  clear hpr hl ex1
  obtain ⟨w1, hw1⟩ : ∃ wzz, w.alloc (xO (⟨0, nb, (n : Int), nb, none, 0, 0, l, c⟩)) = wzz := ⟨_, rfl⟩
  rw [hw1] at HP1 HB1 HT1
  have HW1 := hide hw1
  unfold xO at HW1
  clear hw1
  unfold xV
  dsimp only at HW1
  go_enter Try.func31, Try.ntmps31
  go_upto_region 1 with fail
  rw [HW1.out]
  generalize w.heap.size = r6 at *
  clear HW1
  go_wp2_with fail
  refine HT1.out.mono ?_
  rintro e9 w2 ⟨rfl, hp2, hg2⟩
  have HP2 := hide hp2
  have HG2 := hide (HP1.out.2.trans hg2)
  have HB2 := hide (HB1.out.go hg2)
  clear hp2 hg2 HP1 HB1 HT1
  simp only []
  have k0 := HB2.out.te.c0
  dsimp only at k0
  have k2 := HB2.out.te.c2
  dsimp only at k2
  go_upto_region 4 with fail
  go_wp2_with (go_at_call 30; refine (HNU.out _).mono ?_; rintro e9 w3 ⟨rfl, hex⟩; have HP3 := hide (HP2.out.low hex); clear hex; simp only [])
  have HT := hide (text_any w3 b (X ++ strL be) i (strOfNums (decL n)) HP3.out.1 (by rw [HSZ.out]; have := HL.out; rw [List.length_append] at this; exact this))
  rw [HSZ.out] at HT
  refine HT.out.mono ?_
  rintro e9 w4 ⟨rfl, hp4, hg4⟩
  have HP4 := hide hp4
  have HG4 := hide ((HG2.out.trans HP3.out.2).trans hg4)
  clear hp4 hg4 HP3 HT HG2 HP2
  simp only []
  go_wp2
  exact bodyPost_ret (v := .tuple #[]) (by simp [results, Try.results31]) rfl ⟨rfl, HP4.out, HG4.out⟩
set_option linter.unusedSimpArgs false in
set_option linter.unusedVariables false in
set_option maxRecDepth 100000 in
set_option maxHeartbeats 32000000 in
theorem px_tim (v l c : Int) (hg : gE (.tim v l c)) (w : World) (b : Nat) (X : List Int) (i : Int) (be : ByteArray) (f : XP) (min : Int) (hpr : PR w b X i) (het : ET w (PD w b) (.tim v l c) f) (hl : (X ++ strL be ++ prE (.tim v l c) min).length ≤ 1099511627776) (hm0 : 0 ≤ min) (hm8 : min ≤ 8) :
    Calls Try.prog 31 #[.pointer (some ⟨b, 0, none⟩), .string be, xV f, .int .i64 min] w (PRPost w b (X ++ strL be ++ prE (.tim v l c) min) i) := by
  have HL := hide hl
  obtain rfl : f = _ := het
  obtain ⟨n, hn⟩ : ∃ n : Nat, v = n := ⟨v.toNat, by have := hg.1; omega⟩
  subst hn
  have hn2 : n ≤ 9223372036854775807 := by have := hg.2; omega
  have HNU := hide (fun W => numeral_any n W hn2)
  have hsz1 : ¬ 9223372036854775807 < (⟨#[84, 35]⟩ : ByteArray).size + (strOfNums (decL n)).size := by
    rw [str_size]
    have := decL_19 hn2
    show ¬ 9223372036854775807 < 2 + _
    omega
  have hsz2 : ¬ 9223372036854775807 < (⟨#[84, 35]⟩ ++ strOfNums (decL n) : ByteArray).size + (⟨#[109, 115]⟩ : ByteArray).size := by
    rw [app_size, str_size]
    have := decL_19 hn2
    show ¬ 9223372036854775807 < 2 + _ + 2
    omega
  have HSZ : Hid (strL (⟨#[84, 35]⟩ ++ strOfNums (decL n) ++ ⟨#[109, 115]⟩) = [84, 35] ++ decL n ++ [109, 115]) := by
    show _ = _
    rw [strL_app, strL_app, strL_of (byt_dec n)]
    rfl
  unfold prE at HL ⊢
  rw [show ((n : Int)).toNat = n by omega] at HL ⊢
  clear hg hn2
  generalize decL n = dl at *
  have ex1 : Ex (fun _ => False) w (w.alloc (xO (⟨1, nb, (n : Int), nb, none, 0, 0, l, c⟩))) := (Ex.refl _ _).alloc _
  have HP1 := hide (hpr.low ex1)
  have HB1 := hide (BX.new hpr (⟨1, nb, (n : Int), nb, none, 0, 0, l, c⟩))
  have HT1 := hide (text_any (w.alloc (xO (⟨1, nb, (n : Int), nb, none, 0, 0, l, c⟩))) b X i be HP1.out.1 (by have := HL.out; rw [List.length_append, List.length_append] at this; omega))
  clear hpr hl ex1
  obtain ⟨w1, hw1⟩ : ∃ wzz, w.alloc (xO (⟨1, nb, (n : Int), nb, none, 0, 0, l, c⟩)) = wzz := ⟨_, rfl⟩
  rw [hw1] at HP1 HB1 HT1
  have HW1 := hide hw1
  unfold xO at HW1
  clear hw1
  unfold xV
  dsimp only at HW1
  go_enter Try.func31, Try.ntmps31
  go_upto_region 1 with fail
  rw [HW1.out]
  generalize w.heap.size = r6 at *
  clear HW1
  go_wp2_with fail
  refine HT1.out.mono ?_
  rintro e9 w2 ⟨rfl, hp2, hg2⟩
  have HP2 := hide hp2
  have HG2 := hide (HP1.out.2.trans hg2)
  have HB2 := hide (HB1.out.go hg2)
  clear hp2 hg2 HP1 HB1 HT1
  simp only []
  have k0 := HB2.out.te.c0
  dsimp only at k0
  have k2 := HB2.out.te.c2
  dsimp only at k2
  have s1 : ¬ 9223372036854775807 < 2 + (strOfNums dl).size := hsz1
  have s2 : ¬ 9223372036854775807 < (⟨#[84, 35]⟩ ++ strOfNums dl : ByteArray).size + 2 := hsz2
  rw [app_size] at s2
  go_upto_region 6 with fail
  go_wp2_with (go_at_call 30; refine (HNU.out _).mono ?_; rintro e9 w3 ⟨rfl, hex⟩; have HP3 := hide (HP2.out.low hex); clear hex; simp only [])
  have HT := hide (text_any w3 b (X ++ strL be) i (⟨#[84, 35]⟩ ++ strOfNums dl ++ ⟨#[109, 115]⟩) HP3.out.1 (by rw [HSZ.out]; have := HL.out; rw [List.length_append] at this; exact this))
  rw [HSZ.out] at HT
  refine HT.out.mono ?_
  rintro e9 w4 ⟨rfl, hp4, hg4⟩
  have HP4 := hide hp4
  have HG4 := hide ((HG2.out.trans HP3.out.2).trans hg4)
  clear hp4 hg4 HP3 HT HG2 HP2
  simp only []
  go_wp2
  exact bodyPost_ret (v := .tuple #[]) (by simp [results, Try.results31]) rfl ⟨rfl, HP4.out, HG4.out⟩
end Go.Proofs.Qxb6500774a
