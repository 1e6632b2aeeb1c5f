import Derived.Test.Qxb6500774aTd0
namespace Go.Proofs.Qxb6500774a
open Go.RowKit
set_option linter.unusedVariables false
set_option linter.unusedSimpArgs false

set_option linter.unusedSimpArgs false in
set_option linter.unusedVariables false in
set_option maxRecDepth 100000 in
set_option maxHeartbeats 32000000 in
theorem px_fld (e : E) (x : ByteArray) (l c : Int) (ih : PEX e) (w : World) (b : Nat) (X : List Int) (i : Int) (be : ByteArray) (f : XP) (min : Int) (hpr : PR w b X i) (het : ET w (PD w b) (.fld e x l c) f) (hl : (X ++ strL be ++ prE (.fld e x l c) min).length ≤ 1099511627776) (hm0 : 0 ≤ min) (hm8 : min ≤ 8) :
    Calls Try.prog 31 #[.pointer (some ⟨b, 0, none⟩), .string be, xV f, .int .i64 min] w (PRPost w b (X ++ strL be ++ prE (.fld e x l c) min) i) := by
  have HL := hide hl
  obtain ⟨g, f1, rfl, hg, hk1, he1⟩ := het
  unfold prE at HL ⊢
  have HL1 : Hid ((X ++ strL be ++ strL ⟨#[]⟩ ++ prE e 0).length ≤ 1099511627776) := by
    have := HL.out
    show _ ≤ _
    rw [← List.append_assoc, List.length_append] at this
    rw [show strL ⟨#[]⟩ = [] from rfl, List.append_nil]
    omega
  have hszx : ¬ 9223372036854775807 < 1 + x.size := by
    have := HL.out
    simp only [List.length_append] at this
    have := strL_len x
    omega
  have HSX : Hid (strL (⟨#[46]⟩ ++ x) = [46] ++ strL x) := by show _ = _; rw [strL_app]; rfl
  have ex1 : Ex (fun _ => False) w (w.alloc (xO (⟨4, nb, 0, x, some ⟨g, 0, none⟩, 1, 1, l, c⟩))) := (Ex.refl _ _).alloc _
  have HP1 := hide (hpr.low ex1)
  have HB1 := hide (BX.new hpr (⟨4, nb, 0, x, some ⟨g, 0, none⟩, 1, 1, l, c⟩))
  have HT1 := hide (text_any (w.alloc (xO (⟨4, nb, 0, x, some ⟨g, 0, none⟩, 1, 1, l, c⟩))) b X i be HP1.out.1 (by have := HL.out; rw [List.length_append, List.length_append] at this; omega))
  have HK := hide (RC.go hk1 hg (hpr.low ex1).2)
  have HE1 := hide (he1.go (hpr.low ex1).2)
  clear hpr hl ex1
  obtain ⟨w1, hw1⟩ : ∃ wzz, w.alloc (xO (⟨4, nb, 0, x, some ⟨g, 0, none⟩, 1, 1, l, c⟩)) = wzz := ⟨_, rfl⟩
  rw [hw1] at HP1 HB1 HT1 HK HE1
  have HW1 := hide hw1
  unfold xO at HW1
  clear hw1
  unfold xV
  dsimp only at HW1
  go_enter Try.func31, Try.ntmps31
  go_upto_region 1 with fail
  rw [HW1.out]
  generalize w.heap.size = r6 at *
  clear HW1
  go_wp2_with fail
  refine HT1.out.mono ?_
  rintro e9 w2 ⟨rfl, hp2, hg2⟩
  have HP2 := hide hp2
  have HG2 := hide (HP1.out.2.trans hg2)
  have HB2 := hide (HB1.out.go hg2)
  have HK' := hide (RC.go HK.out.1 HK.out.2 hg2)
  have HE1' := hide (HE1.out.go hg2)
  clear hp2 hg2 HP1 HB1 HT1 HK HE1
  simp only []
  have k0 := HB2.out.te.c0
  dsimp only at k0
  have HC := hide (ih w2 b (X ++ strL be) i ⟨#[]⟩ f1 0 HP2.out HE1'.out HL1.out (by decide) (by decide))
  rw [show X ++ strL be ++ strL ⟨#[]⟩ = X ++ strL be by rw [show strL ⟨#[]⟩ = [] from rfl, List.append_nil]] at HC
  unfold xV at HC
  have q0 := HK'.out.1.c0
  have q1 := HK'.out.1.c1
  have q2 := HK'.out.1.c2
  have q3 := HK'.out.1.c3
  have q4 := HK'.out.1.c4
  have q5 := HK'.out.1.c5
  have q6 := HK'.out.1.c6
  have k4 := HB2.out.te.c4
  dsimp only at k4
  go_upto_region 14 with fail
  go_wp2_with fail
  refine HC.out.mono ?_
  rintro e9 w3 ⟨rfl, hp3, hg3⟩
  have HP3 := hide hp3
  have HG3 := hide (HG2.out.trans hg3)
  have HB3 := hide (HB2.out.go hg3)
  clear hp3 hg3 HP2 HG2 HB2 HC q0 q1 q2 q3 q4 q5 q6 k4 k0 HK' HE1'
  simp only []
  have k3 := HB3.out.te.c3
  dsimp only at k3
  have HT := hide (text_any w3 b (X ++ strL be ++ prE e 0) i (⟨#[46]⟩ ++ x) HP3.out (by rw [HSX.out]; have := HL.out; rw [← List.append_assoc, List.length_append] at this; exact this))
  rw [HSX.out, List.append_assoc (X ++ strL be)] at HT
  go_upto_region 15 with fail
  go_wp2_with fail
  refine HT.out.mono ?_
  rintro e9 w4 ⟨rfl, hp4, hg4⟩
  have HP4 := hide hp4
  have HG4 := hide (HG3.out.trans hg4)
  clear hp4 hg4 HP3 HG3 HT
  simp only []
  go_wp2
  exact bodyPost_ret (v := .tuple #[]) (by simp [results, Try.results31]) rfl ⟨rfl, HP4.out, HG4.out⟩
set_option linter.unusedSimpArgs false in
set_option linter.unusedVariables false in
set_option maxRecDepth 100000 in
set_option maxHeartbeats 32000000 in
theorem px_idx (e j : E) (l c : Int) (ih : PEX e) (ih2 : PEX j) (w : World) (b : Nat) (X : List Int) (i : Int) (be : ByteArray) (f : XP) (min : Int) (hpr : PR w b X i) (het : ET w (PD w b) (.idx e j l c) f) (hl : (X ++ strL be ++ prE (.idx e j l c) min).length ≤ 1099511627776) (hm0 : 0 ≤ min) (hm8 : min ≤ 8) :
    Calls Try.prog 31 #[.pointer (some ⟨b, 0, none⟩), .string be, xV f, .int .i64 min] w (PRPost w b (X ++ strL be ++ prE (.idx e j l c) min) i) := by
  have HL := hide hl
  obtain ⟨g, f1, f2, rfl, hg, hk1, hk2, he1, he2⟩ := het
  unfold prE at HL ⊢
  have HL1 : Hid ((X ++ strL be ++ strL ⟨#[]⟩ ++ prE e 0).length ≤ 1099511627776) := by
    have := HL.out
    show _ ≤ _
    simp only [List.length_append] at this
    rw [show strL ⟨#[]⟩ = [] from rfl, List.append_nil]
    simp only [List.length_append]
    omega
  have HL2 : Hid ((X ++ strL be ++ prE e 0 ++ strL ⟨#[91]⟩ ++ prE j 0).length ≤ 1099511627776) := by
    have := HL.out
    show _ ≤ _
    rw [show strL ⟨#[91]⟩ = [91] from rfl]
    simp only [List.length_append] at this ⊢
    omega
  have ex1 : Ex (fun _ => False) w (w.alloc (xO (⟨5, nb, 0, nb, some ⟨g, 0, none⟩, 2, 2, l, c⟩))) := (Ex.refl _ _).alloc _
  have HP1 := hide (hpr.low ex1)
  have HB1 := hide (BX.new hpr (⟨5, nb, 0, nb, some ⟨g, 0, none⟩, 2, 2, l, c⟩))
  have HT1 := hide (text_any (w.alloc (xO (⟨5, nb, 0, nb, some ⟨g, 0, none⟩, 2, 2, l, c⟩))) b X i be HP1.out.1 (by have := HL.out; rw [List.length_append, List.length_append] at this; omega))
  have HK := hide (RC.go hk1 hg (hpr.low ex1).2)
  have HE1 := hide (he1.go (hpr.low ex1).2)
  have HK2 := hide (RC.go hk2 hg (hpr.low ex1).2)
  have HE2 := hide (he2.go (hpr.low ex1).2)
  clear hpr hl ex1
  obtain ⟨w1, hw1⟩ : ∃ wzz, w.alloc (xO (⟨5, nb, 0, nb, some ⟨g, 0, none⟩, 2, 2, l, c⟩)) = wzz := ⟨_, rfl⟩
  rw [hw1] at HP1 HB1 HT1 HK HE1 HK2 HE2
  have HW1 := hide hw1
  unfold xO at HW1
  clear hw1
  unfold xV
  dsimp only at HW1
  go_enter Try.func31, Try.ntmps31
  go_upto_region 1 with fail
  rw [HW1.out]
  generalize w.heap.size = r6 at *
  clear HW1
  go_wp2_with fail
  refine HT1.out.mono ?_
  rintro e9 w2 ⟨rfl, hp2, hg2⟩
  have HP2 := hide hp2
  have HG2 := hide (HP1.out.2.trans hg2)
  have HB2 := hide (HB1.out.go hg2)
  have HK' := hide (RC.go HK.out.1 HK.out.2 hg2)
  have HE1' := hide (HE1.out.go hg2)
  have HK2' := hide (RC.go HK2.out.1 HK.out.2 hg2)
  have HE2' := hide (HE2.out.go hg2)
  clear hp2 hg2 HP1 HB1 HT1 HK HE1 HK2 HE2
  simp only []
  have k0 := HB2.out.te.c0
  dsimp only at k0
  have HC := hide (ih w2 b (X ++ strL be) i ⟨#[]⟩ f1 0 HP2.out HE1'.out HL1.out (by decide) (by decide))
  rw [show X ++ strL be ++ strL ⟨#[]⟩ = X ++ strL be by rw [show strL ⟨#[]⟩ = [] from rfl, List.append_nil]] at HC
  unfold xV at HC
  have q0 := HK'.out.1.c0
  have q1 := HK'.out.1.c1
  have q2 := HK'.out.1.c2
  have q3 := HK'.out.1.c3
  have q4 := HK'.out.1.c4
  have q5 := HK'.out.1.c5
  have q6 := HK'.out.1.c6
  have k4 := HB2.out.te.c4
  dsimp only at k4
  go_upto_region 17 with fail
  go_wp2_with fail
  refine HC.out.mono ?_
  rintro e9 w3 ⟨rfl, hp3, hg3⟩
  have HP3 := hide hp3
  have HG3 := hide (HG2.out.trans hg3)
  have HB3 := hide (HB2.out.go hg3)
  have HK3 := hide (RC.go HK2'.out.1 HK'.out.2 hg3)
  have HE3 := hide (HE2'.out.go hg3)
  clear hp3 hg3 HP2 HG2 HB2 HC q0 q1 q2 q3 q4 q5 q6 k4 k0 HK' HE1' HK2' HE2'
  simp only []
  have HC := hide (ih2 w3 b (X ++ strL be ++ prE e 0) i ⟨#[91]⟩ f2 0 HP3.out HE3.out HL2.out (by decide) (by decide))
  rw [show strL ⟨#[91]⟩ = [91] from rfl] at HC
  unfold xV at HC
  have q0 := HK3.out.1.c0
  have q1 := HK3.out.1.c1
  have q2 := HK3.out.1.c2
  have q3 := HK3.out.1.c3
  have q4 := HK3.out.1.c4
  have q5 := HK3.out.1.c5
  have q6 := HK3.out.1.c6
  have k4 := HB3.out.te.c4
  dsimp only at k4
  go_upto_region 18 with fail
  go_wp2_with fail
  refine HC.out.mono ?_
  rintro e9 w4 ⟨rfl, hp4, hg4⟩
  have HP4 := hide hp4
  have HG4 := hide (HG3.out.trans hg4)
  clear hp4 hg4 HP3 HG3 HB3 HC q0 q1 q2 q3 q4 q5 q6 k4 HK3 HE3
  simp only []
  have HT := hide (text_any w4 b (X ++ strL be ++ prE e 0 ++ [91] ++ prE j 0) i ⟨#[93]⟩ HP4.out (by have := HL.out; rw [show strL ⟨#[93]⟩ = [93] from rfl]; simp only [List.length_append] at this ⊢; omega))
  rw [show strL ⟨#[93]⟩ = [93] from rfl, show X ++ strL be ++ prE e 0 ++ [91] ++ prE j 0 ++ [93] = X ++ strL be ++ (prE e 0 ++ ([91] ++ prE j 0) ++ [93]) by simp only [List.append_assoc]] at HT
  go_upto_region 19 with fail
  go_wp2_with fail
  refine HT.out.mono ?_
  rintro e9 w5 ⟨rfl, hp5, hg5⟩
  have HP5 := hide hp5
  have HG5 := hide (HG4.out.trans hg5)
  clear hp5 hg5 HP4 HG4 HT
  simp only []
  go_wp2
  exact bodyPost_ret (v := .tuple #[]) (by simp [results, Try.results31]) rfl ⟨rfl, HP5.out, HG5.out⟩
end Go.Proofs.Qxb6500774a
