import Derived.Test.Qxb6500774aTf1
import Derived.Test.Qxb6500774aUh
namespace Go.Proofs.Qxb6500774a
open Go.RowKit
set_option linter.unusedVariables false
set_option linter.unusedSimpArgs false

set_option linter.unusedSimpArgs false in
set_option linter.unusedVariables false in
set_option maxRecDepth 100000 in
set_option maxHeartbeats 32000000 in
theorem pp_rsp (p q : E) (m : Nat) (hg1 : gE p) (hg2 : gE q) (hm : m ≤ 9223372036854775807) (w : World) (D : Nat → Prop) (f1 f2 : XP) (he1 : ET w D p f1) (hl : ([82, 69, 83, 80, 79, 78, 83, 69, 32] ++ prE p 0 ++ ([32, 87, 73, 84, 72, 73, 78, 32] ++ decL m ++ [32, 84, 72, 69, 78, 32]) ++ prE q 0 ++ [59, 10]).length ≤ 1099511627776) (he2 : ET w D q f2) :
    Calls Try.prog 18 #[prV true f1 (m : Int) f2] w (TxPost w ([82, 69, 83, 80, 79, 78, 83, 69, 32] ++ prE p 0 ++ ([32, 87, 73, 84, 72, 73, 78, 32] ++ decL m ++ [32, 84, 72, 69, 78, 32]) ++ prE q 0 ++ [59, 10])) := by
  have HL := hide hl
  have HI1 := hide (pexpr_any p hg1)
  have exq : Ex (fun _ => False) w (w.alloc (.cells #[.bool true, .int .i64 f1.k, .string f1.x, .int .i64 f1.n, .string f1.m, .slice f1.q f1.ql f1.qc, .int .i64 f1.li, .int .i64 f1.co, .int .i64 (m : Int), .int .i64 f2.k, .string f2.x, .int .i64 f2.n, .string f2.m, .slice f2.q f2.ql f2.qc, .int .i64 f2.li, .int .i64 f2.co] 49)) := (Ex.refl _ _).alloc _
  have exp : Ex (fun _ => False) (w.alloc (.cells #[.bool true, .int .i64 f1.k, .string f1.x, .int .i64 f1.n, .string f1.m, .slice f1.q f1.ql f1.qc, .int .i64 f1.li, .int .i64 f1.co, .int .i64 (m : Int), .int .i64 f2.k, .string f2.x, .int .i64 f2.n, .string f2.m, .slice f2.q f2.ql f2.qc, .int .i64 f2.li, .int .i64 f2.co] 49)) ((w.alloc (.cells #[.bool true, .int .i64 f1.k, .string f1.x, .int .i64 f1.n, .string f1.m, .slice f1.q f1.ql f1.qc, .int .i64 f1.li, .int .i64 f1.co, .int .i64 (m : Int), .int .i64 f2.k, .string f2.x, .int .i64 f2.n, .string f2.m, .slice f2.q f2.ql f2.qc, .int .i64 f2.li, .int .i64 f2.co] 49)).alloc (.cells #[.slice none 0 0, .int .i64 0] 72)) := (Ex.refl _ _).alloc _
  have HQ := hide (QK.new1 w true f1 (m : Int) f2)
  have HP0 := hide (PR.new0 (w.alloc (.cells #[.bool true, .int .i64 f1.k, .string f1.x, .int .i64 f1.n, .string f1.m, .slice f1.q f1.ql f1.qc, .int .i64 f1.li, .int .i64 f1.co, .int .i64 (m : Int), .int .i64 f2.k, .string f2.x, .int .i64 f2.n, .string f2.m, .slice f2.q f2.ql f2.qc, .int .i64 f2.li, .int .i64 f2.co] 49)))
  have HPD : Hid (∀ k, PD ((w.alloc (.cells #[.bool true, .int .i64 f1.k, .string f1.x, .int .i64 f1.n, .string f1.m, .slice f1.q f1.ql f1.qc, .int .i64 f1.li, .int .i64 f1.co, .int .i64 (m : Int), .int .i64 f2.k, .string f2.x, .int .i64 f2.n, .string f2.m, .slice f2.q f2.ql f2.qc, .int .i64 f2.li, .int .i64 f2.co] 49)).alloc (.cells #[.slice none 0 0, .int .i64 0] 72)) (w.alloc (.cells #[.bool true, .int .i64 f1.k, .string f1.x, .int .i64 f1.n, .string f1.m, .slice f1.q f1.ql f1.qc, .int .i64 f1.li, .int .i64 f1.co, .int .i64 (m : Int), .int .i64 f2.k, .string f2.x, .int .i64 f2.n, .string f2.m, .slice f2.q f2.ql f2.qc, .int .i64 f2.li, .int .i64 f2.co] 49)).heap.size k → (w.alloc (.cells #[.bool true, .int .i64 f1.k, .string f1.x, .int .i64 f1.n, .string f1.m, .slice f1.q f1.ql f1.qc, .int .i64 f1.li, .int .i64 f1.co, .int .i64 (m : Int), .int .i64 f2.k, .string f2.x, .int .i64 f2.n, .string f2.m, .slice f2.q f2.ql f2.qc, .int .i64 f2.li, .int .i64 f2.co] 49)).heap.size ≤ k) := fun k z => PR.pd0 _ z
  have HE0 := hide (exq.trans exp)
  have HT1 : Hid (ET ((w.alloc (.cells #[.bool true, .int .i64 f1.k, .string f1.x, .int .i64 f1.n, .string f1.m, .slice f1.q f1.ql f1.qc, .int .i64 f1.li, .int .i64 f1.co, .int .i64 (m : Int), .int .i64 f2.k, .string f2.x, .int .i64 f2.n, .string f2.m, .slice f2.q f2.ql f2.qc, .int .i64 f2.li, .int .i64 f2.co] 49)).alloc (.cells #[.slice none 0 0, .int .i64 0] 72)) (PD ((w.alloc (.cells #[.bool true, .int .i64 f1.k, .string f1.x, .int .i64 f1.n, .string f1.m, .slice f1.q f1.ql f1.qc, .int .i64 f1.li, .int .i64 f1.co, .int .i64 (m : Int), .int .i64 f2.k, .string f2.x, .int .i64 f2.n, .string f2.m, .slice f2.q f2.ql f2.qc, .int .i64 f2.li, .int .i64 f2.co] 49)).alloc (.cells #[.slice none 0 0, .int .i64 0] 72)) (w.alloc (.cells #[.bool true, .int .i64 f1.k, .string f1.x, .int .i64 f1.n, .string f1.m, .slice f1.q f1.ql f1.qc, .int .i64 f1.li, .int .i64 f1.co, .int .i64 (m : Int), .int .i64 f2.k, .string f2.x, .int .i64 f2.n, .string f2.m, .slice f2.q f2.ql f2.qc, .int .i64 f2.li, .int .i64 f2.co] 49)).heap.size) p f1) := he1.keep HE0.out (fun _ z => z.elim) (fun k z => .inr (Nat.le_trans exq.size (HPD.out k z)))
  have HI2 := hide (pexpr_any q hg2)
  have HNU := hide (fun W => numeral_any m W hm)
  have HT2 : Hid (ET ((w.alloc (.cells #[.bool true, .int .i64 f1.k, .string f1.x, .int .i64 f1.n, .string f1.m, .slice f1.q f1.ql f1.qc, .int .i64 f1.li, .int .i64 f1.co, .int .i64 (m : Int), .int .i64 f2.k, .string f2.x, .int .i64 f2.n, .string f2.m, .slice f2.q f2.ql f2.qc, .int .i64 f2.li, .int .i64 f2.co] 49)).alloc (.cells #[.slice none 0 0, .int .i64 0] 72)) (PD ((w.alloc (.cells #[.bool true, .int .i64 f1.k, .string f1.x, .int .i64 f1.n, .string f1.m, .slice f1.q f1.ql f1.qc, .int .i64 f1.li, .int .i64 f1.co, .int .i64 (m : Int), .int .i64 f2.k, .string f2.x, .int .i64 f2.n, .string f2.m, .slice f2.q f2.ql f2.qc, .int .i64 f2.li, .int .i64 f2.co] 49)).alloc (.cells #[.slice none 0 0, .int .i64 0] 72)) (w.alloc (.cells #[.bool true, .int .i64 f1.k, .string f1.x, .int .i64 f1.n, .string f1.m, .slice f1.q f1.ql f1.qc, .int .i64 f1.li, .int .i64 f1.co, .int .i64 (m : Int), .int .i64 f2.k, .string f2.x, .int .i64 f2.n, .string f2.m, .slice f2.q f2.ql f2.qc, .int .i64 f2.li, .int .i64 f2.co] 49)).heap.size) q f2) := he2.keep HE0.out (fun _ z => z.elim) (fun k z => .inr (Nat.le_trans exq.size (HPD.out k z)))
  have hsz0 := decL_19 hm
  have hsz1 : ¬ 9223372036854775807 < 8 + (strOfNums (decL m)).size := by rw [str_size]; omega
  have hsz2 : ¬ 9223372036854775807 < 8 + (strOfNums (decL m)).size + 6 := by rw [str_size]; omega
  have hsz3 : ¬ 9223372036854775807 < (⟨#[32, 87, 73, 84, 72, 73, 78, 32]⟩ ++ strOfNums (decL m) : ByteArray).size + 6 := by rw [app_size]; exact hsz2
  have HSX : Hid (strL (⟨#[32, 87, 73, 84, 72, 73, 78, 32]⟩ ++ strOfNums (decL m) ++ ⟨#[32, 84, 72, 69, 78, 32]⟩) = [32, 87, 73, 84, 72, 73, 78, 32] ++ decL m ++ [32, 84, 72, 69, 78, 32]) := by show _ = _; rw [strL_app, strL_app, strL_of (byt_dec m)]; rfl
  have HK : Hid (QK ((w.alloc (.cells #[.bool true, .int .i64 f1.k, .string f1.x, .int .i64 f1.n, .string f1.m, .slice f1.q f1.ql f1.qc, .int .i64 f1.li, .int .i64 f1.co, .int .i64 (m : Int), .int .i64 f2.k, .string f2.x, .int .i64 f2.n, .string f2.m, .slice f2.q f2.ql f2.qc, .int .i64 f2.li, .int .i64 f2.co] 49)).alloc (.cells #[.slice none 0 0, .int .i64 0] 72)) w.heap.size true f1 (m : Int) f2 ∧ ¬ PD ((w.alloc (.cells #[.bool true, .int .i64 f1.k, .string f1.x, .int .i64 f1.n, .string f1.m, .slice f1.q f1.ql f1.qc, .int .i64 f1.li, .int .i64 f1.co, .int .i64 (m : Int), .int .i64 f2.k, .string f2.x, .int .i64 f2.n, .string f2.m, .slice f2.q f2.ql f2.qc, .int .i64 f2.li, .int .i64 f2.co] 49)).alloc (.cells #[.slice none 0 0, .int .i64 0] 72)) (w.alloc (.cells #[.bool true, .int .i64 f1.k, .string f1.x, .int .i64 f1.n, .string f1.m, .slice f1.q f1.ql f1.qc, .int .i64 f1.li, .int .i64 f1.co, .int .i64 (m : Int), .int .i64 f2.k, .string f2.x, .int .i64 f2.n, .string f2.m, .slice f2.q f2.ql f2.qc, .int .i64 f2.li, .int .i64 f2.co] 49)).heap.size w.heap.size) := ⟨HQ.out.keep exp (fun z => z), fun z => by have := HPD.out _ z; simp at this; omega⟩
  have HPW : Hid (∀ k, PD ((w.alloc (.cells #[.bool true, .int .i64 f1.k, .string f1.x, .int .i64 f1.n, .string f1.m, .slice f1.q f1.ql f1.qc, .int .i64 f1.li, .int .i64 f1.co, .int .i64 (m : Int), .int .i64 f2.k, .string f2.x, .int .i64 f2.n, .string f2.m, .slice f2.q f2.ql f2.qc, .int .i64 f2.li, .int .i64 f2.co] 49)).alloc (.cells #[.slice none 0 0, .int .i64 0] 72)) (w.alloc (.cells #[.bool true, .int .i64 f1.k, .string f1.x, .int .i64 f1.n, .string f1.m, .slice f1.q f1.ql f1.qc, .int .i64 f1.li, .int .i64 f1.co, .int .i64 (m : Int), .int .i64 f2.k, .string f2.x, .int .i64 f2.n, .string f2.m, .slice f2.q f2.ql f2.qc, .int .i64 f2.li, .int .i64 f2.co] 49)).heap.size k → w.heap.size ≤ k) := fun k z => Nat.le_trans exq.size (HPD.out k z)
  clear hl exq exp HQ HPD he1 hg1 he2 hg2 hm hsz0
  obtain ⟨TT, hTT⟩ : ∃ T, [82, 69, 83, 80, 79, 78, 83, 69, 32] ++ prE p 0 ++ ([32, 87, 73, 84, 72, 73, 78, 32] ++ decL m ++ [32, 84, 72, 69, 78, 32]) ++ prE q 0 ++ [59, 10] = T := ⟨_, rfl⟩
  have HTT := hide hTT
  rw [hTT]
  clear hTT
  unfold prV
  go_enter Try.func18, Try.ntmps18
  go_upto_region 2 with fail
  generalize ((w.alloc (.cells #[.bool true, .int .i64 f1.k, .string f1.x, .int .i64 f1.n, .string f1.m, .slice f1.q f1.ql f1.qc, .int .i64 f1.li, .int .i64 f1.co, .int .i64 (m : Int), .int .i64 f2.k, .string f2.x, .int .i64 f2.n, .string f2.m, .slice f2.q f2.ql f2.qc, .int .i64 f2.li, .int .i64 f2.co] 49)).alloc (.cells #[.slice none 0 0, .int .i64 0] 72)) = w1 at *
  rw [show (w.alloc (.cells #[.bool true, .int .i64 f1.k, .string f1.x, .int .i64 f1.n, .string f1.m, .slice f1.q f1.ql f1.qc, .int .i64 f1.li, .int .i64 f1.co, .int .i64 (m : Int), .int .i64 f2.k, .string f2.x, .int .i64 f2.n, .string f2.m, .slice f2.q f2.ql f2.qc, .int .i64 f2.li, .int .i64 f2.co] 49)).heap.size = w.heap.size + 1 by simp] at HP0 HT1 HK HPW HT2
  obtain ⟨bb, hbb⟩ : ∃ x, w.heap.size + 1 = x := ⟨_, rfl⟩
  rw [hbb] at HP0 HT1 HK HPW HT2
  rw [hbb]
  clear hbb
  obtain ⟨r1, hr1⟩ : ∃ x, w.heap.size = x := ⟨_, rfl⟩
  rw [hr1] at HK
  rw [hr1]
  have HR1 := hide hr1
  clear hr1
  have HG0 : Hid (PGo bb w1 w1) := PGo.refl _ _
  have HC := hide (HI1.out w1 bb [] 0 ⟨#[82, 69, 83, 80, 79, 78, 83, 69, 32]⟩ f1 0 HP0.out HT1.out (by have := HL.out; rw [show strL ⟨#[82, 69, 83, 80, 79, 78, 83, 69, 32]⟩ = [82, 69, 83, 80, 79, 78, 83, 69, 32] from rfl]; simp only [List.length_append, List.length_nil] at this ⊢; omega) (by decide) (by decide))
  rw [show strL ⟨#[82, 69, 83, 80, 79, 78, 83, 69, 32]⟩ = [82, 69, 83, 80, 79, 78, 83, 69, 32] from rfl] at HC
  unfold xV at HC
  have k0 := HK.out.1.c0
  have k1 := HK.out.1.c1
  have k2 := HK.out.1.c2
  have k3 := HK.out.1.c3
  have k4 := HK.out.1.c4
  have k5 := HK.out.1.c5
  have k6 := HK.out.1.c6
  have k7 := HK.out.1.c7
  go_upto_region 3 with fail
  go_wp2_with fail
  refine HC.out.mono ?_
  rintro e9 w2 ⟨rfl, hp9, hg9⟩
  have HP2 := hide hp9
  have HG2 := hide (HG0.out.trans hg9)
  have HK2 := hide (QK.go HK.out hg9)
  have HE2 := hide (HT2.out.go hg9)
  clear hp9 hg9 HP0 HG0 HC HT1 HT2 HK k0 k1 k2 k3 k4 k5 k6 k7
  simp only []
  have HPd := hide (HP2.out.low ((Ex.refl (fun _ => False) w2).drew))
  have HGd := hide (HG2.out.trans HPd.out.2)
  have HKd := hide (QK.go HK2.out HPd.out.2)
  have HEd := hide (HE2.out.go HPd.out.2)
  clear HP2 HG2 HK2 HE2
  go_upto_region 4 with fail
  refine wp_region_until (fun w6 => QK w6 r1 true f1 (m : Int) f2) 8 (by kernel_rfl) (HKd.out.1) (fun hHeld => ?_)
  generalize w2.drew = wd at *
  refine wpAnyU_take (i := 0) (v := ?_) [8] rfl (by kernel_rfl) (by kernel_rfl) (by kernel_rfl) (by kernel_rfl) (fun _ _ _ h => h) (Or.inl ⟨by rfl, ?_⟩) (by assumption) ?_
  rotate_left
  · (intro w hSw; (try dsimp only at hSw); (skip); go_simp; try (with_reducible rfl))
  try simp only [Act.put, List.getElem_toArray, List.getElem_cons_zero, List.getElem_cons_succ, List.setIfInBounds_toArray, List.set_cons_zero, List.set_cons_succ]
  refine wpAnyU_take (i := 1) (v := ?_) [2, 3, 8] rfl (by kernel_rfl) (by kernel_rfl) (by kernel_rfl) (by kernel_rfl) (fun _ _ _ h => h) (Or.inl ⟨by rfl, ?_⟩) (by assumption) ?_
  rotate_left
  · (intro w hSw; (try dsimp only at hSw); (skip); go_simp; try (with_reducible rfl))
  try simp only [Act.put, List.getElem_toArray, List.getElem_cons_zero, List.getElem_cons_succ, List.setIfInBounds_toArray, List.set_cons_zero, List.set_cons_succ]
  refine wpAnyU_take (i := 2) (v := ?_) [3, 8] rfl (by kernel_rfl) (by kernel_rfl) (by kernel_rfl) (by kernel_rfl) (fun _ _ _ h => h) (Or.inl ⟨by rfl, ?_⟩) (by assumption) ?_
  rotate_left
  · (intro w hSw; (try dsimp only at hSw); (have k8 := hSw.c8; have k9 := hSw.c9; have k10 := hSw.c10; have k11 := hSw.c11; have k12 := hSw.c12; have k13 := hSw.c13; have k14 := hSw.c14; have k15 := hSw.c15); go_simp; try (with_reducible rfl))
  try simp only [Act.put, List.getElem_toArray, List.getElem_cons_zero, List.getElem_cons_succ, List.setIfInBounds_toArray, List.set_cons_zero, List.set_cons_succ]
  refine wpAnyU_take (i := 6) (v := ?_) [7, 8] rfl (by kernel_rfl) (by kernel_rfl) (by kernel_rfl) (by kernel_rfl) (fun _ _ _ h => h) (Or.inl ⟨by rfl, ?_⟩) (by assumption) ?_
  rotate_left
  · (intro w hSw; (try dsimp only at hSw); (skip); go_simp; try (with_reducible rfl))
  try simp only [Act.put, List.getElem_toArray, List.getElem_cons_zero, List.getElem_cons_succ, List.setIfInBounds_toArray, List.set_cons_zero, List.set_cons_succ]
  refine wpAnyU_take (i := 7) (v := ?_) [8] rfl (by kernel_rfl) (by kernel_rfl) (by kernel_rfl) (by kernel_rfl) (fun _ _ _ h => h) (Or.inl ⟨by rfl, ?_⟩) (by assumption) ?_
  rotate_left
  · (intro w hSw; (try dsimp only at hSw); (have k8 := hSw.c8; have k9 := hSw.c9; have k10 := hSw.c10; have k11 := hSw.c11; have k12 := hSw.c12; have k13 := hSw.c13; have k14 := hSw.c14; have k15 := hSw.c15); go_simp; try (with_reducible rfl))
  try simp only [Act.put, List.getElem_toArray, List.getElem_cons_zero, List.getElem_cons_succ, List.setIfInBounds_toArray, List.set_cons_zero, List.set_cons_succ]
  refine wpAnyU_ready (rs := [3]) (by kernel_rfl) (by simp) ?_
  refine (AllReadyU.cons rfl (fun K hK => ?_) AllReadyU.nil)
  · refine step_call rfl 30 _ (by simp [go_sem]) (HNU.out wd) ?_
    rintro e9 wn ⟨rfl, hex⟩
    have HPn := hide (HPd.out.1.low hex)
    have HGn := hide (HGd.out.trans HPn.out.2)
    have HKn := hide (QK.go HKd.out HPn.out.2)
    have HEn := hide (HEd.out.go HPn.out.2)
    clear hex HPd HGd HKd HEd
    refine ⟨_, rfl, ?_⟩
    refine hK.out _ _ ?_ (fun hHeld => ?_)
    · exact HKn.out.1
    clear hK K
    try simp only [Act.put, List.getElem_toArray, List.getElem_cons_zero, List.getElem_cons_succ, List.setIfInBounds_toArray, List.set_cons_zero, List.set_cons_succ]
    refine wpAnyU_take (i := 4) (v := ?_) [5, 8] rfl (by kernel_rfl) (by kernel_rfl) (by kernel_rfl) (by kernel_rfl) (fun _ _ _ h => h) (Or.inl ⟨by rfl, ?_⟩) (by assumption) ?_
    rotate_left
    · (intro w hSw; (try dsimp only at hSw); (skip); go_simp; try (with_reducible rfl))
    try simp only [Act.put, List.getElem_toArray, List.getElem_cons_zero, List.getElem_cons_succ, List.setIfInBounds_toArray, List.set_cons_zero, List.set_cons_succ]
    refine wpAnyU_take (i := 5) (v := ?_) [8] rfl (by kernel_rfl) (by kernel_rfl) (by kernel_rfl) (by kernel_rfl) (fun _ _ _ h => h) (Or.inl ⟨by rfl, ?_⟩) (by assumption) ?_
    rotate_left
    · (intro w hSw; (try dsimp only at hSw); (skip); go_simp; try (with_reducible rfl))
    try simp only [Act.put, List.getElem_toArray, List.getElem_cons_zero, List.getElem_cons_succ, List.setIfInBounds_toArray, List.set_cons_zero, List.set_cons_succ]
    refine wpAnyU_ready (rs := [8]) (by kernel_rfl) (by simp) ?_
    refine AllReadyU.last rfl (fun K hK => ?_)
    have HC := hide (HI2.out wn bb ([] ++ [82, 69, 83, 80, 79, 78, 83, 69, 32] ++ prE p 0) 0 (⟨#[32, 87, 73, 84, 72, 73, 78, 32]⟩ ++ strOfNums (decL m) ++ ⟨#[32, 84, 72, 69, 78, 32]⟩) f2 0 HPn.out.1 HEn.out (by have := HL.out; rw [HSX.out]; simp only [List.length_append, List.length_nil] at this ⊢; omega) (by decide) (by decide))
    rw [HSX.out] at HC
    unfold xV at HC
    refine step_call rfl 31 _ (by simp [go_sem]) HC.out ?_
    rintro e9 w4 ⟨rfl, hp9, hg9⟩
    have HP4 := hide hp9
    have HG4 := hide (HGn.out.trans hg9)
    clear hp9 hg9 HPn HGn HKn HEn HC
    refine ⟨_, rfl, ?_⟩
    refine hK.out _ _ ?_
    clear hK K
    try simp only [Act.put, List.getElem_toArray, List.getElem_cons_zero, List.getElem_cons_succ, List.setIfInBounds_toArray, List.set_cons_zero, List.set_cons_succ]
    refine wpAnyU_done (by kernel_rfl) ?_ _
    have HT := hide (text_any w4 bb ([] ++ [82, 69, 83, 80, 79, 78, 83, 69, 32] ++ prE p 0 ++ ([32, 87, 73, 84, 72, 73, 78, 32] ++ decL m ++ [32, 84, 72, 69, 78, 32]) ++ prE q 0) 0 ⟨#[59, 10]⟩ HP4.out (by have := HL.out; rw [show strL ⟨#[59, 10]⟩ = [59, 10] from rfl]; simp only [List.length_append] at this ⊢; omega))
    rw [show strL ⟨#[59, 10]⟩ = [59, 10] from rfl, show [] ++ [82, 69, 83, 80, 79, 78, 83, 69, 32] ++ prE p 0 ++ ([32, 87, 73, 84, 72, 73, 78, 32] ++ decL m ++ [32, 84, 72, 69, 78, 32]) ++ prE q 0 ++ [59, 10] = TT by rw [← HTT.out]; simp only [List.append_assoc, List.nil_append]] at HT
    go_upto_region 6 with fail
    go_wp2_with fail
    refine HT.out.mono ?_
    rintro e9 w9 ⟨rfl, hp9, hg9⟩
    have HP9 := hide hp9
    have HG9 := hide (HG4.out.trans hg9)
    clear hp9 hg9 HP4 HG4 HT
    simp only []
    obtain ⟨a, c, hc, hs, ha, hcc⟩ := HP9.out.src
    have HF := hide (tx_fin HE0.out HPW.out HG9.out hs ha hcc)
    clear hs ha hcc HP9 HG9
    go_wp2
    exact bodyPost_ret (by simp [results, Try.results18]) rfl HF.out
end Go.Proofs.Qxb6500774a
