import Derived.Test.Qxb6500774aTf0
namespace Go.Proofs.Qxb6500774a
open Go.RowKit
set_option linter.unusedVariables false
set_option linter.unusedSimpArgs false

theorem QK.new1 (w : World) (b : Bool) (f1 : XP) (wi : Int) (f2 : XP) : QK (w.alloc (.cells #[.bool b, .int .i64 f1.k, .string f1.x, .int .i64 f1.n, .string f1.m, .slice f1.q f1.ql f1.qc, .int .i64 f1.li, .int .i64 f1.co, .int .i64 wi, .int .i64 f2.k, .string f2.x, .int .i64 f2.n, .string f2.m, .slice f2.q f2.ql f2.qc, .int .i64 f2.li, .int .i64 f2.co] 49)) w.heap.size b f1 wi f2 := by
  have n := fun j u h => new_cells w [.bool b, .int .i64 f1.k, .string f1.x, .int .i64 f1.n, .string f1.m, .slice f1.q f1.ql f1.qc, .int .i64 f1.li, .int .i64 f1.co, .int .i64 wi, .int .i64 f2.k, .string f2.x, .int .i64 f2.n, .string f2.m, .slice f2.q f2.ql f2.qc, .int .i64 f2.li, .int .i64 f2.co] 49 j u h
  exact ⟨n 0 _ rfl, n 1 _ rfl, n 2 _ rfl, n 3 _ rfl, n 4 _ rfl, n 5 _ rfl, n 6 _ rfl, n 7 _ rfl, n 8 _ rfl, n 9 _ rfl, n 10 _ rfl, n 11 _ rfl, n 12 _ rfl, n 13 _ rfl, n 14 _ rfl, n 15 _ rfl, fun j => by simp [go_sem]⟩
theorem QK.go {bb r : Nat} {w w' : World} {b : Bool} {f1 f2 : XP} {wi : Int} (h : QK w r b f1 wi f2 ∧ ¬ PD w bb r) (g : PGo bb w w') : QK w' r b f1 wi f2 ∧ ¬ PD w' bb r := ⟨h.1.keep g.ex h.2, nd_go h.2 h.1.lt g⟩
set_option linter.unusedSimpArgs false in
set_option linter.unusedVariables false in
set_option maxRecDepth 100000 in
set_option maxHeartbeats 32000000 in
theorem pp_inv (p : E) (hg1 : gE p) (w : World) (D : Nat → Prop) (f1 f2 : XP) (wi : Int) (he1 : ET w D p f1) (hl : ([73, 78, 86, 65, 82, 73, 65, 78, 84, 32] ++ prE p 0 ++ [59, 10]).length ≤ 1099511627776) :
    Calls Try.prog 18 #[prV false f1 wi f2] w (TxPost w ([73, 78, 86, 65, 82, 73, 65, 78, 84, 32] ++ prE p 0 ++ [59, 10])) := by
  have HL := hide hl
  have HI1 := hide (pexpr_any p hg1)
  have exq : Ex (fun _ => False) w (w.alloc (.cells #[.bool false, .int .i64 f1.k, .string f1.x, .int .i64 f1.n, .string f1.m, .slice f1.q f1.ql f1.qc, .int .i64 f1.li, .int .i64 f1.co, .int .i64 wi, .int .i64 f2.k, .string f2.x, .int .i64 f2.n, .string f2.m, .slice f2.q f2.ql f2.qc, .int .i64 f2.li, .int .i64 f2.co] 49)) := (Ex.refl _ _).alloc _
  have exp : Ex (fun _ => False) (w.alloc (.cells #[.bool false, .int .i64 f1.k, .string f1.x, .int .i64 f1.n, .string f1.m, .slice f1.q f1.ql f1.qc, .int .i64 f1.li, .int .i64 f1.co, .int .i64 wi, .int .i64 f2.k, .string f2.x, .int .i64 f2.n, .string f2.m, .slice f2.q f2.ql f2.qc, .int .i64 f2.li, .int .i64 f2.co] 49)) ((w.alloc (.cells #[.bool false, .int .i64 f1.k, .string f1.x, .int .i64 f1.n, .string f1.m, .slice f1.q f1.ql f1.qc, .int .i64 f1.li, .int .i64 f1.co, .int .i64 wi, .int .i64 f2.k, .string f2.x, .int .i64 f2.n, .string f2.m, .slice f2.q f2.ql f2.qc, .int .i64 f2.li, .int .i64 f2.co] 49)).alloc (.cells #[.slice none 0 0, .int .i64 0] 72)) := (Ex.refl _ _).alloc _
  have HQ := hide (QK.new1 w false f1 wi f2)
  have HP0 := hide (PR.new0 (w.alloc (.cells #[.bool false, .int .i64 f1.k, .string f1.x, .int .i64 f1.n, .string f1.m, .slice f1.q f1.ql f1.qc, .int .i64 f1.li, .int .i64 f1.co, .int .i64 wi, .int .i64 f2.k, .string f2.x, .int .i64 f2.n, .string f2.m, .slice f2.q f2.ql f2.qc, .int .i64 f2.li, .int .i64 f2.co] 49)))
  have HPD : Hid (∀ k, PD ((w.alloc (.cells #[.bool false, .int .i64 f1.k, .string f1.x, .int .i64 f1.n, .string f1.m, .slice f1.q f1.ql f1.qc, .int .i64 f1.li, .int .i64 f1.co, .int .i64 wi, .int .i64 f2.k, .string f2.x, .int .i64 f2.n, .string f2.m, .slice f2.q f2.ql f2.qc, .int .i64 f2.li, .int .i64 f2.co] 49)).alloc (.cells #[.slice none 0 0, .int .i64 0] 72)) (w.alloc (.cells #[.bool false, .int .i64 f1.k, .string f1.x, .int .i64 f1.n, .string f1.m, .slice f1.q f1.ql f1.qc, .int .i64 f1.li, .int .i64 f1.co, .int .i64 wi, .int .i64 f2.k, .string f2.x, .int .i64 f2.n, .string f2.m, .slice f2.q f2.ql f2.qc, .int .i64 f2.li, .int .i64 f2.co] 49)).heap.size k → (w.alloc (.cells #[.bool false, .int .i64 f1.k, .string f1.x, .int .i64 f1.n, .string f1.m, .slice f1.q f1.ql f1.qc, .int .i64 f1.li, .int .i64 f1.co, .int .i64 wi, .int .i64 f2.k, .string f2.x, .int .i64 f2.n, .string f2.m, .slice f2.q f2.ql f2.qc, .int .i64 f2.li, .int .i64 f2.co] 49)).heap.size ≤ k) := fun k z => PR.pd0 _ z
  have HE0 := hide (exq.trans exp)
  have HT1 : Hid (ET ((w.alloc (.cells #[.bool false, .int .i64 f1.k, .string f1.x, .int .i64 f1.n, .string f1.m, .slice f1.q f1.ql f1.qc, .int .i64 f1.li, .int .i64 f1.co, .int .i64 wi, .int .i64 f2.k, .string f2.x, .int .i64 f2.n, .string f2.m, .slice f2.q f2.ql f2.qc, .int .i64 f2.li, .int .i64 f2.co] 49)).alloc (.cells #[.slice none 0 0, .int .i64 0] 72)) (PD ((w.alloc (.cells #[.bool false, .int .i64 f1.k, .string f1.x, .int .i64 f1.n, .string f1.m, .slice f1.q f1.ql f1.qc, .int .i64 f1.li, .int .i64 f1.co, .int .i64 wi, .int .i64 f2.k, .string f2.x, .int .i64 f2.n, .string f2.m, .slice f2.q f2.ql f2.qc, .int .i64 f2.li, .int .i64 f2.co] 49)).alloc (.cells #[.slice none 0 0, .int .i64 0] 72)) (w.alloc (.cells #[.bool false, .int .i64 f1.k, .string f1.x, .int .i64 f1.n, .string f1.m, .slice f1.q f1.ql f1.qc, .int .i64 f1.li, .int .i64 f1.co, .int .i64 wi, .int .i64 f2.k, .string f2.x, .int .i64 f2.n, .string f2.m, .slice f2.q f2.ql f2.qc, .int .i64 f2.li, .int .i64 f2.co] 49)).heap.size) p f1) := he1.keep HE0.out (fun _ z => z.elim) (fun k z => .inr (Nat.le_trans exq.size (HPD.out k z)))
  have HK : Hid (QK ((w.alloc (.cells #[.bool false, .int .i64 f1.k, .string f1.x, .int .i64 f1.n, .string f1.m, .slice f1.q f1.ql f1.qc, .int .i64 f1.li, .int .i64 f1.co, .int .i64 wi, .int .i64 f2.k, .string f2.x, .int .i64 f2.n, .string f2.m, .slice f2.q f2.ql f2.qc, .int .i64 f2.li, .int .i64 f2.co] 49)).alloc (.cells #[.slice none 0 0, .int .i64 0] 72)) w.heap.size false f1 wi f2 ∧ ¬ PD ((w.alloc (.cells #[.bool false, .int .i64 f1.k, .string f1.x, .int .i64 f1.n, .string f1.m, .slice f1.q f1.ql f1.qc, .int .i64 f1.li, .int .i64 f1.co, .int .i64 wi, .int .i64 f2.k, .string f2.x, .int .i64 f2.n, .string f2.m, .slice f2.q f2.ql f2.qc, .int .i64 f2.li, .int .i64 f2.co] 49)).alloc (.cells #[.slice none 0 0, .int .i64 0] 72)) (w.alloc (.cells #[.bool false, .int .i64 f1.k, .string f1.x, .int .i64 f1.n, .string f1.m, .slice f1.q f1.ql f1.qc, .int .i64 f1.li, .int .i64 f1.co, .int .i64 wi, .int .i64 f2.k, .string f2.x, .int .i64 f2.n, .string f2.m, .slice f2.q f2.ql f2.qc, .int .i64 f2.li, .int .i64 f2.co] 49)).heap.size w.heap.size) := ⟨HQ.out.keep exp (fun z => z), fun z => by have := HPD.out _ z; simp at this; omega⟩
  have HPW : Hid (∀ k, PD ((w.alloc (.cells #[.bool false, .int .i64 f1.k, .string f1.x, .int .i64 f1.n, .string f1.m, .slice f1.q f1.ql f1.qc, .int .i64 f1.li, .int .i64 f1.co, .int .i64 wi, .int .i64 f2.k, .string f2.x, .int .i64 f2.n, .string f2.m, .slice f2.q f2.ql f2.qc, .int .i64 f2.li, .int .i64 f2.co] 49)).alloc (.cells #[.slice none 0 0, .int .i64 0] 72)) (w.alloc (.cells #[.bool false, .int .i64 f1.k, .string f1.x, .int .i64 f1.n, .string f1.m, .slice f1.q f1.ql f1.qc, .int .i64 f1.li, .int .i64 f1.co, .int .i64 wi, .int .i64 f2.k, .string f2.x, .int .i64 f2.n, .string f2.m, .slice f2.q f2.ql f2.qc, .int .i64 f2.li, .int .i64 f2.co] 49)).heap.size k → w.heap.size ≤ k) := fun k z => Nat.le_trans exq.size (HPD.out k z)
  clear hl exq exp HQ HPD he1 hg1
  obtain ⟨TT, hTT⟩ : ∃ T, [73, 78, 86, 65, 82, 73, 65, 78, 84, 32] ++ prE p 0 ++ [59, 10] = T := ⟨_, rfl⟩
  have HTT := hide hTT
  rw [hTT]
  clear hTT
  unfold prV
  go_enter Try.func18, Try.ntmps18
  go_upto_region 2 with fail
  generalize ((w.alloc (.cells #[.bool false, .int .i64 f1.k, .string f1.x, .int .i64 f1.n, .string f1.m, .slice f1.q f1.ql f1.qc, .int .i64 f1.li, .int .i64 f1.co, .int .i64 wi, .int .i64 f2.k, .string f2.x, .int .i64 f2.n, .string f2.m, .slice f2.q f2.ql f2.qc, .int .i64 f2.li, .int .i64 f2.co] 49)).alloc (.cells #[.slice none 0 0, .int .i64 0] 72)) = w1 at *
  rw [show (w.alloc (.cells #[.bool false, .int .i64 f1.k, .string f1.x, .int .i64 f1.n, .string f1.m, .slice f1.q f1.ql f1.qc, .int .i64 f1.li, .int .i64 f1.co, .int .i64 wi, .int .i64 f2.k, .string f2.x, .int .i64 f2.n, .string f2.m, .slice f2.q f2.ql f2.qc, .int .i64 f2.li, .int .i64 f2.co] 49)).heap.size = w.heap.size + 1 by simp] at HP0 HT1 HK HPW
  obtain ⟨bb, hbb⟩ : ∃ x, w.heap.size + 1 = x := ⟨_, rfl⟩
  rw [hbb] at HP0 HT1 HK HPW
  rw [hbb]
  clear hbb
  obtain ⟨r1, hr1⟩ : ∃ x, w.heap.size = x := ⟨_, rfl⟩
  rw [hr1] at HK
  rw [hr1]
  have HR1 := hide hr1
  clear hr1
  have HG0 : Hid (PGo bb w1 w1) := PGo.refl _ _
  have HC := hide (HI1.out w1 bb [] 0 ⟨#[73, 78, 86, 65, 82, 73, 65, 78, 84, 32]⟩ f1 0 HP0.out HT1.out (by have := HL.out; rw [show strL ⟨#[73, 78, 86, 65, 82, 73, 65, 78, 84, 32]⟩ = [73, 78, 86, 65, 82, 73, 65, 78, 84, 32] from rfl]; simp only [List.length_append, List.length_nil] at this ⊢; omega) (by decide) (by decide))
  rw [show strL ⟨#[73, 78, 86, 65, 82, 73, 65, 78, 84, 32]⟩ = [73, 78, 86, 65, 82, 73, 65, 78, 84, 32] from rfl] at HC
  unfold xV at HC
  have k0 := HK.out.1.c0
  have k1 := HK.out.1.c1
  have k2 := HK.out.1.c2
  have k3 := HK.out.1.c3
  have k4 := HK.out.1.c4
  have k5 := HK.out.1.c5
  have k6 := HK.out.1.c6
  have k7 := HK.out.1.c7
  go_upto_region 5 with fail
  go_wp2_with fail
  refine HC.out.mono ?_
  rintro e9 w2 ⟨rfl, hp9, hg9⟩
  have HP2 := hide hp9
  have HG2 := hide (HG0.out.trans hg9)
  clear hp9 hg9 HP0 HG0 HC HT1 HK k0 k1 k2 k3 k4 k5 k6 k7
  simp only []
  have HT := hide (text_any w2 bb ([] ++ [73, 78, 86, 65, 82, 73, 65, 78, 84, 32] ++ prE p 0) 0 ⟨#[59, 10]⟩ HP2.out (by have := HL.out; rw [show strL ⟨#[59, 10]⟩ = [59, 10] from rfl]; simp only [List.length_append] at this ⊢; omega))
  rw [show strL ⟨#[59, 10]⟩ = [59, 10] from rfl, show [] ++ [73, 78, 86, 65, 82, 73, 65, 78, 84, 32] ++ prE p 0 ++ [59, 10] = TT by rw [← HTT.out]; simp only [List.append_assoc, List.nil_append]] at HT
  go_upto_region 6 with fail
  go_wp2_with fail
  refine HT.out.mono ?_
  rintro e9 w9 ⟨rfl, hp9, hg9⟩
  have HP9 := hide hp9
  have HG9 := hide (HG2.out.trans hg9)
  clear hp9 hg9 HP2 HG2 HT
  simp only []
  obtain ⟨a, c, hc, hs, ha, hcc⟩ := HP9.out.src
  have HF := hide (tx_fin HE0.out HPW.out HG9.out hs ha hcc)
  clear hs ha hcc HP9 HG9
  go_wp2
  exact bodyPost_ret (by simp [results, Try.results18]) rfl HF.out
end Go.Proofs.Qxb6500774a
