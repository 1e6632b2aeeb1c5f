import Derived.Test.Qxb6500774aKd0
namespace Go.Proofs.Qxb6500774a
open Go.RowKit
set_option linter.unusedVariables false
set_option linter.unusedSimpArgs false
variable {R : Nat → Option Value}

set_option linter.unusedSimpArgs false in
set_option maxRecDepth 100000 in
set_option maxHeartbeats 8000000 in
theorem nextK_open (w : World) (p : Nat) (a : Option Addr) (cp : Nat) (s : List Int) (q q1 : Pl) (h : LX R w p a cp s q) (hq : PlOk s q) (hl : s.length ≤ 1048576) (hsk : skP s q = (false, q1)) :
    Calls Try.prog 70 #[.pointer (some ⟨p, 0, none⟩)] w (NxPost R w p a cp s ({ tk0 q1 with k := 1, e := 3 }, q1)) := by
  have HX := hide h
  have cs := hide (skipK_any (w.alloc (.cells #[.int .i64 0, .string ⟨#[]⟩, .int .i64 0, .int .i64 0, .int .i64 0, .int .i64 0] 81)) p a cp s q (h.below (be1 w (.cells #[.int .i64 0, .string ⟨#[]⟩, .int .i64 0, .int .i64 0, .int .i64 0, .int .i64 0] 81))) hq hl)
  rw [hsk] at cs
  obtain ⟨RS, hRS⟩ : ∃ r : TK × Pl, ({ tk0 q1 with k := 1, e := 3 }, q1) = r := ⟨_, rfl⟩
  have HRS := hide hRS
  rw [hRS]
  clear h hq hsk hRS
  go_enter Try.func70, Try.ntmps70
  go_wp2_with fail
  refine cs.out.mono ?_
  rintro e w1 ⟨rfl, hex, hlx, hok⟩
  dsimp only at hlx hok
  clear cs
  simp only []
  have hp0 : p < w.heap.size := World.block_lt_of_cell? _ _ HX.out.c0
  have hr0 : TB (w.alloc (.cells #[.int .i64 0, .string ⟨#[]⟩, .int .i64 0, .int .i64 0, .int .i64 0, .int .i64 0] 81)) w.heap.size 0 ⟨#[]⟩ 0 0 0 0 := TB.new w 0 ⟨#[]⟩ 0 0 0 0
  have hr1 := hr0.keep hex (by omega)
  have hrl : w.heap.size < w1.heap.size := World.block_lt_of_cell? _ _ hr1.c0
  have HX1 := hide hlx
  have HOK := hide hok
  have l0 := HX1.out.c0
  have l1 := HX1.out.c1
  have l2 := HX1.out.c2
  have l3 := HX1.out.c3
  have hw1 : IntKind.i64.wrap ((q1.o : Int) - (q1.b : Int)) = (q1.o : Int) - q1.b := by have := HOK.out.o; have := HOK.out.b; rw [IntKind.wrap_i64]; omega
  have hw2 : IntKind.i64.wrap ((q1.o : Int) - (q1.b : Int) + 1) = (q1.o : Int) - q1.b + 1 := by have := HOK.out.o; have := HOK.out.b; rw [IntKind.wrap_i64]; omega
  go_upto_region 2 with fail
  have hp1 : p < w1.heap.size := World.block_lt_of_cell? _ _ l0
  go_region
  have HN2 : Hid (NW R w (w1.alloc (.cells #[.int .i64 0, .string ⟨#[]⟩, .int .i64 0, .int .i64 0, .int .i64 q1.l, .int .i64 ((q1.o : Int) - q1.b + 1)] 81)).drew p a cp s q1 w.heap.size w1.heap.size (tk0 q1)) := by
    have e0 : Ex (fun k => k = p) w (w.alloc (.cells #[.int .i64 0, .string ⟨#[]⟩, .int .i64 0, .int .i64 0, .int .i64 0, .int .i64 0] 81)) := (Ex.refl _ _).alloc _
    have b0 : Below w1.heap.size w1 (w1.alloc (.cells #[.int .i64 0, .string ⟨#[]⟩, .int .i64 0, .int .i64 0, .int .i64 q1.l, .int .i64 ((q1.o : Int) - q1.b + 1)] 81)).drew := ((Below.refl w1.heap.size w1).alloc (Nat.le_refl _) (.cells #[.int .i64 0, .string ⟨#[]⟩, .int .i64 0, .int .i64 0, .int .i64 q1.l, .int .i64 ((q1.o : Int) - q1.b + 1)] 81)).drew
    exact ⟨HX1.out.below b0, HOK.out, ((e0.trans hex).alloc _).drew, hr1.keep (S := fun _ => False) (((Ex.refl _ w1).alloc (.cells #[.int .i64 0, .string ⟨#[]⟩, .int .i64 0, .int .i64 0, .int .i64 q1.l, .int .i64 ((q1.o : Int) - q1.b + 1)] 81)).drew) (fun z => z), (TB.new w1 0 ⟨#[]⟩ 0 0 q1.l ((q1.o : Int) - q1.b + 1)).keep (S := fun _ => False) (Ex.refl _ _).drew (fun z => z), ⟨Nat.le_refl _, by omega, by omega⟩, ⟨q, HX.out⟩⟩
  clear hex hlx hok hr0 hr1 l0 l1 l2 l3 hw1 hw2 HX HX1 hp0
  generalize (w1.alloc (.cells #[.int .i64 0, .string ⟨#[]⟩, .int .i64 0, .int .i64 0, .int .i64 q1.l, .int .i64 ((q1.o : Int) - q1.b + 1)] 81)).drew = w2 at *
  have hrl' := hrl
  generalize w1.heap.size = r1 at *
  obtain ⟨r0, hr0⟩ : ∃ r, w.heap.size = r := ⟨_, rfl⟩
  rw [hr0] at HN2 hrl ⊢
  clear hrl' hp1 hr0
  have T0 := HN2.out.tb.c0
  have TF0 := HN2.out.tb.f0
  have T3 := HN2.out.tb.c3
  have TF3 := HN2.out.tb.f3
  go_upto_region 5 with fail
  have HN3 := hide (HN2.out.k (1))
  clear HN2
  have HN4 := hide (HN3.out.e (3))
  clear HN3
  clear T0 TF0 T3 TF3
  generalize (w2.setCell ⟨r1, 0, none⟩ (.int .i64 (1))).setCell ⟨r1, 3, none⟩ (.int .i64 (3)) = w4 at *
  obtain ⟨tt, htt⟩ : ∃ t : TK, ({ ({ (tk0 q1 : TK) with k := 1 } : TK) with e := 3 }) = t := ⟨_, rfl⟩
  have HRT : Hid ((tt, q1) = RS) := by show _ = _; rw [← htt]; exact HRS.out
  rw [htt] at HN4
  clear htt HRS
  have T0 := HN4.out.tb.c0
  have R0 := HN4.out.tr.c0
  have F0 := HN4.out.tr.f0
  have T1 := HN4.out.tb.c1
  have R1 := HN4.out.tr.c1
  have F1 := HN4.out.tr.f1
  have T2 := HN4.out.tb.c2
  have R2 := HN4.out.tr.c2
  have F2 := HN4.out.tr.f2
  have T3 := HN4.out.tb.c3
  have R3 := HN4.out.tr.c3
  have F3 := HN4.out.tr.f3
  have T4 := HN4.out.tb.c4
  have R4 := HN4.out.tr.c4
  have F4 := HN4.out.tr.f4
  have T5 := HN4.out.tb.c5
  have R5 := HN4.out.tr.c5
  have F5 := HN4.out.tr.f5
  have HF := hide HN4.out.fin
  have HC := hide HN4.out.res
  have hne : r0 ≠ r1 := HN4.out.ge.2.2
  clear HN4
  go_wp2_with (with_reducible refine bodyPost_ret (v := ?v) ?hr ?hd ?hp)
  case v => exact tkV tt
  case hr =>
    change (results _ _).run _ (six w4 r0 tt) = .ok _ (six w4 r0 tt)
    obtain ⟨y0, y1, y2, y3, y4, y5⟩ := HC.out
    clear HF HC
    generalize six w4 r0 tt = WF at *
    simp [results, Try.results70, go_sem, y0, y1, y2, y3, y4, y5, tkV]
  case hd => rfl
  case hp => rw [← HRT.out]; exact HF.out
end Go.Proofs.Qxb6500774a
