import Derived.Test.Qxb6500774aKd0
namespace Go.Proofs.Qxb6500774a
open Go.RowKit
set_option linter.unusedVariables false
set_option linter.unusedSimpArgs false
variable {R : Nat → Option Value}

set_option linter.unusedSimpArgs false in
set_option maxRecDepth 100000 in
set_option maxHeartbeats 8000000 in
theorem nextK_mark (w : World) (p : Nat) (a : Option Addr) (cp : Nat) (s : List Int) (q q1 : Pl) (h : LX R w p a cp s q) (hq : PlOk s q) (hl : s.length ≤ 1048576) (hsk : skP s q = (true, q1)) (c : Int) (hc : s[q1.o]? = some c) (hd : dgP c = false) (hlc : ltP c = false) :
    Calls Try.prog 70 #[.pointer (some ⟨p, 0, none⟩)] w (NxPost R w p a cp s (if mkP c (byP s ((q1.o + 1 : Nat) : Int)) = [] then ({ tk0 q1 with k := 1, e := 2, x := strOfNums [] }, q1) else ({ tk0 q1 with k := 5, x := strOfNums (mkP c (byP s ((q1.o + 1 : Nat) : Int))) }, ⟨q1.o + (mkP c (byP s ((q1.o + 1 : Nat) : Int))).length, q1.l, q1.b⟩))) := by
  have HX := hide h
  have cs := hide (skipK_any (w.alloc (.cells #[.int .i64 0, .string ⟨#[]⟩, .int .i64 0, .int .i64 0, .int .i64 0, .int .i64 0] 81)) p a cp s q (h.below (be1 w (.cells #[.int .i64 0, .string ⟨#[]⟩, .int .i64 0, .int .i64 0, .int .i64 0, .int .i64 0] 81))) hq hl)
  rw [hsk] at cs
  obtain ⟨RS, hRS⟩ : ∃ r : TK × Pl, (if mkP c (byP s ((q1.o + 1 : Nat) : Int)) = [] then ({ tk0 q1 with k := 1, e := 2, x := strOfNums [] }, q1) else ({ tk0 q1 with k := 5, x := strOfNums (mkP c (byP s ((q1.o + 1 : Nat) : Int))) }, ⟨q1.o + (mkP c (byP s ((q1.o + 1 : Nat) : Int))).length, q1.l, q1.b⟩)) = r := ⟨_, rfl⟩
  have HRS := hide hRS
  rw [hRS]
  clear h hq hsk hRS
  go_enter Try.func70, Try.ntmps70
  go_wp2_with fail
  refine cs.out.mono ?_
  rintro e w1 ⟨rfl, hex, hlx, hok⟩
  dsimp only at hlx hok
  clear cs
  simp only []
  have hp0 : p < w.heap.size := World.block_lt_of_cell? _ _ HX.out.c0
  have hr0 : TB (w.alloc (.cells #[.int .i64 0, .string ⟨#[]⟩, .int .i64 0, .int .i64 0, .int .i64 0, .int .i64 0] 81)) w.heap.size 0 ⟨#[]⟩ 0 0 0 0 := TB.new w 0 ⟨#[]⟩ 0 0 0 0
  have hr1 := hr0.keep hex (by omega)
  have hrl : w.heap.size < w1.heap.size := World.block_lt_of_cell? _ _ hr1.c0
  have HX1 := hide hlx
  have HOK := hide hok
  have l0 := HX1.out.c0
  have l1 := HX1.out.c1
  have l2 := HX1.out.c2
  have l3 := HX1.out.c3
  have hw1 : IntKind.i64.wrap ((q1.o : Int) - (q1.b : Int)) = (q1.o : Int) - q1.b := by have := HOK.out.o; have := HOK.out.b; rw [IntKind.wrap_i64]; omega
  have hw2 : IntKind.i64.wrap ((q1.o : Int) - (q1.b : Int) + 1) = (q1.o : Int) - q1.b + 1 := by have := HOK.out.o; have := HOK.out.b; rw [IntKind.wrap_i64]; omega
  go_upto_region 2 with fail
  have hp1 : p < w1.heap.size := World.block_lt_of_cell? _ _ l0
  go_region
  have HN2 : Hid (NW R w (w1.alloc (.cells #[.int .i64 0, .string ⟨#[]⟩, .int .i64 0, .int .i64 0, .int .i64 q1.l, .int .i64 ((q1.o : Int) - q1.b + 1)] 81)).drew p a cp s q1 w.heap.size w1.heap.size (tk0 q1)) := by
    have e0 : Ex (fun k => k = p) w (w.alloc (.cells #[.int .i64 0, .string ⟨#[]⟩, .int .i64 0, .int .i64 0, .int .i64 0, .int .i64 0] 81)) := (Ex.refl _ _).alloc _
    have b0 : Below w1.heap.size w1 (w1.alloc (.cells #[.int .i64 0, .string ⟨#[]⟩, .int .i64 0, .int .i64 0, .int .i64 q1.l, .int .i64 ((q1.o : Int) - q1.b + 1)] 81)).drew := ((Below.refl w1.heap.size w1).alloc (Nat.le_refl _) (.cells #[.int .i64 0, .string ⟨#[]⟩, .int .i64 0, .int .i64 0, .int .i64 q1.l, .int .i64 ((q1.o : Int) - q1.b + 1)] 81)).drew
    exact ⟨HX1.out.below b0, HOK.out, ((e0.trans hex).alloc _).drew, hr1.keep (S := fun _ => False) (((Ex.refl _ w1).alloc (.cells #[.int .i64 0, .string ⟨#[]⟩, .int .i64 0, .int .i64 0, .int .i64 q1.l, .int .i64 ((q1.o : Int) - q1.b + 1)] 81)).drew) (fun z => z), (TB.new w1 0 ⟨#[]⟩ 0 0 q1.l ((q1.o : Int) - q1.b + 1)).keep (S := fun _ => False) (Ex.refl _ _).drew (fun z => z), ⟨Nat.le_refl _, by omega, by omega⟩, ⟨q, HX.out⟩⟩
  clear hex hlx hok hr0 hr1 l0 l1 l2 l3 hw1 hw2 HX HX1 hp0
  generalize (w1.alloc (.cells #[.int .i64 0, .string ⟨#[]⟩, .int .i64 0, .int .i64 0, .int .i64 q1.l, .int .i64 ((q1.o : Int) - q1.b + 1)] 81)).drew = w2 at *
  have hrl' := hrl
  generalize w1.heap.size = r1 at *
  obtain ⟨r0, hr0⟩ : ∃ r, w.heap.size = r := ⟨_, rfl⟩
  rw [hr0] at HN2 hrl ⊢
  clear hrl' hp1 hr0
  have HD := hide hd
  have HLC := hide hlc
  clear hd hlc
  have hlt : q1.o < s.length := (List.getElem?_eq_some_iff.1 hc).1
  have HC0 := hide hc
  clear hc
  have d1 : decide ((s.length : Int) ≤ (q1.o : Int)) = false := by simp; omega
  have hki : (q1.o : Int) < (s.length : Int) := by omega
  have l0 := HN2.out.lx.c0
  have l1 := HN2.out.lx.c1
  go_upto_region 6 with fail
  go_quiet (fail)
  have HN3 := hide (HN2.out.low (below_dn w2 nq w2.heap.size))
  clear HN2 l0 l1
  generalize w2.drewN nq = w3 at *
  have l0 := HN3.out.lx.c0
  have l1 := HN3.out.lx.c1
  obtain ⟨g, off, ha, cx⟩ := HN3.out.lx.src q1.o c HC0.out
  subst ha
  go_upto_region 8 with fail
  go_quiet (fail)
  have HN4 := hide (HN3.out.low (below_dn w3 nq w3.heap.size))
  clear HN3 l0 l1 cx
  generalize w3.drewN nq = w4 at *
  clear d1 hki
  go_wp2_with fail
  refine (isDigit_any _ c).mono ?_
  rintro e wq ⟨rfl, hw⟩
  rw [hw, HD.out]
  clear hw wq
  simp only []
  go_wp2_with fail
  refine (isLetter_any _ c).mono ?_
  rintro e wq ⟨rfl, hw⟩
  rw [hw, HLC.out]
  clear hw wq
  simp only []
  obtain ⟨M, hM⟩ : ∃ m, mkP c (byP s ((q1.o + 1 : Nat) : Int)) = m := ⟨_, rfl⟩
  have hml : q1.o + M.length ≤ s.length := by
    rw [← hM]
    unfold mkP
    split
    · next ht =>
      rcases Nat.lt_or_ge (q1.o + 1) s.length with z | z
      · show q1.o + 2 ≤ s.length; omega
      · have h0 : (byP s ((q1.o + 1 : Nat) : Int)) = 0 := by unfold byP; rw [if_neg (by omega)]
        rw [h0] at ht
        simp [twoM] at ht
    · split
      · show q1.o + 1 ≤ s.length; omega
      · show q1.o + 0 ≤ s.length; omega
  have hmk := hide (markK_any w4 p (some ⟨g, off, none⟩) cp s q1.o q1.l q1.b HN4.out.lx (by omega) c (byP s ((q1.o + 1 : Nat) : Int)) HC0.out rfl)
  rw [hM] at hmk HRS
  clear hM
  go_wp2_with fail
  refine hmk.out.mono ?_
  rintro e w5 ⟨rfl, hex, hlx⟩
  clear hmk
  simp only []
  have HN5 := hide (HN4.out.lex (q' := ⟨q1.o + M.length, q1.l, q1.b⟩) hex hlx (HN4.out.ok.go (Nat.le_add_right _ _) hml))
  clear HN4 hex hlx
  have T0 := HN5.out.tb.c0
  have TF0 := HN5.out.tb.f0
  have T1 := HN5.out.tb.c1
  have TF1 := HN5.out.tb.f1
  go_upto_region 13 with fail
  have HN6 := hide (HN5.out.k (5))
  clear HN5
  have HN7 := hide (HN6.out.x (strOfNums M))
  clear HN6
  clear T0 TF0 T1 TF1
  generalize (w5.setCell ⟨r1, 0, none⟩ (.int .i64 (5))).setCell ⟨r1, 1, none⟩ (.string (strOfNums M)) = w7 at *
  have hsl : (strOfNums M).toList = M.map (fun n => UInt8.ofNat n.toNat) := by rw [ByteArray.toList_eq]; simp [strOfNums]
  have T1 := HN7.out.tb.c1
  have TF1 := HN7.out.tb.f1
  have T2 : w7.cell? ⟨r1, 2, none⟩ = some (.int .i64 0) := HN7.out.tb.c2
  have TF2 := HN7.out.tb.f2
  by_cases hM0 : M = []
  · have hse : ((strOfNums M).toList == []) = true := by rw [hsl, hM0]; rfl
    have HM0 := hide hM0
    clear hM0 hsl
    have T0 := HN7.out.tb.c0
    have TF0 := HN7.out.tb.f0
    have T3 := HN7.out.tb.c3
    have TF3 := HN7.out.tb.f3
    go_upto_region 28 with fail
    have HN8 := hide (HN7.out.k (1))
    clear HN7
    have HN9 := hide (HN8.out.e (2))
    clear HN8
    clear T1 TF1 T2 TF2 T0 TF0 T3 TF3
    generalize (w7.setCell ⟨r1, 0, none⟩ (.int .i64 (1))).setCell ⟨r1, 3, none⟩ (.int .i64 (2)) = w9 at *
    have T2 : w9.cell? ⟨r1, 2, none⟩ = some (.int .i64 0) := HN9.out.tb.c2
    go_upto_region 30 with fail
    clear T2
    obtain ⟨tt, htt⟩ : ∃ t : TK, ({ ({ ({ ({ (tk0 q1 : TK) with k := 5 } : TK) with x := strOfNums M } : TK) with k := 1 } : TK) with e := 2 }) = t := ⟨_, rfl⟩
    have HRT : Hid ((tt, ⟨q1.o + M.length, q1.l, q1.b⟩) = RS) := by show _ = _; rw [← htt]; exact (by rw [← HRS.out, if_pos HM0.out, HM0.out]; rfl)
    rw [htt] at HN9
    clear htt HRS
    have T0 := HN9.out.tb.c0
    have R0 := HN9.out.tr.c0
    have F0 := HN9.out.tr.f0
    have T1 := HN9.out.tb.c1
    have R1 := HN9.out.tr.c1
    have F1 := HN9.out.tr.f1
    have T2 := HN9.out.tb.c2
    have R2 := HN9.out.tr.c2
    have F2 := HN9.out.tr.f2
    have T3 := HN9.out.tb.c3
    have R3 := HN9.out.tr.c3
    have F3 := HN9.out.tr.f3
    have T4 := HN9.out.tb.c4
    have R4 := HN9.out.tr.c4
    have F4 := HN9.out.tr.f4
    have T5 := HN9.out.tb.c5
    have R5 := HN9.out.tr.c5
    have F5 := HN9.out.tr.f5
    have HF := hide HN9.out.fin
    have HC := hide HN9.out.res
    have hne : r0 ≠ r1 := HN9.out.ge.2.2
    clear HN9
    go_wp2_with (with_reducible refine bodyPost_ret (v := ?v) ?hr ?hd ?hp)
    case v => exact tkV tt
    case hr =>
      change (results _ _).run _ (six w9 r0 tt) = .ok _ (six w9 r0 tt)
      obtain ⟨y0, y1, y2, y3, y4, y5⟩ := HC.out
      clear HF HC
      generalize six w9 r0 tt = WF at *
      simp [results, Try.results70, go_sem, y0, y1, y2, y3, y4, y5, tkV]
    case hd => rfl
    case hp => rw [← HRT.out]; exact HF.out
  · have hse : ((strOfNums M).toList == []) = false := by rw [hsl]; cases M with | nil => exact absurd rfl hM0 | cons x y => rfl
    have HM0 := hide hM0
    clear hM0 hsl
    go_upto_region 30 with fail
    clear T1 TF1 T2 TF2
    obtain ⟨tt, htt⟩ : ∃ t : TK, ({ ({ (tk0 q1 : TK) with k := 5 } : TK) with x := strOfNums M }) = t := ⟨_, rfl⟩
    have HRT : Hid ((tt, ⟨q1.o + M.length, q1.l, q1.b⟩) = RS) := by show _ = _; rw [← htt]; exact (by rw [← HRS.out, if_neg HM0.out])
    rw [htt] at HN7
    clear htt HRS
    have T0 := HN7.out.tb.c0
    have R0 := HN7.out.tr.c0
    have F0 := HN7.out.tr.f0
    have T1 := HN7.out.tb.c1
    have R1 := HN7.out.tr.c1
    have F1 := HN7.out.tr.f1
    have T2 := HN7.out.tb.c2
    have R2 := HN7.out.tr.c2
    have F2 := HN7.out.tr.f2
    have T3 := HN7.out.tb.c3
    have R3 := HN7.out.tr.c3
    have F3 := HN7.out.tr.f3
    have T4 := HN7.out.tb.c4
    have R4 := HN7.out.tr.c4
    have F4 := HN7.out.tr.f4
    have T5 := HN7.out.tb.c5
    have R5 := HN7.out.tr.c5
    have F5 := HN7.out.tr.f5
    have HF := hide HN7.out.fin
    have HC := hide HN7.out.res
    have hne : r0 ≠ r1 := HN7.out.ge.2.2
    clear HN7
    go_wp2_with (with_reducible refine bodyPost_ret (v := ?v) ?hr ?hd ?hp)
    case v => exact tkV tt
    case hr =>
      change (results _ _).run _ (six w7 r0 tt) = .ok _ (six w7 r0 tt)
      obtain ⟨y0, y1, y2, y3, y4, y5⟩ := HC.out
      clear HF HC
      generalize six w7 r0 tt = WF at *
      simp [results, Try.results70, go_sem, y0, y1, y2, y3, y4, y5, tkV]
    case hd => rfl
    case hp => rw [← HRT.out]; exact HF.out
end Go.Proofs.Qxb6500774a
