import Derived.Test.Qxb6500774aKd0
namespace Go.Proofs.Qxb6500774a
open Go.RowKit
set_option linter.unusedVariables false
set_option linter.unusedSimpArgs false
variable {R : Nat → Option Value}

set_option linter.unusedSimpArgs false in
set_option maxRecDepth 100000 in
set_option maxHeartbeats 8000000 in
theorem nextK_word (w : World) (p : Nat) (a : Option Addr) (cp : Nat) (s : List Int) (q q1 : Pl) (h : LX R w p a cp s q) (hq : PlOk s q) (hl : s.length ≤ 1048576) (hsk : skP s q = (true, q1)) (c : Int) (hc : s[q1.o]? = some c) (hd : dgP c = false) (hlc : ltP c = true) (hnt : ¬ (run1 s q1.o = [84] ∧ byP s ((q1.o + 1 : Nat) : Int) = 35)) :
    Calls Try.prog 70 #[.pointer (some ⟨p, 0, none⟩)] w (NxPost R w p a cp s (wordT q1 (strOfNums (run1 s q1.o)), ⟨q1.o + wlen (s.drop q1.o), q1.l, q1.b⟩)) := by
  have HX := hide h
  have cs := hide (skipK_any (w.alloc (.cells #[.int .i64 0, .string ⟨#[]⟩, .int .i64 0, .int .i64 0, .int .i64 0, .int .i64 0] 81)) p a cp s q (h.below (be1 w (.cells #[.int .i64 0, .string ⟨#[]⟩, .int .i64 0, .int .i64 0, .int .i64 0, .int .i64 0] 81))) hq hl)
  rw [hsk] at cs
  obtain ⟨RS, hRS⟩ : ∃ r : TK × Pl, (wordT q1 (strOfNums (run1 s q1.o)), ⟨q1.o + wlen (s.drop q1.o), q1.l, q1.b⟩) = r := ⟨_, rfl⟩
  have HRS := hide hRS
  rw [hRS]
  clear h hq hsk hRS
  go_enter Try.func70, Try.ntmps70
  go_wp2_with fail
  refine cs.out.mono ?_
  rintro e w1 ⟨rfl, hex, hlx, hok⟩
  dsimp only at hlx hok
  clear cs
  simp only []
  have hp0 : p < w.heap.size := World.block_lt_of_cell? _ _ HX.out.c0
  have hr0 : TB (w.alloc (.cells #[.int .i64 0, .string ⟨#[]⟩, .int .i64 0, .int .i64 0, .int .i64 0, .int .i64 0] 81)) w.heap.size 0 ⟨#[]⟩ 0 0 0 0 := TB.new w 0 ⟨#[]⟩ 0 0 0 0
  have hr1 := hr0.keep hex (by omega)
  have hrl : w.heap.size < w1.heap.size := World.block_lt_of_cell? _ _ hr1.c0
  have HX1 := hide hlx
  have HOK := hide hok
  have l0 := HX1.out.c0
  have l1 := HX1.out.c1
  have l2 := HX1.out.c2
  have l3 := HX1.out.c3
  have hw1 : IntKind.i64.wrap ((q1.o : Int) - (q1.b : Int)) = (q1.o : Int) - q1.b := by have := HOK.out.o; have := HOK.out.b; rw [IntKind.wrap_i64]; omega
  have hw2 : IntKind.i64.wrap ((q1.o : Int) - (q1.b : Int) + 1) = (q1.o : Int) - q1.b + 1 := by have := HOK.out.o; have := HOK.out.b; rw [IntKind.wrap_i64]; omega
  go_upto_region 2 with fail
  have hp1 : p < w1.heap.size := World.block_lt_of_cell? _ _ l0
  go_region
  have HN2 : Hid (NW R w (w1.alloc (.cells #[.int .i64 0, .string ⟨#[]⟩, .int .i64 0, .int .i64 0, .int .i64 q1.l, .int .i64 ((q1.o : Int) - q1.b + 1)] 81)).drew p a cp s q1 w.heap.size w1.heap.size (tk0 q1)) := by
    have e0 : Ex (fun k => k = p) w (w.alloc (.cells #[.int .i64 0, .string ⟨#[]⟩, .int .i64 0, .int .i64 0, .int .i64 0, .int .i64 0] 81)) := (Ex.refl _ _).alloc _
    have b0 : Below w1.heap.size w1 (w1.alloc (.cells #[.int .i64 0, .string ⟨#[]⟩, .int .i64 0, .int .i64 0, .int .i64 q1.l, .int .i64 ((q1.o : Int) - q1.b + 1)] 81)).drew := ((Below.refl w1.heap.size w1).alloc (Nat.le_refl _) (.cells #[.int .i64 0, .string ⟨#[]⟩, .int .i64 0, .int .i64 0, .int .i64 q1.l, .int .i64 ((q1.o : Int) - q1.b + 1)] 81)).drew
    exact ⟨HX1.out.below b0, HOK.out, ((e0.trans hex).alloc _).drew, hr1.keep (S := fun _ => False) (((Ex.refl _ w1).alloc (.cells #[.int .i64 0, .string ⟨#[]⟩, .int .i64 0, .int .i64 0, .int .i64 q1.l, .int .i64 ((q1.o : Int) - q1.b + 1)] 81)).drew) (fun z => z), (TB.new w1 0 ⟨#[]⟩ 0 0 q1.l ((q1.o : Int) - q1.b + 1)).keep (S := fun _ => False) (Ex.refl _ _).drew (fun z => z), ⟨Nat.le_refl _, by omega, by omega⟩, ⟨q, HX.out⟩⟩
  clear hex hlx hok hr0 hr1 l0 l1 l2 l3 hw1 hw2 HX HX1 hp0
  generalize (w1.alloc (.cells #[.int .i64 0, .string ⟨#[]⟩, .int .i64 0, .int .i64 0, .int .i64 q1.l, .int .i64 ((q1.o : Int) - q1.b + 1)] 81)).drew = w2 at *
  have hrl' := hrl
  generalize w1.heap.size = r1 at *
  obtain ⟨r0, hr0⟩ : ∃ r, w.heap.size = r := ⟨_, rfl⟩
  rw [hr0] at HN2 hrl ⊢
  clear hrl' hp1 hr0
  have HD := hide hd
  have HLC := hide hlc
  have HNT := hide hnt
  clear hd hlc hnt
  have hlt : q1.o < s.length := (List.getElem?_eq_some_iff.1 hc).1
  have HC0 := hide hc
  clear hc
  have d1 : decide ((s.length : Int) ≤ (q1.o : Int)) = false := by simp; omega
  have hki : (q1.o : Int) < (s.length : Int) := by omega
  have l0 := HN2.out.lx.c0
  have l1 := HN2.out.lx.c1
  go_upto_region 6 with fail
  go_quiet (fail)
  have HN3 := hide (HN2.out.low (below_dn w2 nq w2.heap.size))
  clear HN2 l0 l1
  generalize w2.drewN nq = w3 at *
  have l0 := HN3.out.lx.c0
  have l1 := HN3.out.lx.c1
  obtain ⟨g, off, ha, cx⟩ := HN3.out.lx.src q1.o c HC0.out
  subst ha
  go_upto_region 8 with fail
  go_quiet (fail)
  have HN4 := hide (HN3.out.low (below_dn w3 nq w3.heap.size))
  clear HN3 l0 l1 cx
  generalize w3.drewN nq = w4 at *
  clear d1 hki
  go_wp2_with fail
  refine (isDigit_any _ c).mono ?_
  rintro e wq ⟨rfl, hw⟩
  rw [hw, HD.out]
  clear hw wq
  simp only []
  go_wp2_with fail
  refine (isLetter_any _ c).mono ?_
  rintro e wq ⟨rfl, hw⟩
  rw [hw, HLC.out]
  clear hw wq
  simp only []
  have hrn := hide (runK_any w4 p (some ⟨g, off, none⟩) cp s (q1.o) q1.l q1.b HN4.out.lx (by have := HN4.out.ok.o; exact this) (by omega))
  go_wp2_with fail
  refine hrn.out.mono ?_
  rintro e w5 ⟨un, hun, ug, rfl, hex, hlx, hsr, hgs⟩
  clear hrn
  simp only []
  have HWu := hide hun
  have HSRu := hide hsr
  have hwlu := wlen_drop s (o := q1.o) (by have := HN4.out.ok.o; exact this)
  rw [← hun] at hwlu
  have HGNu : Hid (ug ≠ r1 ∧ ug ≠ r0 ∧ ug ≠ p) := by
    have z1 := World.block_lt_of_cell? _ _ HN4.out.tb.c0
    have z2 := World.block_lt_of_cell? _ _ HN4.out.tr.c0
    have z3 := World.block_lt_of_cell? _ _ HN4.out.lx.c0
    dsimp only at z1 z2 z3
    exact ⟨by omega, by omega, by omega⟩
  have HN5 := hide (HN4.out.lex (q' := ⟨q1.o + un, q1.l, q1.b⟩) hex hlx (HN4.out.ok.go (Nat.le_add_right _ _) hwlu))
  clear HN4 hex hlx hsr hgs hun
  obtain ⟨WD, hWD⟩ : ∃ m, run1 s q1.o = m := ⟨_, rfl⟩
  have HSW : Hid (SrcAt w5 (some ⟨ug, 0, none⟩) WD) := by rw [← hWD]; unfold run1; rw [← HWu.out]; exact HSRu.out
  have HLN : Hid (WD.length = un) := by show _ = _; rw [← hWD, run1_len, HWu.out]
  have hn1 : 1 ≤ un := by rw [HWu.out, drop_cons HC0.out, wlen, HLC.out]; simp
  obtain ⟨u0, hu0⟩ : ∃ x, WD[0]? = some x := ⟨_, List.getElem?_eq_getElem (by have := HLN.out; omega)⟩
  have HU0 := hide hu0
  have hg0 : w5.cell? ⟨ug, 0, none⟩ = some (.int .u8 u0) := by
    obtain ⟨b', off', e', hx'⟩ := HSW.out 0 u0 hu0
    injection e' with e'
    injection e' with e1 e2
    subst e1 e2
    exact hx'
  rw [hWD, ← HWu.out] at HRS
  clear HSRu hu0
  have HNT2 : Hid (un = 1 → u0 = 84 → byP s ((q1.o + un : Nat) : Int) ≠ 35) := fun z1 z2 z3 => HNT.out ⟨by
    rw [hWD]
    match WD, HLN.out, HU0.out with
    | [x], _, hh => (simp at hh; rw [hh, z2])
    | [], hh, _ => (simp at hh; omega)
    | x :: y :: r, hh, _ => (simp at hh; omega), by rw [z1] at z3; exact z3⟩
  clear HNT hWD
  have HB : ∀ m, Hid (Calls Try.prog 91 #[.pointer (some ⟨p, 0, none⟩), .int .i64 ((q1.o + un : Nat) : Int)] (w5.drewN m) fun e w' => e = .returned (.int .u8 (byP s ((q1.o + un : Nat) : Int))) ∧ w' = w5.drewN m) := fun m => by
    have hx := HN5.out.lx.below (below_dn w5 m w5.heap.size)
    exact byteAt_any _ _ _ _ s (q1.o + un) hx.src hx.c0
  have HB0 : Hid (Calls Try.prog 91 #[.pointer (some ⟨p, 0, none⟩), .int .i64 ((q1.o + un : Nat) : Int)] w5 fun e w' => e = .returned (.int .u8 (byP s ((q1.o + un : Nat) : Int))) ∧ w' = w5) := byteAt_any _ _ _ _ s (q1.o + un) HN5.out.lx.src HN5.out.lx.c0
  go_upto_region 16 with fail
  go_cut [90] (fun s90 wx => s90 = .bool false ∧ w5 = wx)
  case first =>
    have hg0' := hg0
    have l1 := HN5.out.lx.c1
    dsimp only at l1
    obtain ⟨dd, hdd⟩ : ∃ x, byP s ((q1.o + un : Nat) : Int) = x := ⟨_, rfl⟩
    rw [hdd] at HB0 HNT2
    clear hdd HB
    by_cases h1 : un = 1
    · have d2 : ((un : Int) == 1) = true := by simp; omega
      have hi0 : (0 : Int) < (un : Int) := by omega
      by_cases h84 : u0 = 84
      · have e84 : (u0 == 84) = true := by simpa using h84
        have e35 : (dd == 35) = false := by simpa using HNT2.out h1 h84
        clear h1 h84 HNT2
        go_wp2_with fail
        refine HB0.out.mono ?_
        rintro e wq ⟨rfl, hw⟩
        rw [hw]
        clear hw wq
        go_wp2
        go_meet
        case rel => exact ⟨rfl, rfl⟩
      · have e84 : (u0 == 84) = false := by simpa using h84
        clear h1 h84 HNT2 HB0
        go_wp2
        go_meet
        case rel => exact ⟨rfl, rfl⟩
    · have d2 : ((un : Int) == 1) = false := by simp; omega
      clear h1 HNT2 HB0
      go_wp2
      go_meet
      case rel => exact ⟨rfl, rfl⟩
  obtain ⟨rfl, rfl⟩ := hcut
  clear HB HB0 HNT2 hg0 HU0
  have HCV : Hid (∀ W : World, (∀ j, W.cell? ⟨ug, j, none⟩ = w5.cell? ⟨ug, j, none⟩) → (convert 32 9 (.slice (some ⟨ug, 0, none⟩) un un)).run Try.prog W = .ok (.string (strOfNums WD)) W) := fun W hW => run_convert_bytes_arg (P := Try.prog) W 32 5 Try.underlying32 Try.underlying5 ug 0 un un _ HLN.out (fun i hi => by
    obtain ⟨y, hy⟩ : ∃ y, WD[i]? = some y := ⟨_, List.getElem?_eq_getElem (by rw [HLN.out]; omega)⟩
    obtain ⟨b', off', e', hx'⟩ := HSW.out i y hy
    injection e' with e'
    injection e' with e1 e2
    subst e1 e2
    rw [hW, hx', List.getD_eq_getElem?_getD, hy, Option.getD_some]) 9 Try.underlying9
  have HGP : Hid (ug ≠ r1) := HGNu.out.1
  go_upto_region 23 with fail
  obtain ⟨X0, hX0⟩ : ∃ x, strOfNums WD = x := ⟨_, rfl⟩
  rw [hX0] at HCV HRS
  clear hX0
  have hcv1 := HCV.out w5.drew (fun _ => rfl)
  have hcv2 := HCV.out (w5.setCell ⟨r1, 0, none⟩ (.int .i64 2)).drew (fun j => set_cell_ne _ _ _ _ _ _ HGP.out)
  have T0 := HN5.out.tb.c0
  have TF0 := HN5.out.tb.f0
  have T1 := HN5.out.tb.c1
  have TF1 := HN5.out.tb.f1
  go_region
  clear hcv1 hcv2 HCV HSW T0 TF0 T1 TF1
  have HN6 := hide (((HN5.out.k 2).x X0).low (Below.refl _ _).drew)
  clear HN5
  generalize ((w5.setCell ⟨r1, 0, none⟩ (.int .i64 2)).setCell ⟨r1, 1, none⟩ (.string X0)).drew = w6 at *
  have T1 := HN6.out.tb.c1
  have TF1 := HN6.out.tb.f1
  obtain ⟨kb, hkb⟩ : ∃ b, kwP X0.toList = b := ⟨_, rfl⟩
  obtain ⟨tb, htb⟩ : ∃ b, (X0.toList == [84, 82, 85, 69]) = b := ⟨_, rfl⟩
  have HKB := hide hkb
  have HTB := hide htb
  clear hkb
  go_wp2_with fail
  refine (isKeyword_any _ X0).mono ?_
  rintro e wq ⟨rfl, hw⟩
  rw [hw, HKB.out]
  clear hw wq
  simp only []
  cases kb
  · skip
    clear T1 TF1
    have T1 := HN6.out.tb.c1
    have TF1 := HN6.out.tb.f1
    cases tb
    · skip
      have T2 : w6.cell? ⟨r1, 2, none⟩ = some (.int .i64 0) := HN6.out.tb.c2
      go_upto_region 30 with fail
      clear T2 htb T1 TF1
      obtain ⟨tt, htt⟩ : ∃ t : TK, ({ (tk0 q1 : TK) with k := 2, x := X0 }) = t := ⟨_, rfl⟩
      have HRT : Hid ((tt, ⟨q1.o + un, q1.l, q1.b⟩) = RS) := by show _ = _; rw [← htt]; exact (by rw [← HRS.out]; unfold wordT; rw [if_neg (by rw [HKB.out]; decide), if_neg (by simpa using HTB.out)] <;> rfl)
      rw [htt] at HN6
      clear htt HRS
      have T0 := HN6.out.tb.c0
      have R0 := HN6.out.tr.c0
      have F0 := HN6.out.tr.f0
      have T1 := HN6.out.tb.c1
      have R1 := HN6.out.tr.c1
      have F1 := HN6.out.tr.f1
      have T2 := HN6.out.tb.c2
      have R2 := HN6.out.tr.c2
      have F2 := HN6.out.tr.f2
      have T3 := HN6.out.tb.c3
      have R3 := HN6.out.tr.c3
      have F3 := HN6.out.tr.f3
      have T4 := HN6.out.tb.c4
      have R4 := HN6.out.tr.c4
      have F4 := HN6.out.tr.f4
      have T5 := HN6.out.tb.c5
      have R5 := HN6.out.tr.c5
      have F5 := HN6.out.tr.f5
      have HF := hide HN6.out.fin
      have HC := hide HN6.out.res
      have hne : r0 ≠ r1 := HN6.out.ge.2.2
      clear HN6
      go_wp2_with (with_reducible refine bodyPost_ret (v := ?v) ?hr ?hd ?hp)
      case v => exact tkV tt
      case hr =>
        change (results _ _).run _ (six w6 r0 tt) = .ok _ (six w6 r0 tt)
        obtain ⟨y0, y1, y2, y3, y4, y5⟩ := HC.out
        clear HF HC
        generalize six w6 r0 tt = WF at *
        simp [results, Try.results70, go_sem, y0, y1, y2, y3, y4, y5, tkV]
      case hd => rfl
      case hp => rw [← HRT.out]; exact HF.out
    · skip
      have T2 := HN6.out.tb.c2
      have TF2 := HN6.out.tb.f2
      go_upto_region 28 with fail
      have HN7 := hide (HN6.out.v (1))
      clear HN6
      clear T2 TF2 T1 TF1 htb
      generalize w6.setCell ⟨r1, 2, none⟩ (.int .i64 (1)) = w7 at *
      have T2 : w7.cell? ⟨r1, 2, none⟩ = some (.int .i64 1) := HN7.out.tb.c2
      go_upto_region 30 with fail
      clear T2
      obtain ⟨tt, htt⟩ : ∃ t : TK, ({ ({ (tk0 q1 : TK) with k := 2, x := X0 } : TK) with v := 1 }) = t := ⟨_, rfl⟩
      have HRT : Hid ((tt, ⟨q1.o + un, q1.l, q1.b⟩) = RS) := by show _ = _; rw [← htt]; exact (by rw [← HRS.out]; unfold wordT; rw [if_neg (by rw [HKB.out]; decide), if_pos (by simpa using HTB.out)] <;> rfl)
      rw [htt] at HN7
      clear htt HRS
      have T0 := HN7.out.tb.c0
      have R0 := HN7.out.tr.c0
      have F0 := HN7.out.tr.f0
      have T1 := HN7.out.tb.c1
      have R1 := HN7.out.tr.c1
      have F1 := HN7.out.tr.f1
      have T2 := HN7.out.tb.c2
      have R2 := HN7.out.tr.c2
      have F2 := HN7.out.tr.f2
      have T3 := HN7.out.tb.c3
      have R3 := HN7.out.tr.c3
      have F3 := HN7.out.tr.f3
      have T4 := HN7.out.tb.c4
      have R4 := HN7.out.tr.c4
      have F4 := HN7.out.tr.f4
      have T5 := HN7.out.tb.c5
      have R5 := HN7.out.tr.c5
      have F5 := HN7.out.tr.f5
      have HF := hide HN7.out.fin
      have HC := hide HN7.out.res
      have hne : r0 ≠ r1 := HN7.out.ge.2.2
      clear HN7
      go_wp2_with (with_reducible refine bodyPost_ret (v := ?v) ?hr ?hd ?hp)
      case v => exact tkV tt
      case hr =>
        change (results _ _).run _ (six w7 r0 tt) = .ok _ (six w7 r0 tt)
        obtain ⟨y0, y1, y2, y3, y4, y5⟩ := HC.out
        clear HF HC
        generalize six w7 r0 tt = WF at *
        simp [results, Try.results70, go_sem, y0, y1, y2, y3, y4, y5, tkV]
      case hd => rfl
      case hp => rw [← HRT.out]; exact HF.out
  · skip
    have T0 := HN6.out.tb.c0
    have TF0 := HN6.out.tb.f0
    go_upto_region 26 with fail
    have HN7 := hide (HN6.out.k (5))
    clear HN6
    clear T0 TF0 T1 TF1
    generalize w6.setCell ⟨r1, 0, none⟩ (.int .i64 (5)) = w7 at *
    have T1 := HN7.out.tb.c1
    have TF1 := HN7.out.tb.f1
    cases tb
    · skip
      have T2 : w7.cell? ⟨r1, 2, none⟩ = some (.int .i64 0) := HN7.out.tb.c2
      go_upto_region 30 with fail
      clear T2 htb T1 TF1
      obtain ⟨tt, htt⟩ : ∃ t : TK, ({ ({ (tk0 q1 : TK) with k := 2, x := X0 } : TK) with k := 5 }) = t := ⟨_, rfl⟩
      have HRT : Hid ((tt, ⟨q1.o + un, q1.l, q1.b⟩) = RS) := by show _ = _; rw [← htt]; exact (by rw [← HRS.out]; unfold wordT; rw [if_pos HKB.out, if_neg (by simpa using HTB.out)] <;> rfl)
      rw [htt] at HN7
      clear htt HRS
      have T0 := HN7.out.tb.c0
      have R0 := HN7.out.tr.c0
      have F0 := HN7.out.tr.f0
      have T1 := HN7.out.tb.c1
      have R1 := HN7.out.tr.c1
      have F1 := HN7.out.tr.f1
      have T2 := HN7.out.tb.c2
      have R2 := HN7.out.tr.c2
      have F2 := HN7.out.tr.f2
      have T3 := HN7.out.tb.c3
      have R3 := HN7.out.tr.c3
      have F3 := HN7.out.tr.f3
      have T4 := HN7.out.tb.c4
      have R4 := HN7.out.tr.c4
      have F4 := HN7.out.tr.f4
      have T5 := HN7.out.tb.c5
      have R5 := HN7.out.tr.c5
      have F5 := HN7.out.tr.f5
      have HF := hide HN7.out.fin
      have HC := hide HN7.out.res
      have hne : r0 ≠ r1 := HN7.out.ge.2.2
      clear HN7
      go_wp2_with (with_reducible refine bodyPost_ret (v := ?v) ?hr ?hd ?hp)
      case v => exact tkV tt
      case hr =>
        change (results _ _).run _ (six w7 r0 tt) = .ok _ (six w7 r0 tt)
        obtain ⟨y0, y1, y2, y3, y4, y5⟩ := HC.out
        clear HF HC
        generalize six w7 r0 tt = WF at *
        simp [results, Try.results70, go_sem, y0, y1, y2, y3, y4, y5, tkV]
      case hd => rfl
      case hp => rw [← HRT.out]; exact HF.out
    · skip
      have T2 := HN7.out.tb.c2
      have TF2 := HN7.out.tb.f2
      go_upto_region 28 with fail
      have HN8 := hide (HN7.out.v (1))
      clear HN7
      clear T2 TF2 T1 TF1 htb
      generalize w7.setCell ⟨r1, 2, none⟩ (.int .i64 (1)) = w8 at *
      have T2 : w8.cell? ⟨r1, 2, none⟩ = some (.int .i64 1) := HN8.out.tb.c2
      go_upto_region 30 with fail
      clear T2
      obtain ⟨tt, htt⟩ : ∃ t : TK, ({ ({ ({ (tk0 q1 : TK) with k := 2, x := X0 } : TK) with k := 5 } : TK) with v := 1 }) = t := ⟨_, rfl⟩
      have HRT : Hid ((tt, ⟨q1.o + un, q1.l, q1.b⟩) = RS) := by show _ = _; rw [← htt]; exact (by rw [← HRS.out]; unfold wordT; rw [if_pos HKB.out, if_pos (by simpa using HTB.out)] <;> rfl)
      rw [htt] at HN8
      clear htt HRS
      have T0 := HN8.out.tb.c0
      have R0 := HN8.out.tr.c0
      have F0 := HN8.out.tr.f0
      have T1 := HN8.out.tb.c1
      have R1 := HN8.out.tr.c1
      have F1 := HN8.out.tr.f1
      have T2 := HN8.out.tb.c2
      have R2 := HN8.out.tr.c2
      have F2 := HN8.out.tr.f2
      have T3 := HN8.out.tb.c3
      have R3 := HN8.out.tr.c3
      have F3 := HN8.out.tr.f3
      have T4 := HN8.out.tb.c4
      have R4 := HN8.out.tr.c4
      have F4 := HN8.out.tr.f4
      have T5 := HN8.out.tb.c5
      have R5 := HN8.out.tr.c5
      have F5 := HN8.out.tr.f5
      have HF := hide HN8.out.fin
      have HC := hide HN8.out.res
      have hne : r0 ≠ r1 := HN8.out.ge.2.2
      clear HN8
      go_wp2_with (with_reducible refine bodyPost_ret (v := ?v) ?hr ?hd ?hp)
      case v => exact tkV tt
      case hr =>
        change (results _ _).run _ (six w8 r0 tt) = .ok _ (six w8 r0 tt)
        obtain ⟨y0, y1, y2, y3, y4, y5⟩ := HC.out
        clear HF HC
        generalize six w8 r0 tt = WF at *
        simp [results, Try.results70, go_sem, y0, y1, y2, y3, y4, y5, tkV]
      case hd => rfl
      case hp => rw [← HRT.out]; exact HF.out
end Go.Proofs.Qxb6500774a
