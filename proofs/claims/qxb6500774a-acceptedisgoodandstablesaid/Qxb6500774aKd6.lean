import Derived.Test.Qxb6500774aKd0
namespace Go.Proofs.Qxb6500774a
open Go.RowKit
set_option linter.unusedVariables false
set_option linter.unusedSimpArgs false
variable {R : Nat → Option Value}

set_option linter.unusedSimpArgs false in
set_option maxRecDepth 100000 in
set_option maxHeartbeats 8000000 in
theorem nextK_time (w : World) (p : Nat) (a : Option Addr) (cp : Nat) (s : List Int) (q q1 : Pl) (h : LX R w p a cp s q) (hq : PlOk s q) (hl : s.length ≤ 1048576) (hsk : skP s q = (true, q1)) (c : Int) (hc : s[q1.o]? = some c) (hd : dgP c = false) (hlc : ltP c = true) (hT : run1 s q1.o = [84]) (h35 : byP s ((q1.o + 1 : Nat) : Int) = 35) :
    Calls Try.prog 70 #[.pointer (some ⟨p, 0, none⟩)] w (NxPost R w p a cp s (negT { tk0 q1 with k := 4, v := msV (run1 s (q1.o + 2)) }, ⟨q1.o + 2 + wlen (s.drop (q1.o + 2)), q1.l, q1.b⟩)) := by
  have HX := hide h
  have cs := hide (skipK_any (w.alloc (.cells #[.int .i64 0, .string ⟨#[]⟩, .int .i64 0, .int .i64 0, .int .i64 0, .int .i64 0] 81)) p a cp s q (h.below (be1 w (.cells #[.int .i64 0, .string ⟨#[]⟩, .int .i64 0, .int .i64 0, .int .i64 0, .int .i64 0] 81))) hq hl)
  rw [hsk] at cs
  obtain ⟨RS, hRS⟩ : ∃ r : TK × Pl, (negT { tk0 q1 with k := 4, v := msV (run1 s (q1.o + 2)) }, ⟨q1.o + 2 + wlen (s.drop (q1.o + 2)), q1.l, q1.b⟩) = r := ⟨_, rfl⟩
  have HRS := hide hRS
  rw [hRS]
  clear h hq hsk hRS
  go_enter Try.func70, Try.ntmps70
  go_wp2_with fail
  refine cs.out.mono ?_
  rintro e w1 ⟨rfl, hex, hlx, hok⟩
  dsimp only at hlx hok
  clear cs
  simp only []
  have hp0 : p < w.heap.size := World.block_lt_of_cell? _ _ HX.out.c0
  have hr0 : TB (w.alloc (.cells #[.int .i64 0, .string ⟨#[]⟩, .int .i64 0, .int .i64 0, .int .i64 0, .int .i64 0] 81)) w.heap.size 0 ⟨#[]⟩ 0 0 0 0 := TB.new w 0 ⟨#[]⟩ 0 0 0 0
  have hr1 := hr0.keep hex (by omega)
  have hrl : w.heap.size < w1.heap.size := World.block_lt_of_cell? _ _ hr1.c0
  have HX1 := hide hlx
  have HOK := hide hok
  have l0 := HX1.out.c0
  have l1 := HX1.out.c1
  have l2 := HX1.out.c2
  have l3 := HX1.out.c3
  have hw1 : IntKind.i64.wrap ((q1.o : Int) - (q1.b : Int)) = (q1.o : Int) - q1.b := by have := HOK.out.o; have := HOK.out.b; rw [IntKind.wrap_i64]; omega
  have hw2 : IntKind.i64.wrap ((q1.o : Int) - (q1.b : Int) + 1) = (q1.o : Int) - q1.b + 1 := by have := HOK.out.o; have := HOK.out.b; rw [IntKind.wrap_i64]; omega
  go_upto_region 2 with fail
  have hp1 : p < w1.heap.size := World.block_lt_of_cell? _ _ l0
  go_region
  have HN2 : Hid (NW R w (w1.alloc (.cells #[.int .i64 0, .string ⟨#[]⟩, .int .i64 0, .int .i64 0, .int .i64 q1.l, .int .i64 ((q1.o : Int) - q1.b + 1)] 81)).drew p a cp s q1 w.heap.size w1.heap.size (tk0 q1)) := by
    have e0 : Ex (fun k => k = p) w (w.alloc (.cells #[.int .i64 0, .string ⟨#[]⟩, .int .i64 0, .int .i64 0, .int .i64 0, .int .i64 0] 81)) := (Ex.refl _ _).alloc _
    have b0 : Below w1.heap.size w1 (w1.alloc (.cells #[.int .i64 0, .string ⟨#[]⟩, .int .i64 0, .int .i64 0, .int .i64 q1.l, .int .i64 ((q1.o : Int) - q1.b + 1)] 81)).drew := ((Below.refl w1.heap.size w1).alloc (Nat.le_refl _) (.cells #[.int .i64 0, .string ⟨#[]⟩, .int .i64 0, .int .i64 0, .int .i64 q1.l, .int .i64 ((q1.o : Int) - q1.b + 1)] 81)).drew
    exact ⟨HX1.out.below b0, HOK.out, ((e0.trans hex).alloc _).drew, hr1.keep (S := fun _ => False) (((Ex.refl _ w1).alloc (.cells #[.int .i64 0, .string ⟨#[]⟩, .int .i64 0, .int .i64 0, .int .i64 q1.l, .int .i64 ((q1.o : Int) - q1.b + 1)] 81)).drew) (fun z => z), (TB.new w1 0 ⟨#[]⟩ 0 0 q1.l ((q1.o : Int) - q1.b + 1)).keep (S := fun _ => False) (Ex.refl _ _).drew (fun z => z), ⟨Nat.le_refl _, by omega, by omega⟩, ⟨q, HX.out⟩⟩
  clear hex hlx hok hr0 hr1 l0 l1 l2 l3 hw1 hw2 HX HX1 hp0
  generalize (w1.alloc (.cells #[.int .i64 0, .string ⟨#[]⟩, .int .i64 0, .int .i64 0, .int .i64 q1.l, .int .i64 ((q1.o : Int) - q1.b + 1)] 81)).drew = w2 at *
  have hrl' := hrl
  generalize w1.heap.size = r1 at *
  obtain ⟨r0, hr0⟩ : ∃ r, w.heap.size = r := ⟨_, rfl⟩
  rw [hr0] at HN2 hrl ⊢
  clear hrl' hp1 hr0
  have HD := hide hd
  have HLC := hide hlc
  have HTT := hide hT
  have H35 := hide h35
  clear hd hlc hT h35
  have hlt : q1.o < s.length := (List.getElem?_eq_some_iff.1 hc).1
  have HC0 := hide hc
  clear hc
  have d1 : decide ((s.length : Int) ≤ (q1.o : Int)) = false := by simp; omega
  have hki : (q1.o : Int) < (s.length : Int) := by omega
  have l0 := HN2.out.lx.c0
  have l1 := HN2.out.lx.c1
  go_upto_region 6 with fail
  go_quiet (fail)
  have HN3 := hide (HN2.out.low (below_dn w2 nq w2.heap.size))
  clear HN2 l0 l1
  generalize w2.drewN nq = w3 at *
  have l0 := HN3.out.lx.c0
  have l1 := HN3.out.lx.c1
  obtain ⟨g, off, ha, cx⟩ := HN3.out.lx.src q1.o c HC0.out
  subst ha
  go_upto_region 8 with fail
  go_quiet (fail)
  have HN4 := hide (HN3.out.low (below_dn w3 nq w3.heap.size))
  clear HN3 l0 l1 cx
  generalize w3.drewN nq = w4 at *
  clear d1 hki
  go_wp2_with fail
  refine (isDigit_any _ c).mono ?_
  rintro e wq ⟨rfl, hw⟩
  rw [hw, HD.out]
  clear hw wq
  simp only []
  go_wp2_with fail
  refine (isLetter_any _ c).mono ?_
  rintro e wq ⟨rfl, hw⟩
  rw [hw, HLC.out]
  clear hw wq
  simp only []
  have hrn := hide (runK_any w4 p (some ⟨g, off, none⟩) cp s (q1.o) q1.l q1.b HN4.out.lx (by have := HN4.out.ok.o; exact this) (by omega))
  go_wp2_with fail
  refine hrn.out.mono ?_
  rintro e w5 ⟨un, hun, ug, rfl, hex, hlx, hsr, hgs⟩
  clear hrn
  simp only []
  have HWu := hide hun
  have HSRu := hide hsr
  have hwlu := wlen_drop s (o := q1.o) (by have := HN4.out.ok.o; exact this)
  rw [← hun] at hwlu
  have HGNu : Hid (ug ≠ r1 ∧ ug ≠ r0 ∧ ug ≠ p) := by
    have z1 := World.block_lt_of_cell? _ _ HN4.out.tb.c0
    have z2 := World.block_lt_of_cell? _ _ HN4.out.tr.c0
    have z3 := World.block_lt_of_cell? _ _ HN4.out.lx.c0
    dsimp only at z1 z2 z3
    exact ⟨by omega, by omega, by omega⟩
  have HN5 := hide (HN4.out.lex (q' := ⟨q1.o + un, q1.l, q1.b⟩) hex hlx (HN4.out.ok.go (Nat.le_add_right _ _) hwlu))
  clear HN4 hex hlx hsr hgs hun
  have hun : un = 1 := by rw [HWu.out, ← run1_len, HTT.out]; rfl
  subst hun
  have hg0 : w5.cell? ⟨ug, 0, none⟩ = some (.int .u8 84) := by
    obtain ⟨b', off', e', hx'⟩ := HSRu.out 0 84 (by have h1 := HTT.out; unfold run1 at h1; rw [← HWu.out] at h1; rw [h1]; rfl)
    injection e' with e'
    injection e' with e1 e2
    subst e1 e2
    exact hx'
  have ho2 : q1.o + 2 ≤ s.length := by
    rcases Nat.lt_or_ge (q1.o + 1) s.length with z | z
    · omega
    · have h0 := H35.out
      unfold byP at h0
      rw [if_neg (by omega)] at h0
      cases h0
  have HB0 : Hid (Calls Try.prog 91 #[.pointer (some ⟨p, 0, none⟩), .int .i64 ((q1.o + 1 : Nat) : Int)] w5 fun e w' => e = .returned (.int .u8 35) ∧ w' = w5) := by
    have := byteAt_any w5 p (some ⟨g, off, none⟩) cp s (q1.o + 1) HN5.out.lx.src HN5.out.lx.c0
    rw [H35.out] at this
    exact this
  clear HSRu
  have l1 : w5.cell? ⟨p, 1, none⟩ = some (.int .i64 ((q1.o + 1 : Nat) : Int)) := HN5.out.lx.c1
  have lf1 := HN5.out.lx.f1
  have hwo : IntKind.i64.wrap (((q1.o + 1 : Nat) : Int) + 1) = ((q1.o + 2 : Nat) : Int) := by rw [IntKind.wrap_i64]; omega
  have hwo2 : IntKind.i64.wrap ((q1.o : Int) + 1 + 1) = ((q1.o + 2 : Nat) : Int) := by rw [IntKind.wrap_i64]; omega
  go_upto_region 16 with fail
  go_wp2_with fail
  refine HB0.out.mono ?_
  rintro e wq ⟨rfl, hw⟩
  rw [hw]
  clear hw wq HB0
  simp only []
  go_upto_region 18 with fail
  clear hg0 hwo hwo2
  have hlx2 : LX R (w5.setCell ⟨p, 1, none⟩ (.int .i64 ((q1.o + 2 : Nat) : Int))) p (some ⟨g, off, none⟩) cp s ⟨q1.o + 2, q1.l, q1.b⟩ := HN5.out.lx.off (q1.o + 2)
  have HN6 := hide (HN5.out.lex (q' := ⟨q1.o + 2, q1.l, q1.b⟩) ((Ex.refl (fun k => k = p) w5).set (p := p) (j := 1) rfl (.int .i64 ((q1.o + 2 : Nat) : Int))) hlx2 (HN5.out.ok.go (by show q1.o + 1 ≤ q1.o + 2; omega) ho2))
  rw [show ((q1.o + 2 : Nat) : Int) = (q1.o : Int) + 2 by omega] at HN6
  clear hlx2 HN5 l1 lf1
  generalize w5.setCell ⟨p, 1, none⟩ (.int .i64 ((q1.o : Int) + 2)) = w6 at *
  have hrn := hide (runK_any w6 p (some ⟨g, off, none⟩) cp s (q1.o + 2) q1.l q1.b HN6.out.lx (by have := HN6.out.ok.o; exact this) (by omega))
  go_wp2_with fail
  refine hrn.out.mono ?_
  rintro e w7 ⟨vn, hvn, vg, rfl, hex, hlx, hsr, hgs⟩
  clear hrn
  simp only []
  have HWv := hide hvn
  have HSRv := hide hsr
  have hwlv := wlen_drop s (o := q1.o + 2) (by have := HN6.out.ok.o; exact this)
  rw [← hvn] at hwlv
  have HGNv : Hid (vg ≠ r1 ∧ vg ≠ r0 ∧ vg ≠ p) := by
    have z1 := World.block_lt_of_cell? _ _ HN6.out.tb.c0
    have z2 := World.block_lt_of_cell? _ _ HN6.out.tr.c0
    have z3 := World.block_lt_of_cell? _ _ HN6.out.lx.c0
    dsimp only at z1 z2 z3
    exact ⟨by omega, by omega, by omega⟩
  have HN7 := hide (HN6.out.lex (q' := ⟨q1.o + 2 + vn, q1.l, q1.b⟩) hex hlx (HN6.out.ok.go (Nat.le_add_right _ _) hwlv))
  clear HN6 hex hlx hsr hgs hvn
  obtain ⟨BD, hBD⟩ : ∃ m, run1 s (q1.o + 2) = m := ⟨_, rfl⟩
  have HSW : Hid (SrcAt w7 (some ⟨vg, 0, none⟩) BD) := by rw [← hBD]; unfold run1; rw [← HWv.out]; exact HSRv.out
  have HLN : Hid (BD.length = vn) := by show _ = _; rw [← hBD, run1_len, HWv.out]
  have hvn : vn ≤ 1048576 := by omega
  rw [hBD, ← HWv.out] at HRS
  clear hBD HSRv HWv HTT H35 HWu
  have T0 := HN7.out.tb.c0
  have TF0 := HN7.out.tb.f0
  have T2 := HN7.out.tb.c2
  have TF2 := HN7.out.tb.f2
  go_upto_region 20 with fail
  have HN8 := hide (HN7.out.k (4))
  clear HN7
  have HN9 := hide (HN8.out.v (-1))
  clear HN8
  clear T0 TF0 T2 TF2
  have HSX : Hid (SrcAt ((w7.setCell ⟨r1, 0, none⟩ (.int .i64 (4))).setCell ⟨r1, 2, none⟩ (.int .i64 (-1))) (some ⟨vg, 0, none⟩) BD) := fun i c hc => by
    obtain ⟨b', off', e', hx'⟩ := HSW.out i c hc
    injection e' with e'
    injection e' with e1 e2
    subst e1 e2
    exact ⟨_, _, rfl, by rw [set_cell_ne _ _ _ _ _ _ HGNv.out.1, set_cell_ne _ _ _ _ _ _ HGNv.out.1]; exact hx'⟩
  clear HSW
  generalize (w7.setCell ⟨r1, 0, none⟩ (.int .i64 (4))).setCell ⟨r1, 2, none⟩ (.int .i64 (-1)) = w9 at *
  by_cases h2 : 2 ≤ vn
  · have dv2 : decide ((2 : Int) ≤ (vn : Int)) = true := by simp; omega
    obtain ⟨x2, hx2⟩ : ∃ x, BD[vn - 2]? = some x := ⟨_, List.getElem?_eq_getElem (by have := HLN.out; omega)⟩
    obtain ⟨x1, hx1⟩ : ∃ x, BD[vn - 1]? = some x := ⟨_, List.getElem?_eq_getElem (by have := HLN.out; omega)⟩
    have HMV : Hid (msV BD = if x2 = 77 ∧ x1 = 83 then decimalP (BD.take (vn - 2)) else -1) := by
      show _ = _
      unfold msV
      rw [HLN.out, List.getD_eq_getElem?_getD, List.getD_eq_getElem?_getD, hx2, hx1]
      dsimp only [Option.getD_some]
      by_cases hq : x2 = 77 ∧ x1 = 83
      · rw [if_pos ⟨h2, hq⟩, if_pos hq]
      · rw [if_neg (fun z => hq z.2), if_neg hq]
    have y2 : w9.cell? ⟨vg, vn - 2, none⟩ = some (.int .u8 x2) := by
      obtain ⟨b', off', e', hx'⟩ := HSX.out (vn - 2) x2 hx2
      injection e' with e'
      injection e' with e1 e2
      subst e1 e2
      rw [Nat.zero_add] at hx'
      exact hx'
    have y1 : w9.cell? ⟨vg, vn - 1, none⟩ = some (.int .u8 x1) := by
      obtain ⟨b', off', e', hx'⟩ := HSX.out (vn - 1) x1 hx1
      injection e' with e'
      injection e' with e1 e2
      subst e1 e2
      rw [Nat.zero_add] at hx'
      exact hx'
    clear hx1 hx2
    have hw2 : IntKind.i64.wrap ((vn : Int) - 2) = ((vn - 2 : Nat) : Int) := by rw [IntKind.wrap_i64]; omega
    have hw1 : IntKind.i64.wrap ((vn : Int) - 1) = ((vn - 1 : Nat) : Int) := by rw [IntKind.wrap_i64]; omega
    have hi2 : ((vn - 2 : Nat) : Int) < (vn : Int) := by omega
    have hi1 : ((vn - 1 : Nat) : Int) < (vn : Int) := by omega
    have hk2 : vn - 2 < vn := by omega
    have hk1 : vn - 1 < vn := by omega
    by_cases h77 : x2 = 77
    · have e77 : (x2 == 77) = true := by simpa using h77
      by_cases h83 : x1 = 83
      · have e83 : (x1 == 83) = true := by simpa using h83
        have HMS : Hid (msV BD = decimalP (BD.take (vn - 2))) := by show _ = _; rw [HMV.out, if_pos ⟨h77, h83⟩]
        have HDC : Hid (∀ cp', Calls Try.prog 87 #[.slice (some ⟨vg, 0, none⟩) (vn - 2) cp'] w9 fun e w' => e = .returned (.int .i64 (decimalP (BD.take (vn - 2)))) ∧ w' = w9) := fun cp' => by
          have hlen : (BD.take (vn - 2)).length = vn - 2 := by rw [List.length_take, HLN.out]; omega
          have := decimal_any w9 (some ⟨vg, 0, none⟩) cp' (BD.take (vn - 2)) (fun i c hc => HSX.out i c (by rw [List.getElem?_take] at hc; split at hc; exact hc; cases hc)) (by rw [hlen]; omega)
          rw [hlen] at this
          exact this
        obtain ⟨v, hv⟩ : ∃ v, decimalP (BD.take (vn - 2)) = v := ⟨_, rfl⟩
        rw [hv] at HDC HMS
        clear hv h77 h83 HMV
        have hks : ((vn - 2 : Nat) : Int) ≤ (vn : Int) := by omega
        have hks2 : vn - 2 ≤ vn := by omega
        have hks0 : (0 : Int) ≤ ((vn - 2 : Nat) : Int) := by omega
        go_wp2_with fail
        refine (HDC.out _).mono ?_
        rintro e wq ⟨rfl, hw⟩
        rw [hw]
        clear hw wq HDC
        simp only []
        have T2 := HN9.out.tb.c2
        have TF2 := HN9.out.tb.f2
        go_upto_region 28 with fail
        have HN10 := hide (HN9.out.v (v))
        clear HN9
        clear T2 TF2 y1 y2 hw1 hw2 e77 e83 dv2 HSX
        generalize w9.setCell ⟨r1, 2, none⟩ (.int .i64 (v)) = w10 at *
        have T2 := HN10.out.tb.c2
        have TF2 := HN10.out.tb.f2
        by_cases hv : v < 0
        · have dv : decide (v < 0) = true := decide_eq_true hv
          have T0 := HN10.out.tb.c0
          have TF0 := HN10.out.tb.f0
          have T3 := HN10.out.tb.c3
          have TF3 := HN10.out.tb.f3
          go_upto_region 30 with fail
          have HN11 := hide (HN10.out.k (1))
          clear HN10
          have HN12 := hide (HN11.out.e (4))
          clear HN11
          clear T2 TF2 T0 TF0 T3 TF3
          generalize (w10.setCell ⟨r1, 0, none⟩ (.int .i64 (1))).setCell ⟨r1, 3, none⟩ (.int .i64 (4)) = w12 at *
          obtain ⟨tt, htt⟩ : ∃ t : TK, ({ ({ ({ ({ ({ (tk0 q1 : TK) with k := 4 } : TK) with v := -1 } : TK) with v := v } : TK) with k := 1 } : TK) with e := 4 }) = t := ⟨_, rfl⟩
          have HRT : Hid ((tt, ⟨q1.o + 2 + vn, q1.l, q1.b⟩) = RS) := by show _ = _; rw [← htt]; exact (by rw [← HRS.out, HMS.out]; unfold negT; rw [if_pos hv])
          rw [htt] at HN12
          clear htt HRS
          have T0 := HN12.out.tb.c0
          have R0 := HN12.out.tr.c0
          have F0 := HN12.out.tr.f0
          have T1 := HN12.out.tb.c1
          have R1 := HN12.out.tr.c1
          have F1 := HN12.out.tr.f1
          have T2 := HN12.out.tb.c2
          have R2 := HN12.out.tr.c2
          have F2 := HN12.out.tr.f2
          have T3 := HN12.out.tb.c3
          have R3 := HN12.out.tr.c3
          have F3 := HN12.out.tr.f3
          have T4 := HN12.out.tb.c4
          have R4 := HN12.out.tr.c4
          have F4 := HN12.out.tr.f4
          have T5 := HN12.out.tb.c5
          have R5 := HN12.out.tr.c5
          have F5 := HN12.out.tr.f5
          have HF := hide HN12.out.fin
          have HC := hide HN12.out.res
          have hne : r0 ≠ r1 := HN12.out.ge.2.2
          clear HN12
          go_wp2_with (with_reducible refine bodyPost_ret (v := ?v) ?hr ?hd ?hp)
          case v => exact tkV tt
          case hr =>
            change (results _ _).run _ (six w12 r0 tt) = .ok _ (six w12 r0 tt)
            obtain ⟨y0, y1, y2, y3, y4, y5⟩ := HC.out
            clear HF HC
            generalize six w12 r0 tt = WF at *
            simp [results, Try.results70, go_sem, y0, y1, y2, y3, y4, y5, tkV]
          case hd => rfl
          case hp => rw [← HRT.out]; exact HF.out
        · have dv : decide (v < 0) = false := decide_eq_false hv
          go_upto_region 30 with fail
          clear T2 TF2
          obtain ⟨tt, htt⟩ : ∃ t : TK, ({ ({ ({ (tk0 q1 : TK) with k := 4 } : TK) with v := -1 } : TK) with v := v }) = t := ⟨_, rfl⟩
          have HRT : Hid ((tt, ⟨q1.o + 2 + vn, q1.l, q1.b⟩) = RS) := by show _ = _; rw [← htt]; exact (by rw [← HRS.out, HMS.out]; unfold negT; rw [if_neg hv])
          rw [htt] at HN10
          clear htt HRS
          have T0 := HN10.out.tb.c0
          have R0 := HN10.out.tr.c0
          have F0 := HN10.out.tr.f0
          have T1 := HN10.out.tb.c1
          have R1 := HN10.out.tr.c1
          have F1 := HN10.out.tr.f1
          have T2 := HN10.out.tb.c2
          have R2 := HN10.out.tr.c2
          have F2 := HN10.out.tr.f2
          have T3 := HN10.out.tb.c3
          have R3 := HN10.out.tr.c3
          have F3 := HN10.out.tr.f3
          have T4 := HN10.out.tb.c4
          have R4 := HN10.out.tr.c4
          have F4 := HN10.out.tr.f4
          have T5 := HN10.out.tb.c5
          have R5 := HN10.out.tr.c5
          have F5 := HN10.out.tr.f5
          have HF := hide HN10.out.fin
          have HC := hide HN10.out.res
          have hne : r0 ≠ r1 := HN10.out.ge.2.2
          clear HN10
          go_wp2_with (with_reducible refine bodyPost_ret (v := ?v) ?hr ?hd ?hp)
          case v => exact tkV tt
          case hr =>
            change (results _ _).run _ (six w10 r0 tt) = .ok _ (six w10 r0 tt)
            obtain ⟨y0, y1, y2, y3, y4, y5⟩ := HC.out
            clear HF HC
            generalize six w10 r0 tt = WF at *
            simp [results, Try.results70, go_sem, y0, y1, y2, y3, y4, y5, tkV]
          case hd => rfl
          case hp => rw [← HRT.out]; exact HF.out
      · have e83 : (x1 == 83) = false := by simpa using h83
        have HMS : Hid (msV BD = -1) := by show _ = _; rw [HMV.out, if_neg (fun z => h83 z.2)]
        clear h77 h83 HMV HSX
        have T0 := HN9.out.tb.c0
        have TF0 := HN9.out.tb.f0
        have T3 := HN9.out.tb.c3
        have TF3 := HN9.out.tb.f3
        have T2 : w9.cell? ⟨r1, 2, none⟩ = some (.int .i64 (-1)) := HN9.out.tb.c2
        have dng : decide ((-1 : Int) < 0) = true := rfl
        go_upto_region 30 with fail
        have HN10 := hide (HN9.out.k (1))
        clear HN9
        have HN11 := hide (HN10.out.e (4))
        clear HN10
        clear T2 dng T0 TF0 T3 TF3
        generalize (w9.setCell ⟨r1, 0, none⟩ (.int .i64 (1))).setCell ⟨r1, 3, none⟩ (.int .i64 (4)) = w11 at *
        obtain ⟨tt, htt⟩ : ∃ t : TK, ({ ({ ({ ({ (tk0 q1 : TK) with k := 4 } : TK) with v := -1 } : TK) with k := 1 } : TK) with e := 4 }) = t := ⟨_, rfl⟩
        have HRT : Hid ((tt, ⟨q1.o + 2 + vn, q1.l, q1.b⟩) = RS) := by show _ = _; rw [← htt]; exact (by rw [← HRS.out, HMS.out]; unfold negT; rw [if_pos (show (-1 : Int) < 0 by decide)])
        rw [htt] at HN11
        clear htt HRS
        have T0 := HN11.out.tb.c0
        have R0 := HN11.out.tr.c0
        have F0 := HN11.out.tr.f0
        have T1 := HN11.out.tb.c1
        have R1 := HN11.out.tr.c1
        have F1 := HN11.out.tr.f1
        have T2 := HN11.out.tb.c2
        have R2 := HN11.out.tr.c2
        have F2 := HN11.out.tr.f2
        have T3 := HN11.out.tb.c3
        have R3 := HN11.out.tr.c3
        have F3 := HN11.out.tr.f3
        have T4 := HN11.out.tb.c4
        have R4 := HN11.out.tr.c4
        have F4 := HN11.out.tr.f4
        have T5 := HN11.out.tb.c5
        have R5 := HN11.out.tr.c5
        have F5 := HN11.out.tr.f5
        have HF := hide HN11.out.fin
        have HC := hide HN11.out.res
        have hne : r0 ≠ r1 := HN11.out.ge.2.2
        clear HN11
        go_wp2_with (with_reducible refine bodyPost_ret (v := ?v) ?hr ?hd ?hp)
        case v => exact tkV tt
        case hr =>
          change (results _ _).run _ (six w11 r0 tt) = .ok _ (six w11 r0 tt)
          obtain ⟨y0, y1, y2, y3, y4, y5⟩ := HC.out
          clear HF HC
          generalize six w11 r0 tt = WF at *
          simp [results, Try.results70, go_sem, y0, y1, y2, y3, y4, y5, tkV]
        case hd => rfl
        case hp => rw [← HRT.out]; exact HF.out
    · have e77 : (x2 == 77) = false := by simpa using h77
      have HMS : Hid (msV BD = -1) := by show _ = _; rw [HMV.out, if_neg (fun z => h77 z.1)]
      clear h77 HMV HSX
      have T0 := HN9.out.tb.c0
      have TF0 := HN9.out.tb.f0
      have T3 := HN9.out.tb.c3
      have TF3 := HN9.out.tb.f3
      have T2 : w9.cell? ⟨r1, 2, none⟩ = some (.int .i64 (-1)) := HN9.out.tb.c2
      have dng : decide ((-1 : Int) < 0) = true := rfl
      go_upto_region 30 with fail
      have HN10 := hide (HN9.out.k (1))
      clear HN9
      have HN11 := hide (HN10.out.e (4))
      clear HN10
      clear T2 dng T0 TF0 T3 TF3
      generalize (w9.setCell ⟨r1, 0, none⟩ (.int .i64 (1))).setCell ⟨r1, 3, none⟩ (.int .i64 (4)) = w11 at *
      obtain ⟨tt, htt⟩ : ∃ t : TK, ({ ({ ({ ({ (tk0 q1 : TK) with k := 4 } : TK) with v := -1 } : TK) with k := 1 } : TK) with e := 4 }) = t := ⟨_, rfl⟩
      have HRT : Hid ((tt, ⟨q1.o + 2 + vn, q1.l, q1.b⟩) = RS) := by show _ = _; rw [← htt]; exact (by rw [← HRS.out, HMS.out]; unfold negT; rw [if_pos (show (-1 : Int) < 0 by decide)])
      rw [htt] at HN11
      clear htt HRS
      have T0 := HN11.out.tb.c0
      have R0 := HN11.out.tr.c0
      have F0 := HN11.out.tr.f0
      have T1 := HN11.out.tb.c1
      have R1 := HN11.out.tr.c1
      have F1 := HN11.out.tr.f1
      have T2 := HN11.out.tb.c2
      have R2 := HN11.out.tr.c2
      have F2 := HN11.out.tr.f2
      have T3 := HN11.out.tb.c3
      have R3 := HN11.out.tr.c3
      have F3 := HN11.out.tr.f3
      have T4 := HN11.out.tb.c4
      have R4 := HN11.out.tr.c4
      have F4 := HN11.out.tr.f4
      have T5 := HN11.out.tb.c5
      have R5 := HN11.out.tr.c5
      have F5 := HN11.out.tr.f5
      have HF := hide HN11.out.fin
      have HC := hide HN11.out.res
      have hne : r0 ≠ r1 := HN11.out.ge.2.2
      clear HN11
      go_wp2_with (with_reducible refine bodyPost_ret (v := ?v) ?hr ?hd ?hp)
      case v => exact tkV tt
      case hr =>
        change (results _ _).run _ (six w11 r0 tt) = .ok _ (six w11 r0 tt)
        obtain ⟨y0, y1, y2, y3, y4, y5⟩ := HC.out
        clear HF HC
        generalize six w11 r0 tt = WF at *
        simp [results, Try.results70, go_sem, y0, y1, y2, y3, y4, y5, tkV]
      case hd => rfl
      case hp => rw [← HRT.out]; exact HF.out
  · have dv2 : decide ((2 : Int) ≤ (vn : Int)) = false := by simp; omega
    have HMS : Hid (msV BD = -1) := by show _ = _; unfold msV; rw [HLN.out, if_neg (fun z => h2 z.1)]
    clear HSX
    have T0 := HN9.out.tb.c0
    have TF0 := HN9.out.tb.f0
    have T3 := HN9.out.tb.c3
    have TF3 := HN9.out.tb.f3
    have T2 : w9.cell? ⟨r1, 2, none⟩ = some (.int .i64 (-1)) := HN9.out.tb.c2
    have dng : decide ((-1 : Int) < 0) = true := rfl
    go_upto_region 30 with fail
    have HN10 := hide (HN9.out.k (1))
    clear HN9
    have HN11 := hide (HN10.out.e (4))
    clear HN10
    clear T2 dng T0 TF0 T3 TF3
    generalize (w9.setCell ⟨r1, 0, none⟩ (.int .i64 (1))).setCell ⟨r1, 3, none⟩ (.int .i64 (4)) = w11 at *
    obtain ⟨tt, htt⟩ : ∃ t : TK, ({ ({ ({ ({ (tk0 q1 : TK) with k := 4 } : TK) with v := -1 } : TK) with k := 1 } : TK) with e := 4 }) = t := ⟨_, rfl⟩
    have HRT : Hid ((tt, ⟨q1.o + 2 + vn, q1.l, q1.b⟩) = RS) := by show _ = _; rw [← htt]; exact (by rw [← HRS.out, HMS.out]; unfold negT; rw [if_pos (show (-1 : Int) < 0 by decide)])
    rw [htt] at HN11
    clear htt HRS
    have T0 := HN11.out.tb.c0
    have R0 := HN11.out.tr.c0
    have F0 := HN11.out.tr.f0
    have T1 := HN11.out.tb.c1
    have R1 := HN11.out.tr.c1
    have F1 := HN11.out.tr.f1
    have T2 := HN11.out.tb.c2
    have R2 := HN11.out.tr.c2
    have F2 := HN11.out.tr.f2
    have T3 := HN11.out.tb.c3
    have R3 := HN11.out.tr.c3
    have F3 := HN11.out.tr.f3
    have T4 := HN11.out.tb.c4
    have R4 := HN11.out.tr.c4
    have F4 := HN11.out.tr.f4
    have T5 := HN11.out.tb.c5
    have R5 := HN11.out.tr.c5
    have F5 := HN11.out.tr.f5
    have HF := hide HN11.out.fin
    have HC := hide HN11.out.res
    have hne : r0 ≠ r1 := HN11.out.ge.2.2
    clear HN11
    go_wp2_with (with_reducible refine bodyPost_ret (v := ?v) ?hr ?hd ?hp)
    case v => exact tkV tt
    case hr =>
      change (results _ _).run _ (six w11 r0 tt) = .ok _ (six w11 r0 tt)
      obtain ⟨y0, y1, y2, y3, y4, y5⟩ := HC.out
      clear HF HC
      generalize six w11 r0 tt = WF at *
      simp [results, Try.results70, go_sem, y0, y1, y2, y3, y4, y5, tkV]
    case hd => rfl
    case hp => rw [← HRT.out]; exact HF.out
end Go.Proofs.Qxb6500774a
