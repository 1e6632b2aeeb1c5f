import Derived.Test.Qxb6500774aKk0
namespace Go.Proofs.Qxb6500774a
open Go.RowKit
set_option linter.unusedVariables false
set_option linter.unusedSimpArgs false

section
variable {B p : Nat} {a : Option Addr} {cp : Nat} {s : List Int}
set_option linter.unusedSimpArgs false in
set_option linter.unusedVariables false in
set_option maxRecDepth 100000 in
set_option maxHeartbeats 32000000 in
theorem op_par (N : Nat) (st : PSt) (RR : E × PSt) (w : World) (hpj : pj s N .oper st = some RR) (hin : InS B p a cp s w st) (d : Int) (hd0 : 0 ≤ d ∧ d ≤ 64) (hda : DA d st) (hE : EX1 B p a cp s N) (st6 : PSt) (h2 : (tokS s st).k = 5) (hNOT : atS s ⟨#[78, 79, 84]⟩ st = false) (hMIN : atS s ⟨#[45]⟩ st = false) (hPAR : atS s ⟨#[40]⟩ st = true) (hTRU : atS s ⟨#[84, 82, 85, 69]⟩ st = false) (hFAL : atS s ⟨#[70, 65, 76, 83, 69]⟩ st = false) (hos : openS s st = (true, st6)) :
    Calls Try.prog 77 #[.pointer (some ⟨p, 0, none⟩)] w (XPost B p a cp s w RR) := by
  have HD0 := hide hd0
  have HDA := hide hda
  clear hd0 hda
  have HOS : Hid (openS s st = (true, st6)) := hos
  have HDL : Hid (d < 64) := openS_lt hPAR (by rw [HOS.out]) HDA.out
  have HDA6 : Hid (DA (d + 1) st6) := by
    have h := (openS_da HDA.out).1 (by rw [HOS.out])
    rw [HOS.out] at h
    exact h
  obtain ⟨m, e1, st7, hm, hp7, hrr⟩ : ∃ m e1 st7, m < N ∧ pj s m (.expr 1) st6 = some (e1, st7) ∧ (e1, expectS s bEND (decS st7)) = RR := by
    cases N with
    | zero => unfold pj at hpj; cases hpj
    | succ m =>
      unfold pj at hpj
      rw [if_neg (by rw [h2]; decide), if_neg (by unfold bNOT bMIN; rw [hNOT, hMIN]; decide), if_pos (by unfold bPAR; rw [hPAR]), if_pos (by rw [HOS.out]), HOS.out] at hpj
      dsimp only at hpj
      split at hpj
      · cases hpj
      · next e1 st7 h7 => injection hpj with hpj; exact ⟨m, e1, st7, Nat.lt_succ_self m, h7, hpj⟩
  have HRR := hide hrr
  have HP7 := hide hp7
  have HDA7 : Hid (DA (d + 1) st7) := pj_da s _ _ _ _ _ hp7 HDA6.out
  have HOC : Hid (∀ wz, InS B p a cp s wz st6 → Calls Try.prog 44 #[.pointer (some ⟨p, 0, none⟩), .int .i64 1] wz (XPost B p a cp s wz (e1, st7))) := fun wz hz => hE m hm st6 (e1, st7) wz HP7.out hz (HDA6.out.ok (by have := HD0.out; have := HDL.out; omega))
  clear hos hE hm hp7 hrr
  have HPJ := hide hpj
  clear hpj
  obtain ⟨q, t, d1, fe, fl, fc, hpk, htk, htt⟩ := hin.all
  have HTK := hide htk
  have hb := hin.hB
  have HIN := hide hin
  have hpk1 := hpk.ex (S := fun _ => False) ((Ex.refl _ w).alloc (xO x00)) (fun _ e => e.elim)
  have HPK2 : Hid (PK B p a cp s ((w.alloc (xO x00)).alloc (xO ⟨0, nb, t.v, nb, none, 0, 0, t.l, t.c⟩)).drew q t d1 fe fl fc) := hpk.ex (S := fun _ => False) ((((Ex.refl _ w).alloc _).alloc _).drew) (fun _ e => e.elim)
  have c6 := hpk1.c6
  have c8 := hpk1.c8
  have c9 := hpk1.c9
  have hpl : p < w.heap.size := by omega
  have hpl1 : p < (w.alloc (xO x00)).heap.size := by simp; omega
  clear hin htk hpk hpk1
  unfold xO x00 nb at c6 c8 c9 hpl1
  go_enter Try.func77, Try.ntmps77
  go_upto_region 1 with fail
  have HX : Hid (PX B p a cp s w ((w.alloc (xO x00)).alloc (xO ⟨0, nb, t.v, nb, none, 0, 0, t.l, t.c⟩)).drew w.heap.size (w.heap.size + 1) st ⟨0, nb, t.v, nb, none, 0, 0, t.l, t.c⟩) := by
    have e0 : Ex (fun _ => False) w ((w.alloc (xO x00)).alloc (xO ⟨0, nb, t.v, nb, none, 0, 0, t.l, t.c⟩)).drew := (((Ex.refl _ w).alloc _).alloc _).drew
    have hr1 := (XK.new (w.alloc (xO x00)) ⟨0, nb, t.v, nb, none, 0, 0, t.l, t.c⟩).keep (S := fun _ => False) ((Ex.refl _ _).drew) (fun e => e)
    rw [show (w.alloc (xO x00)).heap.size = w.heap.size + 1 by simp] at hr1
    exact ⟨HIN.out.ex e0 (fun _ z => z.elim), e0.mono (fun _ z => z.elim), (XK.new w x00).keep (S := fun _ => False) (((Ex.refl _ _).alloc (xO ⟨0, nb, t.v, nb, none, 0, 0, t.l, t.c⟩)).drew) (fun e => e), hr1, ⟨Nat.le_refl _, Nat.le_succ _, by omega⟩, hb⟩
  unfold xO x00 nb at HX HPK2
  dsimp only at HX HPK2
  go_region
  generalize World.drew _ = wd at *
  obtain ⟨r0, hr0e⟩ : ∃ r, w.heap.size = r := ⟨_, rfl⟩
  obtain ⟨r1, hr1e⟩ : ∃ r, w.heap.size + 1 = r := ⟨_, rfl⟩
  rw [hr1e, hr0e] at HX
  rw [hr1e, hr0e]
  clear c6 c8 c9 hpl1 hr0e hr1e HIN
  have hpw : p < w.heap.size := hpl
  have HHB := hide hb
  clear hb hpl
  clear HPJ
  have c4 := HPK2.out.c4
  have k2 : (t.k == 2) = false := by rw [← htt, h2]; rfl
  clear htt h2
  go_upto_region 13 with (go_at_call 72; refine (atK_any _ HX.out.ins _).mono ?_; rintro e wq ⟨rfl, hwq⟩; subst wq; simp only [hNOT, hMIN, hPAR, hTRU, hFAL])
  clear c4 HPK2
  have HOP := hide (openK_st HX.out.ins HDA.out HD0.out hPAR)
  rw [HOS.out] at HOP
  go_wp2_with fail
  refine HOP.out.mono ?_
  rintro e w3 ⟨rfl, hex, hi⟩
  have HX3 := hide (HX.out.call hex hi)
  clear hex hi HX HOP
  simp only []
  go_upto_region 14 with fail
  go_wp2_with fail
  refine (HOC.out w3 HX3.out.ins).mono ?_
  rintro e w4 ⟨f2, rfl, hex, hi, hti⟩
  have HX4 := hide (HX3.out.call hex hi)
  have HT4 : Hid (isAt st7 → ET w4 (DX w r0 r1) e1 f2) := fun z => (hti z).ofCall HX3.out.ex.size HX3.out.lt
  clear hex hi hti HX3 HOC
  have HX6 := hide (HX4.out.put f2)
  have HT6 : Hid (isAt st7 → ET (set7 w4 r1 f2) (DX w r0 r1) e1 f2) := fun z => (HT4.out z).ds (ex_set7 w4 r1 f2)
  have Y0 := HX4.out.te.c0
  have Y1 := HX4.out.te.c1
  have Y2 := HX4.out.te.c2
  have Y3 := HX4.out.te.c3
  have Y4 := HX4.out.te.c4
  have Y5 := HX4.out.te.c5
  have Y6 := HX4.out.te.c6
  have YF0 := HX4.out.te.fz 0
  have YF1 := HX4.out.te.fz 1
  have YF2 := HX4.out.te.fz 2
  have YF3 := HX4.out.te.fz 3
  have YF4 := HX4.out.te.fz 4
  have YF5 := HX4.out.te.fz 5
  have YF6 := HX4.out.te.fz 6
  unfold nb at Y1 Y3
  dsimp only at Y0 Y1 Y2 Y3 Y4 Y5 Y6
  clear HX4 HT4
  obtain ⟨w6, hw6⟩ : ∃ x, set7 w4 r1 f2 = x := ⟨_, rfl⟩
  rw [hw6] at HX6 HT6
  have HW6 := hide hw6
  unfold set7 at HW6
  clear hw6
  unfold xV
  go_upto_region 15 with fail
  rw [HW6.out]
  clear HW6 Y0 YF0 Y1 YF1 Y2 YF2 Y3 YF3 Y4 YF4 Y5 YF5 Y6 YF6
  obtain ⟨dd, hc10, hf10, hi8⟩ := HX6.out.ins.dec HDA7.out HD0.out
  rw [show IntKind.i64.wrap (dd - 1) = wrap64 (dd - 1) by unfold wrap64; exact IntKind.wrap_i64 _] at hi8
  have HX8 := hide (HX6.out.call ((Ex.refl (fun k => k = p) w6).set (p := p) rfl (.int .i64 (wrap64 (dd - 1)))) hi8)
  have HT8 : Hid (isAt st7 → ET (w6.setCell ⟨p, 10, none⟩ (.int .i64 (wrap64 (dd - 1)))) (DX w r0 r1) e1 f2) := fun z => (HT6.out z).dx ((Ex.refl (fun k => k = p) w6).set (p := p) rfl _) hpw
  clear hi8 HX6 HT6
  go_upto_region 16 with fail
  generalize w6.setCell ⟨p, 10, none⟩ (.int .i64 (wrap64 (dd - 1))) = w8 at *
  clear hc10 hf10
  have HXP := hide (expectK_any w8 HX8.out.ins bEND)
  have HAT9 : Hid (isAt (expectS s bEND (decS st7)) → isAt st7) := fun z => isAt.dec (isAt.ex z) HDA7.out ⟨HD0.out.1, HDL.out⟩
  generalize expectS s bEND (decS st7) = st9 at *
  unfold bEND at HXP
  go_wp2_with fail
  refine (HXP.out).mono ?_
  rintro e w9 ⟨rfl, hex, hi⟩
  have HX9 := hide (HX8.out.call hex hi)
  have HT9 : Hid (isAt st9 → ET w9 (DX w r0 r1) e1 f2) := fun z => (HT8.out (HAT9.out z)).dx hex hpw
  clear hex hi HX8 HT8 HXP
  simp only []
  have R0 := HX9.out.tr.c0
  have R1 := HX9.out.tr.c1
  have R2 := HX9.out.tr.c2
  have R3 := HX9.out.tr.c3
  have R4 := HX9.out.tr.c4
  have R5 := HX9.out.tr.c5
  have R6 := HX9.out.tr.c6
  have RF0 := HX9.out.tr.fz 0
  have RF1 := HX9.out.tr.fz 1
  have RF2 := HX9.out.tr.fz 2
  have RF3 := HX9.out.tr.fz 3
  have RF4 := HX9.out.tr.fz 4
  have RF5 := HX9.out.tr.fz 5
  have RF6 := HX9.out.tr.fz 6
  have S0 := HX9.out.te.c0
  have S1 := HX9.out.te.c1
  have S2 := HX9.out.te.c2
  have S3 := HX9.out.te.c3
  have S4 := HX9.out.te.c4
  have S5 := HX9.out.te.c5
  have S6 := HX9.out.te.c6
  unfold x00 nb at R0 R1 R2 R3 R4 R5 R6
  dsimp only at R0 R1 R2 R3 R4 R5 R6
  have HF : Hid (XPost B p a cp s w RR (.returned (xV f2)) (set7 w9 r0 f2)) := by
    rw [← HRR.out]
    exact HX9.out.fin HT9.out
  unfold set7 at HF
  clear HX9 HT9
  go_wp2
  exact bodyPost_ret (v := xV f2) (by simp [results, Try.results77, go_sem, xV, R0, R1, R2, R3, R4, R5, R6]) rfl HF.out
set_option linter.unusedSimpArgs false in
set_option linter.unusedVariables false in
set_option maxRecDepth 100000 in
set_option maxHeartbeats 32000000 in
theorem op_pard (N : Nat) (st : PSt) (RR : E × PSt) (w : World) (hpj : pj s N .oper st = some RR) (hin : InS B p a cp s w st) (d : Int) (hd0 : 0 ≤ d ∧ d ≤ 64) (hda : DA d st) (st6 : PSt) (h2 : (tokS s st).k = 5) (hNOT : atS s ⟨#[78, 79, 84]⟩ st = false) (hMIN : atS s ⟨#[45]⟩ st = false) (hPAR : atS s ⟨#[40]⟩ st = true) (hTRU : atS s ⟨#[84, 82, 85, 69]⟩ st = false) (hFAL : atS s ⟨#[70, 65, 76, 83, 69]⟩ st = false) (hos : openS s st = (false, st6)) :
    Calls Try.prog 77 #[.pointer (some ⟨p, 0, none⟩)] w (XPost B p a cp s w RR) := by
  have HD0 := hide hd0
  have HDA := hide hda
  clear hd0 hda
  have HOS : Hid (openS s st = (false, st6)) := hos
  have HB6 : Hid (isB st6) := by
    have h := (openS_da HDA.out).2 (by rw [HOS.out]; exact Bool.false_ne_true)
    rw [HOS.out] at h
    exact h
  have HRR : Hid ((junk, st6) = RR) := by
    cases N with
    | zero => unfold pj at hpj; cases hpj
    | succ m =>
      unfold pj at hpj
      rw [if_neg (by rw [h2]; decide), if_neg (by unfold bNOT bMIN; rw [hNOT, hMIN]; decide), if_pos (by unfold bPAR; rw [hPAR]), if_neg (by rw [HOS.out]; exact Bool.false_ne_true), HOS.out] at hpj
      injection hpj
  clear hos
  have HPJ := hide hpj
  clear hpj
  obtain ⟨q, t, d1, fe, fl, fc, hpk, htk, htt⟩ := hin.all
  have HTK := hide htk
  have hb := hin.hB
  have HIN := hide hin
  have hpk1 := hpk.ex (S := fun _ => False) ((Ex.refl _ w).alloc (xO x00)) (fun _ e => e.elim)
  have HPK2 : Hid (PK B p a cp s ((w.alloc (xO x00)).alloc (xO ⟨0, nb, t.v, nb, none, 0, 0, t.l, t.c⟩)).drew q t d1 fe fl fc) := hpk.ex (S := fun _ => False) ((((Ex.refl _ w).alloc _).alloc _).drew) (fun _ e => e.elim)
  have c6 := hpk1.c6
  have c8 := hpk1.c8
  have c9 := hpk1.c9
  have hpl : p < w.heap.size := by omega
  have hpl1 : p < (w.alloc (xO x00)).heap.size := by simp; omega
  clear hin htk hpk hpk1
  unfold xO x00 nb at c6 c8 c9 hpl1
  go_enter Try.func77, Try.ntmps77
  go_upto_region 1 with fail
  have HX : Hid (PX B p a cp s w ((w.alloc (xO x00)).alloc (xO ⟨0, nb, t.v, nb, none, 0, 0, t.l, t.c⟩)).drew w.heap.size (w.heap.size + 1) st ⟨0, nb, t.v, nb, none, 0, 0, t.l, t.c⟩) := by
    have e0 : Ex (fun _ => False) w ((w.alloc (xO x00)).alloc (xO ⟨0, nb, t.v, nb, none, 0, 0, t.l, t.c⟩)).drew := (((Ex.refl _ w).alloc _).alloc _).drew
    have hr1 := (XK.new (w.alloc (xO x00)) ⟨0, nb, t.v, nb, none, 0, 0, t.l, t.c⟩).keep (S := fun _ => False) ((Ex.refl _ _).drew) (fun e => e)
    rw [show (w.alloc (xO x00)).heap.size = w.heap.size + 1 by simp] at hr1
    exact ⟨HIN.out.ex e0 (fun _ z => z.elim), e0.mono (fun _ z => z.elim), (XK.new w x00).keep (S := fun _ => False) (((Ex.refl _ _).alloc (xO ⟨0, nb, t.v, nb, none, 0, 0, t.l, t.c⟩)).drew) (fun e => e), hr1, ⟨Nat.le_refl _, Nat.le_succ _, by omega⟩, hb⟩
  unfold xO x00 nb at HX HPK2
  dsimp only at HX HPK2
  go_region
  generalize World.drew _ = wd at *
  obtain ⟨r0, hr0e⟩ : ∃ r, w.heap.size = r := ⟨_, rfl⟩
  obtain ⟨r1, hr1e⟩ : ∃ r, w.heap.size + 1 = r := ⟨_, rfl⟩
  rw [hr1e, hr0e] at HX
  rw [hr1e, hr0e]
  clear c6 c8 c9 hpl1 hr0e hr1e HIN
  have hpw : p < w.heap.size := hpl
  have HHB := hide hb
  clear hb hpl
  clear HPJ
  have c4 := HPK2.out.c4
  have k2 : (t.k == 2) = false := by rw [← htt, h2]; rfl
  clear htt h2
  go_upto_region 13 with (go_at_call 72; refine (atK_any _ HX.out.ins _).mono ?_; rintro e wq ⟨rfl, hwq⟩; subst wq; simp only [hNOT, hMIN, hPAR, hTRU, hFAL])
  clear c4 HPK2
  have HOP := hide (openK_st HX.out.ins HDA.out HD0.out hPAR)
  rw [HOS.out] at HOP
  go_wp2_with fail
  refine HOP.out.mono ?_
  rintro e w3 ⟨rfl, hex, hi⟩
  have HX3 := hide (HX.out.call hex hi)
  clear hex hi HX HOP
  simp only []
  have HT3 : Hid (isAt st6 → ET w3 (DX w r0 r1) junk ⟨0, nb, t.v, nb, none, 0, 0, t.l, t.c⟩) := fun z => by
    have := HB6.out
    cases st6 with
    | «at» k d => exact this.elim
    | bad er l c => exact z.elim
  unfold nb at HT3 HX3
  have R0 := HX3.out.tr.c0
  have R1 := HX3.out.tr.c1
  have R2 := HX3.out.tr.c2
  have R3 := HX3.out.tr.c3
  have R4 := HX3.out.tr.c4
  have R5 := HX3.out.tr.c5
  have R6 := HX3.out.tr.c6
  have RF0 := HX3.out.tr.fz 0
  have RF1 := HX3.out.tr.fz 1
  have RF2 := HX3.out.tr.fz 2
  have RF3 := HX3.out.tr.fz 3
  have RF4 := HX3.out.tr.fz 4
  have RF5 := HX3.out.tr.fz 5
  have RF6 := HX3.out.tr.fz 6
  have S0 := HX3.out.te.c0
  have S1 := HX3.out.te.c1
  have S2 := HX3.out.te.c2
  have S3 := HX3.out.te.c3
  have S4 := HX3.out.te.c4
  have S5 := HX3.out.te.c5
  have S6 := HX3.out.te.c6
  unfold x00 nb at R0 R1 R2 R3 R4 R5 R6
  dsimp only at R0 R1 R2 R3 R4 R5 R6 S0 S1 S2 S3 S4 S5 S6
  have HF : Hid (XPost B p a cp s w RR (.returned (xV ⟨0, ⟨#[]⟩, t.v, ⟨#[]⟩, none, 0, 0, t.l, t.c⟩)) (set7 w3 r0 ⟨0, ⟨#[]⟩, t.v, ⟨#[]⟩, none, 0, 0, t.l, t.c⟩)) := by
    rw [← HRR.out]
    exact HX3.out.fin HT3.out
  unfold set7 at HF
  clear HX3 HT3
  go_wp2
  exact bodyPost_ret (v := xV ⟨0, ⟨#[]⟩, t.v, ⟨#[]⟩, none, 0, 0, t.l, t.c⟩) (by simp [results, Try.results77, go_sem, xV, R0, R1, R2, R3, R4, R5, R6]) rfl HF.out
end
end Go.Proofs.Qxb6500774a
