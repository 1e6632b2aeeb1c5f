import Derived.Test.Qxb6500774aKk0
namespace Go.Proofs.Qxb6500774a
open Go.RowKit
set_option linter.unusedVariables false
set_option linter.unusedSimpArgs false

section
variable {B p : Nat} {a : Option Addr} {cp : Nat} {s : List Int}
set_option linter.unusedSimpArgs false in
set_option linter.unusedVariables false in
set_option maxRecDepth 100000 in
set_option maxHeartbeats 32000000 in
theorem op_not (N : Nat) (st : PSt) (RR : E × PSt) (w : World) (hpj : pj s N .oper st = some RR) (hin : InS B p a cp s w st) (d : Int) (hd0 : 0 ≤ d ∧ d ≤ 64) (hda : DA d st) (hO : OP B p a cp s N) (st6 : PSt) (h2 : (tokS s st).k = 5) (hNOT : atS s ⟨#[78, 79, 84]⟩ st = true) (hMIN : atS s ⟨#[45]⟩ st = false) (hPAR : atS s ⟨#[40]⟩ st = false) (hTRU : atS s ⟨#[84, 82, 85, 69]⟩ st = false) (hFAL : atS s ⟨#[70, 65, 76, 83, 69]⟩ st = false) (hos : openS s st = (true, st6)) :
    Calls Try.prog 77 #[.pointer (some ⟨p, 0, none⟩)] w (XPost B p a cp s w RR) := by
  have HD0 := hide hd0
  have HDA := hide hda
  clear hd0 hda
  have HOS : Hid (openS s st = (true, st6)) := hos
  have HDL : Hid (d < 64) := openS_lt hNOT (by rw [HOS.out]) HDA.out
  have HDA6 : Hid (DA (d + 1) st6) := by
    have h := (openS_da HDA.out).1 (by rw [HOS.out])
    rw [HOS.out] at h
    exact h
  obtain ⟨m, e1, st7, hm, hp7, hrr⟩ : ∃ m e1 st7, m < N ∧ pj s m .oper st6 = some (e1, st7) ∧ (.un (tokS s st).x e1 (tokS s st).l (tokS s st).c, decS st7) = RR := by
    cases N with
    | zero => unfold pj at hpj; cases hpj
    | succ m =>
      unfold pj at hpj
      rw [if_neg (by rw [h2]; decide), if_pos (by unfold bNOT bMIN; rw [hNOT, hMIN]; simp), if_pos (by rw [HOS.out]), HOS.out] at hpj
      dsimp only at hpj
      split at hpj
      · cases hpj
      · next e1 st7 h7 => injection hpj with hpj; exact ⟨m, e1, st7, Nat.lt_succ_self m, h7, hpj⟩
  have HRR := hide hrr
  have HP7 := hide hp7
  have HDA7 : Hid (DA (d + 1) st7) := pj_da s _ _ _ _ _ hp7 HDA6.out
  have HAT7 : Hid (isAt st7 → isAt st6) := fun z => isAt.pj HP7.out HDA6.out (by have := HD0.out; have := HDL.out; omega) z
  have HOC : Hid (∀ wz, InS B p a cp s wz st6 → Calls Try.prog 77 #[.pointer (some ⟨p, 0, none⟩)] wz (XPost B p a cp s wz (e1, st7))) := fun wz hz => hO m hm st6 (e1, st7) wz HP7.out hz (HDA6.out.ok (by have := HD0.out; have := HDL.out; omega))
  have HAT : Hid (isAt st) := by
    have h0 := HD0.out
    have h1 := HDA.out
    cases st with
    | «at» k e => have h1 : e = d := h1; show 0 ≤ e ∧ e ≤ 64; omega
    | bad e l c => cases hNOT
  have HV0 : Hid ((tokS s st).v = 0) := at_v0 hNOT (by simp)
  clear hos hO hm hp7 hrr
  have HPJ := hide hpj
  clear hpj
  obtain ⟨q, t, d1, fe, fl, fc, hpk, htk, htt⟩ := hin.all
  have HTK := hide htk
  have hb := hin.hB
  have HIN := hide hin
  have hpk1 := hpk.ex (S := fun _ => False) ((Ex.refl _ w).alloc (xO x00)) (fun _ e => e.elim)
  have HPK2 : Hid (PK B p a cp s ((w.alloc (xO x00)).alloc (xO ⟨0, nb, t.v, nb, none, 0, 0, t.l, t.c⟩)).drew q t d1 fe fl fc) := hpk.ex (S := fun _ => False) ((((Ex.refl _ w).alloc _).alloc _).drew) (fun _ e => e.elim)
  have c6 := hpk1.c6
  have c8 := hpk1.c8
  have c9 := hpk1.c9
  have hpl : p < w.heap.size := by omega
  have hpl1 : p < (w.alloc (xO x00)).heap.size := by simp; omega
  clear hin htk hpk hpk1
  unfold xO x00 nb at c6 c8 c9 hpl1
  go_enter Try.func77, Try.ntmps77
  go_upto_region 1 with fail
  have HX : Hid (PX B p a cp s w ((w.alloc (xO x00)).alloc (xO ⟨0, nb, t.v, nb, none, 0, 0, t.l, t.c⟩)).drew w.heap.size (w.heap.size + 1) st ⟨0, nb, t.v, nb, none, 0, 0, t.l, t.c⟩) := by
    have e0 : Ex (fun _ => False) w ((w.alloc (xO x00)).alloc (xO ⟨0, nb, t.v, nb, none, 0, 0, t.l, t.c⟩)).drew := (((Ex.refl _ w).alloc _).alloc _).drew
    have hr1 := (XK.new (w.alloc (xO x00)) ⟨0, nb, t.v, nb, none, 0, 0, t.l, t.c⟩).keep (S := fun _ => False) ((Ex.refl _ _).drew) (fun e => e)
    rw [show (w.alloc (xO x00)).heap.size = w.heap.size + 1 by simp] at hr1
    exact ⟨HIN.out.ex e0 (fun _ z => z.elim), e0.mono (fun _ z => z.elim), (XK.new w x00).keep (S := fun _ => False) (((Ex.refl _ _).alloc (xO ⟨0, nb, t.v, nb, none, 0, 0, t.l, t.c⟩)).drew) (fun e => e), hr1, ⟨Nat.le_refl _, Nat.le_succ _, by omega⟩, hb⟩
  unfold xO x00 nb at HX HPK2
  dsimp only at HX HPK2
  go_region
  generalize World.drew _ = wd at *
  obtain ⟨r0, hr0e⟩ : ∃ r, w.heap.size = r := ⟨_, rfl⟩
  obtain ⟨r1, hr1e⟩ : ∃ r, w.heap.size + 1 = r := ⟨_, rfl⟩
  rw [hr1e, hr0e] at HX
  rw [hr1e, hr0e]
  clear c6 c8 c9 hpl1 hr0e hr1e HIN
  have hpw : p < w.heap.size := hpl
  have HHB := hide hb
  clear hb hpl
  clear HPJ
  have c4 := HPK2.out.c4
  have c5 := HPK2.out.c5
  have k2 : (t.k == 2) = false := by rw [← htt, h2]; rfl
  clear htt h2
  have q0 := HX.out.te.c0
  have qf := HX.out.te.fz 0
  have q1 := HX.out.te.c1
  have qf1 := HX.out.te.fz 1
  go_upto_region 7 with (go_at_call 72; refine (atK_any _ HX.out.ins _).mono ?_; rintro e wq ⟨rfl, hwq⟩; subst wq; simp only [hNOT, hMIN, hPAR, hTRU, hFAL])
  have HX2 : Hid (PX B p a cp s w (((wd.setCell ⟨r1, 0, none⟩ (.int .i64 6)).setCell ⟨r1, 1, none⟩ (.string t.x)).drew) r0 r1 st ⟨6, t.x, t.v, nb, none, 0, 0, t.l, t.c⟩) := by
    have h1 := HX.out.set1 (HX.out.te.putk 6)
    exact (h1.set1 (h1.te.putx t.x)).low (Ex.refl _ _).drew
  have hr1p : p ≠ r1 := by have := HX.out.ge; have := HHB.out; omega
  go_region
  generalize World.drew _ = w2 at *
  clear c4 c5 q0 qf q1 qf1 HX HPK2
  have HOP := hide (openK_st HX2.out.ins HDA.out HD0.out hNOT)
  rw [HOS.out] at HOP
  go_wp2_with fail
  refine HOP.out.mono ?_
  rintro e w3 ⟨rfl, hex, hi⟩
  have HX3 := hide (HX2.out.call hex hi)
  clear hex hi HX2 HOP
  simp only []
  go_upto_region 9 with fail
  go_wp2_with fail
  refine (HOC.out w3 HX3.out.ins).mono ?_
  rintro e w4 ⟨f2, rfl, hex, hi, hti⟩
  have HX4 := hide (HX3.out.call hex hi)
  have HT4 : Hid (isAt st7 → ET w4 (DX w r0 r1) e1 f2) := fun z => (hti z).ofCall HX3.out.ex.size HX3.out.lt
  clear hex hi hti HX3 HOC
  have HX5 := hide (HX4.out.low ((Ex.refl (fun _ => False) w4).alloc (xO f2)))
  have HT5 : Hid (isAt st7 → ET (w4.alloc (xO f2)) (DX w r0 r1) e1 f2) := fun z => (HT4.out z).dlow ((Ex.refl (fun _ => False) w4).alloc (xO f2))
  have HG5 : Hid (RC (w4.alloc (xO f2)) w4.heap.size 0 f2) := (XK.new w4 f2).rc
  have HGD : Hid (¬ DX w r0 r1 w4.heap.size) := by
    have h1 := HX4.out.lt
    have h2 := HX4.out.ge
    rintro (q | q | q) <;> omega
  have HX6 := hide (HX5.out.set1 (HX5.out.te.putq (some ⟨w4.heap.size, 0, none⟩) 1 1))
  have ex6 : Ex (fun k => k = r1) (w4.alloc (xO f2)) ((w4.alloc (xO f2)).setCell ⟨r1, 4, none⟩ (.slice (some ⟨w4.heap.size, 0, none⟩) 1 1)) := (Ex.refl (fun k => k = r1) _).set (p := r1) rfl _
  have HT6 : Hid (isAt st7 → ET ((w4.alloc (xO f2)).setCell ⟨r1, 4, none⟩ (.slice (some ⟨w4.heap.size, 0, none⟩) 1 1)) (DX w r0 r1) (.un (tokS s st).x e1 (tokS s st).l (tokS s st).c) ⟨6, t.x, t.v, nb, some ⟨w4.heap.size, 0, none⟩, 1, 1, t.l, t.c⟩) := fun z =>
    ⟨w4.heap.size, f2, by rw [HTK.out HAT.out, HV0.out], ⟨by have := World.block_lt_of_cell? _ _ HG5.out.c0; simp at this ⊢, HGD.out⟩, HG5.out.keep ex6 (fun z => HGD.out (.inr (.inr z))), (HT5.out z).ds ex6⟩
  have p4 := HX4.out.te.c4
  have pf4 := HX4.out.te.fz 4
  have hrl : r1 < w4.heap.size := HX4.out.lt.2
  dsimp only at HX6 p4
  clear HX4 HT4 HX5 HT5 HG5 HGD ex6
  rw [set_alloc _ _ _ hrl] at HX6 HT6
  obtain ⟨w6, hw6⟩ : ∃ x, (w4.setCell ⟨r1, 4, none⟩ (.slice (some ⟨w4.heap.size, 0, none⟩) 1 1)).alloc (xO f2) = x := ⟨_, rfl⟩
  rw [hw6] at HX6 HT6
  have HW6 := hide hw6
  unfold xO at HW6
  clear hw6
  unfold xV
  go_upto_region 10 with fail
  rw [HW6.out]
  clear HW6 p4 pf4 hrl
  generalize w4.heap.size = g at *
  obtain ⟨dd, hc10, hf10, hi8⟩ := HX6.out.ins.dec HDA7.out HD0.out
  rw [show IntKind.i64.wrap (dd - 1) = wrap64 (dd - 1) by unfold wrap64; exact IntKind.wrap_i64 _] at hi8
  have HX8 := hide (HX6.out.call ((Ex.refl (fun k => k = p) w6).set (p := p) rfl (.int .i64 (wrap64 (dd - 1)))) hi8)
  have HAT8 : Hid (isAt (decS st7) → isAt st7) := fun z => isAt.dec z HDA7.out ⟨HD0.out.1, HDL.out⟩
  have HT8 : Hid (isAt (decS st7) → ET (w6.setCell ⟨p, 10, none⟩ (.int .i64 (wrap64 (dd - 1)))) (DX w r0 r1) (.un (tokS s st).x e1 (tokS s st).l (tokS s st).c) ⟨6, t.x, t.v, nb, some ⟨g, 0, none⟩, 1, 1, t.l, t.c⟩) := fun z => (HT6.out (HAT8.out z)).dx ((Ex.refl (fun k => k = p) w6).set (p := p) rfl _) hpw
  clear hi8 HX6 HT6
  go_upto_region 11 with fail
  generalize w6.setCell ⟨p, 10, none⟩ (.int .i64 (wrap64 (dd - 1))) = w8 at *
  clear hc10 hf10
  unfold nb at HX8 HT8
  have R0 := HX8.out.tr.c0
  have R1 := HX8.out.tr.c1
  have R2 := HX8.out.tr.c2
  have R3 := HX8.out.tr.c3
  have R4 := HX8.out.tr.c4
  have R5 := HX8.out.tr.c5
  have R6 := HX8.out.tr.c6
  have RF0 := HX8.out.tr.fz 0
  have RF1 := HX8.out.tr.fz 1
  have RF2 := HX8.out.tr.fz 2
  have RF3 := HX8.out.tr.fz 3
  have RF4 := HX8.out.tr.fz 4
  have RF5 := HX8.out.tr.fz 5
  have RF6 := HX8.out.tr.fz 6
  have S0 := HX8.out.te.c0
  have S1 := HX8.out.te.c1
  have S2 := HX8.out.te.c2
  have S3 := HX8.out.te.c3
  have S4 := HX8.out.te.c4
  have S5 := HX8.out.te.c5
  have S6 := HX8.out.te.c6
  unfold x00 nb at R0 R1 R2 R3 R4 R5 R6
  dsimp only at R0 R1 R2 R3 R4 R5 R6 S0 S1 S2 S3 S4 S5 S6
  have HF : Hid (XPost B p a cp s w RR (.returned (xV ⟨6, t.x, t.v, ⟨#[]⟩, some ⟨g, 0, none⟩, 1, 1, t.l, t.c⟩)) (set7 w8 r0 ⟨6, t.x, t.v, ⟨#[]⟩, some ⟨g, 0, none⟩, 1, 1, t.l, t.c⟩)) := by
    rw [← HRR.out]
    exact HX8.out.fin HT8.out
  unfold set7 at HF
  clear HX8 HT8
  go_wp2
  exact bodyPost_ret (v := xV ⟨6, t.x, t.v, ⟨#[]⟩, some ⟨g, 0, none⟩, 1, 1, t.l, t.c⟩) (by simp [results, Try.results77, go_sem, xV, R0, R1, R2, R3, R4, R5, R6]) rfl HF.out
set_option linter.unusedSimpArgs false in
set_option linter.unusedVariables false in
set_option maxRecDepth 100000 in
set_option maxHeartbeats 32000000 in
theorem op_min (N : Nat) (st : PSt) (RR : E × PSt) (w : World) (hpj : pj s N .oper st = some RR) (hin : InS B p a cp s w st) (d : Int) (hd0 : 0 ≤ d ∧ d ≤ 64) (hda : DA d st) (hO : OP B p a cp s N) (st6 : PSt) (h2 : (tokS s st).k = 5) (hNOT : atS s ⟨#[78, 79, 84]⟩ st = false) (hMIN : atS s ⟨#[45]⟩ st = true) (hPAR : atS s ⟨#[40]⟩ st = false) (hTRU : atS s ⟨#[84, 82, 85, 69]⟩ st = false) (hFAL : atS s ⟨#[70, 65, 76, 83, 69]⟩ st = false) (hos : openS s st = (true, st6)) :
    Calls Try.prog 77 #[.pointer (some ⟨p, 0, none⟩)] w (XPost B p a cp s w RR) := by
  have HD0 := hide hd0
  have HDA := hide hda
  clear hd0 hda
  have HOS : Hid (openS s st = (true, st6)) := hos
  have HDL : Hid (d < 64) := openS_lt hMIN (by rw [HOS.out]) HDA.out
  have HDA6 : Hid (DA (d + 1) st6) := by
    have h := (openS_da HDA.out).1 (by rw [HOS.out])
    rw [HOS.out] at h
    exact h
  obtain ⟨m, e1, st7, hm, hp7, hrr⟩ : ∃ m e1 st7, m < N ∧ pj s m .oper st6 = some (e1, st7) ∧ (.un (tokS s st).x e1 (tokS s st).l (tokS s st).c, decS st7) = RR := by
    cases N with
    | zero => unfold pj at hpj; cases hpj
    | succ m =>
      unfold pj at hpj
      rw [if_neg (by rw [h2]; decide), if_pos (by unfold bNOT bMIN; rw [hNOT, hMIN]; simp), if_pos (by rw [HOS.out]), HOS.out] at hpj
      dsimp only at hpj
      split at hpj
      · cases hpj
      · next e1 st7 h7 => injection hpj with hpj; exact ⟨m, e1, st7, Nat.lt_succ_self m, h7, hpj⟩
  have HRR := hide hrr
  have HP7 := hide hp7
  have HDA7 : Hid (DA (d + 1) st7) := pj_da s _ _ _ _ _ hp7 HDA6.out
  have HAT7 : Hid (isAt st7 → isAt st6) := fun z => isAt.pj HP7.out HDA6.out (by have := HD0.out; have := HDL.out; omega) z
  have HOC : Hid (∀ wz, InS B p a cp s wz st6 → Calls Try.prog 77 #[.pointer (some ⟨p, 0, none⟩)] wz (XPost B p a cp s wz (e1, st7))) := fun wz hz => hO m hm st6 (e1, st7) wz HP7.out hz (HDA6.out.ok (by have := HD0.out; have := HDL.out; omega))
  have HAT : Hid (isAt st) := by
    have h0 := HD0.out
    have h1 := HDA.out
    cases st with
    | «at» k e => have h1 : e = d := h1; show 0 ≤ e ∧ e ≤ 64; omega
    | bad e l c => cases hMIN
  have HV0 : Hid ((tokS s st).v = 0) := at_v0 hMIN (by simp)
  clear hos hO hm hp7 hrr
  have HPJ := hide hpj
  clear hpj
  obtain ⟨q, t, d1, fe, fl, fc, hpk, htk, htt⟩ := hin.all
  have HTK := hide htk
  have hb := hin.hB
  have HIN := hide hin
  have hpk1 := hpk.ex (S := fun _ => False) ((Ex.refl _ w).alloc (xO x00)) (fun _ e => e.elim)
  have HPK2 : Hid (PK B p a cp s ((w.alloc (xO x00)).alloc (xO ⟨0, nb, t.v, nb, none, 0, 0, t.l, t.c⟩)).drew q t d1 fe fl fc) := hpk.ex (S := fun _ => False) ((((Ex.refl _ w).alloc _).alloc _).drew) (fun _ e => e.elim)
  have c6 := hpk1.c6
  have c8 := hpk1.c8
  have c9 := hpk1.c9
  have hpl : p < w.heap.size := by omega
  have hpl1 : p < (w.alloc (xO x00)).heap.size := by simp; omega
  clear hin htk hpk hpk1
  unfold xO x00 nb at c6 c8 c9 hpl1
  go_enter Try.func77, Try.ntmps77
  go_upto_region 1 with fail
  have HX : Hid (PX B p a cp s w ((w.alloc (xO x00)).alloc (xO ⟨0, nb, t.v, nb, none, 0, 0, t.l, t.c⟩)).drew w.heap.size (w.heap.size + 1) st ⟨0, nb, t.v, nb, none, 0, 0, t.l, t.c⟩) := by
    have e0 : Ex (fun _ => False) w ((w.alloc (xO x00)).alloc (xO ⟨0, nb, t.v, nb, none, 0, 0, t.l, t.c⟩)).drew := (((Ex.refl _ w).alloc _).alloc _).drew
    have hr1 := (XK.new (w.alloc (xO x00)) ⟨0, nb, t.v, nb, none, 0, 0, t.l, t.c⟩).keep (S := fun _ => False) ((Ex.refl _ _).drew) (fun e => e)
    rw [show (w.alloc (xO x00)).heap.size = w.heap.size + 1 by simp] at hr1
    exact ⟨HIN.out.ex e0 (fun _ z => z.elim), e0.mono (fun _ z => z.elim), (XK.new w x00).keep (S := fun _ => False) (((Ex.refl _ _).alloc (xO ⟨0, nb, t.v, nb, none, 0, 0, t.l, t.c⟩)).drew) (fun e => e), hr1, ⟨Nat.le_refl _, Nat.le_succ _, by omega⟩, hb⟩
  unfold xO x00 nb at HX HPK2
  dsimp only at HX HPK2
  go_region
  generalize World.drew _ = wd at *
  obtain ⟨r0, hr0e⟩ : ∃ r, w.heap.size = r := ⟨_, rfl⟩
  obtain ⟨r1, hr1e⟩ : ∃ r, w.heap.size + 1 = r := ⟨_, rfl⟩
  rw [hr1e, hr0e] at HX
  rw [hr1e, hr0e]
  clear c6 c8 c9 hpl1 hr0e hr1e HIN
  have hpw : p < w.heap.size := hpl
  have HHB := hide hb
  clear hb hpl
  clear HPJ
  have c4 := HPK2.out.c4
  have c5 := HPK2.out.c5
  have k2 : (t.k == 2) = false := by rw [← htt, h2]; rfl
  clear htt h2
  have q0 := HX.out.te.c0
  have qf := HX.out.te.fz 0
  have q1 := HX.out.te.c1
  have qf1 := HX.out.te.fz 1
  go_upto_region 7 with (go_at_call 72; refine (atK_any _ HX.out.ins _).mono ?_; rintro e wq ⟨rfl, hwq⟩; subst wq; simp only [hNOT, hMIN, hPAR, hTRU, hFAL])
  have HX2 : Hid (PX B p a cp s w (((wd.setCell ⟨r1, 0, none⟩ (.int .i64 6)).setCell ⟨r1, 1, none⟩ (.string t.x)).drew) r0 r1 st ⟨6, t.x, t.v, nb, none, 0, 0, t.l, t.c⟩) := by
    have h1 := HX.out.set1 (HX.out.te.putk 6)
    exact (h1.set1 (h1.te.putx t.x)).low (Ex.refl _ _).drew
  have hr1p : p ≠ r1 := by have := HX.out.ge; have := HHB.out; omega
  go_region
  generalize World.drew _ = w2 at *
  clear c4 c5 q0 qf q1 qf1 HX HPK2
  have HOP := hide (openK_st HX2.out.ins HDA.out HD0.out hMIN)
  rw [HOS.out] at HOP
  go_wp2_with fail
  refine HOP.out.mono ?_
  rintro e w3 ⟨rfl, hex, hi⟩
  have HX3 := hide (HX2.out.call hex hi)
  clear hex hi HX2 HOP
  simp only []
  go_upto_region 9 with fail
  go_wp2_with fail
  refine (HOC.out w3 HX3.out.ins).mono ?_
  rintro e w4 ⟨f2, rfl, hex, hi, hti⟩
  have HX4 := hide (HX3.out.call hex hi)
  have HT4 : Hid (isAt st7 → ET w4 (DX w r0 r1) e1 f2) := fun z => (hti z).ofCall HX3.out.ex.size HX3.out.lt
  clear hex hi hti HX3 HOC
  have HX5 := hide (HX4.out.low ((Ex.refl (fun _ => False) w4).alloc (xO f2)))
  have HT5 : Hid (isAt st7 → ET (w4.alloc (xO f2)) (DX w r0 r1) e1 f2) := fun z => (HT4.out z).dlow ((Ex.refl (fun _ => False) w4).alloc (xO f2))
  have HG5 : Hid (RC (w4.alloc (xO f2)) w4.heap.size 0 f2) := (XK.new w4 f2).rc
  have HGD : Hid (¬ DX w r0 r1 w4.heap.size) := by
    have h1 := HX4.out.lt
    have h2 := HX4.out.ge
    rintro (q | q | q) <;> omega
  have HX6 := hide (HX5.out.set1 (HX5.out.te.putq (some ⟨w4.heap.size, 0, none⟩) 1 1))
  have ex6 : Ex (fun k => k = r1) (w4.alloc (xO f2)) ((w4.alloc (xO f2)).setCell ⟨r1, 4, none⟩ (.slice (some ⟨w4.heap.size, 0, none⟩) 1 1)) := (Ex.refl (fun k => k = r1) _).set (p := r1) rfl _
  have HT6 : Hid (isAt st7 → ET ((w4.alloc (xO f2)).setCell ⟨r1, 4, none⟩ (.slice (some ⟨w4.heap.size, 0, none⟩) 1 1)) (DX w r0 r1) (.un (tokS s st).x e1 (tokS s st).l (tokS s st).c) ⟨6, t.x, t.v, nb, some ⟨w4.heap.size, 0, none⟩, 1, 1, t.l, t.c⟩) := fun z =>
    ⟨w4.heap.size, f2, by rw [HTK.out HAT.out, HV0.out], ⟨by have := World.block_lt_of_cell? _ _ HG5.out.c0; simp at this ⊢, HGD.out⟩, HG5.out.keep ex6 (fun z => HGD.out (.inr (.inr z))), (HT5.out z).ds ex6⟩
  have p4 := HX4.out.te.c4
  have pf4 := HX4.out.te.fz 4
  have hrl : r1 < w4.heap.size := HX4.out.lt.2
  dsimp only at HX6 p4
  clear HX4 HT4 HX5 HT5 HG5 HGD ex6
  rw [set_alloc _ _ _ hrl] at HX6 HT6
  obtain ⟨w6, hw6⟩ : ∃ x, (w4.setCell ⟨r1, 4, none⟩ (.slice (some ⟨w4.heap.size, 0, none⟩) 1 1)).alloc (xO f2) = x := ⟨_, rfl⟩
  rw [hw6] at HX6 HT6
  have HW6 := hide hw6
  unfold xO at HW6
  clear hw6
  unfold xV
  go_upto_region 10 with fail
  rw [HW6.out]
  clear HW6 p4 pf4 hrl
  generalize w4.heap.size = g at *
  obtain ⟨dd, hc10, hf10, hi8⟩ := HX6.out.ins.dec HDA7.out HD0.out
  rw [show IntKind.i64.wrap (dd - 1) = wrap64 (dd - 1) by unfold wrap64; exact IntKind.wrap_i64 _] at hi8
  have HX8 := hide (HX6.out.call ((Ex.refl (fun k => k = p) w6).set (p := p) rfl (.int .i64 (wrap64 (dd - 1)))) hi8)
  have HAT8 : Hid (isAt (decS st7) → isAt st7) := fun z => isAt.dec z HDA7.out ⟨HD0.out.1, HDL.out⟩
  have HT8 : Hid (isAt (decS st7) → ET (w6.setCell ⟨p, 10, none⟩ (.int .i64 (wrap64 (dd - 1)))) (DX w r0 r1) (.un (tokS s st).x e1 (tokS s st).l (tokS s st).c) ⟨6, t.x, t.v, nb, some ⟨g, 0, none⟩, 1, 1, t.l, t.c⟩) := fun z => (HT6.out (HAT8.out z)).dx ((Ex.refl (fun k => k = p) w6).set (p := p) rfl _) hpw
  clear hi8 HX6 HT6
  go_upto_region 11 with fail
  generalize w6.setCell ⟨p, 10, none⟩ (.int .i64 (wrap64 (dd - 1))) = w8 at *
  clear hc10 hf10
  unfold nb at HX8 HT8
  have R0 := HX8.out.tr.c0
  have R1 := HX8.out.tr.c1
  have R2 := HX8.out.tr.c2
  have R3 := HX8.out.tr.c3
  have R4 := HX8.out.tr.c4
  have R5 := HX8.out.tr.c5
  have R6 := HX8.out.tr.c6
  have RF0 := HX8.out.tr.fz 0
  have RF1 := HX8.out.tr.fz 1
  have RF2 := HX8.out.tr.fz 2
  have RF3 := HX8.out.tr.fz 3
  have RF4 := HX8.out.tr.fz 4
  have RF5 := HX8.out.tr.fz 5
  have RF6 := HX8.out.tr.fz 6
  have S0 := HX8.out.te.c0
  have S1 := HX8.out.te.c1
  have S2 := HX8.out.te.c2
  have S3 := HX8.out.te.c3
  have S4 := HX8.out.te.c4
  have S5 := HX8.out.te.c5
  have S6 := HX8.out.te.c6
  unfold x00 nb at R0 R1 R2 R3 R4 R5 R6
  dsimp only at R0 R1 R2 R3 R4 R5 R6 S0 S1 S2 S3 S4 S5 S6
  have HF : Hid (XPost B p a cp s w RR (.returned (xV ⟨6, t.x, t.v, ⟨#[]⟩, some ⟨g, 0, none⟩, 1, 1, t.l, t.c⟩)) (set7 w8 r0 ⟨6, t.x, t.v, ⟨#[]⟩, some ⟨g, 0, none⟩, 1, 1, t.l, t.c⟩)) := by
    rw [← HRR.out]
    exact HX8.out.fin HT8.out
  unfold set7 at HF
  clear HX8 HT8
  go_wp2
  exact bodyPost_ret (v := xV ⟨6, t.x, t.v, ⟨#[]⟩, some ⟨g, 0, none⟩, 1, 1, t.l, t.c⟩) (by simp [results, Try.results77, go_sem, xV, R0, R1, R2, R3, R4, R5, R6]) rfl HF.out
end
end Go.Proofs.Qxb6500774a
