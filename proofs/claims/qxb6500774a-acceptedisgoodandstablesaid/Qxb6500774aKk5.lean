import Derived.Test.Qxb6500774aKk0
namespace Go.Proofs.Qxb6500774a
open Go.RowKit
set_option linter.unusedVariables false
set_option linter.unusedSimpArgs false

section
variable {B p : Nat} {a : Option Addr} {cp : Nat} {s : List Int}
set_option linter.unusedSimpArgs false in
set_option linter.unusedVariables false in
set_option maxRecDepth 100000 in
set_option maxHeartbeats 32000000 in
theorem op_notd (N : Nat) (st : PSt) (RR : E × PSt) (w : World) (hpj : pj s N .oper st = some RR) (hin : InS B p a cp s w st) (d : Int) (hd0 : 0 ≤ d ∧ d ≤ 64) (hda : DA d st) (st6 : PSt) (h2 : (tokS s st).k = 5) (hNOT : atS s ⟨#[78, 79, 84]⟩ st = true) (hMIN : atS s ⟨#[45]⟩ st = false) (hPAR : atS s ⟨#[40]⟩ st = false) (hTRU : atS s ⟨#[84, 82, 85, 69]⟩ st = false) (hFAL : atS s ⟨#[70, 65, 76, 83, 69]⟩ st = false) (hos : openS s st = (false, st6)) :
    Calls Try.prog 77 #[.pointer (some ⟨p, 0, none⟩)] w (XPost B p a cp s w RR) := by
  have HD0 := hide hd0
  have HDA := hide hda
  clear hd0 hda
  have HOS : Hid (openS s st = (false, st6)) := hos
  have HB6 : Hid (isB st6) := by
    have h := (openS_da HDA.out).2 (by rw [HOS.out]; exact Bool.false_ne_true)
    rw [HOS.out] at h
    exact h
  have HRR : Hid ((junk, st6) = RR) := by
    cases N with
    | zero => unfold pj at hpj; cases hpj
    | succ m =>
      unfold pj at hpj
      rw [if_neg (by rw [h2]; decide), if_pos (by unfold bNOT bMIN; rw [hNOT, hMIN]; simp), if_neg (by rw [HOS.out]; exact Bool.false_ne_true), HOS.out] at hpj
      injection hpj
  clear hos
  have HPJ := hide hpj
  clear hpj
  obtain ⟨q, t, d1, fe, fl, fc, hpk, htk, htt⟩ := hin.all
  have HTK := hide htk
  have hb := hin.hB
  have HIN := hide hin
  have hpk1 := hpk.ex (S := fun _ => False) ((Ex.refl _ w).alloc (xO x00)) (fun _ e => e.elim)
  have HPK2 : Hid (PK B p a cp s ((w.alloc (xO x00)).alloc (xO ⟨0, nb, t.v, nb, none, 0, 0, t.l, t.c⟩)).drew q t d1 fe fl fc) := hpk.ex (S := fun _ => False) ((((Ex.refl _ w).alloc _).alloc _).drew) (fun _ e => e.elim)
  have c6 := hpk1.c6
  have c8 := hpk1.c8
  have c9 := hpk1.c9
  have hpl : p < w.heap.size := by omega
  have hpl1 : p < (w.alloc (xO x00)).heap.size := by simp; omega
  clear hin htk hpk hpk1
  unfold xO x00 nb at c6 c8 c9 hpl1
  go_enter Try.func77, Try.ntmps77
  go_upto_region 1 with fail
  have HX : Hid (PX B p a cp s w ((w.alloc (xO x00)).alloc (xO ⟨0, nb, t.v, nb, none, 0, 0, t.l, t.c⟩)).drew w.heap.size (w.heap.size + 1) st ⟨0, nb, t.v, nb, none, 0, 0, t.l, t.c⟩) := by
    have e0 : Ex (fun _ => False) w ((w.alloc (xO x00)).alloc (xO ⟨0, nb, t.v, nb, none, 0, 0, t.l, t.c⟩)).drew := (((Ex.refl _ w).alloc _).alloc _).drew
    have hr1 := (XK.new (w.alloc (xO x00)) ⟨0, nb, t.v, nb, none, 0, 0, t.l, t.c⟩).keep (S := fun _ => False) ((Ex.refl _ _).drew) (fun e => e)
    rw [show (w.alloc (xO x00)).heap.size = w.heap.size + 1 by simp] at hr1
    exact ⟨HIN.out.ex e0 (fun _ z => z.elim), e0.mono (fun _ z => z.elim), (XK.new w x00).keep (S := fun _ => False) (((Ex.refl _ _).alloc (xO ⟨0, nb, t.v, nb, none, 0, 0, t.l, t.c⟩)).drew) (fun e => e), hr1, ⟨Nat.le_refl _, Nat.le_succ _, by omega⟩, hb⟩
  unfold xO x00 nb at HX HPK2
  dsimp only at HX HPK2
  go_region
  generalize World.drew _ = wd at *
  obtain ⟨r0, hr0e⟩ : ∃ r, w.heap.size = r := ⟨_, rfl⟩
  obtain ⟨r1, hr1e⟩ : ∃ r, w.heap.size + 1 = r := ⟨_, rfl⟩
  rw [hr1e, hr0e] at HX
  rw [hr1e, hr0e]
  clear c6 c8 c9 hpl1 hr0e hr1e HIN
  have hpw : p < w.heap.size := hpl
  have HHB := hide hb
  clear hb hpl
  clear HPJ
  have c4 := HPK2.out.c4
  have c5 := HPK2.out.c5
  have k2 : (t.k == 2) = false := by rw [← htt, h2]; rfl
  clear htt h2
  have q0 := HX.out.te.c0
  have qf := HX.out.te.fz 0
  have q1 := HX.out.te.c1
  have qf1 := HX.out.te.fz 1
  go_upto_region 7 with (go_at_call 72; refine (atK_any _ HX.out.ins _).mono ?_; rintro e wq ⟨rfl, hwq⟩; subst wq; simp only [hNOT, hMIN, hPAR, hTRU, hFAL])
  have HX2 : Hid (PX B p a cp s w (((wd.setCell ⟨r1, 0, none⟩ (.int .i64 6)).setCell ⟨r1, 1, none⟩ (.string t.x)).drew) r0 r1 st ⟨6, t.x, t.v, nb, none, 0, 0, t.l, t.c⟩) := by
    have h1 := HX.out.set1 (HX.out.te.putk 6)
    exact (h1.set1 (h1.te.putx t.x)).low (Ex.refl _ _).drew
  have hr1p : p ≠ r1 := by have := HX.out.ge; have := HHB.out; omega
  go_region
  generalize World.drew _ = w2 at *
  clear c4 c5 q0 qf q1 qf1 HX HPK2
  have HOP := hide (openK_st HX2.out.ins HDA.out HD0.out hNOT)
  rw [HOS.out] at HOP
  go_wp2_with fail
  refine HOP.out.mono ?_
  rintro e w3 ⟨rfl, hex, hi⟩
  have HX3 := hide (HX2.out.call hex hi)
  clear hex hi HX2 HOP
  simp only []
  have HT3 : Hid (isAt st6 → ET w3 (DX w r0 r1) junk ⟨6, t.x, t.v, nb, none, 0, 0, t.l, t.c⟩) := fun z => by
    have := HB6.out
    cases st6 with
    | «at» k d => exact this.elim
    | bad er l c => exact z.elim
  unfold nb at HT3 HX3
  have R0 := HX3.out.tr.c0
  have R1 := HX3.out.tr.c1
  have R2 := HX3.out.tr.c2
  have R3 := HX3.out.tr.c3
  have R4 := HX3.out.tr.c4
  have R5 := HX3.out.tr.c5
  have R6 := HX3.out.tr.c6
  have RF0 := HX3.out.tr.fz 0
  have RF1 := HX3.out.tr.fz 1
  have RF2 := HX3.out.tr.fz 2
  have RF3 := HX3.out.tr.fz 3
  have RF4 := HX3.out.tr.fz 4
  have RF5 := HX3.out.tr.fz 5
  have RF6 := HX3.out.tr.fz 6
  have S0 := HX3.out.te.c0
  have S1 := HX3.out.te.c1
  have S2 := HX3.out.te.c2
  have S3 := HX3.out.te.c3
  have S4 := HX3.out.te.c4
  have S5 := HX3.out.te.c5
  have S6 := HX3.out.te.c6
  unfold x00 nb at R0 R1 R2 R3 R4 R5 R6
  dsimp only at R0 R1 R2 R3 R4 R5 R6 S0 S1 S2 S3 S4 S5 S6
  have HF : Hid (XPost B p a cp s w RR (.returned (xV ⟨6, t.x, t.v, ⟨#[]⟩, none, 0, 0, t.l, t.c⟩)) (set7 w3 r0 ⟨6, t.x, t.v, ⟨#[]⟩, none, 0, 0, t.l, t.c⟩)) := by
    rw [← HRR.out]
    exact HX3.out.fin HT3.out
  unfold set7 at HF
  clear HX3 HT3
  go_wp2
  exact bodyPost_ret (v := xV ⟨6, t.x, t.v, ⟨#[]⟩, none, 0, 0, t.l, t.c⟩) (by simp [results, Try.results77, go_sem, xV, R0, R1, R2, R3, R4, R5, R6]) rfl HF.out
set_option linter.unusedSimpArgs false in
set_option linter.unusedVariables false in
set_option maxRecDepth 100000 in
set_option maxHeartbeats 32000000 in
theorem op_mind (N : Nat) (st : PSt) (RR : E × PSt) (w : World) (hpj : pj s N .oper st = some RR) (hin : InS B p a cp s w st) (d : Int) (hd0 : 0 ≤ d ∧ d ≤ 64) (hda : DA d st) (st6 : PSt) (h2 : (tokS s st).k = 5) (hNOT : atS s ⟨#[78, 79, 84]⟩ st = false) (hMIN : atS s ⟨#[45]⟩ st = true) (hPAR : atS s ⟨#[40]⟩ st = false) (hTRU : atS s ⟨#[84, 82, 85, 69]⟩ st = false) (hFAL : atS s ⟨#[70, 65, 76, 83, 69]⟩ st = false) (hos : openS s st = (false, st6)) :
    Calls Try.prog 77 #[.pointer (some ⟨p, 0, none⟩)] w (XPost B p a cp s w RR) := by
  have HD0 := hide hd0
  have HDA := hide hda
  clear hd0 hda
  have HOS : Hid (openS s st = (false, st6)) := hos
  have HB6 : Hid (isB st6) := by
    have h := (openS_da HDA.out).2 (by rw [HOS.out]; exact Bool.false_ne_true)
    rw [HOS.out] at h
    exact h
  have HRR : Hid ((junk, st6) = RR) := by
    cases N with
    | zero => unfold pj at hpj; cases hpj
    | succ m =>
      unfold pj at hpj
      rw [if_neg (by rw [h2]; decide), if_pos (by unfold bNOT bMIN; rw [hNOT, hMIN]; simp), if_neg (by rw [HOS.out]; exact Bool.false_ne_true), HOS.out] at hpj
      injection hpj
  clear hos
  have HPJ := hide hpj
  clear hpj
  obtain ⟨q, t, d1, fe, fl, fc, hpk, htk, htt⟩ := hin.all
  have HTK := hide htk
  have hb := hin.hB
  have HIN := hide hin
  have hpk1 := hpk.ex (S := fun _ => False) ((Ex.refl _ w).alloc (xO x00)) (fun _ e => e.elim)
  have HPK2 : Hid (PK B p a cp s ((w.alloc (xO x00)).alloc (xO ⟨0, nb, t.v, nb, none, 0, 0, t.l, t.c⟩)).drew q t d1 fe fl fc) := hpk.ex (S := fun _ => False) ((((Ex.refl _ w).alloc _).alloc _).drew) (fun _ e => e.elim)
  have c6 := hpk1.c6
  have c8 := hpk1.c8
  have c9 := hpk1.c9
  have hpl : p < w.heap.size := by omega
  have hpl1 : p < (w.alloc (xO x00)).heap.size := by simp; omega
  clear hin htk hpk hpk1
  unfold xO x00 nb at c6 c8 c9 hpl1
  go_enter Try.func77, Try.ntmps77
  go_upto_region 1 with fail
  have HX : Hid (PX B p a cp s w ((w.alloc (xO x00)).alloc (xO ⟨0, nb, t.v, nb, none, 0, 0, t.l, t.c⟩)).drew w.heap.size (w.heap.size + 1) st ⟨0, nb, t.v, nb, none, 0, 0, t.l, t.c⟩) := by
    have e0 : Ex (fun _ => False) w ((w.alloc (xO x00)).alloc (xO ⟨0, nb, t.v, nb, none, 0, 0, t.l, t.c⟩)).drew := (((Ex.refl _ w).alloc _).alloc _).drew
    have hr1 := (XK.new (w.alloc (xO x00)) ⟨0, nb, t.v, nb, none, 0, 0, t.l, t.c⟩).keep (S := fun _ => False) ((Ex.refl _ _).drew) (fun e => e)
    rw [show (w.alloc (xO x00)).heap.size = w.heap.size + 1 by simp] at hr1
    exact ⟨HIN.out.ex e0 (fun _ z => z.elim), e0.mono (fun _ z => z.elim), (XK.new w x00).keep (S := fun _ => False) (((Ex.refl _ _).alloc (xO ⟨0, nb, t.v, nb, none, 0, 0, t.l, t.c⟩)).drew) (fun e => e), hr1, ⟨Nat.le_refl _, Nat.le_succ _, by omega⟩, hb⟩
  unfold xO x00 nb at HX HPK2
  dsimp only at HX HPK2
  go_region
  generalize World.drew _ = wd at *
  obtain ⟨r0, hr0e⟩ : ∃ r, w.heap.size = r := ⟨_, rfl⟩
  obtain ⟨r1, hr1e⟩ : ∃ r, w.heap.size + 1 = r := ⟨_, rfl⟩
  rw [hr1e, hr0e] at HX
  rw [hr1e, hr0e]
  clear c6 c8 c9 hpl1 hr0e hr1e HIN
  have hpw : p < w.heap.size := hpl
  have HHB := hide hb
  clear hb hpl
  clear HPJ
  have c4 := HPK2.out.c4
  have c5 := HPK2.out.c5
  have k2 : (t.k == 2) = false := by rw [← htt, h2]; rfl
  clear htt h2
  have q0 := HX.out.te.c0
  have qf := HX.out.te.fz 0
  have q1 := HX.out.te.c1
  have qf1 := HX.out.te.fz 1
  go_upto_region 7 with (go_at_call 72; refine (atK_any _ HX.out.ins _).mono ?_; rintro e wq ⟨rfl, hwq⟩; subst wq; simp only [hNOT, hMIN, hPAR, hTRU, hFAL])
  have HX2 : Hid (PX B p a cp s w (((wd.setCell ⟨r1, 0, none⟩ (.int .i64 6)).setCell ⟨r1, 1, none⟩ (.string t.x)).drew) r0 r1 st ⟨6, t.x, t.v, nb, none, 0, 0, t.l, t.c⟩) := by
    have h1 := HX.out.set1 (HX.out.te.putk 6)
    exact (h1.set1 (h1.te.putx t.x)).low (Ex.refl _ _).drew
  have hr1p : p ≠ r1 := by have := HX.out.ge; have := HHB.out; omega
  go_region
  generalize World.drew _ = w2 at *
  clear c4 c5 q0 qf q1 qf1 HX HPK2
  have HOP := hide (openK_st HX2.out.ins HDA.out HD0.out hMIN)
  rw [HOS.out] at HOP
  go_wp2_with fail
  refine HOP.out.mono ?_
  rintro e w3 ⟨rfl, hex, hi⟩
  have HX3 := hide (HX2.out.call hex hi)
  clear hex hi HX2 HOP
  simp only []
  have HT3 : Hid (isAt st6 → ET w3 (DX w r0 r1) junk ⟨6, t.x, t.v, nb, none, 0, 0, t.l, t.c⟩) := fun z => by
    have := HB6.out
    cases st6 with
    | «at» k d => exact this.elim
    | bad er l c => exact z.elim
  unfold nb at HT3 HX3
  have R0 := HX3.out.tr.c0
  have R1 := HX3.out.tr.c1
  have R2 := HX3.out.tr.c2
  have R3 := HX3.out.tr.c3
  have R4 := HX3.out.tr.c4
  have R5 := HX3.out.tr.c5
  have R6 := HX3.out.tr.c6
  have RF0 := HX3.out.tr.fz 0
  have RF1 := HX3.out.tr.fz 1
  have RF2 := HX3.out.tr.fz 2
  have RF3 := HX3.out.tr.fz 3
  have RF4 := HX3.out.tr.fz 4
  have RF5 := HX3.out.tr.fz 5
  have RF6 := HX3.out.tr.fz 6
  have S0 := HX3.out.te.c0
  have S1 := HX3.out.te.c1
  have S2 := HX3.out.te.c2
  have S3 := HX3.out.te.c3
  have S4 := HX3.out.te.c4
  have S5 := HX3.out.te.c5
  have S6 := HX3.out.te.c6
  unfold x00 nb at R0 R1 R2 R3 R4 R5 R6
  dsimp only at R0 R1 R2 R3 R4 R5 R6 S0 S1 S2 S3 S4 S5 S6
  have HF : Hid (XPost B p a cp s w RR (.returned (xV ⟨6, t.x, t.v, ⟨#[]⟩, none, 0, 0, t.l, t.c⟩)) (set7 w3 r0 ⟨6, t.x, t.v, ⟨#[]⟩, none, 0, 0, t.l, t.c⟩)) := by
    rw [← HRR.out]
    exact HX3.out.fin HT3.out
  unfold set7 at HF
  clear HX3 HT3
  go_wp2
  exact bodyPost_ret (v := xV ⟨6, t.x, t.v, ⟨#[]⟩, none, 0, 0, t.l, t.c⟩) (by simp [results, Try.results77, go_sem, xV, R0, R1, R2, R3, R4, R5, R6]) rfl HF.out
end
end Go.Proofs.Qxb6500774a
