import Derived.Test.Qxb6500774aKk0
namespace Go.Proofs.Qxb6500774a
open Go.RowKit
set_option linter.unusedVariables false
set_option linter.unusedSimpArgs false

section
variable {B p : Nat} {a : Option Addr} {cp : Nat} {s : List Int}
set_option linter.unusedSimpArgs false in
set_option linter.unusedVariables false in
set_option maxRecDepth 100000 in
set_option maxHeartbeats 32000000 in
theorem op_num (N : Nat) (st : PSt) (RR : E × PSt) (w : World) (hpj : pj s N .oper st = some RR) (hin : InS B p a cp s w st) (d : Int) (hd0 : 0 ≤ d ∧ d ≤ 64) (hda : DA d st) (h2 : (tokS s st).k = 3) (hNOT : atS s ⟨#[78, 79, 84]⟩ st = false) (hMIN : atS s ⟨#[45]⟩ st = false) (hPAR : atS s ⟨#[40]⟩ st = false) (hTRU : atS s ⟨#[84, 82, 85, 69]⟩ st = false) (hFAL : atS s ⟨#[70, 65, 76, 83, 69]⟩ st = false) :
    Calls Try.prog 77 #[.pointer (some ⟨p, 0, none⟩)] w (XPost B p a cp s w RR) := by
  have HD0 := hide hd0
  have HDA := hide hda
  clear hd0 hda
  have HRR : Hid ((.num (tokS s st).v (tokS s st).l (tokS s st).c, (takeS s 3 st).2) = RR) := by
    cases N with
    | zero => unfold pj at hpj; cases hpj
    | succ m =>
      unfold pj at hpj
      rw [if_neg (by rw [h2]; decide), if_neg (by unfold bNOT bMIN; rw [hNOT, hMIN]; decide), if_neg (by unfold bPAR; rw [hPAR]; decide), if_pos h2] at hpj
      injection hpj
  have HPJ := hide hpj
  clear hpj
  obtain ⟨q, t, d1, fe, fl, fc, hpk, htk, htt⟩ := hin.all
  have HTK := hide htk
  have hb := hin.hB
  have HIN := hide hin
  have hpk1 := hpk.ex (S := fun _ => False) ((Ex.refl _ w).alloc (xO x00)) (fun _ e => e.elim)
  have HPK2 : Hid (PK B p a cp s ((w.alloc (xO x00)).alloc (xO ⟨0, nb, t.v, nb, none, 0, 0, t.l, t.c⟩)).drew q t d1 fe fl fc) := hpk.ex (S := fun _ => False) ((((Ex.refl _ w).alloc _).alloc _).drew) (fun _ e => e.elim)
  have c6 := hpk1.c6
  have c8 := hpk1.c8
  have c9 := hpk1.c9
  have hpl : p < w.heap.size := by omega
  have hpl1 : p < (w.alloc (xO x00)).heap.size := by simp; omega
  clear hin htk hpk hpk1
  unfold xO x00 nb at c6 c8 c9 hpl1
  go_enter Try.func77, Try.ntmps77
  go_upto_region 1 with fail
  have HX : Hid (PX B p a cp s w ((w.alloc (xO x00)).alloc (xO ⟨0, nb, t.v, nb, none, 0, 0, t.l, t.c⟩)).drew w.heap.size (w.heap.size + 1) st ⟨0, nb, t.v, nb, none, 0, 0, t.l, t.c⟩) := by
    have e0 : Ex (fun _ => False) w ((w.alloc (xO x00)).alloc (xO ⟨0, nb, t.v, nb, none, 0, 0, t.l, t.c⟩)).drew := (((Ex.refl _ w).alloc _).alloc _).drew
    have hr1 := (XK.new (w.alloc (xO x00)) ⟨0, nb, t.v, nb, none, 0, 0, t.l, t.c⟩).keep (S := fun _ => False) ((Ex.refl _ _).drew) (fun e => e)
    rw [show (w.alloc (xO x00)).heap.size = w.heap.size + 1 by simp] at hr1
    exact ⟨HIN.out.ex e0 (fun _ z => z.elim), e0.mono (fun _ z => z.elim), (XK.new w x00).keep (S := fun _ => False) (((Ex.refl _ _).alloc (xO ⟨0, nb, t.v, nb, none, 0, 0, t.l, t.c⟩)).drew) (fun e => e), hr1, ⟨Nat.le_refl _, Nat.le_succ _, by omega⟩, hb⟩
  unfold xO x00 nb at HX HPK2
  dsimp only at HX HPK2
  go_region
  generalize World.drew _ = wd at *
  obtain ⟨r0, hr0e⟩ : ∃ r, w.heap.size = r := ⟨_, rfl⟩
  obtain ⟨r1, hr1e⟩ : ∃ r, w.heap.size + 1 = r := ⟨_, rfl⟩
  rw [hr1e, hr0e] at HX
  rw [hr1e, hr0e]
  clear c6 c8 c9 hpl1 hr0e hr1e HIN
  have hpw : p < w.heap.size := hpl
  have HHB := hide hb
  clear hb hpl
  clear HPJ
  have c4 := HPK2.out.c4
  have k2 : (t.k == 2) = false := by rw [← htt, h2]; rfl
  have k3 : (t.k == 3) = true := by rw [← htt, h2]; rfl
  have k4 : (t.k == 4) = false := by rw [← htt, h2]; rfl
  have HTC := hide (fun wz hz => takeK_any (B := B) (p := p) (a := a) (cp := cp) (s := s) (st := st) wz hz 3 (by decide))
  have HT0 : Hid (isAt (takeS s 3 st).2 → isAt st) := fun z => (isAt.take z).1
  generalize hts : takeS s 3 st = ts at *
  obtain ⟨tt, st2⟩ := ts
  clear hts
  dsimp only at HRR HTC HT0
  have hkk : t.k = 3 := by rw [← htt, h2]
  clear htt h2
  have q0 := HX.out.te.c0
  have qf := HX.out.te.fz 0
  go_upto_region 24 with (go_at_call 72; refine (atK_any _ HX.out.ins _).mono ?_; rintro e wq ⟨rfl, hwq⟩; subst wq; simp only [hNOT, hMIN, hPAR, hTRU, hFAL])
  have HX2 := hide (HX.out.set1 (HX.out.te.putk 0))
  have c4b : (wd.setCell ⟨r1, 0, none⟩ (.int .i64 0)).cell? ⟨p, 4, none⟩ = some (.int .i64 t.k) := (((Ex.refl (fun k => k = r1) wd).set (p := r1) rfl _)).cell (by have := HX.out.ge; have := HHB.out; omega) c4
  dsimp only at HX2
  generalize wd.setCell ⟨r1, 0, none⟩ (.int .i64 0) = w2 at *
  clear c4 q0 qf HX HPK2
  rw [hkk] at c4b
  go_wp2_with fail
  refine (HTC.out w2 HX2.out.ins).mono ?_
  rintro e w3 ⟨rfl, hex, hi⟩
  have HX3 := hide (HX2.out.call hex hi)
  clear hex hi HX2 HTC
  have HT3 : Hid (isAt st2 → ET w3 (DX w r0 r1) (.num (tokS s st).v (tokS s st).l (tokS s st).c) ⟨0, ⟨#[]⟩, t.v, ⟨#[]⟩, none, 0, 0, t.l, t.c⟩) := fun z => by
    show _ = _
    rw [HTK.out (HT0.out z)]
    rfl
  have R0 := HX3.out.tr.c0
  have R1 := HX3.out.tr.c1
  have R2 := HX3.out.tr.c2
  have R3 := HX3.out.tr.c3
  have R4 := HX3.out.tr.c4
  have R5 := HX3.out.tr.c5
  have R6 := HX3.out.tr.c6
  have RF0 := HX3.out.tr.fz 0
  have RF1 := HX3.out.tr.fz 1
  have RF2 := HX3.out.tr.fz 2
  have RF3 := HX3.out.tr.fz 3
  have RF4 := HX3.out.tr.fz 4
  have RF5 := HX3.out.tr.fz 5
  have RF6 := HX3.out.tr.fz 6
  have S0 := HX3.out.te.c0
  have S1 := HX3.out.te.c1
  have S2 := HX3.out.te.c2
  have S3 := HX3.out.te.c3
  have S4 := HX3.out.te.c4
  have S5 := HX3.out.te.c5
  have S6 := HX3.out.te.c6
  unfold x00 nb at R0 R1 R2 R3 R4 R5 R6
  dsimp only at R0 R1 R2 R3 R4 R5 R6 S0 S1 S2 S3 S4 S5 S6
  have HF : Hid (XPost B p a cp s w RR (.returned (xV ⟨0, ⟨#[]⟩, t.v, ⟨#[]⟩, none, 0, 0, t.l, t.c⟩)) (set7 w3 r0 ⟨0, ⟨#[]⟩, t.v, ⟨#[]⟩, none, 0, 0, t.l, t.c⟩)) := by
    rw [← HRR.out]
    exact HX3.out.fin HT3.out
  unfold set7 at HF
  clear HX3 HT3
  simp only []
  unfold tkV
  go_wp2
  exact bodyPost_ret (v := xV ⟨0, ⟨#[]⟩, t.v, ⟨#[]⟩, none, 0, 0, t.l, t.c⟩) (by simp [results, Try.results77, go_sem, xV, R0, R1, R2, R3, R4, R5, R6]) rfl HF.out
set_option linter.unusedSimpArgs false in
set_option linter.unusedVariables false in
set_option maxRecDepth 100000 in
set_option maxHeartbeats 32000000 in
theorem op_tim (N : Nat) (st : PSt) (RR : E × PSt) (w : World) (hpj : pj s N .oper st = some RR) (hin : InS B p a cp s w st) (d : Int) (hd0 : 0 ≤ d ∧ d ≤ 64) (hda : DA d st) (h2 : (tokS s st).k = 4) (hNOT : atS s ⟨#[78, 79, 84]⟩ st = false) (hMIN : atS s ⟨#[45]⟩ st = false) (hPAR : atS s ⟨#[40]⟩ st = false) (hTRU : atS s ⟨#[84, 82, 85, 69]⟩ st = false) (hFAL : atS s ⟨#[70, 65, 76, 83, 69]⟩ st = false) :
    Calls Try.prog 77 #[.pointer (some ⟨p, 0, none⟩)] w (XPost B p a cp s w RR) := by
  have HD0 := hide hd0
  have HDA := hide hda
  clear hd0 hda
  have HRR : Hid ((.tim (tokS s st).v (tokS s st).l (tokS s st).c, (takeS s 4 st).2) = RR) := by
    cases N with
    | zero => unfold pj at hpj; cases hpj
    | succ m =>
      unfold pj at hpj
      rw [if_neg (by rw [h2]; decide), if_neg (by unfold bNOT bMIN; rw [hNOT, hMIN]; decide), if_neg (by unfold bPAR; rw [hPAR]; decide), if_neg (by rw [h2]; decide), if_pos h2] at hpj
      injection hpj
  have HPJ := hide hpj
  clear hpj
  obtain ⟨q, t, d1, fe, fl, fc, hpk, htk, htt⟩ := hin.all
  have HTK := hide htk
  have hb := hin.hB
  have HIN := hide hin
  have hpk1 := hpk.ex (S := fun _ => False) ((Ex.refl _ w).alloc (xO x00)) (fun _ e => e.elim)
  have HPK2 : Hid (PK B p a cp s ((w.alloc (xO x00)).alloc (xO ⟨0, nb, t.v, nb, none, 0, 0, t.l, t.c⟩)).drew q t d1 fe fl fc) := hpk.ex (S := fun _ => False) ((((Ex.refl _ w).alloc _).alloc _).drew) (fun _ e => e.elim)
  have c6 := hpk1.c6
  have c8 := hpk1.c8
  have c9 := hpk1.c9
  have hpl : p < w.heap.size := by omega
  have hpl1 : p < (w.alloc (xO x00)).heap.size := by simp; omega
  clear hin htk hpk hpk1
  unfold xO x00 nb at c6 c8 c9 hpl1
  go_enter Try.func77, Try.ntmps77
  go_upto_region 1 with fail
  have HX : Hid (PX B p a cp s w ((w.alloc (xO x00)).alloc (xO ⟨0, nb, t.v, nb, none, 0, 0, t.l, t.c⟩)).drew w.heap.size (w.heap.size + 1) st ⟨0, nb, t.v, nb, none, 0, 0, t.l, t.c⟩) := by
    have e0 : Ex (fun _ => False) w ((w.alloc (xO x00)).alloc (xO ⟨0, nb, t.v, nb, none, 0, 0, t.l, t.c⟩)).drew := (((Ex.refl _ w).alloc _).alloc _).drew
    have hr1 := (XK.new (w.alloc (xO x00)) ⟨0, nb, t.v, nb, none, 0, 0, t.l, t.c⟩).keep (S := fun _ => False) ((Ex.refl _ _).drew) (fun e => e)
    rw [show (w.alloc (xO x00)).heap.size = w.heap.size + 1 by simp] at hr1
    exact ⟨HIN.out.ex e0 (fun _ z => z.elim), e0.mono (fun _ z => z.elim), (XK.new w x00).keep (S := fun _ => False) (((Ex.refl _ _).alloc (xO ⟨0, nb, t.v, nb, none, 0, 0, t.l, t.c⟩)).drew) (fun e => e), hr1, ⟨Nat.le_refl _, Nat.le_succ _, by omega⟩, hb⟩
  unfold xO x00 nb at HX HPK2
  dsimp only at HX HPK2
  go_region
  generalize World.drew _ = wd at *
  obtain ⟨r0, hr0e⟩ : ∃ r, w.heap.size = r := ⟨_, rfl⟩
  obtain ⟨r1, hr1e⟩ : ∃ r, w.heap.size + 1 = r := ⟨_, rfl⟩
  rw [hr1e, hr0e] at HX
  rw [hr1e, hr0e]
  clear c6 c8 c9 hpl1 hr0e hr1e HIN
  have hpw : p < w.heap.size := hpl
  have HHB := hide hb
  clear hb hpl
  clear HPJ
  have c4 := HPK2.out.c4
  have k2 : (t.k == 2) = false := by rw [← htt, h2]; rfl
  have k3 : (t.k == 3) = false := by rw [← htt, h2]; rfl
  have k4 : (t.k == 4) = true := by rw [← htt, h2]; rfl
  have HTC := hide (fun wz hz => takeK_any (B := B) (p := p) (a := a) (cp := cp) (s := s) (st := st) wz hz 4 (by decide))
  have HT0 : Hid (isAt (takeS s 4 st).2 → isAt st) := fun z => (isAt.take z).1
  generalize hts : takeS s 4 st = ts at *
  obtain ⟨tt, st2⟩ := ts
  clear hts
  dsimp only at HRR HTC HT0
  have hkk : t.k = 4 := by rw [← htt, h2]
  clear htt h2
  have q0 := HX.out.te.c0
  have qf := HX.out.te.fz 0
  go_upto_region 24 with (go_at_call 72; refine (atK_any _ HX.out.ins _).mono ?_; rintro e wq ⟨rfl, hwq⟩; subst wq; simp only [hNOT, hMIN, hPAR, hTRU, hFAL])
  have HX2 := hide (HX.out.set1 (HX.out.te.putk 1))
  have c4b : (wd.setCell ⟨r1, 0, none⟩ (.int .i64 1)).cell? ⟨p, 4, none⟩ = some (.int .i64 t.k) := (((Ex.refl (fun k => k = r1) wd).set (p := r1) rfl _)).cell (by have := HX.out.ge; have := HHB.out; omega) c4
  dsimp only at HX2
  generalize wd.setCell ⟨r1, 0, none⟩ (.int .i64 1) = w2 at *
  clear c4 q0 qf HX HPK2
  rw [hkk] at c4b
  go_wp2_with fail
  refine (HTC.out w2 HX2.out.ins).mono ?_
  rintro e w3 ⟨rfl, hex, hi⟩
  have HX3 := hide (HX2.out.call hex hi)
  clear hex hi HX2 HTC
  have HT3 : Hid (isAt st2 → ET w3 (DX w r0 r1) (.tim (tokS s st).v (tokS s st).l (tokS s st).c) ⟨1, ⟨#[]⟩, t.v, ⟨#[]⟩, none, 0, 0, t.l, t.c⟩) := fun z => by
    show _ = _
    rw [HTK.out (HT0.out z)]
    rfl
  have R0 := HX3.out.tr.c0
  have R1 := HX3.out.tr.c1
  have R2 := HX3.out.tr.c2
  have R3 := HX3.out.tr.c3
  have R4 := HX3.out.tr.c4
  have R5 := HX3.out.tr.c5
  have R6 := HX3.out.tr.c6
  have RF0 := HX3.out.tr.fz 0
  have RF1 := HX3.out.tr.fz 1
  have RF2 := HX3.out.tr.fz 2
  have RF3 := HX3.out.tr.fz 3
  have RF4 := HX3.out.tr.fz 4
  have RF5 := HX3.out.tr.fz 5
  have RF6 := HX3.out.tr.fz 6
  have S0 := HX3.out.te.c0
  have S1 := HX3.out.te.c1
  have S2 := HX3.out.te.c2
  have S3 := HX3.out.te.c3
  have S4 := HX3.out.te.c4
  have S5 := HX3.out.te.c5
  have S6 := HX3.out.te.c6
  unfold x00 nb at R0 R1 R2 R3 R4 R5 R6
  dsimp only at R0 R1 R2 R3 R4 R5 R6 S0 S1 S2 S3 S4 S5 S6
  have HF : Hid (XPost B p a cp s w RR (.returned (xV ⟨1, ⟨#[]⟩, t.v, ⟨#[]⟩, none, 0, 0, t.l, t.c⟩)) (set7 w3 r0 ⟨1, ⟨#[]⟩, t.v, ⟨#[]⟩, none, 0, 0, t.l, t.c⟩)) := by
    rw [← HRR.out]
    exact HX3.out.fin HT3.out
  unfold set7 at HF
  clear HX3 HT3
  simp only []
  unfold tkV
  go_wp2
  exact bodyPost_ret (v := xV ⟨1, ⟨#[]⟩, t.v, ⟨#[]⟩, none, 0, 0, t.l, t.c⟩) (by simp [results, Try.results77, go_sem, xV, R0, R1, R2, R3, R4, R5, R6]) rfl HF.out
set_option linter.unusedSimpArgs false in
set_option linter.unusedVariables false in
set_option maxRecDepth 100000 in
set_option maxHeartbeats 32000000 in
theorem op_tru (N : Nat) (st : PSt) (RR : E × PSt) (w : World) (hpj : pj s N .oper st = some RR) (hin : InS B p a cp s w st) (d : Int) (hd0 : 0 ≤ d ∧ d ≤ 64) (hda : DA d st) (h2 : (tokS s st).k = 5) (hNOT : atS s ⟨#[78, 79, 84]⟩ st = false) (hMIN : atS s ⟨#[45]⟩ st = false) (hPAR : atS s ⟨#[40]⟩ st = false) (hTRU : atS s ⟨#[84, 82, 85, 69]⟩ st = true) (hFAL : atS s ⟨#[70, 65, 76, 83, 69]⟩ st = false) :
    Calls Try.prog 77 #[.pointer (some ⟨p, 0, none⟩)] w (XPost B p a cp s w RR) := by
  have HD0 := hide hd0
  have HDA := hide hda
  clear hd0 hda
  have HRR : Hid ((.bol (tokS s st).v (tokS s st).l (tokS s st).c, (takeS s 5 st).2) = RR) := by
    cases N with
    | zero => unfold pj at hpj; cases hpj
    | succ m =>
      unfold pj at hpj
      rw [if_neg (by rw [h2]; decide), if_neg (by unfold bNOT bMIN; rw [hNOT, hMIN]; decide), if_neg (by unfold bPAR; rw [hPAR]; decide), if_neg (by rw [h2]; decide), if_neg (by rw [h2]; decide), if_pos (by unfold bTRU bFAL; rw [hTRU]; simp)] at hpj
      injection hpj
  have HPJ := hide hpj
  clear hpj
  obtain ⟨q, t, d1, fe, fl, fc, hpk, htk, htt⟩ := hin.all
  have HTK := hide htk
  have hb := hin.hB
  have HIN := hide hin
  have hpk1 := hpk.ex (S := fun _ => False) ((Ex.refl _ w).alloc (xO x00)) (fun _ e => e.elim)
  have HPK2 : Hid (PK B p a cp s ((w.alloc (xO x00)).alloc (xO ⟨0, nb, t.v, nb, none, 0, 0, t.l, t.c⟩)).drew q t d1 fe fl fc) := hpk.ex (S := fun _ => False) ((((Ex.refl _ w).alloc _).alloc _).drew) (fun _ e => e.elim)
  have c6 := hpk1.c6
  have c8 := hpk1.c8
  have c9 := hpk1.c9
  have hpl : p < w.heap.size := by omega
  have hpl1 : p < (w.alloc (xO x00)).heap.size := by simp; omega
  clear hin htk hpk hpk1
  unfold xO x00 nb at c6 c8 c9 hpl1
  go_enter Try.func77, Try.ntmps77
  go_upto_region 1 with fail
  have HX : Hid (PX B p a cp s w ((w.alloc (xO x00)).alloc (xO ⟨0, nb, t.v, nb, none, 0, 0, t.l, t.c⟩)).drew w.heap.size (w.heap.size + 1) st ⟨0, nb, t.v, nb, none, 0, 0, t.l, t.c⟩) := by
    have e0 : Ex (fun _ => False) w ((w.alloc (xO x00)).alloc (xO ⟨0, nb, t.v, nb, none, 0, 0, t.l, t.c⟩)).drew := (((Ex.refl _ w).alloc _).alloc _).drew
    have hr1 := (XK.new (w.alloc (xO x00)) ⟨0, nb, t.v, nb, none, 0, 0, t.l, t.c⟩).keep (S := fun _ => False) ((Ex.refl _ _).drew) (fun e => e)
    rw [show (w.alloc (xO x00)).heap.size = w.heap.size + 1 by simp] at hr1
    exact ⟨HIN.out.ex e0 (fun _ z => z.elim), e0.mono (fun _ z => z.elim), (XK.new w x00).keep (S := fun _ => False) (((Ex.refl _ _).alloc (xO ⟨0, nb, t.v, nb, none, 0, 0, t.l, t.c⟩)).drew) (fun e => e), hr1, ⟨Nat.le_refl _, Nat.le_succ _, by omega⟩, hb⟩
  unfold xO x00 nb at HX HPK2
  dsimp only at HX HPK2
  go_region
  generalize World.drew _ = wd at *
  obtain ⟨r0, hr0e⟩ : ∃ r, w.heap.size = r := ⟨_, rfl⟩
  obtain ⟨r1, hr1e⟩ : ∃ r, w.heap.size + 1 = r := ⟨_, rfl⟩
  rw [hr1e, hr0e] at HX
  rw [hr1e, hr0e]
  clear c6 c8 c9 hpl1 hr0e hr1e HIN
  have hpw : p < w.heap.size := hpl
  have HHB := hide hb
  clear hb hpl
  clear HPJ
  have c4 := HPK2.out.c4
  have k2 : (t.k == 2) = false := by rw [← htt, h2]; rfl
  have k3 : (t.k == 3) = false := by rw [← htt, h2]; rfl
  have k4 : (t.k == 4) = false := by rw [← htt, h2]; rfl
  have HTC := hide (fun wz hz => takeK_any (B := B) (p := p) (a := a) (cp := cp) (s := s) (st := st) wz hz 5 (by decide))
  have HT0 : Hid (isAt (takeS s 5 st).2 → isAt st) := fun z => (isAt.take z).1
  generalize hts : takeS s 5 st = ts at *
  obtain ⟨tt, st2⟩ := ts
  clear hts
  dsimp only at HRR HTC HT0
  have hkk : t.k = 5 := by rw [← htt, h2]
  clear htt h2
  have q0 := HX.out.te.c0
  have qf := HX.out.te.fz 0
  go_upto_region 24 with (go_at_call 72; refine (atK_any _ HX.out.ins _).mono ?_; rintro e wq ⟨rfl, hwq⟩; subst wq; simp only [hNOT, hMIN, hPAR, hTRU, hFAL])
  have HX2 := hide (HX.out.set1 (HX.out.te.putk 2))
  have c4b : (wd.setCell ⟨r1, 0, none⟩ (.int .i64 2)).cell? ⟨p, 4, none⟩ = some (.int .i64 t.k) := (((Ex.refl (fun k => k = r1) wd).set (p := r1) rfl _)).cell (by have := HX.out.ge; have := HHB.out; omega) c4
  dsimp only at HX2
  generalize wd.setCell ⟨r1, 0, none⟩ (.int .i64 2) = w2 at *
  clear c4 q0 qf HX HPK2
  rw [hkk] at c4b
  go_wp2_with fail
  refine (HTC.out w2 HX2.out.ins).mono ?_
  rintro e w3 ⟨rfl, hex, hi⟩
  have HX3 := hide (HX2.out.call hex hi)
  clear hex hi HX2 HTC
  have HT3 : Hid (isAt st2 → ET w3 (DX w r0 r1) (.bol (tokS s st).v (tokS s st).l (tokS s st).c) ⟨2, ⟨#[]⟩, t.v, ⟨#[]⟩, none, 0, 0, t.l, t.c⟩) := fun z => by
    show _ = _
    rw [HTK.out (HT0.out z)]
    rfl
  have R0 := HX3.out.tr.c0
  have R1 := HX3.out.tr.c1
  have R2 := HX3.out.tr.c2
  have R3 := HX3.out.tr.c3
  have R4 := HX3.out.tr.c4
  have R5 := HX3.out.tr.c5
  have R6 := HX3.out.tr.c6
  have RF0 := HX3.out.tr.fz 0
  have RF1 := HX3.out.tr.fz 1
  have RF2 := HX3.out.tr.fz 2
  have RF3 := HX3.out.tr.fz 3
  have RF4 := HX3.out.tr.fz 4
  have RF5 := HX3.out.tr.fz 5
  have RF6 := HX3.out.tr.fz 6
  have S0 := HX3.out.te.c0
  have S1 := HX3.out.te.c1
  have S2 := HX3.out.te.c2
  have S3 := HX3.out.te.c3
  have S4 := HX3.out.te.c4
  have S5 := HX3.out.te.c5
  have S6 := HX3.out.te.c6
  unfold x00 nb at R0 R1 R2 R3 R4 R5 R6
  dsimp only at R0 R1 R2 R3 R4 R5 R6 S0 S1 S2 S3 S4 S5 S6
  have HF : Hid (XPost B p a cp s w RR (.returned (xV ⟨2, ⟨#[]⟩, t.v, ⟨#[]⟩, none, 0, 0, t.l, t.c⟩)) (set7 w3 r0 ⟨2, ⟨#[]⟩, t.v, ⟨#[]⟩, none, 0, 0, t.l, t.c⟩)) := by
    rw [← HRR.out]
    exact HX3.out.fin HT3.out
  unfold set7 at HF
  clear HX3 HT3
  simp only []
  unfold tkV
  go_wp2
  exact bodyPost_ret (v := xV ⟨2, ⟨#[]⟩, t.v, ⟨#[]⟩, none, 0, 0, t.l, t.c⟩) (by simp [results, Try.results77, go_sem, xV, R0, R1, R2, R3, R4, R5, R6]) rfl HF.out
set_option linter.unusedSimpArgs false in
set_option linter.unusedVariables false in
set_option maxRecDepth 100000 in
set_option maxHeartbeats 32000000 in
theorem op_fal (N : Nat) (st : PSt) (RR : E × PSt) (w : World) (hpj : pj s N .oper st = some RR) (hin : InS B p a cp s w st) (d : Int) (hd0 : 0 ≤ d ∧ d ≤ 64) (hda : DA d st) (h2 : (tokS s st).k = 5) (hNOT : atS s ⟨#[78, 79, 84]⟩ st = false) (hMIN : atS s ⟨#[45]⟩ st = false) (hPAR : atS s ⟨#[40]⟩ st = false) (hTRU : atS s ⟨#[84, 82, 85, 69]⟩ st = false) (hFAL : atS s ⟨#[70, 65, 76, 83, 69]⟩ st = true) :
    Calls Try.prog 77 #[.pointer (some ⟨p, 0, none⟩)] w (XPost B p a cp s w RR) := by
  have HD0 := hide hd0
  have HDA := hide hda
  clear hd0 hda
  have HRR : Hid ((.bol (tokS s st).v (tokS s st).l (tokS s st).c, (takeS s 5 st).2) = RR) := by
    cases N with
    | zero => unfold pj at hpj; cases hpj
    | succ m =>
      unfold pj at hpj
      rw [if_neg (by rw [h2]; decide), if_neg (by unfold bNOT bMIN; rw [hNOT, hMIN]; decide), if_neg (by unfold bPAR; rw [hPAR]; decide), if_neg (by rw [h2]; decide), if_neg (by rw [h2]; decide), if_pos (by unfold bTRU bFAL; rw [hTRU, hFAL]; simp)] at hpj
      injection hpj
  have HPJ := hide hpj
  clear hpj
  obtain ⟨q, t, d1, fe, fl, fc, hpk, htk, htt⟩ := hin.all
  have HTK := hide htk
  have hb := hin.hB
  have HIN := hide hin
  have hpk1 := hpk.ex (S := fun _ => False) ((Ex.refl _ w).alloc (xO x00)) (fun _ e => e.elim)
  have HPK2 : Hid (PK B p a cp s ((w.alloc (xO x00)).alloc (xO ⟨0, nb, t.v, nb, none, 0, 0, t.l, t.c⟩)).drew q t d1 fe fl fc) := hpk.ex (S := fun _ => False) ((((Ex.refl _ w).alloc _).alloc _).drew) (fun _ e => e.elim)
  have c6 := hpk1.c6
  have c8 := hpk1.c8
  have c9 := hpk1.c9
  have hpl : p < w.heap.size := by omega
  have hpl1 : p < (w.alloc (xO x00)).heap.size := by simp; omega
  clear hin htk hpk hpk1
  unfold xO x00 nb at c6 c8 c9 hpl1
  go_enter Try.func77, Try.ntmps77
  go_upto_region 1 with fail
  have HX : Hid (PX B p a cp s w ((w.alloc (xO x00)).alloc (xO ⟨0, nb, t.v, nb, none, 0, 0, t.l, t.c⟩)).drew w.heap.size (w.heap.size + 1) st ⟨0, nb, t.v, nb, none, 0, 0, t.l, t.c⟩) := by
    have e0 : Ex (fun _ => False) w ((w.alloc (xO x00)).alloc (xO ⟨0, nb, t.v, nb, none, 0, 0, t.l, t.c⟩)).drew := (((Ex.refl _ w).alloc _).alloc _).drew
    have hr1 := (XK.new (w.alloc (xO x00)) ⟨0, nb, t.v, nb, none, 0, 0, t.l, t.c⟩).keep (S := fun _ => False) ((Ex.refl _ _).drew) (fun e => e)
    rw [show (w.alloc (xO x00)).heap.size = w.heap.size + 1 by simp] at hr1
    exact ⟨HIN.out.ex e0 (fun _ z => z.elim), e0.mono (fun _ z => z.elim), (XK.new w x00).keep (S := fun _ => False) (((Ex.refl _ _).alloc (xO ⟨0, nb, t.v, nb, none, 0, 0, t.l, t.c⟩)).drew) (fun e => e), hr1, ⟨Nat.le_refl _, Nat.le_succ _, by omega⟩, hb⟩
  unfold xO x00 nb at HX HPK2
  dsimp only at HX HPK2
  go_region
  generalize World.drew _ = wd at *
  obtain ⟨r0, hr0e⟩ : ∃ r, w.heap.size = r := ⟨_, rfl⟩
  obtain ⟨r1, hr1e⟩ : ∃ r, w.heap.size + 1 = r := ⟨_, rfl⟩
  rw [hr1e, hr0e] at HX
  rw [hr1e, hr0e]
  clear c6 c8 c9 hpl1 hr0e hr1e HIN
  have hpw : p < w.heap.size := hpl
  have HHB := hide hb
  clear hb hpl
  clear HPJ
  have c4 := HPK2.out.c4
  have k2 : (t.k == 2) = false := by rw [← htt, h2]; rfl
  have k3 : (t.k == 3) = false := by rw [← htt, h2]; rfl
  have k4 : (t.k == 4) = false := by rw [← htt, h2]; rfl
  have HTC := hide (fun wz hz => takeK_any (B := B) (p := p) (a := a) (cp := cp) (s := s) (st := st) wz hz 5 (by decide))
  have HT0 : Hid (isAt (takeS s 5 st).2 → isAt st) := fun z => (isAt.take z).1
  generalize hts : takeS s 5 st = ts at *
  obtain ⟨tt, st2⟩ := ts
  clear hts
  dsimp only at HRR HTC HT0
  have hkk : t.k = 5 := by rw [← htt, h2]
  clear htt h2
  have q0 := HX.out.te.c0
  have qf := HX.out.te.fz 0
  go_upto_region 24 with (go_at_call 72; refine (atK_any _ HX.out.ins _).mono ?_; rintro e wq ⟨rfl, hwq⟩; subst wq; simp only [hNOT, hMIN, hPAR, hTRU, hFAL])
  have HX2 := hide (HX.out.set1 (HX.out.te.putk 2))
  have c4b : (wd.setCell ⟨r1, 0, none⟩ (.int .i64 2)).cell? ⟨p, 4, none⟩ = some (.int .i64 t.k) := (((Ex.refl (fun k => k = r1) wd).set (p := r1) rfl _)).cell (by have := HX.out.ge; have := HHB.out; omega) c4
  dsimp only at HX2
  generalize wd.setCell ⟨r1, 0, none⟩ (.int .i64 2) = w2 at *
  clear c4 q0 qf HX HPK2
  rw [hkk] at c4b
  go_wp2_with fail
  refine (HTC.out w2 HX2.out.ins).mono ?_
  rintro e w3 ⟨rfl, hex, hi⟩
  have HX3 := hide (HX2.out.call hex hi)
  clear hex hi HX2 HTC
  have HT3 : Hid (isAt st2 → ET w3 (DX w r0 r1) (.bol (tokS s st).v (tokS s st).l (tokS s st).c) ⟨2, ⟨#[]⟩, t.v, ⟨#[]⟩, none, 0, 0, t.l, t.c⟩) := fun z => by
    show _ = _
    rw [HTK.out (HT0.out z)]
    rfl
  have R0 := HX3.out.tr.c0
  have R1 := HX3.out.tr.c1
  have R2 := HX3.out.tr.c2
  have R3 := HX3.out.tr.c3
  have R4 := HX3.out.tr.c4
  have R5 := HX3.out.tr.c5
  have R6 := HX3.out.tr.c6
  have RF0 := HX3.out.tr.fz 0
  have RF1 := HX3.out.tr.fz 1
  have RF2 := HX3.out.tr.fz 2
  have RF3 := HX3.out.tr.fz 3
  have RF4 := HX3.out.tr.fz 4
  have RF5 := HX3.out.tr.fz 5
  have RF6 := HX3.out.tr.fz 6
  have S0 := HX3.out.te.c0
  have S1 := HX3.out.te.c1
  have S2 := HX3.out.te.c2
  have S3 := HX3.out.te.c3
  have S4 := HX3.out.te.c4
  have S5 := HX3.out.te.c5
  have S6 := HX3.out.te.c6
  unfold x00 nb at R0 R1 R2 R3 R4 R5 R6
  dsimp only at R0 R1 R2 R3 R4 R5 R6 S0 S1 S2 S3 S4 S5 S6
  have HF : Hid (XPost B p a cp s w RR (.returned (xV ⟨2, ⟨#[]⟩, t.v, ⟨#[]⟩, none, 0, 0, t.l, t.c⟩)) (set7 w3 r0 ⟨2, ⟨#[]⟩, t.v, ⟨#[]⟩, none, 0, 0, t.l, t.c⟩)) := by
    rw [← HRR.out]
    exact HX3.out.fin HT3.out
  unfold set7 at HF
  clear HX3 HT3
  simp only []
  unfold tkV
  go_wp2
  exact bodyPost_ret (v := xV ⟨2, ⟨#[]⟩, t.v, ⟨#[]⟩, none, 0, 0, t.l, t.c⟩) (by simp [results, Try.results77, go_sem, xV, R0, R1, R2, R3, R4, R5, R6]) rfl HF.out
end
end Go.Proofs.Qxb6500774a
