import Derived.Test.Qxb6500774aKk0
namespace Go.Proofs.Qxb6500774a
open Go.RowKit
set_option linter.unusedVariables false
set_option linter.unusedSimpArgs false

section
variable {B p : Nat} {a : Option Addr} {cp : Nat} {s : List Int}
set_option linter.unusedSimpArgs false in
set_option linter.unusedVariables false in
set_option maxRecDepth 100000 in
set_option maxHeartbeats 32000000 in
theorem op_none (N : Nat) (st : PSt) (RR : E × PSt) (w : World) (hpj : pj s N .oper st = some RR) (hin : InS B p a cp s w st) (d : Int) (hd0 : 0 ≤ d ∧ d ≤ 64) (hda : DA d st) (h2 : (tokS s st).k ≠ 2) (h3 : (tokS s st).k ≠ 3) (h4 : (tokS s st).k ≠ 4) (hNOT : atS s ⟨#[78, 79, 84]⟩ st = false) (hMIN : atS s ⟨#[45]⟩ st = false) (hPAR : atS s ⟨#[40]⟩ st = false) (hTRU : atS s ⟨#[84, 82, 85, 69]⟩ st = false) (hFAL : atS s ⟨#[70, 65, 76, 83, 69]⟩ st = false) :
    Calls Try.prog 77 #[.pointer (some ⟨p, 0, none⟩)] w (XPost B p a cp s w RR) := by
  have HD0 := hide hd0
  have HDA := hide hda
  clear hd0 hda
  have HRR : Hid ((junk, failS s 5 st) = RR) := by
    cases N with
    | zero => unfold pj at hpj; cases hpj
    | succ m =>
      unfold pj at hpj
      rw [if_neg h2, if_neg (by unfold bNOT bMIN; rw [hNOT, hMIN]; decide), if_neg (by unfold bPAR; rw [hPAR]; decide), if_neg h3, if_neg h4, if_neg (by unfold bTRU bFAL; rw [hTRU, hFAL]; decide)] at hpj
      injection hpj
  have HPJ := hide hpj
  clear hpj
  obtain ⟨q, t, d1, fe, fl, fc, hpk, htk, htt⟩ := hin.all
  have HTK := hide htk
  have hb := hin.hB
  have HIN := hide hin
  have hpk1 := hpk.ex (S := fun _ => False) ((Ex.refl _ w).alloc (xO x00)) (fun _ e => e.elim)
  have HPK2 : Hid (PK B p a cp s ((w.alloc (xO x00)).alloc (xO ⟨0, nb, t.v, nb, none, 0, 0, t.l, t.c⟩)).drew q t d1 fe fl fc) := hpk.ex (S := fun _ => False) ((((Ex.refl _ w).alloc _).alloc _).drew) (fun _ e => e.elim)
  have c6 := hpk1.c6
  have c8 := hpk1.c8
  have c9 := hpk1.c9
  have hpl : p < w.heap.size := by omega
  have hpl1 : p < (w.alloc (xO x00)).heap.size := by simp; omega
  clear hin htk hpk hpk1
  unfold xO x00 nb at c6 c8 c9 hpl1
  go_enter Try.func77, Try.ntmps77
  go_upto_region 1 with fail
  have HX : Hid (PX B p a cp s w ((w.alloc (xO x00)).alloc (xO ⟨0, nb, t.v, nb, none, 0, 0, t.l, t.c⟩)).drew w.heap.size (w.heap.size + 1) st ⟨0, nb, t.v, nb, none, 0, 0, t.l, t.c⟩) := by
    have e0 : Ex (fun _ => False) w ((w.alloc (xO x00)).alloc (xO ⟨0, nb, t.v, nb, none, 0, 0, t.l, t.c⟩)).drew := (((Ex.refl _ w).alloc _).alloc _).drew
    have hr1 := (XK.new (w.alloc (xO x00)) ⟨0, nb, t.v, nb, none, 0, 0, t.l, t.c⟩).keep (S := fun _ => False) ((Ex.refl _ _).drew) (fun e => e)
    rw [show (w.alloc (xO x00)).heap.size = w.heap.size + 1 by simp] at hr1
    exact ⟨HIN.out.ex e0 (fun _ z => z.elim), e0.mono (fun _ z => z.elim), (XK.new w x00).keep (S := fun _ => False) (((Ex.refl _ _).alloc (xO ⟨0, nb, t.v, nb, none, 0, 0, t.l, t.c⟩)).drew) (fun e => e), hr1, ⟨Nat.le_refl _, Nat.le_succ _, by omega⟩, hb⟩
  unfold xO x00 nb at HX HPK2
  dsimp only at HX HPK2
  go_region
  generalize World.drew _ = wd at *
  obtain ⟨r0, hr0e⟩ : ∃ r, w.heap.size = r := ⟨_, rfl⟩
  obtain ⟨r1, hr1e⟩ : ∃ r, w.heap.size + 1 = r := ⟨_, rfl⟩
  rw [hr1e, hr0e] at HX
  rw [hr1e, hr0e]
  clear c6 c8 c9 hpl1 hr0e hr1e HIN
  have hpw : p < w.heap.size := hpl
  have HHB := hide hb
  clear hb hpl
  clear HPJ
  have c4 := HPK2.out.c4
  have k2 : (t.k == 2) = false := by rw [← htt]; simpa using h2
  have k3 : (t.k == 3) = false := by rw [← htt]; simpa using h3
  have k4 : (t.k == 4) = false := by rw [← htt]; simpa using h4
  have HFC := hide (fun wz hz => failK_any (B := B) (p := p) (a := a) (cp := cp) (s := s) (st := st) wz hz 5 (by decide))
  have HB : Hid (isB (failS s 5 st)) := failS_b s 5 st
  generalize failS s 5 st = st2 at *
  clear htt h2 h3 h4
  go_upto_region 3 with (first | (go_at_call 72; refine (atK_any _ HX.out.ins _).mono ?_; rintro e wq ⟨rfl, hwq⟩; subst wq; simp only [hNOT, hMIN, hPAR, hTRU, hFAL]) | (go_at_call 71; refine (HFC.out _ HX.out.ins).mono ?_; rintro e w3 ⟨rfl, hex, hi⟩; have HX3 := hide (HX.out.call hex hi); clear hex hi; simp only []))
  clear c4 k2 k3 k4 HPK2 HX
  have HT3 : Hid (isAt st2 → ET w3 (DX w r0 r1) junk ⟨0, nb, t.v, nb, none, 0, 0, t.l, t.c⟩) := fun z => by
    have := HB.out
    cases st2 with
    | «at» k d => exact this.elim
    | bad er l c => exact z.elim
  unfold nb at HT3 HX3
  have R0 := HX3.out.tr.c0
  have R1 := HX3.out.tr.c1
  have R2 := HX3.out.tr.c2
  have R3 := HX3.out.tr.c3
  have R4 := HX3.out.tr.c4
  have R5 := HX3.out.tr.c5
  have R6 := HX3.out.tr.c6
  have RF0 := HX3.out.tr.fz 0
  have RF1 := HX3.out.tr.fz 1
  have RF2 := HX3.out.tr.fz 2
  have RF3 := HX3.out.tr.fz 3
  have RF4 := HX3.out.tr.fz 4
  have RF5 := HX3.out.tr.fz 5
  have RF6 := HX3.out.tr.fz 6
  have S0 := HX3.out.te.c0
  have S1 := HX3.out.te.c1
  have S2 := HX3.out.te.c2
  have S3 := HX3.out.te.c3
  have S4 := HX3.out.te.c4
  have S5 := HX3.out.te.c5
  have S6 := HX3.out.te.c6
  unfold x00 nb at R0 R1 R2 R3 R4 R5 R6
  dsimp only at R0 R1 R2 R3 R4 R5 R6 S0 S1 S2 S3 S4 S5 S6
  have HF : Hid (XPost B p a cp s w RR (.returned (xV ⟨0, ⟨#[]⟩, t.v, ⟨#[]⟩, none, 0, 0, t.l, t.c⟩)) (set7 w3 r0 ⟨0, ⟨#[]⟩, t.v, ⟨#[]⟩, none, 0, 0, t.l, t.c⟩)) := by
    rw [← HRR.out]
    exact HX3.out.fin HT3.out
  unfold set7 at HF
  clear HX3 HT3
  go_wp2
  exact bodyPost_ret (v := xV ⟨0, ⟨#[]⟩, t.v, ⟨#[]⟩, none, 0, 0, t.l, t.c⟩) (by simp [results, Try.results77, go_sem, xV, R0, R1, R2, R3, R4, R5, R6]) rfl HF.out
end
end Go.Proofs.Qxb6500774a
