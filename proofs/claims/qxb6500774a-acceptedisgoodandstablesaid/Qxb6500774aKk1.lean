import Derived.Test.Qxb6500774aKk0
namespace Go.Proofs.Qxb6500774a
open Go.RowKit
set_option linter.unusedVariables false
set_option linter.unusedSimpArgs false

section
variable {B p : Nat} {a : Option Addr} {cp : Nat} {s : List Int}
set_option linter.unusedSimpArgs false in
set_option linter.unusedVariables false in
set_option maxRecDepth 100000 in
set_option maxHeartbeats 32000000 in
theorem op_name (N : Nat) (st : PSt) (RR : E × PSt) (w : World) (hpj : pj s N .oper st = some RR) (hin : InS B p a cp s w st) (d : Int) (hd0 : 0 ≤ d ∧ d ≤ 64) (hda : DA d st) (hP : ∀ m, m < N → ∀ (R : E × PSt) (w : World), pj s m .plac st = some R → InS B p a cp s w st → Calls Try.prog 93 #[.pointer (some ⟨p, 0, none⟩)] w (XPost B p a cp s w R)) (h2 : (tokS s st).k = 2) :
    Calls Try.prog 77 #[.pointer (some ⟨p, 0, none⟩)] w (XPost B p a cp s w RR) := by
  have HD0 := hide hd0
  have HDA := hide hda
  clear hd0 hda
  obtain ⟨m, hm, hpj⟩ : ∃ m, m < N ∧ pj s m .plac st = some RR := by
    cases N with
    | zero => unfold pj at hpj; cases hpj
    | succ m =>
      unfold pj at hpj
      rw [if_pos h2] at hpj
      exact ⟨m, Nat.lt_succ_self m, hpj⟩
  have HM := hide hm
  clear hm
  have HCP : Hid (∀ wz, InS B p a cp s wz st → Calls Try.prog 93 #[.pointer (some ⟨p, 0, none⟩)] wz (XPost B p a cp s wz RR)) := fun wz hz => hP m HM.out RR wz hpj hz
  clear hP
  have HPJ := hide hpj
  clear hpj
  obtain ⟨q, t, d1, fe, fl, fc, hpk, htk, htt⟩ := hin.all
  have HTK := hide htk
  have hb := hin.hB
  have HIN := hide hin
  have hpk1 := hpk.ex (S := fun _ => False) ((Ex.refl _ w).alloc (xO x00)) (fun _ e => e.elim)
  have HPK2 : Hid (PK B p a cp s ((w.alloc (xO x00)).alloc (xO ⟨0, nb, t.v, nb, none, 0, 0, t.l, t.c⟩)).drew q t d1 fe fl fc) := hpk.ex (S := fun _ => False) ((((Ex.refl _ w).alloc _).alloc _).drew) (fun _ e => e.elim)
  have c6 := hpk1.c6
  have c8 := hpk1.c8
  have c9 := hpk1.c9
  have hpl : p < w.heap.size := by omega
  have hpl1 : p < (w.alloc (xO x00)).heap.size := by simp; omega
  clear hin htk hpk hpk1
  unfold xO x00 nb at c6 c8 c9 hpl1
  go_enter Try.func77, Try.ntmps77
  go_upto_region 1 with fail
  have HX : Hid (PX B p a cp s w ((w.alloc (xO x00)).alloc (xO ⟨0, nb, t.v, nb, none, 0, 0, t.l, t.c⟩)).drew w.heap.size (w.heap.size + 1) st ⟨0, nb, t.v, nb, none, 0, 0, t.l, t.c⟩) := by
    have e0 : Ex (fun _ => False) w ((w.alloc (xO x00)).alloc (xO ⟨0, nb, t.v, nb, none, 0, 0, t.l, t.c⟩)).drew := (((Ex.refl _ w).alloc _).alloc _).drew
    have hr1 := (XK.new (w.alloc (xO x00)) ⟨0, nb, t.v, nb, none, 0, 0, t.l, t.c⟩).keep (S := fun _ => False) ((Ex.refl _ _).drew) (fun e => e)
    rw [show (w.alloc (xO x00)).heap.size = w.heap.size + 1 by simp] at hr1
    exact ⟨HIN.out.ex e0 (fun _ z => z.elim), e0.mono (fun _ z => z.elim), (XK.new w x00).keep (S := fun _ => False) (((Ex.refl _ _).alloc (xO ⟨0, nb, t.v, nb, none, 0, 0, t.l, t.c⟩)).drew) (fun e => e), hr1, ⟨Nat.le_refl _, Nat.le_succ _, by omega⟩, hb⟩
  unfold xO x00 nb at HX HPK2
  dsimp only at HX HPK2
  go_region
  generalize World.drew _ = wd at *
  obtain ⟨r0, hr0e⟩ : ∃ r, w.heap.size = r := ⟨_, rfl⟩
  obtain ⟨r1, hr1e⟩ : ∃ r, w.heap.size + 1 = r := ⟨_, rfl⟩
  rw [hr1e, hr0e] at HX
  rw [hr1e, hr0e]
  clear c6 c8 c9 hpl1 hr0e hr1e HIN
  have hpw : p < w.heap.size := hpl
  have HHB := hide hb
  clear hb hpl
  have c4 := HPK2.out.c4
  have k2 : (t.k == 2) = true := by rw [← htt, h2]; rfl
  clear htt h2
  go_upto_region 5 with fail
  clear c4 k2 HPK2
  go_wp2_with fail
  refine (HCP.out wd HX.out.ins).mono ?_
  rintro e wc ⟨f2, rfl, hex, hi, hti⟩
  have HXc := hide (HX.out.call hex hi)
  have HTc : Hid (isAt RR.2 → ET wc (DX w r0 r1) RR.1 f2) := fun z => (hti z).ofCall HX.out.ex.size HX.out.lt
  clear hex hi hti HX HCP
  have R0 := HXc.out.tr.c0
  have R1 := HXc.out.tr.c1
  have R2 := HXc.out.tr.c2
  have R3 := HXc.out.tr.c3
  have R4 := HXc.out.tr.c4
  have R5 := HXc.out.tr.c5
  have R6 := HXc.out.tr.c6
  have RF0 := HXc.out.tr.fz 0
  have RF1 := HXc.out.tr.fz 1
  have RF2 := HXc.out.tr.fz 2
  have RF3 := HXc.out.tr.fz 3
  have RF4 := HXc.out.tr.fz 4
  have RF5 := HXc.out.tr.fz 5
  have RF6 := HXc.out.tr.fz 6
  unfold x00 nb at R0 R1 R2 R3 R4 R5 R6
  dsimp only at R0 R1 R2 R3 R4 R5 R6
  have HF : Hid (XPost B p a cp s w RR (.returned (xV f2)) (set7 wc r0 f2)) := HXc.out.finx HTc.out
  unfold set7 at HF
  clear HXc HTc
  unfold xV
  go_wp2
  exact bodyPost_ret (v := xV f2) (by simp [results, Try.results77, go_sem, xV, R0, R1, R2, R3, R4, R5, R6]) rfl HF.out
end
end Go.Proofs.Qxb6500774a
