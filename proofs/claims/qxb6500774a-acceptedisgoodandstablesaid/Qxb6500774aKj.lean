import Derived.Test.Qxb6500774aKj1
import Derived.Test.Qxb6500774aKj2
import Derived.Test.Qxb6500774aKj4
namespace Go.Proofs.Qxb6500774a
open Go.RowKit
set_option linter.unusedVariables false
set_option linter.unusedSimpArgs false

section
variable {B p : Nat} {a : Option Addr} {cp : Nat} {s : List Int}
set_option linter.unusedSimpArgs false in
set_option maxRecDepth 100000 in
set_option maxHeartbeats 8000000 in
theorem placeK (N : Nat) (hE : EX1 B p a cp s N) (st : PSt) (RR : E × PSt) (w : World) (hpj : pj s N .plac st = some RR) (hin : InS B p a cp s w st) (hok : DOk st) :
    Calls Try.prog 93 #[.pointer (some ⟨p, 0, none⟩)] w (XPost B p a cp s w RR) := by
  have HEE := hide hE
  clear hE
  obtain ⟨d, hd0, hda⟩ := hok.da
  have HD0 := hide hd0
  have HDA := hide hda
  clear hok hd0 hda
  obtain ⟨m0, hm0, hpj⟩ : ∃ m0, m0 < N ∧ pj s m0 (.placL (.nm (takeS s 2 st).1.x (tokS s st).l (tokS s st).c)) (takeS s 2 st).2 = some RR := by
    cases N with
    | zero => unfold pj at hpj; cases hpj
    | succ m => unfold pj at hpj; exact ⟨m, Nat.lt_succ_self m, hpj⟩
  have HPJ := hide hpj
  have HM0 := hide hm0
  clear hpj hm0
  obtain ⟨q, t, d1, fe, fl, fc, hpk, htk⟩ := hin.tok
  have HTK := hide htk
  have hb := hin.hB
  have HIN := hide hin
  have hpk1 := hpk.ex (S := fun _ => False) ((Ex.refl _ w).alloc (xO x00)) (fun _ e => e.elim)
  have c8 := hpk1.c8
  have c9 := hpk1.c9
  have hpl : p < w.heap.size := by omega
  have hpl1 : p < (w.alloc (xO x00)).heap.size := by simp; omega
  clear hin htk hpk hpk1
  unfold xO x00 nb at c8 c9 hpl1
  go_enter Try.func93, Try.ntmps93
  go_upto_region 1 with fail
  have HX2 : Hid (PX B p a cp s w ((w.alloc (xO x00)).alloc (xO ⟨3, nb, 0, nb, none, 0, 0, t.l, t.c⟩)).drew w.heap.size (w.heap.size + 1) st ⟨3, nb, 0, nb, none, 0, 0, t.l, t.c⟩) := by
    have e0 : Ex (fun _ => False) w ((w.alloc (xO x00)).alloc (xO ⟨3, nb, 0, nb, none, 0, 0, t.l, t.c⟩)).drew := (((Ex.refl _ w).alloc _).alloc _).drew
    have hr1 := (XK.new (w.alloc (xO x00)) ⟨3, nb, 0, nb, none, 0, 0, t.l, t.c⟩).keep (S := fun _ => False) ((Ex.refl _ _).drew) (fun e => e)
    rw [show (w.alloc (xO x00)).heap.size = w.heap.size + 1 by simp] at hr1
    exact ⟨HIN.out.ex e0 (fun _ z => z.elim), e0.mono (fun _ z => z.elim), (XK.new w x00).keep (S := fun _ => False) (((Ex.refl _ _).alloc (xO ⟨3, nb, 0, nb, none, 0, 0, t.l, t.c⟩)).drew) (fun e => e), hr1, ⟨Nat.le_refl _, Nat.le_succ _, by omega⟩, hb⟩
  unfold xO x00 nb at HX2
  dsimp only at HX2
  go_region
  generalize World.drew _ = w2 at *
  obtain ⟨r0, hr0e⟩ : ∃ r, w.heap.size = r := ⟨_, rfl⟩
  obtain ⟨r1, hr1e⟩ : ∃ r, w.heap.size + 1 = r := ⟨_, rfl⟩
  rw [hr1e, hr0e] at HX2
  rw [hr1e, hr0e]
  clear c8 c9 hpl1 hr0e hr1e HIN hpl
  have HT := hide (takeK_any w2 HX2.out.ins 2 (by decide))
  have HIT : Hid (isAt (takeS s 2 st).2 → isAt st ∧ (takeS s 2 st).1 = tokS s st ∧ (tokS s st).k = 2) := isAt.take
  have HDA2 : Hid (DA d (takeS s 2 st).2) := takeS_da HDA.out 2
  clear HDA
  generalize (takeS s 2 st).2 = st2 at *
  generalize (takeS s 2 st).1 = t2 at *
  go_wp2_with fail
  refine HT.out.mono ?_
  rintro e w3 ⟨rfl, hex, hi⟩
  have HX3 := hide (HX2.out.call hex hi)
  clear hex hi HX2 HT
  have hfl := fld81 t2 w3
  unfold tkV at hfl ⊢
  have q3 := HX3.out.te.c3
  have qf := HX3.out.te.fz 3
  go_wp2_with fail
  have HX4 := hide (HX3.out.putm t2.x)
  dsimp only at HX4
  generalize w3.setCell ⟨r1, 3, none⟩ (.string t2.x) = w4 at *
  clear hfl q3 qf HX3
  have HR0 : Hid (PLR B p a cp s w r0 r1 N d RR w4 m0) := ⟨_, st2, _, HM0.out, HPJ.out, HDA2.out, HX4.out, fun z => by
    have h := HIT.out z
    show _ = _
    rw [HTK.out h.1, h.2.1]
    rfl⟩
  clear HPJ HM0 HX4 HDA2 HIT HTK
  go_loopw [20] (fun _ wr => ∃ m, PLR B p a cp s w r0 r1 N d RR wr m) (fun _ wr => lm (PLR B p a cp s w r0 r1 N d RR wr))
  case atStart => exact ⟨m0, HR0.out⟩
  case round =>
    have hsp := (lm_spec hrel).1
    obtain ⟨e, st3, f, h1, h2, h3, h4, h5⟩ := hsp
    cases hdot : atS s bDOT st3
    · cases hbra : atS s bBRA st3
      · exact pl_leave w wr r0 r1 N _ d RR e st3 f h1 h2 h3 h4 h5 rfl HEE HD0 hdot hbra _ _ _ _ _ _ _ _ _ _ _ _ _ _ _ _ _ _ _ _ _ _ _ _ _ _ _ _ _ _ _ _ _ _ _ _ _ _ _ _ _ _ _ _ _ _ _ _ _ _ _ _
      · obtain ⟨bo, st6, hos⟩ : ∃ b x, openS s st3 = (b, x) := ⟨_, _, rfl⟩
        cases bo
        · exact pl_deep w wr r0 r1 N _ d RR e st3 f h1 h2 h3 h4 h5 rfl HEE HD0 st6 hdot hbra hos _ _ _ _ _ _ _ _ _ _ _ _ _ _ _ _ _ _ _ _ _ _ _ _ _ _ _ _ _ _ _ _ _ _ _ _ _ _ _ _ _ _ _ _ _ _ _ _ _ _ _ _
        · exact pl_idx w wr r0 r1 N _ d RR e st3 f h1 h2 h3 h4 h5 rfl HEE HD0 st6 hdot hbra hos _ _ _ _ _ _ _ _ _ _ _ _ _ _ _ _ _ _ _ _ _ _ _ _ _ _ _ _ _ _ _ _ _ _ _ _ _ _ _ _ _ _ _ _ _ _ _ _ _ _ _ _
    · exact pl_dot w wr r0 r1 N _ d RR e st3 f h1 h2 h3 h4 h5 rfl HEE HD0 hdot _ _ _ _ _ _ _ _ _ _ _ _ _ _ _ _ _ _ _ _ _ _ _ _ _ _ _ _ _ _ _ _ _ _ _ _ _ _ _ _ _ _ _ _ _ _ _ _ _ _ _ _
end
end Go.Proofs.Qxb6500774a
