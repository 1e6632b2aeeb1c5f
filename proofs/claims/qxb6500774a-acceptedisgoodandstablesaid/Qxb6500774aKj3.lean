import Derived.Test.Qxb6500774aKj0
import Derived.Test.Qxb6500774aUh
namespace Go.Proofs.Qxb6500774a
open Go.RowKit
set_option linter.unusedVariables false
set_option linter.unusedSimpArgs false

section
variable {B p : Nat} {a : Option Addr} {cp : Nat} {s : List Int}
theorem XK.rc {w : World} {g : Nat} {e : XP} (h : XK w g e) : RC w g 0 e := ⟨h.c0, h.c1, h.c2, h.c3, h.c4, h.c5, h.c6⟩
theorem set7_size (w : World) (r : Nat) (f : XP) : (set7 w r f).heap.size = w.heap.size := by unfold set7; simp
/-- the expression becomes a kid of a new one -/
theorem PX.grow1 {w0 w : World} {r0 r1 : Nat} {st : PSt} {f : XP} {e : E} (h : PX B p a cp s w0 w r0 r1 st f) (ht : isAt st → ET w (DX w0 r0 r1) e f) (x : ByteArray) :
    PX B p a cp s w0 ((set7 w r1 ⟨4, nb, 0, x, some ⟨w.heap.size, 0, none⟩, 1, 1, f.li, f.co⟩).alloc (xO f)) r0 r1 st ⟨4, nb, 0, x, some ⟨w.heap.size, 0, none⟩, 1, 1, f.li, f.co⟩ ∧ (isAt st → ET ((set7 w r1 ⟨4, nb, 0, x, some ⟨w.heap.size, 0, none⟩, 1, 1, f.li, f.co⟩).alloc (xO f)) (DX w0 r0 r1) (.fld e x e.l e.c) ⟨4, nb, 0, x, some ⟨w.heap.size, 0, none⟩, 1, 1, f.li, f.co⟩) := by
  have hlt := h.lt
  have hge := h.ge
  have hb := h.hb
  refine ⟨(h.put _).low ((Ex.refl _ _).alloc _), fun z => ?_⟩
  have t1 := ht z
  have ex : Ex (fun k => k = r1) w ((set7 w r1 ⟨4, nb, 0, x, some ⟨w.heap.size, 0, none⟩, 1, 1, f.li, f.co⟩).alloc (xO f)) := (ex_set7 w r1 _).alloc _
  have hn := XK.new (set7 w r1 ⟨4, nb, 0, x, some ⟨w.heap.size, 0, none⟩, 1, 1, f.li, f.co⟩) f
  rw [set7_size] at hn
  refine ⟨w.heap.size, f, by rw [t1.lc.1, t1.lc.2], ⟨World.block_lt_of_cell? _ _ hn.c0, ?_⟩, hn.rc, t1.ds ex⟩
  have hs : w0.heap.size ≤ r1 := hge.2.1
  rintro (q | q | q) <;> omega
/-- the same, the kid's block being there already -/
theorem PX.growg {w0 w : World} {r0 r1 : Nat} {st : PSt} {f : XP} {e : E} (h : PX B p a cp s w0 w r0 r1 st f) (ht : isAt st → ET w (DX w0 r0 r1) e f) (x : ByteArray) {g : Nat} (hg : RC w g 0 f) (hd : ¬ DX w0 r0 r1 g) :
    PX B p a cp s w0 (set7 w r1 ⟨4, nb, 0, x, some ⟨g, 0, none⟩, 1, 1, f.li, f.co⟩) r0 r1 st ⟨4, nb, 0, x, some ⟨g, 0, none⟩, 1, 1, f.li, f.co⟩ ∧ (isAt st → ET (set7 w r1 ⟨4, nb, 0, x, some ⟨g, 0, none⟩, 1, 1, f.li, f.co⟩) (DX w0 r0 r1) (.fld e x e.l e.c) ⟨4, nb, 0, x, some ⟨g, 0, none⟩, 1, 1, f.li, f.co⟩) := by
  refine ⟨h.put _, fun z => ?_⟩
  have t1 := ht z
  have ex := ex_set7 w r1 ⟨4, nb, 0, x, some ⟨g, 0, none⟩, 1, 1, f.li, f.co⟩
  exact ⟨g, f, by rw [t1.lc.1, t1.lc.2], ⟨by rw [set7_size]; exact World.block_lt_of_cell? _ _ hg.c0, hd⟩, hg.keep ex (fun z => hd (.inr (.inr z))), t1.ds ex⟩
set_option linter.unusedSimpArgs false in
set_option linter.unusedVariables false in
set_option maxRecDepth 100000 in
set_option maxHeartbeats 32000000 in
theorem pl_dot (w wr : World) (r0 r1 N m : Nat) (d : Int) (RR : E × PSt) (e : E) (st : PSt) (f : XP) (HM : Hid (m < N)) (HPJ : Hid (pj s m (.placL e) st = some RR)) (HDA : Hid (DA d st)) (HPX : Hid (PX B p a cp s w wr r0 r1 st f)) (HET : Hid (isAt st → ET wr (DX w r0 r1) e f)) (HLM : Hid (lm (PLR B p a cp s w r0 r1 N d RR wr) = m)) (HEE : Hid (EX1 B p a cp s N)) (HD0 : Hid (0 ≤ d ∧ d ≤ 64)) (hdot : atS s bDOT st = true) (v4 v5 v6 v7 v8 v9 v10 v11 v12 v13 v14 v15 v16 v17 v18 u19 u20 u21 u22 u23 u24 u25 u26 u27 u28 u29 u30 u31 u32 u33 u34 u35 u36 u37 u38 u39 u40 u41 u42 u43 u44 u45 u46 u47 u48 u49 u50 u51 u52 u53 u54 u55 : Value) :
    Code.wp Try.prog ob93 (Exit.then (fun a' w' => (∃ (u19 u20 u21 u22 u23 u24 u25 u26 u27 u28 u29 u30 u31 u32 u33 u34 u35 u36 u37 u38 u39 u40 u41 u42 u43 u44 u45 u46 u47 u48 u49 u50 u51 u52 u53 u54 u55 : Value), (∃ m, PLR B p a cp s w r0 r1 N d RR w' m) ∧ a' = ⟨#[Value.pointer (some ⟨p, 0, none⟩), undef, Value.pointer (some ⟨r0, 0, none⟩), Value.pointer (some ⟨r1, 0, none⟩), v4, v5, v6, v7, v8, v9, v10, v11, v12, v13, v14, v15, v16, v17, v18, u19, u20, u21, u22, u23, u24, u25, u26, u27, u28, u29, u30, u31, u32, u33, u34, u35, u36, u37, u38, u39, u40, u41, u42, u43, u44, u45, u46, u47, u48, u49, u50, u51, u52, u53, u54, u55], []⟩) ∧ lm (PLR B p a cp s w r0 r1 N d RR w') < lm (PLR B p a cp s w r0 r1 N d RR wr)) (Exit.inBlock 0 (bodyPost Try.prog Try.f93 (XPost B p a cp s w RR)))) ⟨#[Value.pointer (some ⟨p, 0, none⟩), undef, Value.pointer (some ⟨r0, 0, none⟩), Value.pointer (some ⟨r1, 0, none⟩), v4, v5, v6, v7, v8, v9, v10, v11, v12, v13, v14, v15, v16, v17, v18, u19, u20, u21, u22, u23, u24, u25, u26, u27, u28, u29, u30, u31, u32, u33, u34, u35, u36, u37, u38, u39, u40, u41, u42, u43, u44, u45, u46, u47, u48, u49, u50, u51, u52, u53, u54, u55], []⟩ wr := by
  conv => arg 2; whnf
  have HA1 : Hid ((acceptS s bDOT st).1 = true) := by show _ = _; unfold acceptS; rw [if_pos hdot]
  have HAC := hide (acceptK_any wr HPX.out.ins bDOT)
  rw [HA1.out] at HAC
  unfold bDOT at HAC
  have HDA5 : Hid (DA d (acceptS s ⟨#[46]⟩ st).2) := acceptS_da HDA.out _
  have HAT5 : Hid (isAt (acceptS s ⟨#[46]⟩ st).2 → isAt st) := fun z => by
    have h1 : acceptS s bDOT st = (true, (takeS s 5 st).2) := by unfold acceptS; rw [if_pos hdot]
    rw [show (acceptS s ⟨#[46]⟩ st).2 = (takeS s 5 st).2 from congrArg (·.2) h1] at z
    exact (isAt.take z).1
  have HPJ5 : Hid (∃ m5, m5 < m ∧ pj s m5 (.placL (.fld e (takeS s 2 (acceptS s ⟨#[46]⟩ st).2).1.x e.l e.c)) (takeS s 2 (acceptS s ⟨#[46]⟩ st).2).2 = some RR) := by
    have h := HPJ.out
    cases m with
    | zero => unfold pj at h; cases h
    | succ m =>
      unfold pj at h
      rw [if_pos HA1.out] at h
      exact ⟨m, Nat.lt_succ_self m, h⟩
  clear HPJ HA1
  generalize (acceptS s ⟨#[46]⟩ st).2 = st5 at *
  go_upto_if 20 with (go_at_call 43; refine (HAC.out).mono ?_; rintro e w5 ⟨rfl, hex, hi⟩; have HEX := hide hex; have HI := hide hi; clear hex hi; simp only [])
  have hpw : p < w.heap.size := by have := HPX.out.hb; omega
  have HX5 := hide (HPX.out.call HEX.out HI.out)
  have HT5 : Hid (isAt st5 → ET w5 (DX w r0 r1) e f) := fun z => (HET.out (HAT5.out z)).dx HEX.out hpw
  clear HPX HET HEX HI HAC
  go_upto_region 4 with fail
  have HXd : Hid (PX B p a cp s w w5.drew r0 r1 st5 f) := HX5.out.low (Ex.refl _ _).drew
  have HTd : Hid (isAt st5 → ET w5.drew (DX w r0 r1) e f) := fun z => (HT5.out z).dlow (Ex.refl _ _).drew
  clear HX5 HT5
  have HIT : Hid (isAt (takeS s 2 st5).2 → isAt st5 ∧ (takeS s 2 st5).1 = tokS s st5 ∧ (tokS s st5).k = 2) := isAt.take
  have HDA6 : Hid (DA d (takeS s 2 st5).2) := takeS_da HDA5.out 2
  have HTK : Hid (∀ wz, InS B p a cp s wz st5 → Calls Try.prog 35 #[.pointer (some ⟨p, 0, none⟩), .int .i64 2] wz (StP B p a cp s wz (tkV (takeS s 2 st5).1) (takeS s 2 st5).2)) := fun wz hz => takeK_any wz hz 2 (by decide)
  generalize (takeS s 2 st5).2 = st6 at *
  generalize (takeS s 2 st5).1 = t2 at *
  have hfl := fun wz : World => fld81 t2 wz
  refine wp_region_until (fun w6 => XK w6 r1 f) 10 (by kernel_rfl) (HXd.out.te) (fun hHeld => ?_)
  generalize w5.drew = wd at *
  refine wpAnyU_take (i := 0) (v := ?_) [10] rfl (by kernel_rfl) (by kernel_rfl) (by kernel_rfl) (by kernel_rfl) (fun _ _ _ h => h) (Or.inl ⟨by rfl, ?_⟩) (by assumption) ?_
  rotate_left
  · (intro w hSw; (try dsimp only at hSw); (skip); go_simp; try (with_reducible rfl))
  try simp only [Act.put, List.getElem_toArray, List.getElem_cons_zero, List.getElem_cons_succ, List.setIfInBounds_toArray, List.set_cons_zero, List.set_cons_succ]
  refine wpAnyU_take (i := 3) (v := ?_) [10] rfl (by kernel_rfl) (by kernel_rfl) (by kernel_rfl) (by kernel_rfl) (fun _ _ _ h => h) (Or.inl ⟨by rfl, ?_⟩) (by assumption) ?_
  rotate_left
  · (intro w hSw; (try dsimp only at hSw); (have z0 := hSw.c0; have z1 := hSw.c1; have z2 := hSw.c2; have z3 := hSw.c3; have z4 := hSw.c4; have z5 := hSw.c5; have z6 := hSw.c6); go_simp; try (with_reducible rfl))
  try simp only [Act.put, List.getElem_toArray, List.getElem_cons_zero, List.getElem_cons_succ, List.setIfInBounds_toArray, List.set_cons_zero, List.set_cons_succ]
  refine wpAnyU_take (i := 5) (v := ?_) [10] rfl (by kernel_rfl) (by kernel_rfl) (by kernel_rfl) (by kernel_rfl) (fun _ _ _ h => h) (Or.inl ⟨by rfl, ?_⟩) (by assumption) ?_
  rotate_left
  · (intro w hSw; (try dsimp only at hSw); (skip); go_simp; try (with_reducible rfl))
  try simp only [Act.put, List.getElem_toArray, List.getElem_cons_zero, List.getElem_cons_succ, List.setIfInBounds_toArray, List.set_cons_zero, List.set_cons_succ]
  refine wpAnyU_take (i := 6) (v := ?_) [10] rfl (by kernel_rfl) (by kernel_rfl) (by kernel_rfl) (by kernel_rfl) (fun _ _ _ h => h) (Or.inl ⟨by rfl, ?_⟩) (by assumption) ?_
  rotate_left
  · (intro w hSw; (try dsimp only at hSw); (have z0 := hSw.c0; have z1 := hSw.c1; have z2 := hSw.c2; have z3 := hSw.c3; have z4 := hSw.c4; have z5 := hSw.c5; have z6 := hSw.c6); go_simp; try (with_reducible rfl))
  try simp only [Act.put, List.getElem_toArray, List.getElem_cons_zero, List.getElem_cons_succ, List.setIfInBounds_toArray, List.set_cons_zero, List.set_cons_succ]
  refine wpAnyU_take (i := 7) (v := ?_) [10] rfl (by kernel_rfl) (by kernel_rfl) (by kernel_rfl) (by kernel_rfl) (fun _ _ _ h => h) (Or.inl ⟨by rfl, ?_⟩) (by assumption) ?_
  rotate_left
  · (intro w hSw; (try dsimp only at hSw); (skip); go_simp; try (with_reducible rfl))
  try simp only [Act.put, List.getElem_toArray, List.getElem_cons_zero, List.getElem_cons_succ, List.setIfInBounds_toArray, List.set_cons_zero, List.set_cons_succ]
  refine wpAnyU_take (i := 8) (v := ?_) [10] rfl (by kernel_rfl) (by kernel_rfl) (by kernel_rfl) (by kernel_rfl) (fun _ _ _ h => h) (Or.inl ⟨by rfl, ?_⟩) (by assumption) ?_
  rotate_left
  · (intro w hSw; (try dsimp only at hSw); (have z0 := hSw.c0; have z1 := hSw.c1; have z2 := hSw.c2; have z3 := hSw.c3; have z4 := hSw.c4; have z5 := hSw.c5; have z6 := hSw.c6); go_simp; try (with_reducible rfl))
  try simp only [Act.put, List.getElem_toArray, List.getElem_cons_zero, List.getElem_cons_succ, List.setIfInBounds_toArray, List.set_cons_zero, List.set_cons_succ]
  refine wpAnyU_ready (rs := [1, 4]) (by kernel_rfl) (by simp) ?_
  refine (AllReadyU.cons rfl (fun K hK => ?_) (AllReadyU.cons rfl (fun K hK => ?_) AllReadyU.nil))
  · refine step_call rfl 35 #[.pointer (some ⟨p, 0, none⟩), .int .i64 2] (by simp [go_sem]) (HTK.out wd HXd.out.ins) ?_
    rintro e wc ⟨rfl, hex, hi⟩
    have HXc := hide (HXd.out.call hex hi)
    have HTc : Hid (isAt st6 → ET wc (DX w r0 r1) _ f) := fun z => (HTd.out (HIT.out z).1).dx hex hpw
    clear hex hi
    refine ⟨_, rfl, ?_⟩
    refine hK.out _ _ ?_ (fun hHeld => ?_)
    · exact HXc.out.te
    clear hK K
    try simp only [Act.put, List.getElem_toArray, List.getElem_cons_zero, List.getElem_cons_succ, List.setIfInBounds_toArray, List.set_cons_zero, List.set_cons_succ]
    refine wpAnyU_take (i := 2) (v := ?_) [10] rfl (by kernel_rfl) (by kernel_rfl) (by kernel_rfl) (by kernel_rfl) (fun _ _ _ h => h) (Or.inl ⟨by rfl, ?_⟩) (by assumption) ?_
    rotate_left
    · (intro w hSw; (try dsimp only at hSw); (have hfl2 := hfl); go_simp; try (with_reducible rfl))
    try simp only [Act.put, List.getElem_toArray, List.getElem_cons_zero, List.getElem_cons_succ, List.setIfInBounds_toArray, List.set_cons_zero, List.set_cons_succ]
    refine wpAnyU_ready (rs := [4]) (by kernel_rfl) (by simp) ?_
    refine (AllReadyU.cons rfl (fun K hK => ?_) AllReadyU.nil)
    · go_simp
      have HXa := hide (HXc.out.low ((Ex.refl (fun _ => False) wc).alloc (xO f)))
      have HTa : Hid (isAt st6 → ET (wc.alloc (xO f)) (DX w r0 r1) _ f) := fun z => (HTc.out z).dlow ((Ex.refl (fun _ => False) wc).alloc (xO f))
      have HGa : Hid (RC (wc.alloc (xO f)) wc.heap.size 0 f) := (XK.new wc f).rc
      have HGD : Hid (¬ DX w r0 r1 wc.heap.size) := by
        have h1 := HXc.out.lt
        have h2 := HXc.out.ge
        rintro (q | q | q) <;> omega
      obtain ⟨wa, hwa⟩ : ∃ x, wc.alloc (xO f) = x := ⟨_, rfl⟩
      rw [hwa] at HXa HTa HGa
      unfold xO at hwa
      rw [hwa]
      clear hwa
      generalize wc.heap.size = g at *
      refine hK.out _ _ ?_ (fun hHeld => ?_)
      · exact HXa.out.te
      clear hK K
      try simp only [Act.put, List.getElem_toArray, List.getElem_cons_zero, List.getElem_cons_succ, List.setIfInBounds_toArray, List.set_cons_zero, List.set_cons_succ]
      refine wpAnyU_take (i := 9) (v := ?_) [10] rfl (by kernel_rfl) (by kernel_rfl) (by kernel_rfl) (by kernel_rfl) (fun _ _ _ h => h) (Or.inl ⟨by rfl, ?_⟩) (by assumption) ?_
      rotate_left
      · (intro w hSw; (try dsimp only at hSw); (skip); go_simp; try (with_reducible rfl))
      try simp only [Act.put, List.getElem_toArray, List.getElem_cons_zero, List.getElem_cons_succ, List.setIfInBounds_toArray, List.set_cons_zero, List.set_cons_succ]
      refine wpAnyU_ready (rs := [10]) (by kernel_rfl) (by simp) ?_
      refine AllReadyU.last rfl (fun K hK => ?_)
      have Y0 := HXa.out.te.c0
      have Y1 := HXa.out.te.c1
      have Y2 := HXa.out.te.c2
      have Y3 := HXa.out.te.c3
      have Y4 := HXa.out.te.c4
      have Y5 := HXa.out.te.c5
      have Y6 := HXa.out.te.c6
      have YF0 := HXa.out.te.fz 0
      have YF1 := HXa.out.te.fz 1
      have YF2 := HXa.out.te.fz 2
      have YF3 := HXa.out.te.fz 3
      have YF4 := HXa.out.te.fz 4
      have YF5 := HXa.out.te.fz 5
      have YF6 := HXa.out.te.fz 6
      have HFIN := hide (HXa.out.growg HTa.out t2.x HGa.out HGD.out)
      unfold set7 nb at HFIN
      go_simp
      refine hK.out _ _ ?_
      clear hK K
      try simp only [Act.put, List.getElem_toArray, List.getElem_cons_zero, List.getElem_cons_succ, List.setIfInBounds_toArray, List.set_cons_zero, List.set_cons_succ]
      refine wpAnyU_done (by kernel_rfl) ?_ _
      generalize (((((((wa.setCell ⟨r1, 0, none⟩ (.int .i64 4)).setCell ⟨r1, 1, none⟩ (.string ⟨#[]⟩)).setCell ⟨r1, 2, none⟩ (.int .i64 0)).setCell ⟨r1, 3, none⟩ (.string t2.x)).setCell ⟨r1, 4, none⟩ (.slice (some ⟨g, 0, none⟩) 1 1)).setCell ⟨r1, 5, none⟩ (.int .i64 f.li)).setCell ⟨r1, 6, none⟩ (.int .i64 f.co)) = wf at *
      clear HXc HTc
      go_wp2
      obtain ⟨m5, hm5, hp5⟩ := HPJ5.out
      have hrel : PLR B p a cp s w r0 r1 N d RR wf m5 := ⟨_, st6, _, Nat.lt_trans hm5 HM.out, hp5, HDA6.out, HFIN.out.1, HFIN.out.2⟩
      exact ⟨⟨m5, hrel⟩, lm_lt hrel (by rw [HLM.out]; exact hm5)⟩
  · go_simp
    have HXa := hide (HXd.out.low ((Ex.refl (fun _ => False) wd).alloc (xO f)))
    have HTa : Hid (isAt st5 → ET (wd.alloc (xO f)) (DX w r0 r1) _ f) := fun z => (HTd.out z).dlow ((Ex.refl (fun _ => False) wd).alloc (xO f))
    have HGa : Hid (RC (wd.alloc (xO f)) wd.heap.size 0 f) := (XK.new wd f).rc
    have HGD : Hid (¬ DX w r0 r1 wd.heap.size) := by
      have h1 := HXd.out.lt
      have h2 := HXd.out.ge
      rintro (q | q | q) <;> omega
    obtain ⟨wa, hwa⟩ : ∃ x, wd.alloc (xO f) = x := ⟨_, rfl⟩
    rw [hwa] at HXa HTa HGa
    unfold xO at hwa
    rw [hwa]
    clear hwa
    generalize wd.heap.size = g at *
    refine hK.out _ _ ?_ (fun hHeld => ?_)
    · exact HXa.out.te
    clear hK K
    try simp only [Act.put, List.getElem_toArray, List.getElem_cons_zero, List.getElem_cons_succ, List.setIfInBounds_toArray, List.set_cons_zero, List.set_cons_succ]
    refine wpAnyU_ready (rs := [1]) (by kernel_rfl) (by simp) ?_
    refine (AllReadyU.cons rfl (fun K hK => ?_) AllReadyU.nil)
    · refine step_call rfl 35 #[.pointer (some ⟨p, 0, none⟩), .int .i64 2] (by simp [go_sem]) (HTK.out wa HXa.out.ins) ?_
      rintro e wc ⟨rfl, hex, hi⟩
      have HXc := hide (HXa.out.call hex hi)
      have HTc : Hid (isAt st6 → ET wc (DX w r0 r1) _ f) := fun z => (HTa.out (HIT.out z).1).dx hex hpw
      have HGc : Hid (RC wc g 0 f) := HGa.out.keep hex (fun z => HGD.out (.inl (by rw [show g = p from z]; exact hpw)))
      clear hex hi
      refine ⟨_, rfl, ?_⟩
      refine hK.out _ _ ?_ (fun hHeld => ?_)
      · exact HXc.out.te
      clear hK K
      try simp only [Act.put, List.getElem_toArray, List.getElem_cons_zero, List.getElem_cons_succ, List.setIfInBounds_toArray, List.set_cons_zero, List.set_cons_succ]
      refine wpAnyU_take (i := 2) (v := ?_) [10] rfl (by kernel_rfl) (by kernel_rfl) (by kernel_rfl) (by kernel_rfl) (fun _ _ _ h => h) (Or.inl ⟨by rfl, ?_⟩) (by assumption) ?_
      rotate_left
      · (intro w hSw; (try dsimp only at hSw); (have hfl2 := hfl); go_simp; try (with_reducible rfl))
      try simp only [Act.put, List.getElem_toArray, List.getElem_cons_zero, List.getElem_cons_succ, List.setIfInBounds_toArray, List.set_cons_zero, List.set_cons_succ]
      refine wpAnyU_take (i := 9) (v := ?_) [10] rfl (by kernel_rfl) (by kernel_rfl) (by kernel_rfl) (by kernel_rfl) (fun _ _ _ h => h) (Or.inl ⟨by rfl, ?_⟩) (by assumption) ?_
      rotate_left
      · (intro w hSw; (try dsimp only at hSw); (skip); go_simp; try (with_reducible rfl))
      try simp only [Act.put, List.getElem_toArray, List.getElem_cons_zero, List.getElem_cons_succ, List.setIfInBounds_toArray, List.set_cons_zero, List.set_cons_succ]
      refine wpAnyU_ready (rs := [10]) (by kernel_rfl) (by simp) ?_
      refine AllReadyU.last rfl (fun K hK => ?_)
      have Y0 := HXc.out.te.c0
      have Y1 := HXc.out.te.c1
      have Y2 := HXc.out.te.c2
      have Y3 := HXc.out.te.c3
      have Y4 := HXc.out.te.c4
      have Y5 := HXc.out.te.c5
      have Y6 := HXc.out.te.c6
      have YF0 := HXc.out.te.fz 0
      have YF1 := HXc.out.te.fz 1
      have YF2 := HXc.out.te.fz 2
      have YF3 := HXc.out.te.fz 3
      have YF4 := HXc.out.te.fz 4
      have YF5 := HXc.out.te.fz 5
      have YF6 := HXc.out.te.fz 6
      have HFIN := hide (HXc.out.growg HTc.out t2.x HGc.out HGD.out)
      unfold set7 nb at HFIN
      go_simp
      refine hK.out _ _ ?_
      clear hK K
      try simp only [Act.put, List.getElem_toArray, List.getElem_cons_zero, List.getElem_cons_succ, List.setIfInBounds_toArray, List.set_cons_zero, List.set_cons_succ]
      refine wpAnyU_done (by kernel_rfl) ?_ _
      generalize (((((((wc.setCell ⟨r1, 0, none⟩ (.int .i64 4)).setCell ⟨r1, 1, none⟩ (.string ⟨#[]⟩)).setCell ⟨r1, 2, none⟩ (.int .i64 0)).setCell ⟨r1, 3, none⟩ (.string t2.x)).setCell ⟨r1, 4, none⟩ (.slice (some ⟨g, 0, none⟩) 1 1)).setCell ⟨r1, 5, none⟩ (.int .i64 f.li)).setCell ⟨r1, 6, none⟩ (.int .i64 f.co)) = wf at *
      clear HXc HTc
      go_wp2
      obtain ⟨m5, hm5, hp5⟩ := HPJ5.out
      have hrel : PLR B p a cp s w r0 r1 N d RR wf m5 := ⟨_, st6, _, Nat.lt_trans hm5 HM.out, hp5, HDA6.out, HFIN.out.1, HFIN.out.2⟩
      exact ⟨⟨m5, hrel⟩, lm_lt hrel (by rw [HLM.out]; exact hm5)⟩
end
end Go.Proofs.Qxb6500774a
