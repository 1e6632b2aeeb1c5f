import Derived.Test.Qxb6500774aKj3
namespace Go.Proofs.Qxb6500774a
open Go.RowKit
set_option linter.unusedVariables false
set_option linter.unusedSimpArgs false

section
variable {B p : Nat} {a : Option Addr} {cp : Nat} {s : List Int}
theorem openS_lt {st : PSt} {d : Int} {u : ByteArray} (hat : atS s u st = true) (ho : (openS s st).1 = true) (h : DA d st) : d < 64 := by
  cases st with
  | «at» k e =>
    have h : e = d := h
    unfold openS at ho
    dsimp only at ho
    split at ho
    · cases ho
    · omega
  | bad e l c => cases hat
theorem isAt.pj {n : Nat} {j : Job} {st : PSt} {R : E × PSt} {d : Int} (h : pj s n j st = some R) (hd : DA d st) (h0 : 0 ≤ d ∧ d ≤ 64) (hR : isAt R.2) : isAt st := by
  cases st with
  | «at» k e => have hd : e = d := hd; show 0 ≤ e ∧ e ≤ 64; omega
  | bad e l c => rw [pj_bad s e l c n j R h] at hR; exact hR
theorem isAt.dec {st : PSt} {d : Int} (h : isAt (decS st)) (hd : DA (d + 1) st) (h0 : 0 ≤ d ∧ d < 64) : isAt st := by
  cases st with
  | «at» k e => have hd : e = d + 1 := hd; show 0 ≤ e ∧ e ≤ 64; omega
  | bad e l c => exact h
theorem PX.growi {w0 w : World} {r0 r1 : Nat} {st : PSt} {f f2 : XP} {e i : E} (h : PX B p a cp s w0 w r0 r1 st f) (ht : isAt st → ET w (DX w0 r0 r1) e f) (hi : isAt st → ET w (DX w0 r0 r1) i f2) {g : Nat} (hg : RC w g 0 f) (hg2 : RC w g 7 f2) (hd : ¬ DX w0 r0 r1 g) :
    PX B p a cp s w0 (set7 w r1 ⟨5, nb, 0, nb, some ⟨g, 0, none⟩, 2, 2, f.li, f.co⟩) r0 r1 st ⟨5, nb, 0, nb, some ⟨g, 0, none⟩, 2, 2, f.li, f.co⟩ ∧ (isAt st → ET (set7 w r1 ⟨5, nb, 0, nb, some ⟨g, 0, none⟩, 2, 2, f.li, f.co⟩) (DX w0 r0 r1) (.idx e i e.l e.c) ⟨5, nb, 0, nb, some ⟨g, 0, none⟩, 2, 2, f.li, f.co⟩) := by
  refine ⟨h.put _, fun z => ?_⟩
  have t1 := ht z
  have ex := ex_set7 w r1 ⟨5, nb, 0, nb, some ⟨g, 0, none⟩, 2, 2, f.li, f.co⟩
  exact ⟨g, f, f2, by rw [t1.lc.1, t1.lc.2], ⟨by rw [set7_size]; exact World.block_lt_of_cell? _ _ hg.c0, hd⟩, hg.keep ex (fun z => hd (.inr (.inr z))), hg2.keep ex (fun z => hd (.inr (.inr z))), t1.ds ex, (hi z).ds ex⟩
def xO2 (e f : XP) : Obj := .cells #[.int .i64 e.k, .string e.x, .int .i64 e.n, .string e.m, .slice e.q e.ql e.qc, .int .i64 e.li, .int .i64 e.co, .int .i64 f.k, .string f.x, .int .i64 f.n, .string f.m, .slice f.q f.ql f.qc, .int .i64 f.li, .int .i64 f.co] 47
theorem RC.new2 (w : World) (e f : XP) : RC (w.alloc (xO2 e f)) w.heap.size 0 e ∧ RC (w.alloc (xO2 e f)) w.heap.size 7 f := by
  have n := fun j u h => new_cells w [.int .i64 e.k, .string e.x, .int .i64 e.n, .string e.m, .slice e.q e.ql e.qc, .int .i64 e.li, .int .i64 e.co, .int .i64 f.k, .string f.x, .int .i64 f.n, .string f.m, .slice f.q f.ql f.qc, .int .i64 f.li, .int .i64 f.co] 47 j u h
  exact ⟨⟨n 0 _ rfl, n 1 _ rfl, n 2 _ rfl, n 3 _ rfl, n 4 _ rfl, n 5 _ rfl, n 6 _ rfl⟩, ⟨n 7 _ rfl, n 8 _ rfl, n 9 _ rfl, n 10 _ rfl, n 11 _ rfl, n 12 _ rfl, n 13 _ rfl⟩⟩
set_option linter.unusedSimpArgs false in
set_option linter.unusedVariables false in
set_option maxRecDepth 100000 in
set_option maxHeartbeats 32000000 in
theorem pl_idx (w wr : World) (r0 r1 N m : Nat) (d : Int) (RR : E × PSt) (e : E) (st : PSt) (f : XP) (HM : Hid (m < N)) (HPJ : Hid (pj s m (.placL e) st = some RR)) (HDA : Hid (DA d st)) (HPX : Hid (PX B p a cp s w wr r0 r1 st f)) (HET : Hid (isAt st → ET wr (DX w r0 r1) e f)) (HLM : Hid (lm (PLR B p a cp s w r0 r1 N d RR wr) = m)) (HEE : Hid (EX1 B p a cp s N)) (HD0 : Hid (0 ≤ d ∧ d ≤ 64)) (st6 : PSt) (hdot : atS s bDOT st = false) (hbra : atS s bBRA st = true) (hos : openS s st = (true, st6)) (v4 v5 v6 v7 v8 v9 v10 v11 v12 v13 v14 v15 v16 v17 v18 u19 u20 u21 u22 u23 u24 u25 u26 u27 u28 u29 u30 u31 u32 u33 u34 u35 u36 u37 u38 u39 u40 u41 u42 u43 u44 u45 u46 u47 u48 u49 u50 u51 u52 u53 u54 u55 : Value) :
    Code.wp Try.prog ob93 (Exit.then (fun a' w' => (∃ (u19 u20 u21 u22 u23 u24 u25 u26 u27 u28 u29 u30 u31 u32 u33 u34 u35 u36 u37 u38 u39 u40 u41 u42 u43 u44 u45 u46 u47 u48 u49 u50 u51 u52 u53 u54 u55 : Value), (∃ m, PLR B p a cp s w r0 r1 N d RR w' m) ∧ a' = ⟨#[Value.pointer (some ⟨p, 0, none⟩), undef, Value.pointer (some ⟨r0, 0, none⟩), Value.pointer (some ⟨r1, 0, none⟩), v4, v5, v6, v7, v8, v9, v10, v11, v12, v13, v14, v15, v16, v17, v18, u19, u20, u21, u22, u23, u24, u25, u26, u27, u28, u29, u30, u31, u32, u33, u34, u35, u36, u37, u38, u39, u40, u41, u42, u43, u44, u45, u46, u47, u48, u49, u50, u51, u52, u53, u54, u55], []⟩) ∧ lm (PLR B p a cp s w r0 r1 N d RR w') < lm (PLR B p a cp s w r0 r1 N d RR wr)) (Exit.inBlock 0 (bodyPost Try.prog Try.f93 (XPost B p a cp s w RR)))) ⟨#[Value.pointer (some ⟨p, 0, none⟩), undef, Value.pointer (some ⟨r0, 0, none⟩), Value.pointer (some ⟨r1, 0, none⟩), v4, v5, v6, v7, v8, v9, v10, v11, v12, v13, v14, v15, v16, v17, v18, u19, u20, u21, u22, u23, u24, u25, u26, u27, u28, u29, u30, u31, u32, u33, u34, u35, u36, u37, u38, u39, u40, u41, u42, u43, u44, u45, u46, u47, u48, u49, u50, u51, u52, u53, u54, u55], []⟩ wr := by
  conv => arg 2; whnf
  have HAC := hide (acceptK_any wr HPX.out.ins bDOT)
  rw [show acceptS s bDOT st = (false, st) by unfold acceptS; rw [if_neg (by rw [hdot]; decide)]] at HAC
  unfold bDOT at HAC
  have HOS : Hid (openS s st = (true, st6)) := hos
  have HDL : Hid (d < 64) := openS_lt hbra (by rw [HOS.out]) HDA.out
  have HDA6 : Hid (DA (d + 1) st6) := by
    have h := (openS_da HDA.out).1 (by rw [HOS.out])
    rw [HOS.out] at h
    exact h
  have HAT6 : Hid (isAt st6 → isAt st) := fun _ => by
    have h0 := HD0.out
    have h1 := HDA.out
    cases st with
    | «at» k e => have h1 : e = d := h1; show 0 ≤ e ∧ e ≤ 64; omega
    | bad e l c => cases hbra
  obtain ⟨i, st7, m5, hm5, hi5, hp5⟩ : ∃ i st7 m5, m5 < m ∧ pj s m5 (.expr 1) st6 = some (i, st7) ∧ pj s m5 (.placL (.idx e i e.l e.c)) (expectS s bKET (decS st7)) = some RR := by
    have h := HPJ.out
    cases m with
    | zero => unfold pj at h; cases h
    | succ m =>
      unfold pj at h
      rw [if_neg (by unfold acceptS; rw [if_neg (by rw [hdot]; decide)]; simp), if_pos hbra, if_pos (by rw [HOS.out]), HOS.out] at h
      dsimp only at h
      split at h
      · cases h
      · next i st7 h7 => exact ⟨i, st7, m, Nat.lt_succ_self m, h7, h⟩
  have HM5 := hide hm5
  have HI5 := hide hi5
  have HP5 := hide hp5
  have HAT7 : Hid (isAt st7 → isAt st6) := fun z => isAt.pj HI5.out HDA6.out (by have := HD0.out; have := HDL.out; omega) z
  have HDA7 : Hid (DA (d + 1) st7) := pj_da s _ _ _ _ _ HI5.out HDA6.out
  have HEX1 : Hid (∀ wz, InS B p a cp s wz st6 → Calls Try.prog 44 #[.pointer (some ⟨p, 0, none⟩), .int .i64 1] wz (XPost B p a cp s wz (i, st7))) := fun wz hz => HEE.out m5 (Nat.lt_trans HM5.out HM.out) st6 (i, st7) wz HI5.out hz (HDA6.out.ok (by have := HD0.out; have := HDL.out; omega))
  clear HPJ hos hm5 hi5 hp5 HEE
  go_upto_if 36 with (first | (go_at_call 43; refine (HAC.out).mono ?_; rintro e w5 ⟨rfl, hex, hi⟩; have HEX := hide hex; have HI := hide hi; clear hex hi; have HX5 := hide (HPX.out.call HEX.out HI.out); have HAT := hide (atK_any w5 HX5.out.ins ⟨#[91]⟩); have HOP := hide (openK_st HX5.out.ins HDA.out HD0.out hbra); rw [show atS s ⟨#[91]⟩ st = true from hbra] at HAT; rw [HOS.out] at HOP; simp only []) | (go_at_call 72; refine (HAT.out).mono ?_; rintro e wq ⟨rfl, rfl⟩; simp only []) | (go_at_call 94; refine (HOP.out).mono ?_; rintro e w6 ⟨rfl, hex, hi⟩; have HEX6 := hide hex; have HI6 := hide hi; clear hex hi; simp only []))
  have hpw : p < w.heap.size := by have := HPX.out.hb; omega
  have HX6 := hide (HX5.out.call HEX6.out HI6.out)
  have HT6 : Hid (isAt st6 → ET w6 (DX w r0 r1) e f) := fun z => ((HET.out (HAT6.out z)).dx HEX.out hpw).dx HEX6.out hpw
  clear HPX HET HEX HI HAC HX5 HEX6 HI6 HOP HAT
  go_upto_region 6 with fail
  have HXd : Hid (PX B p a cp s w w6.drew r0 r1 st6 f) := HX6.out.low (Ex.refl _ _).drew
  have HTd : Hid (isAt st6 → ET w6.drew (DX w r0 r1) e f) := fun z => (HT6.out z).dlow (Ex.refl _ _).drew
  clear HX6 HT6
  refine wp_region_until (fun w6 => XK w6 r1 f) 9 (by kernel_rfl) (HXd.out.te) (fun hHeld => ?_)
  generalize w6.drew = wd at *
  refine wpAnyU_take (i := 0) (v := ?_) [9] rfl (by kernel_rfl) (by kernel_rfl) (by kernel_rfl) (by kernel_rfl) (fun _ _ _ h => h) (Or.inl ⟨by rfl, ?_⟩) (by assumption) ?_
  rotate_left
  · (intro w hSw; (try dsimp only at hSw); (have z0 := hSw.c0; have z1 := hSw.c1; have z2 := hSw.c2; have z3 := hSw.c3; have z4 := hSw.c4; have z5 := hSw.c5; have z6 := hSw.c6); go_simp; try (with_reducible rfl))
  try simp only [Act.put, List.getElem_toArray, List.getElem_cons_zero, List.getElem_cons_succ, List.setIfInBounds_toArray, List.set_cons_zero, List.set_cons_succ]
  refine wpAnyU_take (i := 1) (v := ?_) [9] rfl (by kernel_rfl) (by kernel_rfl) (by kernel_rfl) (by kernel_rfl) (fun _ _ _ h => h) (Or.inl ⟨by rfl, ?_⟩) (by assumption) ?_
  rotate_left
  · (intro w hSw; (try dsimp only at hSw); (skip); go_simp; try (with_reducible rfl))
  try simp only [Act.put, List.getElem_toArray, List.getElem_cons_zero, List.getElem_cons_succ, List.setIfInBounds_toArray, List.set_cons_zero, List.set_cons_succ]
  refine wpAnyU_take (i := 4) (v := ?_) [9] rfl (by kernel_rfl) (by kernel_rfl) (by kernel_rfl) (by kernel_rfl) (fun _ _ _ h => h) (Or.inl ⟨by rfl, ?_⟩) (by assumption) ?_
  rotate_left
  · (intro w hSw; (try dsimp only at hSw); (skip); go_simp; try (with_reducible rfl))
  try simp only [Act.put, List.getElem_toArray, List.getElem_cons_zero, List.getElem_cons_succ, List.setIfInBounds_toArray, List.set_cons_zero, List.set_cons_succ]
  refine wpAnyU_take (i := 5) (v := ?_) [9] rfl (by kernel_rfl) (by kernel_rfl) (by kernel_rfl) (by kernel_rfl) (fun _ _ _ h => h) (Or.inl ⟨by rfl, ?_⟩) (by assumption) ?_
  rotate_left
  · (intro w hSw; (try dsimp only at hSw); (have z0 := hSw.c0; have z1 := hSw.c1; have z2 := hSw.c2; have z3 := hSw.c3; have z4 := hSw.c4; have z5 := hSw.c5; have z6 := hSw.c6); go_simp; try (with_reducible rfl))
  try simp only [Act.put, List.getElem_toArray, List.getElem_cons_zero, List.getElem_cons_succ, List.setIfInBounds_toArray, List.set_cons_zero, List.set_cons_succ]
  refine wpAnyU_take (i := 6) (v := ?_) [9] rfl (by kernel_rfl) (by kernel_rfl) (by kernel_rfl) (by kernel_rfl) (fun _ _ _ h => h) (Or.inl ⟨by rfl, ?_⟩) (by assumption) ?_
  rotate_left
  · (intro w hSw; (try dsimp only at hSw); (skip); go_simp; try (with_reducible rfl))
  try simp only [Act.put, List.getElem_toArray, List.getElem_cons_zero, List.getElem_cons_succ, List.setIfInBounds_toArray, List.set_cons_zero, List.set_cons_succ]
  refine wpAnyU_take (i := 7) (v := ?_) [9] rfl (by kernel_rfl) (by kernel_rfl) (by kernel_rfl) (by kernel_rfl) (fun _ _ _ h => h) (Or.inl ⟨by rfl, ?_⟩) (by assumption) ?_
  rotate_left
  · (intro w hSw; (try dsimp only at hSw); (have z0 := hSw.c0; have z1 := hSw.c1; have z2 := hSw.c2; have z3 := hSw.c3; have z4 := hSw.c4; have z5 := hSw.c5; have z6 := hSw.c6); go_simp; try (with_reducible rfl))
  try simp only [Act.put, List.getElem_toArray, List.getElem_cons_zero, List.getElem_cons_succ, List.setIfInBounds_toArray, List.set_cons_zero, List.set_cons_succ]
  refine wpAnyU_ready (rs := [2]) (by kernel_rfl) (by simp) ?_
  refine (AllReadyU.cons rfl (fun K hK => ?_) AllReadyU.nil)
  · refine step_call rfl 44 #[.pointer (some ⟨p, 0, none⟩), .int .i64 1] (by simp [go_sem]) (HEX1.out wd HXd.out.ins) ?_
    rintro e wc ⟨f2, rfl, hex, hi, hti⟩
    have HXc := hide (HXd.out.call hex hi)
    have HTc : Hid (isAt st7 → ET wc (DX w r0 r1) _ f) := fun z => (HTd.out (HAT7.out z)).dx hex hpw
    have HIc : Hid (isAt st7 → ET wc (DX w r0 r1) i f2) := fun z => (hti z).keep (Ex.refl (fun _ => False) _) (fun _ z => z.elim) (fun g z => .inl (by have h1 := HXd.out.lt; have h2 := HXd.out.ex.size; rcases z with z | z | z <;> omega))
    clear hex hi hti
    refine ⟨_, rfl, ?_⟩
    unfold xV
    refine hK.out _ _ ?_ (fun hHeld => ?_)
    · exact HXc.out.te
    clear hK K
    try simp only [Act.put, List.getElem_toArray, List.getElem_cons_zero, List.getElem_cons_succ, List.setIfInBounds_toArray, List.set_cons_zero, List.set_cons_succ]
    refine wpAnyU_ready (rs := [3]) (by kernel_rfl) (by simp) ?_
    refine (AllReadyU.cons rfl (fun K hK => ?_) AllReadyU.nil)
    · go_simp
      have HXa := hide (HXc.out.low ((Ex.refl (fun _ => False) wc).alloc (xO2 f f2)))
      have HTa : Hid (isAt st7 → ET (wc.alloc (xO2 f f2)) (DX w r0 r1) _ f) := fun z => (HTc.out z).dlow ((Ex.refl (fun _ => False) wc).alloc (xO2 f f2))
      have HIa : Hid (isAt st7 → ET (wc.alloc (xO2 f f2)) (DX w r0 r1) i f2) := fun z => (HIc.out z).dlow ((Ex.refl (fun _ => False) wc).alloc (xO2 f f2))
      have HGa := hide (RC.new2 wc f f2)
      have HGD : Hid (¬ DX w r0 r1 wc.heap.size) := by
        have h1 := HXc.out.lt
        have h2 := HXc.out.ge
        rintro (q | q | q) <;> omega
      obtain ⟨wa, hwa⟩ : ∃ x, wc.alloc (xO2 f f2) = x := ⟨_, rfl⟩
      rw [hwa] at HXa HTa HGa HIa
      unfold xO2 at hwa
      rw [hwa]
      clear hwa HXc HTc HIc
      generalize wc.heap.size = g at *
      refine hK.out _ _ ?_ (fun hHeld => ?_)
      · exact HXa.out.te
      clear hK K
      try simp only [Act.put, List.getElem_toArray, List.getElem_cons_zero, List.getElem_cons_succ, List.setIfInBounds_toArray, List.set_cons_zero, List.set_cons_succ]
      refine wpAnyU_take (i := 8) (v := ?_) [9] rfl (by kernel_rfl) (by kernel_rfl) (by kernel_rfl) (by kernel_rfl) (fun _ _ _ h => h) (Or.inl ⟨by rfl, ?_⟩) (by assumption) ?_
      rotate_left
      · (intro w hSw; (try dsimp only at hSw); (skip); go_simp; try (with_reducible rfl))
      try simp only [Act.put, List.getElem_toArray, List.getElem_cons_zero, List.getElem_cons_succ, List.setIfInBounds_toArray, List.set_cons_zero, List.set_cons_succ]
      refine wpAnyU_ready (rs := [9]) (by kernel_rfl) (by simp) ?_
      refine AllReadyU.last rfl (fun K hK => ?_)
      have Y0 := HXa.out.te.c0
      have Y1 := HXa.out.te.c1
      have Y2 := HXa.out.te.c2
      have Y3 := HXa.out.te.c3
      have Y4 := HXa.out.te.c4
      have Y5 := HXa.out.te.c5
      have Y6 := HXa.out.te.c6
      have YF0 := HXa.out.te.fz 0
      have YF1 := HXa.out.te.fz 1
      have YF2 := HXa.out.te.fz 2
      have YF3 := HXa.out.te.fz 3
      have YF4 := HXa.out.te.fz 4
      have YF5 := HXa.out.te.fz 5
      have YF6 := HXa.out.te.fz 6
      have HFIN := hide (HXa.out.growi HTa.out HIa.out HGa.out.1 HGa.out.2 HGD.out)
      unfold set7 nb at HFIN
      go_simp
      refine hK.out _ _ ?_
      clear hK K
      try simp only [Act.put, List.getElem_toArray, List.getElem_cons_zero, List.getElem_cons_succ, List.setIfInBounds_toArray, List.set_cons_zero, List.set_cons_succ]
      refine wpAnyU_done (by kernel_rfl) ?_ _
      generalize (((((((wa.setCell ⟨r1, 0, none⟩ (.int .i64 5)).setCell ⟨r1, 1, none⟩ (.string ⟨#[]⟩)).setCell ⟨r1, 2, none⟩ (.int .i64 0)).setCell ⟨r1, 3, none⟩ (.string ⟨#[]⟩)).setCell ⟨r1, 4, none⟩ (.slice (some ⟨g, 0, none⟩) 2 2)).setCell ⟨r1, 5, none⟩ (.int .i64 f.li)).setCell ⟨r1, 6, none⟩ (.int .i64 f.co)) = wf at *
      clear Y0 YF0 Y1 YF1 Y2 YF2 Y3 YF3 Y4 YF4 Y5 YF5 Y6 YF6 HXa HTa HIa HGa HGD
      obtain ⟨dd, hc10, hf10, hi8⟩ := HFIN.out.1.ins.dec HDA7.out HD0.out
      rw [show IntKind.i64.wrap (dd - 1) = wrap64 (dd - 1) by unfold wrap64; exact IntKind.wrap_i64 _] at hi8
      have HX8 := hide (HFIN.out.1.call ((Ex.refl (fun k => k = p) wf).set (p := p) rfl (.int .i64 (wrap64 (dd - 1)))) hi8)
      have HT8 : Hid (isAt st7 → ET (wf.setCell ⟨p, 10, none⟩ (.int .i64 (wrap64 (dd - 1)))) (DX w r0 r1) _ _) := fun z => (HFIN.out.2 z).dx ((Ex.refl (fun k => k = p) wf).set (p := p) rfl _) hpw
      have HPB : Hid (p < B) := HX8.out.hb.2
      clear hi8 HFIN
      go_upto_region 8 with fail
      generalize wf.setCell ⟨p, 10, none⟩ (.int .i64 (wrap64 (dd - 1))) = w8 at *
      clear hc10 hf10
      have HXP := hide (expectK_any w8 HX8.out.ins bKET)
      have HDA9 : Hid (DA d (expectS s bKET (decS st7))) := expectS_da (decS_da HDA7.out) _
      have HAT9 : Hid (isAt (expectS s bKET (decS st7)) → isAt st7) := fun z => isAt.dec (isAt.ex z) HDA7.out ⟨HD0.out.1, HDL.out⟩
      generalize expectS s bKET (decS st7) = st9 at *
      unfold bKET at HXP
      go_wp2_with (go_at_call 34; refine (HXP.out).mono ?_; rintro e w9 ⟨rfl, hex, hi⟩; have HEX9 := hide hex; have HI9 := hide hi; clear hex hi; simp only [])
      have hrel : PLR B p a cp s w r0 r1 N d RR w9 m5 := ⟨_, st9, _, Nat.lt_trans HM5.out HM.out, HP5.out, HDA9.out, HX8.out.call HEX9.out HI9.out, fun z => (HT8.out (HAT9.out z)).dx HEX9.out hpw⟩
      exact ⟨⟨m5, hrel⟩, lm_lt hrel (by rw [HLM.out]; exact HM5.out)⟩
end
end Go.Proofs.Qxb6500774a
