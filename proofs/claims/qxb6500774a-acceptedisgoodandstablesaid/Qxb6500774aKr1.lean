import Derived.Test.Qxb6500774aKq1
namespace Go.Proofs.Qxb6500774a
open Go.RowKit
set_option linter.unusedVariables false
set_option linter.unusedSimpArgs false

section
variable {B p : Nat} {a : Option Addr} {cp : Nat} {s : List Int}
/-- what a call of stmts leaves -/
def LPost (B p : Nat) (a : Option Addr) (cp : Nat) (s : List Int) (w : World) (R : S × PSt) (e : Ending) (w' : World) : Prop := ∃ v : SLc, e = .returned (slV v) ∧ Ex (fun k => k = p) w w' ∧ InS B p a cp s w' R.2 ∧ (isAt R.2 → ∃ F, RW w' (fun k => k < w.heap.size) F v ∧ SS w' (fun k => k < w.heap.size) R.1 false F)
/-- lists of statements, with fuel below N -/
def STK (B p : Nat) (a : Option Addr) (cp : Nat) (s : List Int) (N : Nat) : Prop := ∀ m, m < N → ∀ (st : PSt) (R : S × PSt) (w : World), ps s m .stmts st = some R → InS B p a cp s w st → DOk st → Calls Try.prog 37 #[.pointer (some ⟨p, 0, none⟩)] w (LPost B p a cp s w R)
theorem kn_net2 (g : Nat) (f1 f2 : XP) (e1 e2 : E) (P0 : Prop) : KN (fun w D => (RC w g 0 f1 ∧ RC w g 7 f2 ∧ (g < w.heap.size ∧ ¬ D g)) ∧ (P0 → ET w D e1 f1 ∧ ET w D e2 f2)) := fun _ _ _ _ _ ex hS hD h =>
  have h2 := okD ex hS hD h.1.2.2
  ⟨⟨h.1.1.keep ex h2.2, h.1.2.1.keep ex h2.2, h2.1⟩, fun z => ⟨(h.2 z).1.keep ex hS hD, (h.2 z).2.keep ex hS hD⟩⟩
set_option linter.unusedSimpArgs false in
set_option linter.unusedVariables false in
set_option maxRecDepth 100000 in
set_option maxHeartbeats 32000000 in
theorem forK (N : Nat) (hN : N ≤ 4294967296) (hST : STK B p a cp s N) (l c : Int) (st : PSt) (RR : S × PSt) (w : World) (q : Nat) (hpj : ps s N (.fors l c) st = some RR) (hin : InS B p a cp s w st) (d : Int) (hd0 : 0 ≤ d ∧ d ≤ 64) (hda : DA d st) (hat : atS s bFOR st = true) (hsk : SK w q ⟨0, nb, nl, nl, nl, nl, nl, nl, l, c⟩) (hq : B ≤ q) :
    Calls Try.prog 75 #[.pointer (some ⟨p, 0, none⟩), .pointer (some ⟨q, 0, none⟩)] w (StPost B p q a cp s w RR) := by
  have HD0 := hide hd0
  have HDA := hide hda
  have hb := hin.hB
  have HB : Hid (B ≤ q ∧ q < w.heap.size ∧ p < B ∧ B ≤ w.heap.size) := ⟨hq, hsk.lt, hb.2, hb.1⟩
  have HX0 : Hid (SX B p a cp s w w q st ⟨0, nb, nl, nl, nl, nl, nl, nl, l, c⟩) := ⟨hin, Ex.refl _ _, hsk, HB.out⟩
  have HAT := hide hat
  have HPJ := hide hpj
  clear hpj hin hd0 hda hsk hq hN hb hat
  have y0 := HX0.out.te.c0
  have yf0 := HX0.out.te.fz 0
  go_enter Try.func75, Try.ntmps75
  go_upto_region 1 with fail
  have HX1 := hide (HX0.out.set (HX0.out.te.put0 3))
  dsimp only at HX1
  clear HX0 y0 yf0
  generalize w.setCell ⟨q, 0, none⟩ (.int .i64 3) = w1 at *
  have HOP := hide (openK_st HX1.out.ins HDA.out HD0.out HAT.out)
  obtain ⟨bo, st1, hos⟩ : ∃ b x, openS s st = (b, x) := ⟨_, _, rfl⟩
  have HOS := hide hos
  clear hos
  rw [HOS.out] at HOP
  cases bo
  · have HRR : Hid ((.nil, st1) = RR) := by
      have hpj := HPJ.out
      cases N with
      | zero => unfold ps at hpj; cases hpj
      | succ m =>
        unfold ps at hpj
        rw [if_neg (by rw [HOS.out]; exact Bool.false_ne_true), HOS.out] at hpj
        injection hpj
    have HB6 : Hid (isB st1) := by
      have h := (openS_da HDA.out).2 (by rw [HOS.out]; exact Bool.false_ne_true)
      rw [HOS.out] at h
      exact h
    clear HPJ
    go_wp2_with fail
    refine HOP.out.mono ?_
    rintro e9 w2 ⟨rfl, hex, hi⟩
    have HX2 := hide (HX1.out.call hex hi)
    clear hex hi HX1 HOP
    simp only []
    have HF : Hid (StPost B p q a cp s w RR (.returned (.tuple #[])) w2) := by
      rw [← HRR.out]
      exact HX2.out.fin (fun z => absurd HB6.out z.nb)
    clear HX2
    go_wp2
    exact bodyPost_ret (v := .tuple #[]) (by simp [results, Try.results75]) rfl HF.out
  have HDL : Hid (d < 64) := openS_lt HAT.out (by rw [HOS.out]) HDA.out
  have HDA1 : Hid (DA (d + 1) st1) := by
    have h := (openS_da HDA.out).1 (by rw [HOS.out])
    rw [HOS.out] at h
    exact h
  have HD1 : Hid (0 ≤ d + 1 ∧ d + 1 ≤ 64) := by have := HD0.out; have := HDL.out; exact ⟨by omega, by omega⟩
  obtain ⟨m, e1, st4, e2, st6, L, st8, hm, hp1, hp2, hp3, hrr⟩ : ∃ m e1 st4 e2 st6 L st8, m < N ∧ pj s m (.expr 1) (expectS s bASG (takeS s 2 st1).2) = some (e1, st4) ∧ pj s m (.expr 1) (expectS s bTO st4) = some (e2, st6) ∧ ps s m .stmts (expectS s bDO st6) = some (L, st8) ∧ (.fr (takeS s 2 st1).1.x e1 e2 L l c .nil, expectS s bEFR (decS st8)) = RR := by
    have hpj := HPJ.out
    cases N with
    | zero => unfold ps at hpj; cases hpj
    | succ m =>
      unfold ps at hpj
      rw [if_pos (by rw [HOS.out]), HOS.out] at hpj
      dsimp only at hpj
      split at hpj
      · cases hpj
      · next e1 st4 h1 =>
        split at hpj
        · cases hpj
        · next e2 st6 h2 =>
          split at hpj
          · cases hpj
          · next L st8 h3 => injection hpj with hpj; exact ⟨m, e1, st4, e2, st6, L, st8, Nat.lt_succ_self m, h1, h2, h3, hpj⟩
  have HDA3 : Hid (DA (d + 1) (expectS s bASG (takeS s 2 st1).2)) := expectS_da (takeS_da HDA1.out 2) _
  have HDA4 : Hid (DA (d + 1) st4) := pj_da s _ _ _ _ _ hp1 HDA3.out
  have HDA5 : Hid (DA (d + 1) (expectS s bTO st4)) := expectS_da HDA4.out _
  have HDA6 : Hid (DA (d + 1) st6) := pj_da s _ _ _ _ _ hp2 HDA5.out
  have HDA7 : Hid (DA (d + 1) (expectS s bDO st6)) := expectS_da HDA6.out _
  have HDA8 : Hid (DA (d + 1) st8) := ps_da s _ _ _ _ _ hp3 HDA7.out
  have HA5 : Hid (isAt (expectS s bTO st4) → isAt st4) := isAt.ex
  have HA6 : Hid (isAt st6 → isAt (expectS s bTO st4)) := fun z => isAt.pj hp2 HDA5.out HD1.out z
  have HA7 : Hid (isAt (expectS s bDO st6) → isAt st6) := isAt.ex
  have HA8 : Hid (isAt st8 → isAt (expectS s bDO st6)) := fun z => isAt.ps hp3 HDA7.out HD1.out z
  have HA9 : Hid (isAt (expectS s bEFR (decS st8)) → isAt st8) := fun z => isAt.dec (isAt.ex z) HDA8.out ⟨HD0.out.1, HDL.out⟩
  have HC4 : Hid (∀ wz, InS B p a cp s wz (expectS s bASG (takeS s 2 st1).2) → Calls Try.prog 44 #[.pointer (some ⟨p, 0, none⟩), .int .i64 1] wz (XPost B p a cp s wz (e1, st4))) := fun wz hz => expr_any wz hp1 hz (HDA3.out.ok HD1.out)
  have HC6 : Hid (∀ wz, InS B p a cp s wz (expectS s bTO st4) → Calls Try.prog 44 #[.pointer (some ⟨p, 0, none⟩), .int .i64 1] wz (XPost B p a cp s wz (e2, st6))) := fun wz hz => expr_any wz hp2 hz (HDA5.out.ok HD1.out)
  have HC8 : Hid (∀ wz, InS B p a cp s wz (expectS s bDO st6) → Calls Try.prog 37 #[.pointer (some ⟨p, 0, none⟩)] wz (LPost B p a cp s wz (L, st8))) := fun wz hz => hST m hm _ _ wz hp3 hz (HDA7.out.ok HD1.out)
  have HRR := hide hrr
  have HE2 : Hid (∀ wz, InS B p a cp s wz st1 → _) := fun wz hz => takeK_any wz hz 2 (by decide)
  have HE3 : Hid (∀ wz, InS B p a cp s wz (takeS s 2 st1).2 → _) := fun wz hz => expectK_any wz hz bASG
  have HE5 : Hid (∀ wz, InS B p a cp s wz st4 → _) := fun wz hz => expectK_any wz hz bTO
  have HE7 : Hid (∀ wz, InS B p a cp s wz st6 → _) := fun wz hz => expectK_any wz hz bDO
  have HE9 : Hid (∀ wz, InS B p a cp s wz (decS st8) → _) := fun wz hz => expectK_any wz hz bEFR
  clear hp1 hp2 hp3 hrr hm HPJ hST HDA3 HDA4 HDA5 HDA6 HDA7 HOS HDA HDA1
  generalize expectS s bASG (takeS s 2 st1).2 = st3 at *
  generalize (takeS s 2 st1).2 = st2 at *
  generalize (takeS s 2 st1).1 = ty at *
  generalize expectS s bTO st4 = st5 at *
  generalize expectS s bDO st6 = st7 at *
  generalize expectS s bEFR (decS st8) = st9 at *
  unfold bASG at HE3
  unfold bTO at HE5
  unfold bDO at HE7
  unfold bEFR at HE9
  obtain ⟨y, hy⟩ : ∃ y, ty.x = y := ⟨_, rfl⟩
  rw [hy] at HRR
  go_upto_region 2 with (go_at_call 94; refine HOP.out.mono ?_; rintro e9 w2 ⟨rfl, hex, hi⟩; have HEX := hide hex; have HI := hide hi; clear hex hi; simp only [])
  have HX2 := hide (HX1.out.call HEX.out HI.out)
  clear HX1 HEX HI HOP
  go_wp2_with fail
  refine (HE2.out w2 HX2.out.ins).mono ?_
  rintro e9 w3 ⟨rfl, hex, hi⟩
  have HX3 := hide (HX2.out.call hex hi)
  have hfl := fld81 ty w3
  unfold tkV at hfl ⊢
  rw [hy] at hfl ⊢
  have y1 := HX3.out.te.c1
  have yf1 := HX3.out.te.fz 1
  have HX4 := hide (HX3.out.set (HX3.out.te.put1 y))
  dsimp only at HX4
  clear hex hi HX2 HX3 HE2 hy
  simp only []
  go_upto_region 3 with fail
  generalize w3.setCell ⟨q, 1, none⟩ (.string y) = w4 at *
  clear hfl y1 yf1
  go_wp2_with fail
  refine (HE3.out w4 HX4.out.ins).mono ?_
  rintro e9 w5 ⟨rfl, hex, hi⟩
  have HX5 := hide (HX4.out.call hex hi)
  clear hex hi HX4 HE3
  simp only []
  go_upto_region 4 with fail
  go_wp2_with fail
  refine (HC4.out w5 HX5.out.ins).mono ?_
  rintro e9 w6 ⟨f1, rfl, hex, hi, hti⟩
  have HX6 : Hid (SX B p a cp s w (w6.alloc (xO f1)) q st4 ⟨3, y, nl, nl, nl, nl, nl, nl, l, c⟩) := (HX5.out.call hex hi).low ((Ex.refl _ _).alloc _)
  have HR6 : Hid (XK (w6.alloc (xO f1)) w6.heap.size f1 ∧ w.heap.size ≤ w6.heap.size) := ⟨XK.new w6 f1, Nat.le_trans HX5.out.ex.size hex.size⟩
  have HT6 : Hid (isAt st4 → ET (w6.alloc (xO f1)) (fun k => k < w.heap.size) e1 f1) := fun z => ((hti z).fresh HX5.out.ex.size).pq ((Ex.refl (fun _ => False) w6).alloc _) (fun _ z => z.elim)
  clear hex hi hti HX5 HC4
  obtain ⟨w7, hw7⟩ : ∃ x, w6.alloc (xO f1) = x := ⟨_, rfl⟩
  rw [hw7] at HX6 HR6 HT6
  have HW7 := hide hw7
  unfold xO at HW7
  clear hw7
  unfold xV
  go_upto_region 5 with fail
  rw [HW7.out]
  clear HW7
  generalize w6.heap.size = r4 at *
  go_wp2_with fail
  refine (HE5.out w7 HX6.out.ins).mono ?_
  rintro e9 w8 ⟨rfl, hex, hi⟩
  have HX8 := hide (HX6.out.call hex hi)
  have HR8 : Hid (XK w8 r4 f1 ∧ w.heap.size ≤ r4) := ⟨HR6.out.1.keep hex (by have := HR6.out.2; have := HB.out; omega), HR6.out.2⟩
  have HT8 : Hid (isAt st5 → ET w8 (fun k => k < w.heap.size) e1 f1) := fun z => (HT6.out (HA5.out z)).pq hex (fun k z => .inl (by have := HB.out; omega))
  clear hex hi HX6 HR6 HT6 HE5
  simp only []
  go_upto_region 6 with fail
  have HX9 : Hid (SX B p a cp s w w8.drew q st5 ⟨3, y, nl, nl, nl, nl, nl, nl, l, c⟩) := HX8.out.low (Ex.refl _ _).drew
  have HR9 : Hid (XK w8.drew r4 f1 ∧ w.heap.size ≤ r4) := ⟨HR8.out.1.keep (Ex.refl (fun _ => False) _).drew (fun z => z), HR8.out.2⟩
  have HT9 : Hid (isAt st5 → ET w8.drew (fun k => k < w.heap.size) e1 f1) := fun z => (HT8.out z).pq (Ex.refl (fun _ => False) _).drew (fun _ z => z.elim)
  clear HX8 HR8 HT8
  refine wp_region_until (fun w6 => XK w6 r4 f1) 7 (by kernel_rfl) (HR9.out.1) (fun hHeld => ?_)
  generalize w8.drew = wd at *
  refine wpAnyU_take (i := 0) (v := ?_) [7] rfl (by kernel_rfl) (by kernel_rfl) (by kernel_rfl) (by kernel_rfl) (fun _ _ _ h => h) (Or.inl ⟨by rfl, ?_⟩) (by assumption) ?_
  rotate_left
  · (intro w hSw; (try dsimp only at hSw); (skip); go_simp; try (with_reducible rfl))
  try simp only [Act.put, List.getElem_toArray, List.getElem_cons_zero, List.getElem_cons_succ, List.setIfInBounds_toArray, List.set_cons_zero, List.set_cons_succ]
  refine wpAnyU_take (i := 1) (v := ?_) [7] rfl (by kernel_rfl) (by kernel_rfl) (by kernel_rfl) (by kernel_rfl) (fun _ _ _ h => h) (Or.inl ⟨by rfl, ?_⟩) (by assumption) ?_
  rotate_left
  · (intro w hSw; (try dsimp only at hSw); (have z0 := hSw.c0; have z1 := hSw.c1; have z2 := hSw.c2; have z3 := hSw.c3; have z4 := hSw.c4; have z5 := hSw.c5; have z6 := hSw.c6); go_simp; try (with_reducible rfl))
  try simp only [Act.put, List.getElem_toArray, List.getElem_cons_zero, List.getElem_cons_succ, List.setIfInBounds_toArray, List.set_cons_zero, List.set_cons_succ]
  refine wpAnyU_take (i := 2) (v := ?_) [7] rfl (by kernel_rfl) (by kernel_rfl) (by kernel_rfl) (by kernel_rfl) (fun _ _ _ h => h) (Or.inl ⟨by rfl, ?_⟩) (by assumption) ?_
  rotate_left
  · (intro w hSw; (try dsimp only at hSw); (skip); go_simp; try (with_reducible rfl))
  try simp only [Act.put, List.getElem_toArray, List.getElem_cons_zero, List.getElem_cons_succ, List.setIfInBounds_toArray, List.set_cons_zero, List.set_cons_succ]
  refine wpAnyU_ready (rs := [3]) (by kernel_rfl) (by simp) ?_
  refine (AllReadyU.cons rfl (fun K hK => ?_) AllReadyU.nil)
  · refine step_call rfl 44 #[.pointer (some ⟨p, 0, none⟩), .int .i64 1] (by simp [go_sem]) (HC6.out wd HX9.out.ins) ?_
    rintro e9 wc ⟨f2, rfl, hex, hi, hti⟩
    have HXc := hide (HX9.out.call hex hi)
    have HRc : Hid (XK wc r4 f1) := HR9.out.1.keep hex (by have := HR9.out.2; have := HB.out; omega)
    have HTc : Hid (isAt st6 → ET wc (fun k => k < w.heap.size) e1 f1) := fun z => (HT9.out (HA6.out z)).pq hex (fun k z => .inl (by have := HB.out; omega))
    have HIc : Hid (isAt st6 → ET wc (fun k => k < w.heap.size) e2 f2) := fun z => (hti z).fresh HX9.out.ex.size
    have HSc : Hid (w.heap.size ≤ wc.heap.size) := HXc.out.ex.size
    clear hex hi hti HX9 HR9 HT9 HC6
    refine ⟨_, rfl, ?_⟩
    unfold xV
    refine hK.out _ _ ?_ (fun hHeld => ?_)
    · exact HRc.out
    clear hK K
    try simp only [Act.put, List.getElem_toArray, List.getElem_cons_zero, List.getElem_cons_succ, List.setIfInBounds_toArray, List.set_cons_zero, List.set_cons_succ]
    refine wpAnyU_ready (rs := [4]) (by kernel_rfl) (by simp) ?_
    refine (AllReadyU.cons rfl (fun K hK => ?_) AllReadyU.nil)
    · go_simp
      have HXa := hide (HXc.out.low ((Ex.refl (fun _ => False) wc).alloc (xO2 f1 f2)))
      have HRa : Hid (XK (wc.alloc (xO2 f1 f2)) r4 f1) := HRc.out.keep ((Ex.refl (fun _ => False) wc).alloc _) (fun z => z)
      have HTa : Hid (isAt st6 → ET (wc.alloc (xO2 f1 f2)) (fun k => k < w.heap.size) e1 f1) := fun z => (HTc.out z).pq ((Ex.refl (fun _ => False) wc).alloc _) (fun _ z => z.elim)
      have HIa : Hid (isAt st6 → ET (wc.alloc (xO2 f1 f2)) (fun k => k < w.heap.size) e2 f2) := fun z => (HIc.out z).pq ((Ex.refl (fun _ => False) wc).alloc _) (fun _ z => z.elim)
      have HGa : Hid ((RC (wc.alloc (xO2 f1 f2)) wc.heap.size 0 f1 ∧ RC (wc.alloc (xO2 f1 f2)) wc.heap.size 7 f2) ∧ wc.heap.size < (wc.alloc (xO2 f1 f2)).heap.size ∧ ¬ wc.heap.size < w.heap.size) := ⟨RC.new2 wc f1 f2, by simp, by have := HSc.out; omega⟩
      obtain ⟨wa, hwa⟩ : ∃ x, wc.alloc (xO2 f1 f2) = x := ⟨_, rfl⟩
      rw [hwa] at HXa HTa HGa HIa HRa
      unfold xO2 at hwa
      rw [hwa]
      clear hwa HXc HTc HIc HRc HSc
      generalize wc.heap.size = g at *
      refine hK.out _ _ ?_ (fun hHeld => ?_)
      · exact HRa.out
      clear hK K
      try simp only [Act.put, List.getElem_toArray, List.getElem_cons_zero, List.getElem_cons_succ, List.setIfInBounds_toArray, List.set_cons_zero, List.set_cons_succ]
      refine wpAnyU_take (i := 5) (v := ?_) [6, 7] rfl (by kernel_rfl) (by kernel_rfl) (by kernel_rfl) (by kernel_rfl) (fun _ _ _ h => h) (Or.inl ⟨by rfl, ?_⟩) (by assumption) ?_
      rotate_left
      · (intro w hSw; (try dsimp only at hSw); (skip); go_simp; try (with_reducible rfl))
      try simp only [Act.put, List.getElem_toArray, List.getElem_cons_zero, List.getElem_cons_succ, List.setIfInBounds_toArray, List.set_cons_zero, List.set_cons_succ]
      refine wpAnyU_take (i := 6) (v := ?_) [7] rfl (by kernel_rfl) (by kernel_rfl) (by kernel_rfl) (by kernel_rfl) (fun _ _ _ h => h) (Or.inl ⟨by rfl, ?_⟩) (by assumption) ?_
      rotate_left
      · (intro w hSw; (try dsimp only at hSw); (skip); go_simp; try (with_reducible rfl))
      try simp only [Act.put, List.getElem_toArray, List.getElem_cons_zero, List.getElem_cons_succ, List.setIfInBounds_toArray, List.set_cons_zero, List.set_cons_succ]
      refine wpAnyU_ready (rs := [7]) (by kernel_rfl) (by simp) ?_
      refine AllReadyU.last rfl (fun K hK => ?_)
      have Y2 := HXa.out.te.c2
      have YF2 := HXa.out.te.fz 2
      go_simp
      refine hK.out _ _ ?_
      clear hK K
      try simp only [Act.put, List.getElem_toArray, List.getElem_cons_zero, List.getElem_cons_succ, List.setIfInBounds_toArray, List.set_cons_zero, List.set_cons_succ]
      refine wpAnyU_done (by kernel_rfl) ?_ _
      have HXf := hide (HXa.out.set (HXa.out.te.put2 ⟨some ⟨g, 0, none⟩, 2, 2⟩))
      obtain ⟨NT, hNT⟩ : ∃ NT : World → (Nat → Prop) → Prop, NT = fun w D => (RC w g 0 f1 ∧ RC w g 7 f2 ∧ (g < w.heap.size ∧ ¬ D g)) ∧ (isAt st6 → ET w D e1 f1 ∧ ET w D e2 f2) := ⟨_, rfl⟩
      have HKN : Hid (KN NT) := by rw [hNT]; exact kn_net2 g f1 f2 e1 e2 (isAt st6)
      have HNa : Hid (NT wa (fun k => k < w.heap.size)) := by rw [hNT]; exact ⟨⟨HGa.out.1.1, HGa.out.1.2, HGa.out.2⟩, fun z => ⟨HTa.out z, HIa.out z⟩⟩
      have HNf : Hid (NT (wa.setCell ⟨q, 2, none⟩ (.slice (some ⟨g, 0, none⟩) 2 2)) (fun k => k < w.heap.size)) := HKN.out _ _ _ _ (fun k => k = q) ((Ex.refl (fun k => k = q) wa).set (p := q) rfl _) (fun k z => .inl (by have := HB.out; omega)) (fun _ z => .inl z) HNa.out
      have HTE := hide hNT
      dsimp only at HXf
      clear hNT HXa HTa HIa HRa HGa HNa Y2 YF2
      go_upto_region 7 with fail
      generalize wa.setCell ⟨q, 2, none⟩ (.slice (some ⟨g, 0, none⟩) 2 2) = v0 at *
      go_wp2_with fail
      refine (HE7.out v0 HXf.out.ins).mono ?_
      rintro e9 v1 ⟨rfl, hex, hi⟩
      have HX1 := hide (HXf.out.call hex hi)
      have HN1 : Hid (NT v1 (fun k => k < w.heap.size)) := HKN.out _ _ _ _ _ hex (fun k z => .inl (by have := HB.out; omega)) (fun _ z => .inl z) HNf.out
      clear hex hi HXf HNf HE7
      simp only []
      go_upto_region 8 with fail
      go_wp2_with fail
      refine (HC8.out v1 HX1.out.ins).mono ?_
      rintro e9 v2 ⟨vb, rfl, hex, hi, hti⟩
      have HX2 := hide (HX1.out.call hex hi)
      have HN2 : Hid (NT v2 (fun k => k < w.heap.size)) := HKN.out _ _ _ _ _ hex (fun k z => .inl (by have := HB.out; omega)) (fun _ z => .inl z) HN1.out
      have HL2 : Hid (isAt st8 → ∃ F, RW v2 (fun k => k < w.heap.size) F vb ∧ SS v2 (fun k => k < w.heap.size) L false F) := fun z => by
        obtain ⟨F, h1, h2⟩ := hti z
        have hsz := HX1.out.ex.size
        exact ⟨F, h1.keep (Ex.refl (fun _ => False) _) (fun _ z => z.elim) (fun k z => .inl (by omega)), h2.keep (Ex.refl (fun _ => False) _) (fun _ z => z.elim) (fun k z => .inl (by omega))⟩
      have y5 := HX2.out.te.c5
      have yf5 := HX2.out.te.fz 5
      have HX3 := hide (HX2.out.set (HX2.out.te.put5 vb))
      have ex3 : Ex (fun k => k = q) v2 (v2.setCell ⟨q, 5, none⟩ (.slice vb.q vb.n vb.c)) := (Ex.refl (fun k => k = q) v2).set (p := q) rfl _
      have HN3 : Hid (NT (v2.setCell ⟨q, 5, none⟩ (.slice vb.q vb.n vb.c)) (fun k => k < w.heap.size)) := HKN.out _ _ _ _ _ ex3 (fun k z => .inl (by have := HB.out; omega)) (fun _ z => .inl z) HN2.out
      have HL3 : Hid (isAt st8 → ∃ F, RW (v2.setCell ⟨q, 5, none⟩ (.slice vb.q vb.n vb.c)) (fun k => k < w.heap.size) F vb ∧ SS (v2.setCell ⟨q, 5, none⟩ (.slice vb.q vb.n vb.c)) (fun k => k < w.heap.size) L false F) := fun z => by
        obtain ⟨F, h1, h2⟩ := HL2.out z
        exact ⟨F, h1.keep ex3 (fun k z => .inl (by have := HB.out; omega)) (fun _ z => .inl z), h2.keep ex3 (fun k z => .inl (by have := HB.out; omega)) (fun _ z => .inl z)⟩
      dsimp only at HX3
      clear hex hi hti HX1 HN1 HX2 HN2 HL2 ex3 HC8
      unfold slV
      simp only []
      go_upto_region 9 with fail
      generalize v2.setCell ⟨q, 5, none⟩ (.slice vb.q vb.n vb.c) = v3 at *
      clear y5 yf5
      obtain ⟨dd, hc10, hf10, hi8⟩ := HX3.out.ins.dec HDA8.out HD0.out
      rw [show IntKind.i64.wrap (dd - 1) = wrap64 (dd - 1) by unfold wrap64; exact IntKind.wrap_i64 _] at hi8
      have ex4 : Ex (fun k => k = p) v3 (v3.setCell ⟨p, 10, none⟩ (.int .i64 (wrap64 (dd - 1)))) := (Ex.refl (fun k => k = p) v3).set (p := p) rfl _
      have HX4 := hide (HX3.out.call ex4 hi8)
      have HN4 : Hid (NT (v3.setCell ⟨p, 10, none⟩ (.int .i64 (wrap64 (dd - 1)))) (fun k => k < w.heap.size)) := HKN.out _ _ _ _ _ ex4 (fun k z => .inl (by have := HB.out; omega)) (fun _ z => .inl z) HN3.out
      have HL4 : Hid (isAt st8 → ∃ F, RW (v3.setCell ⟨p, 10, none⟩ (.int .i64 (wrap64 (dd - 1)))) (fun k => k < w.heap.size) F vb ∧ SS (v3.setCell ⟨p, 10, none⟩ (.int .i64 (wrap64 (dd - 1)))) (fun k => k < w.heap.size) L false F) := fun z => by
        obtain ⟨F, h1, h2⟩ := HL3.out z
        exact ⟨F, h1.keep ex4 (fun k z => .inl (by have := HB.out; omega)) (fun _ z => .inl z), h2.keep ex4 (fun k z => .inl (by have := HB.out; omega)) (fun _ z => .inl z)⟩
      clear hi8 ex4 HX3 HN3 HL3
      go_upto_region 10 with fail
      generalize v3.setCell ⟨p, 10, none⟩ (.int .i64 (wrap64 (dd - 1))) = v4 at *
      clear hc10 hf10
      go_wp2_with fail
      refine (HE9.out v4 HX4.out.ins).mono ?_
      rintro e9 v5 ⟨rfl, hex, hi⟩
      have HX5 := hide (HX4.out.call hex hi)
      have HN5 : Hid (NT v5 (fun k => k < w.heap.size)) := HKN.out _ _ _ _ _ hex (fun k z => .inl (by have := HB.out; omega)) (fun _ z => .inl z) HN4.out
      have HF : Hid (StPost B p q a cp s w RR (.returned (.tuple #[])) v5) := by
        rw [← HRR.out]
        refine HX5.out.fin (fun z => ?_)
        obtain ⟨F, h1, h2⟩ := HL4.out (HA9.out z)
        have hn := HN5.out
        rw [HTE.out] at hn
        have he := hn.2 (HA7.out (HA8.out (HA9.out z)))
        exact ⟨rfl, g, f1, f2, vb, F, [], rfl, hn.1.2.2, hn.1.1, hn.1.2.1, he.1, he.2, h1.keep hex (fun k z => .inl (by have := HB.out; omega)) (fun _ z => .inl z), h2.keep hex (fun k z => .inl (by have := HB.out; omega)) (fun _ z => .inl z), rfl⟩
      clear hex hi HX4 HN4 HL4 HE9 HX5 HN5
      simp only []
      go_wp2
      exact bodyPost_ret (v := .tuple #[]) (by simp [results, Try.results75]) rfl HF.out
end
end Go.Proofs.Qxb6500774a
