import Derived.Test.Qxb6500774aKp0
import Derived.Test.Qxb6500774aUh
namespace Go.Proofs.Qxb6500774a
open Go.RowKit
set_option linter.unusedVariables false
set_option linter.unusedSimpArgs false

section
variable {B p : Nat} {a : Option Addr} {cp : Nat} {s : List Int}
/-- the arguments' loop -/
def ARL (B p : Nat) (a : Option Addr) (cp : Nat) (s : List Int) (w : World) (q N : Nat) (d l c : Int) (x : ByteArray) (RL : List (ByteArray × E) × PSt) (v5 : Value) (wr : World) (m : Nat) : Prop := ∃ (L : List (ByteArray × E)) (st : PSt) (v : SLc), SX B p a cp s w wr q st ⟨1, x, nl, nl, nl, nl, v, nl, l, c⟩ ∧ GR (fun w D F => isAt st → PA w D L F) 115 8 w wr v ∧ DA d st ∧ v.n + m ≤ N ∧ ((v5 = .bool true ∧ ∃ L2, pargs s m st = some (L2, RL.2) ∧ L ++ L2 = RL.1) ∨ (v5 = .bool false ∧ m = 0 ∧ L = RL.1 ∧ st = RL.2))
set_option linter.unusedSimpArgs false in
set_option linter.unusedVariables false in
set_option maxRecDepth 100000 in
set_option maxHeartbeats 32000000 in
theorem simpleK (N : Nat) (hN : N ≤ 4294967296) (l c : Int) (st : PSt) (RR : S × PSt) (w : World) (q : Nat) (hpj : ps s N (.simple l c) st = some RR) (hin : InS B p a cp s w st) (d : Int) (hd0 : 0 ≤ d ∧ d ≤ 64) (hda : DA d st) (hsk : SK w q ⟨0, nb, nl, nl, nl, nl, nl, nl, l, c⟩) (hq : B ≤ q) :
    Calls Try.prog 73 #[.pointer (some ⟨p, 0, none⟩), .pointer (some ⟨q, 0, none⟩)] w (StPost B p q a cp s w RR) := by
  have HD0 := hide hd0
  have HN := hide hN
  obtain ⟨m, t, st1, hm, hp1, hrest⟩ : ∃ m t st1, m < N ∧ pj s m .plac st = some (t, st1) ∧ ((if t.isNm = true ∧ (acceptS s bPAR st1).1 = true then
        (if atS s bEND (acceptS s bPAR st1).2 = true then some (.call t.nmx [] l c .nil, expectS s bEND (acceptS s bPAR st1).2)
         else match pargs s m (acceptS s bPAR st1).2 with
          | none => none
          | some (L, st3) => some (.call t.nmx L l c .nil, expectS s bEND st3))
      else match pj s m (.expr 1) (expectS s bASG st1) with
        | none => none
        | some (e, st3) => some (.asg t e l c .nil, st3)) = some RR) := by
    cases N with
    | zero => unfold ps at hpj; cases hpj
    | succ m =>
      unfold ps at hpj
      split at hpj
      · cases hpj
      · next t st1 h1 => exact ⟨m, t, st1, Nat.lt_succ_self m, h1, hpj⟩
  have HPL := hide (place_any w hp1 hin (hda.ok hd0))
  have HDA1 : Hid (DA d st1) := pj_da s _ _ _ _ _ hp1 hda
  have HM := hide hm
  have HRT := hide hrest
  have hb := hin.hB
  have HB : Hid (B ≤ q ∧ q < w.heap.size ∧ p < B ∧ B ≤ w.heap.size) := ⟨hq, hsk.lt, hb.2, hb.1⟩
  have HX0 : Hid (SX B p a cp s w w q st ⟨0, nb, nl, nl, nl, nl, nl, nl, l, c⟩) := ⟨hin, Ex.refl _ _, hsk, HB.out⟩
  clear hpj hin hd0 hda hsk hq hN hm hp1 hrest hb
  go_enter Try.func73, Try.ntmps73
  go_wp2_with fail
  refine HPL.out.mono ?_
  rintro e w1 ⟨f1, rfl, hex, hi, hti⟩
  have HX : Hid (SX B p a cp s w (w1.alloc (xO f1)) q st1 ⟨0, nb, nl, nl, nl, nl, nl, nl, l, c⟩) := (HX0.out.call hex hi).low ((Ex.refl _ _).alloc _)
  have HR : Hid (XK (w1.alloc (xO f1)) w1.heap.size f1 ∧ w.heap.size ≤ w1.heap.size) := ⟨XK.new w1 f1, hex.size⟩
  have HT : Hid (isAt st1 → ET (w1.alloc (xO f1)) (fun k => k < w.heap.size) t f1) := fun z => (hti z).pq ((Ex.refl (fun _ => False) w1).alloc _) (fun _ z => z.elim)
  clear hex hi hti HX0 HPL
  obtain ⟨w2, hw2⟩ : ∃ x, w1.alloc (xO f1) = x := ⟨_, rfl⟩
  rw [hw2] at HX HR HT
  have HW2 := hide hw2
  unfold xO at HW2
  clear hw2
  unfold xV
  go_upto_region 1 with fail
  rw [HW2.out]
  clear HW2
  generalize w1.heap.size = r4 at *
  have r0 := HR.out.1.c0
  cases hk : (f1.k == 3)
  · have hk2 : (f1.k != 3) = true := by rw [bne, hk]; rfl
    have HP : Hid (∃ e st3, pj s m (.expr 1) (expectS s bASG st1) = some (e, st3) ∧ (.asg t e l c .nil, st3) = RR) := by
      have h := HRT.out
      rw [if_neg ?ng] at h
      · split at h
        · cases h
        · next e st3 h1 => injection h with h; exact ⟨e, st3, h1, h⟩
      · rintro ⟨z1, z2⟩
        have hat : isAt st1 := isAt.of HDA1.out HD0.out fun zb => by
          obtain ⟨e, l, c, rfl⟩ := zb.ex
          rw [accept_bad] at z2
          cases z2
        have ht := HT.out hat
        cases t with
        | nm x l c => rw [show f1 = _ from ht] at hk; cases hk
        | _ => cases z1
    go_upto_region 2 with fail
    clear r0 hk hk2 HRT
    have HXP := hide (expectK_any w2 HX.out.ins bASG)
    obtain ⟨e, st3, hpe, hrr⟩ := HP.out
    have HRR := hide hrr
    have HPE := hide hpe
    have HDA2 : Hid (DA d (expectS s bASG st1)) := expectS_da HDA1.out _
    have HAT2 : Hid (isAt (expectS s bASG st1) → isAt st1) := fun z => isAt.ex z
    have HAT3 : Hid (isAt st3 → isAt (expectS s bASG st1)) := fun z => isAt.pj HPE.out HDA2.out HD0.out z
    clear HP hrr hpe
    generalize expectS s bASG st1 = st2 at *
    have HEC : Hid (∀ wz, InS B p a cp s wz st2 → Calls Try.prog 44 #[.pointer (some ⟨p, 0, none⟩), .int .i64 1] wz (XPost B p a cp s wz (e, st3))) := fun wz hz => expr_any wz HPE.out hz (HDA2.out.ok HD0.out)
    unfold bASG at HXP
    go_wp2_with fail
    refine HXP.out.mono ?_
    rintro e9 w4 ⟨rfl, hex, hi⟩
    have HX4 := hide (HX.out.call hex hi)
    have HR4 : Hid (XK w4 r4 f1 ∧ w.heap.size ≤ r4) := ⟨HR.out.1.keep hex (by have := HR.out.2; have := HB.out; omega), HR.out.2⟩
    have HT4 : Hid (isAt st2 → ET w4 (fun k => k < w.heap.size) t f1) := fun z => (HT.out (HAT2.out z)).pq hex (fun k z => .inl (by have := HB.out; omega))
    clear hex hi HX HR HT HXP
    simp only []
    have y0 := HX4.out.te.c0
    have yf0 := HX4.out.te.fz 0
    go_upto_region 4 with fail
    have HX5 : Hid (SX B p a cp s w (w4.setCell ⟨q, 0, none⟩ (.int .i64 0)).drew q st2 ⟨0, nb, nl, nl, nl, nl, nl, nl, l, c⟩) := (HX4.out.set (HX4.out.te.put0 0)).low (Ex.refl _ _).drew
    have ex5 : Ex (fun k => k = q) w4 (w4.setCell ⟨q, 0, none⟩ (.int .i64 0)).drew := ((Ex.refl (fun k => k = q) w4).set (p := q) rfl _).drew
    have HR5 : Hid (XK (w4.setCell ⟨q, 0, none⟩ (.int .i64 0)).drew r4 f1 ∧ w.heap.size ≤ r4) := ⟨HR4.out.1.keep ex5 (by have := HR4.out.2; have := HB.out; omega), HR4.out.2⟩
    have HT5 : Hid (isAt st2 → ET (w4.setCell ⟨q, 0, none⟩ (.int .i64 0)).drew (fun k => k < w.heap.size) t f1) := fun z => (HT4.out z).pq ex5 (fun k z => .inl (by have := HB.out; omega))
    have HAT3b : Hid (isAt st3 → isAt st2) := HAT3.out
    clear HX4 HR4 HT4 y0 yf0 ex5
    refine wp_region_until (fun w6 => XK w6 r4 f1) 7 (by kernel_rfl) (HR5.out.1) (fun hHeld => ?_)
    generalize (w4.setCell ⟨q, 0, none⟩ (.int .i64 0)).drew = wd at *
    refine wpAnyU_take (i := 0) (v := ?_) [7] rfl (by kernel_rfl) (by kernel_rfl) (by kernel_rfl) (by kernel_rfl) (fun _ _ _ h => h) (Or.inl ⟨by rfl, ?_⟩) (by assumption) ?_
    rotate_left
    · (intro w hSw; (try dsimp only at hSw); (skip); go_simp; try (with_reducible rfl))
    try simp only [Act.put, List.getElem_toArray, List.getElem_cons_zero, List.getElem_cons_succ, List.setIfInBounds_toArray, List.set_cons_zero, List.set_cons_succ]
    refine wpAnyU_take (i := 1) (v := ?_) [7] rfl (by kernel_rfl) (by kernel_rfl) (by kernel_rfl) (by kernel_rfl) (fun _ _ _ h => h) (Or.inl ⟨by rfl, ?_⟩) (by assumption) ?_
    rotate_left
    · (intro w hSw; (try dsimp only at hSw); (have z0 := hSw.c0; have z1 := hSw.c1; have z2 := hSw.c2; have z3 := hSw.c3; have z4 := hSw.c4; have z5 := hSw.c5; have z6 := hSw.c6); go_simp; try (with_reducible rfl))
    try simp only [Act.put, List.getElem_toArray, List.getElem_cons_zero, List.getElem_cons_succ, List.setIfInBounds_toArray, List.set_cons_zero, List.set_cons_succ]
    refine wpAnyU_take (i := 2) (v := ?_) [7] rfl (by kernel_rfl) (by kernel_rfl) (by kernel_rfl) (by kernel_rfl) (fun _ _ _ h => h) (Or.inl ⟨by rfl, ?_⟩) (by assumption) ?_
    rotate_left
    · (intro w hSw; (try dsimp only at hSw); (skip); go_simp; try (with_reducible rfl))
    try simp only [Act.put, List.getElem_toArray, List.getElem_cons_zero, List.getElem_cons_succ, List.setIfInBounds_toArray, List.set_cons_zero, List.set_cons_succ]
    refine wpAnyU_ready (rs := [3]) (by kernel_rfl) (by simp) ?_
    refine (AllReadyU.cons rfl (fun K hK => ?_) AllReadyU.nil)
    · refine step_call rfl 44 #[.pointer (some ⟨p, 0, none⟩), .int .i64 1] (by simp [go_sem]) (HEC.out wd HX5.out.ins) ?_
      rintro e9 wc ⟨f2, rfl, hex, hi, hti⟩
      have HXc := hide (HX5.out.call hex hi)
      have HRc : Hid (XK wc r4 f1) := HR5.out.1.keep hex (by have := HR5.out.2; have := HB.out; omega)
      have HTc : Hid (isAt st3 → ET wc (fun k => k < w.heap.size) t f1) := fun z => (HT5.out (HAT3.out z)).pq hex (fun k z => .inl (by have := HB.out; omega))
      have HIc : Hid (isAt st3 → ET wc (fun k => k < w.heap.size) e f2) := fun z => (hti z).fresh HX5.out.ex.size
      have HSc : Hid (w.heap.size ≤ wc.heap.size) := HXc.out.ex.size
      clear hex hi hti
      refine ⟨_, rfl, ?_⟩
      unfold xV
      refine hK.out _ _ ?_ (fun hHeld => ?_)
      · exact HRc.out
      clear hK K
      try simp only [Act.put, List.getElem_toArray, List.getElem_cons_zero, List.getElem_cons_succ, List.setIfInBounds_toArray, List.set_cons_zero, List.set_cons_succ]
      refine wpAnyU_ready (rs := [4]) (by kernel_rfl) (by simp) ?_
      refine (AllReadyU.cons rfl (fun K hK => ?_) AllReadyU.nil)
      · go_simp
        have HXa := hide (HXc.out.low ((Ex.refl (fun _ => False) wc).alloc (xO2 f1 f2)))
        have HRa : Hid (XK (wc.alloc (xO2 f1 f2)) r4 f1) := HRc.out.keep ((Ex.refl (fun _ => False) wc).alloc _) (fun z => z)
        have HTa : Hid (isAt st3 → ET (wc.alloc (xO2 f1 f2)) (fun k => k < w.heap.size) t f1) := fun z => (HTc.out z).pq ((Ex.refl (fun _ => False) wc).alloc _) (fun _ z => z.elim)
        have HIa : Hid (isAt st3 → ET (wc.alloc (xO2 f1 f2)) (fun k => k < w.heap.size) e f2) := fun z => (HIc.out z).pq ((Ex.refl (fun _ => False) wc).alloc _) (fun _ z => z.elim)
        have HGa : Hid ((RC (wc.alloc (xO2 f1 f2)) wc.heap.size 0 f1 ∧ RC (wc.alloc (xO2 f1 f2)) wc.heap.size 7 f2) ∧ wc.heap.size < (wc.alloc (xO2 f1 f2)).heap.size ∧ ¬ wc.heap.size < w.heap.size) := ⟨RC.new2 wc f1 f2, by simp, by have := HSc.out; omega⟩
        obtain ⟨wa, hwa⟩ : ∃ x, wc.alloc (xO2 f1 f2) = x := ⟨_, rfl⟩
        rw [hwa] at HXa HTa HGa HIa HRa
        unfold xO2 at hwa
        rw [hwa]
        clear hwa HXc HTc HIc HRc HSc
        generalize wc.heap.size = g at *
        refine hK.out _ _ ?_ (fun hHeld => ?_)
        · exact HRa.out
        clear hK K
        try simp only [Act.put, List.getElem_toArray, List.getElem_cons_zero, List.getElem_cons_succ, List.setIfInBounds_toArray, List.set_cons_zero, List.set_cons_succ]
        refine wpAnyU_take (i := 5) (v := ?_) [6, 7] rfl (by kernel_rfl) (by kernel_rfl) (by kernel_rfl) (by kernel_rfl) (fun _ _ _ h => h) (Or.inl ⟨by rfl, ?_⟩) (by assumption) ?_
        rotate_left
        · (intro w hSw; (try dsimp only at hSw); (skip); go_simp; try (with_reducible rfl))
        try simp only [Act.put, List.getElem_toArray, List.getElem_cons_zero, List.getElem_cons_succ, List.setIfInBounds_toArray, List.set_cons_zero, List.set_cons_succ]
        refine wpAnyU_take (i := 6) (v := ?_) [7] rfl (by kernel_rfl) (by kernel_rfl) (by kernel_rfl) (by kernel_rfl) (fun _ _ _ h => h) (Or.inl ⟨by rfl, ?_⟩) (by assumption) ?_
        rotate_left
        · (intro w hSw; (try dsimp only at hSw); (skip); go_simp; try (with_reducible rfl))
        try simp only [Act.put, List.getElem_toArray, List.getElem_cons_zero, List.getElem_cons_succ, List.setIfInBounds_toArray, List.set_cons_zero, List.set_cons_succ]
        refine wpAnyU_ready (rs := [7]) (by kernel_rfl) (by simp) ?_
        refine AllReadyU.last rfl (fun K hK => ?_)
        have Y2 := HXa.out.te.c2
        have YF2 := HXa.out.te.fz 2
        go_simp
        refine hK.out _ _ ?_
        clear hK K
        try simp only [Act.put, List.getElem_toArray, List.getElem_cons_zero, List.getElem_cons_succ, List.setIfInBounds_toArray, List.set_cons_zero, List.set_cons_succ]
        refine wpAnyU_done (by kernel_rfl) ?_ _
        have HXf := hide (HXa.out.set (HXa.out.te.put2 ⟨some ⟨g, 0, none⟩, 2, 2⟩))
        have ex6 : Ex (fun k => k = q) wa (wa.setCell ⟨q, 2, none⟩ (.slice (some ⟨g, 0, none⟩) 2 2)) := (Ex.refl (fun k => k = q) wa).set (p := q) rfl _
        have HTf : Hid (isAt st3 → SS (wa.setCell ⟨q, 2, none⟩ (.slice (some ⟨g, 0, none⟩) 2 2)) (fun k => k < w.heap.size) (.asg t e l c .nil) false [spL ⟨0, nb, ⟨some ⟨g, 0, none⟩, 2, 2⟩, nl, nl, nl, nl, nl, l, c⟩]) := fun z => ⟨rfl, g, f1, f2, [], rfl, ⟨Nat.lt_of_lt_of_le HGa.out.2.1 ex6.size, HGa.out.2.2⟩, HGa.out.1.1.keep ex6 (fun z => HGa.out.2.2 (by have := HB.out; omega)), HGa.out.1.2.keep ex6 (fun z => HGa.out.2.2 (by have := HB.out; omega)), (HTa.out z).pq ex6 (fun k z => .inl (by have := HB.out; omega)), (HIa.out z).pq ex6 (fun k z => .inl (by have := HB.out; omega)), rfl⟩
        have HF : Hid (StPost B p q a cp s w RR (.returned (.tuple #[])) (wa.setCell ⟨q, 2, none⟩ (.slice (some ⟨g, 0, none⟩) 2 2))) := by
          rw [← HRR.out]
          exact HXf.out.fin HTf.out
        clear HXf HTf HXa HTa HIa HRa HGa ex6 Y2 YF2
        go_wp2
        exact bodyPost_ret (v := .tuple #[]) (by simp [results, Try.results73]) rfl HF.out
  have hk2 : (f1.k != 3) = false := by rw [bne, hk]; rfl
  have HAC := hide (acceptK_any w2 HX.out.ins bPAR)
  cases hac : (acceptS s bPAR st1).1
  · have HP : Hid (∃ e st3, pj s m (.expr 1) (expectS s bASG st1) = some (e, st3) ∧ (.asg t e l c .nil, st3) = RR) := by
      have h := HRT.out
      rw [if_neg (fun z => by rw [hac] at z; cases z.2)] at h
      split at h
      · cases h
      · next e st3 h1 => injection h with h; exact ⟨e, st3, h1, h⟩
    have hst : (acceptS s bPAR st1).2 = st1 := by
      unfold acceptS at hac ⊢
      split at hac
      · cases hac
      · next h => rw [if_neg h]
    rw [hac, hst] at HAC
    unfold bPAR at HAC
    go_upto_region 2 with (go_at_call 43; refine (HAC.out).mono ?_; rintro e w3 ⟨rfl, hex, hi⟩; have HEX := hide hex; have HI := hide hi; clear hex hi; simp only [])
    have HX3 := hide (HX.out.call HEX.out HI.out)
    have HR3 : Hid (XK w3 r4 f1 ∧ w.heap.size ≤ r4) := ⟨HR.out.1.keep HEX.out (by have := HR.out.2; have := HB.out; omega), HR.out.2⟩
    have HT3 : Hid (isAt st1 → ET w3 (fun k => k < w.heap.size) t f1) := fun z => (HT.out z).pq HEX.out (fun k z => .inl (by have := HB.out; omega))
    clear HX HR HT HEX HI HAC r0 hk hk2 HRT hac hst
    have HX := HX3
    have HR := HR3
    have HT := HT3
    clear HX3 HR3 HT3
    have HXP := hide (expectK_any w3 HX.out.ins bASG)
    obtain ⟨e, st3, hpe, hrr⟩ := HP.out
    have HRR := hide hrr
    have HPE := hide hpe
    have HDA2 : Hid (DA d (expectS s bASG st1)) := expectS_da HDA1.out _
    have HAT2 : Hid (isAt (expectS s bASG st1) → isAt st1) := fun z => isAt.ex z
    have HAT3 : Hid (isAt st3 → isAt (expectS s bASG st1)) := fun z => isAt.pj HPE.out HDA2.out HD0.out z
    clear HP hrr hpe
    generalize expectS s bASG st1 = st2 at *
    have HEC : Hid (∀ wz, InS B p a cp s wz st2 → Calls Try.prog 44 #[.pointer (some ⟨p, 0, none⟩), .int .i64 1] wz (XPost B p a cp s wz (e, st3))) := fun wz hz => expr_any wz HPE.out hz (HDA2.out.ok HD0.out)
    unfold bASG at HXP
    go_wp2_with fail
    refine HXP.out.mono ?_
    rintro e9 w4 ⟨rfl, hex, hi⟩
    have HX4 := hide (HX.out.call hex hi)
    have HR4 : Hid (XK w4 r4 f1 ∧ w.heap.size ≤ r4) := ⟨HR.out.1.keep hex (by have := HR.out.2; have := HB.out; omega), HR.out.2⟩
    have HT4 : Hid (isAt st2 → ET w4 (fun k => k < w.heap.size) t f1) := fun z => (HT.out (HAT2.out z)).pq hex (fun k z => .inl (by have := HB.out; omega))
    clear hex hi HX HR HT HXP
    simp only []
    have y0 := HX4.out.te.c0
    have yf0 := HX4.out.te.fz 0
    go_upto_region 4 with fail
    have HX5 : Hid (SX B p a cp s w (w4.setCell ⟨q, 0, none⟩ (.int .i64 0)).drew q st2 ⟨0, nb, nl, nl, nl, nl, nl, nl, l, c⟩) := (HX4.out.set (HX4.out.te.put0 0)).low (Ex.refl _ _).drew
    have ex5 : Ex (fun k => k = q) w4 (w4.setCell ⟨q, 0, none⟩ (.int .i64 0)).drew := ((Ex.refl (fun k => k = q) w4).set (p := q) rfl _).drew
    have HR5 : Hid (XK (w4.setCell ⟨q, 0, none⟩ (.int .i64 0)).drew r4 f1 ∧ w.heap.size ≤ r4) := ⟨HR4.out.1.keep ex5 (by have := HR4.out.2; have := HB.out; omega), HR4.out.2⟩
    have HT5 : Hid (isAt st2 → ET (w4.setCell ⟨q, 0, none⟩ (.int .i64 0)).drew (fun k => k < w.heap.size) t f1) := fun z => (HT4.out z).pq ex5 (fun k z => .inl (by have := HB.out; omega))
    have HAT3b : Hid (isAt st3 → isAt st2) := HAT3.out
    clear HX4 HR4 HT4 y0 yf0 ex5
    refine wp_region_until (fun w6 => XK w6 r4 f1) 7 (by kernel_rfl) (HR5.out.1) (fun hHeld => ?_)
    generalize (w4.setCell ⟨q, 0, none⟩ (.int .i64 0)).drew = wd at *
    refine wpAnyU_take (i := 0) (v := ?_) [7] rfl (by kernel_rfl) (by kernel_rfl) (by kernel_rfl) (by kernel_rfl) (fun _ _ _ h => h) (Or.inl ⟨by rfl, ?_⟩) (by assumption) ?_
    rotate_left
    · (intro w hSw; (try dsimp only at hSw); (skip); go_simp; try (with_reducible rfl))
    try simp only [Act.put, List.getElem_toArray, List.getElem_cons_zero, List.getElem_cons_succ, List.setIfInBounds_toArray, List.set_cons_zero, List.set_cons_succ]
    refine wpAnyU_take (i := 1) (v := ?_) [7] rfl (by kernel_rfl) (by kernel_rfl) (by kernel_rfl) (by kernel_rfl) (fun _ _ _ h => h) (Or.inl ⟨by rfl, ?_⟩) (by assumption) ?_
    rotate_left
    · (intro w hSw; (try dsimp only at hSw); (have z0 := hSw.c0; have z1 := hSw.c1; have z2 := hSw.c2; have z3 := hSw.c3; have z4 := hSw.c4; have z5 := hSw.c5; have z6 := hSw.c6); go_simp; try (with_reducible rfl))
    try simp only [Act.put, List.getElem_toArray, List.getElem_cons_zero, List.getElem_cons_succ, List.setIfInBounds_toArray, List.set_cons_zero, List.set_cons_succ]
    refine wpAnyU_take (i := 2) (v := ?_) [7] rfl (by kernel_rfl) (by kernel_rfl) (by kernel_rfl) (by kernel_rfl) (fun _ _ _ h => h) (Or.inl ⟨by rfl, ?_⟩) (by assumption) ?_
    rotate_left
    · (intro w hSw; (try dsimp only at hSw); (skip); go_simp; try (with_reducible rfl))
    try simp only [Act.put, List.getElem_toArray, List.getElem_cons_zero, List.getElem_cons_succ, List.setIfInBounds_toArray, List.set_cons_zero, List.set_cons_succ]
    refine wpAnyU_ready (rs := [3]) (by kernel_rfl) (by simp) ?_
    refine (AllReadyU.cons rfl (fun K hK => ?_) AllReadyU.nil)
    · refine step_call rfl 44 #[.pointer (some ⟨p, 0, none⟩), .int .i64 1] (by simp [go_sem]) (HEC.out wd HX5.out.ins) ?_
      rintro e9 wc ⟨f2, rfl, hex, hi, hti⟩
      have HXc := hide (HX5.out.call hex hi)
      have HRc : Hid (XK wc r4 f1) := HR5.out.1.keep hex (by have := HR5.out.2; have := HB.out; omega)
      have HTc : Hid (isAt st3 → ET wc (fun k => k < w.heap.size) t f1) := fun z => (HT5.out (HAT3.out z)).pq hex (fun k z => .inl (by have := HB.out; omega))
      have HIc : Hid (isAt st3 → ET wc (fun k => k < w.heap.size) e f2) := fun z => (hti z).fresh HX5.out.ex.size
      have HSc : Hid (w.heap.size ≤ wc.heap.size) := HXc.out.ex.size
      clear hex hi hti
      refine ⟨_, rfl, ?_⟩
      unfold xV
      refine hK.out _ _ ?_ (fun hHeld => ?_)
      · exact HRc.out
      clear hK K
      try simp only [Act.put, List.getElem_toArray, List.getElem_cons_zero, List.getElem_cons_succ, List.setIfInBounds_toArray, List.set_cons_zero, List.set_cons_succ]
      refine wpAnyU_ready (rs := [4]) (by kernel_rfl) (by simp) ?_
      refine (AllReadyU.cons rfl (fun K hK => ?_) AllReadyU.nil)
      · go_simp
        have HXa := hide (HXc.out.low ((Ex.refl (fun _ => False) wc).alloc (xO2 f1 f2)))
        have HRa : Hid (XK (wc.alloc (xO2 f1 f2)) r4 f1) := HRc.out.keep ((Ex.refl (fun _ => False) wc).alloc _) (fun z => z)
        have HTa : Hid (isAt st3 → ET (wc.alloc (xO2 f1 f2)) (fun k => k < w.heap.size) t f1) := fun z => (HTc.out z).pq ((Ex.refl (fun _ => False) wc).alloc _) (fun _ z => z.elim)
        have HIa : Hid (isAt st3 → ET (wc.alloc (xO2 f1 f2)) (fun k => k < w.heap.size) e f2) := fun z => (HIc.out z).pq ((Ex.refl (fun _ => False) wc).alloc _) (fun _ z => z.elim)
        have HGa : Hid ((RC (wc.alloc (xO2 f1 f2)) wc.heap.size 0 f1 ∧ RC (wc.alloc (xO2 f1 f2)) wc.heap.size 7 f2) ∧ wc.heap.size < (wc.alloc (xO2 f1 f2)).heap.size ∧ ¬ wc.heap.size < w.heap.size) := ⟨RC.new2 wc f1 f2, by simp, by have := HSc.out; omega⟩
        obtain ⟨wa, hwa⟩ : ∃ x, wc.alloc (xO2 f1 f2) = x := ⟨_, rfl⟩
        rw [hwa] at HXa HTa HGa HIa HRa
        unfold xO2 at hwa
        rw [hwa]
        clear hwa HXc HTc HIc HRc HSc
        generalize wc.heap.size = g at *
        refine hK.out _ _ ?_ (fun hHeld => ?_)
        · exact HRa.out
        clear hK K
        try simp only [Act.put, List.getElem_toArray, List.getElem_cons_zero, List.getElem_cons_succ, List.setIfInBounds_toArray, List.set_cons_zero, List.set_cons_succ]
        refine wpAnyU_take (i := 5) (v := ?_) [6, 7] rfl (by kernel_rfl) (by kernel_rfl) (by kernel_rfl) (by kernel_rfl) (fun _ _ _ h => h) (Or.inl ⟨by rfl, ?_⟩) (by assumption) ?_
        rotate_left
        · (intro w hSw; (try dsimp only at hSw); (skip); go_simp; try (with_reducible rfl))
        try simp only [Act.put, List.getElem_toArray, List.getElem_cons_zero, List.getElem_cons_succ, List.setIfInBounds_toArray, List.set_cons_zero, List.set_cons_succ]
        refine wpAnyU_take (i := 6) (v := ?_) [7] rfl (by kernel_rfl) (by kernel_rfl) (by kernel_rfl) (by kernel_rfl) (fun _ _ _ h => h) (Or.inl ⟨by rfl, ?_⟩) (by assumption) ?_
        rotate_left
        · (intro w hSw; (try dsimp only at hSw); (skip); go_simp; try (with_reducible rfl))
        try simp only [Act.put, List.getElem_toArray, List.getElem_cons_zero, List.getElem_cons_succ, List.setIfInBounds_toArray, List.set_cons_zero, List.set_cons_succ]
        refine wpAnyU_ready (rs := [7]) (by kernel_rfl) (by simp) ?_
        refine AllReadyU.last rfl (fun K hK => ?_)
        have Y2 := HXa.out.te.c2
        have YF2 := HXa.out.te.fz 2
        go_simp
        refine hK.out _ _ ?_
        clear hK K
        try simp only [Act.put, List.getElem_toArray, List.getElem_cons_zero, List.getElem_cons_succ, List.setIfInBounds_toArray, List.set_cons_zero, List.set_cons_succ]
        refine wpAnyU_done (by kernel_rfl) ?_ _
        have HXf := hide (HXa.out.set (HXa.out.te.put2 ⟨some ⟨g, 0, none⟩, 2, 2⟩))
        have ex6 : Ex (fun k => k = q) wa (wa.setCell ⟨q, 2, none⟩ (.slice (some ⟨g, 0, none⟩) 2 2)) := (Ex.refl (fun k => k = q) wa).set (p := q) rfl _
        have HTf : Hid (isAt st3 → SS (wa.setCell ⟨q, 2, none⟩ (.slice (some ⟨g, 0, none⟩) 2 2)) (fun k => k < w.heap.size) (.asg t e l c .nil) false [spL ⟨0, nb, ⟨some ⟨g, 0, none⟩, 2, 2⟩, nl, nl, nl, nl, nl, l, c⟩]) := fun z => ⟨rfl, g, f1, f2, [], rfl, ⟨Nat.lt_of_lt_of_le HGa.out.2.1 ex6.size, HGa.out.2.2⟩, HGa.out.1.1.keep ex6 (fun z => HGa.out.2.2 (by have := HB.out; omega)), HGa.out.1.2.keep ex6 (fun z => HGa.out.2.2 (by have := HB.out; omega)), (HTa.out z).pq ex6 (fun k z => .inl (by have := HB.out; omega)), (HIa.out z).pq ex6 (fun k z => .inl (by have := HB.out; omega)), rfl⟩
        have HF : Hid (StPost B p q a cp s w RR (.returned (.tuple #[])) (wa.setCell ⟨q, 2, none⟩ (.slice (some ⟨g, 0, none⟩) 2 2))) := by
          rw [← HRR.out]
          exact HXf.out.fin HTf.out
        clear HXf HTf HXa HTa HIa HRa HGa ex6 Y2 YF2
        go_wp2
        exact bodyPost_ret (v := .tuple #[]) (by simp [results, Try.results73]) rfl HF.out
  have HAT1 : Hid (isAt st1) := isAt.of HDA1.out HD0.out fun zb => by
    obtain ⟨e, l, c, rfl⟩ := zb.ex
    rw [accept_bad] at hac
    cases hac
  obtain ⟨x, tl, tc, htn, hfm⟩ : ∃ x tl tc, t = .nm x tl tc ∧ f1.m = x := by
    have ht := HT.out HAT1.out
    cases t with
    | nm x tl tc => exact ⟨x, tl, tc, rfl, by rw [show f1 = _ from ht]⟩
    | num v l c => rw [show f1 = _ from ht] at hk; cases hk
    | tim v l c => rw [show f1 = _ from ht] at hk; cases hk
    | bol v l c => rw [show f1 = _ from ht] at hk; cases hk
    | fld e x l c => obtain ⟨g, f, h1, _⟩ := ht; rw [h1] at hk; cases hk
    | idx e i l c => obtain ⟨g, f, f2, h1, _⟩ := ht; rw [h1] at hk; cases hk
    | un o e l c => obtain ⟨g, f, h1, _⟩ := ht; rw [h1] at hk; cases hk
    | bin o e i l c => obtain ⟨g, f, f2, h1, _⟩ := ht; rw [h1] at hk; cases hk
  subst htn
  have HP : Hid (∃ L st3, (if atS s bEND (acceptS s bPAR st1).2 = true then L = [] ∧ st3 = (acceptS s bPAR st1).2 else pargs s m (acceptS s bPAR st1).2 = some (L, st3)) ∧ (.call x L l c .nil, expectS s bEND st3) = RR) := by
    have h := HRT.out
    rw [if_pos ⟨rfl, hac⟩] at h
    by_cases hz : atS s bEND (acceptS s bPAR st1).2 = true
    · rw [if_pos hz] at h
      injection h with h
      refine ⟨[], _, ?_, h⟩
      rw [if_pos hz]
      exact ⟨rfl, rfl⟩
    · rw [if_neg hz] at h
      split at h
      · cases h
      · next L st3 h1 =>
        injection h with h
        refine ⟨L, st3, ?_, h⟩
        rw [if_neg hz]
        exact h1
  rw [hac] at HAC
  have HDA2 : Hid (DA d (acceptS s bPAR st1).2) := acceptS_da HDA1.out _
  clear HRT hac HAT1 HT
  generalize (acceptS s bPAR st1).2 = st2 at *
  unfold bPAR at HAC
  have r3 := HR.out.1.c3
  rw [hfm] at r3
  have HRR4 : Hid (w.heap.size ≤ r4) := HR.out.2
  go_upto_region 5 with (go_at_call 43; refine (HAC.out).mono ?_; rintro e w3 ⟨rfl, hex, hi⟩; have HEX := hide hex; have HI := hide hi; clear hex hi; simp only [])
  have HX3 := hide (HX.out.call HEX.out HI.out)
  replace r3 := HEX.out.cell (by have := HRR4.out; have := HB.out; omega) r3
  have y0 := HX3.out.te.c0
  have yf0 := HX3.out.te.fz 0
  have y1 := HX3.out.te.c1
  have yf1 := HX3.out.te.fz 1
  have hqr : r4 ≠ q := by have := HRR4.out; have := HB.out; omega
  clear HX HR HEX HI HAC r0 hk hk2 hfm
  dsimp only at y0 y1
  have HX4 := hide ((HX3.out.set (HX3.out.te.put0 1)).set ((HX3.out.set (HX3.out.te.put0 1)).te.put1 x))
  dsimp only at HX4
  go_upto_region 7 with fail
  clear HX3 y0 yf0 y1 yf1 r3
  generalize (w3.setCell ⟨q, 0, none⟩ (.int .i64 1)).setCell ⟨q, 1, none⟩ (.string x) = w4 at *
  obtain ⟨L0, st9, hcs, hrr⟩ := HP.out
  have HRR := hide hrr
  have HCS := hide hcs
  clear HP hrr hcs
  cases hbo : atS s bEND st2
  · have hp0 := HCS.out
    rw [if_neg (by rw [hbo]; decide)] at hp0
    have HAT := hide (atK_any w4 HX4.out.ins bEND)
    rw [hbo] at HAT
    unfold bEND at HAT
    have HR0 : Hid (ARL B p a cp s w q N d l c x (L0, st9) (.bool true) w4 m) := ⟨[], st2, nl, HX4.out, GR.nil (fun _ => rfl), HDA2.out, by have := HM.out; show 0 + m ≤ N; omega, .inl ⟨rfl, L0, hp0, rfl⟩⟩
    clear HX4 HDA2 hp0 hbo HCS
    go_wp2_with (go_at_call 72; refine (HAT.out).mono ?_; rintro e wq ⟨rfl, hwq⟩; subst wq; simp only [])
    clear HAT
    go_loopw [5] (fun v5 wr => ∃ m, ARL B p a cp s w q N d l c x (L0, st9) v5 wr m) (fun v5 wr => lm (ARL B p a cp s w q N d l c x (L0, st9) v5 wr))
    case atStart => exact ⟨_, HR0.out⟩
    case round =>
      have hsp := (lm_spec hrel).1
      obtain ⟨m0, hmm⟩ : ∃ m, lm (ARL B p a cp s w q N d l c x (L0, st9) u5 wr) = m := ⟨_, rfl⟩
      have HLM := hide hmm
      rw [hmm] at hsp
      clear hmm hrel HR0
      obtain ⟨L, st6, v, h1, h2, h3, h4, h5⟩ := hsp
      have HX := hide h1
      have HG := hide h2
      have HDA := hide h3
      have HVN := hide h4
      clear h1 h2 h3 h4
      rcases h5 with ⟨rfl, L2, hp, hLL⟩ | ⟨rfl, h0, hL, hst⟩
      · obtain ⟨m8, hm8, hp⟩ : ∃ m8, m8 + 1 = m0 ∧ pargs s (m8 + 1) st6 = some (L2, st9) := by
          cases m0 with
          | zero => unfold pargs at hp; cases hp
          | succ m => exact ⟨m, rfl, hp⟩
        unfold pargs at hp
        obtain ⟨e, st8, hpe, hsr⟩ : ∃ e st8, pj s m8 (.expr 1) (expectS s bASG (takeS s 2 st6).2) = some (e, st8) ∧ ((if (acceptS s bCOM st8).1 = true then
            (match pargs s m8 (acceptS s bCOM st8).2 with
             | none => none
             | some (L, st5) => some (((takeS s 2 st6).1.x, e) :: L, st5))
          else some ([((takeS s 2 st6).1.x, e)], st8)) = some (L2, st9)) := by
          split at hp
          · cases hp
          · next e st8 h1 => exact ⟨e, st8, h1, hp⟩
        have HM8 := hide hm8
        have HPE := hide hpe
        have HSR := hide hsr
        have HLL := hide hLL
        have HDA7 : Hid (DA d (expectS s bASG (takeS s 2 st6).2)) := expectS_da (takeS_da HDA.out 2) _
        have HDA8 : Hid (DA d st8) := pj_da s _ _ _ _ _ hpe HDA7.out
        have HAT8 : Hid (isAt st8 → isAt (expectS s bASG (takeS s 2 st6).2)) := fun z => isAt.pj HPE.out HDA7.out HD0.out z
        have HAT7 : Hid (isAt (expectS s bASG (takeS s 2 st6).2) → isAt (takeS s 2 st6).2) := isAt.ex
        have HAT6 : Hid (isAt (takeS s 2 st6).2 → isAt st6) := fun z => (isAt.take z).1
        have HEC : Hid (∀ wz, InS B p a cp s wz (expectS s bASG (takeS s 2 st6).2) → Calls Try.prog 44 #[.pointer (some ⟨p, 0, none⟩), .int .i64 1] wz (XPost B p a cp s wz (e, st8))) := fun wz hz => expr_any wz HPE.out hz (HDA7.out.ok HD0.out)
        have HTC := hide (takeK_any wr HX.out.ins 2 (by decide))
        have HXC : Hid (∀ wz, InS B p a cp s wz (takeS s 2 st6).2 → _) := fun wz hz => expectK_any wz hz bASG
        clear hm8 hpe hsr hLL hp HPE
        generalize expectS s bASG (takeS s 2 st6).2 = st7 at *
        generalize (takeS s 2 st6).2 = st6b at *
        generalize (takeS s 2 st6).1 = ty at *
        obtain ⟨y, hy⟩ : ∃ y, ty.x = y := ⟨_, rfl⟩
        rw [hy] at HSR
        unfold bASG at HXC
        go_upto_region 10 with fail
        go_wp2_with fail
        refine HTC.out.mono ?_
        rintro e9 w5 ⟨rfl, hex, hi⟩
        have HX5 := hide (HX.out.call hex hi)
        have HG5 : Hid (GR (fun w D F => isAt st6b → PA w D L F) 115 8 w w5 v) := GR.imp (GR.keep kp_pa HG.out hex (fun k z => .inl (by have := HB.out; omega))) (fun F h z => h (HAT6.out z))
        have hfl := fld81 ty w5
        rw [hy] at hfl
        unfold tkV at hfl ⊢
        rw [hy] at hfl ⊢
        clear hex hi HX HG HTC hy
        simp only []
        go_upto_region 11 with fail
        clear hfl
        go_wp2_with fail
        refine (HXC.out w5 HX5.out.ins).mono ?_
        rintro e9 w6 ⟨rfl, hex, hi⟩
        have HX6 := hide (HX5.out.call hex hi)
        have HG6 : Hid (GR (fun w D F => isAt st7 → PA w D L F) 115 8 w w6 v) := GR.imp (GR.keep kp_pa HG5.out hex (fun k z => .inl (by have := HB.out; omega))) (fun F h z => h (HAT7.out z))
        clear hex hi HX5 HG5 HXC
        simp only []
        go_upto_region 12 with fail
        have HX7 : Hid (SX B p a cp s w w6.drew q st7 ⟨1, x, nl, nl, nl, nl, v, nl, l, c⟩) := HX6.out.low (Ex.refl _ _).drew
        have HG7 : Hid (GR (fun w D F => isAt st7 → PA w D L F) 115 8 w w6.drew v) := GR.keep kp_pa HG6.out ((Ex.refl (fun _ => False) w6).drew) (fun _ z => z.elim)
        clear HX6 HG6
        refine wp_region_until (fun w6 => SK w6 q ⟨1, x, nl, nl, nl, nl, v, nl, l, c⟩) 13 (by kernel_rfl) (HX7.out.te) (fun hHeld => ?_)
        generalize w6.drew = wd at *
        refine wpAnyU_take (i := 0) (v := ?_) [13] rfl (by kernel_rfl) (by kernel_rfl) (by kernel_rfl) (by kernel_rfl) (fun _ _ _ h => h) (Or.inl ⟨by rfl, ?_⟩) (by assumption) ?_
        rotate_left
        · (intro w hSw; (try dsimp only at hSw); (skip); go_simp; try (with_reducible rfl))
        try simp only [Act.put, List.getElem_toArray, List.getElem_cons_zero, List.getElem_cons_succ, List.setIfInBounds_toArray, List.set_cons_zero, List.set_cons_succ]
        refine wpAnyU_take (i := 1) (v := ?_) [13] rfl (by kernel_rfl) (by kernel_rfl) (by kernel_rfl) (by kernel_rfl) (fun _ _ _ h => h) (Or.inl ⟨by rfl, ?_⟩) (by assumption) ?_
        rotate_left
        · (intro w hSw; (try dsimp only at hSw); (skip); go_simp; try (with_reducible rfl))
        try simp only [Act.put, List.getElem_toArray, List.getElem_cons_zero, List.getElem_cons_succ, List.setIfInBounds_toArray, List.set_cons_zero, List.set_cons_succ]
        refine wpAnyU_take (i := 2) (v := ?_) [13] rfl (by kernel_rfl) (by kernel_rfl) (by kernel_rfl) (by kernel_rfl) (fun _ _ _ h => h) (Or.inl ⟨by rfl, ?_⟩) (by assumption) ?_
        rotate_left
        · (intro w hSw; (try dsimp only at hSw); (skip); go_simp; try (with_reducible rfl))
        try simp only [Act.put, List.getElem_toArray, List.getElem_cons_zero, List.getElem_cons_succ, List.setIfInBounds_toArray, List.set_cons_zero, List.set_cons_succ]
        refine wpAnyU_take (i := 3) (v := ?_) [13] rfl (by kernel_rfl) (by kernel_rfl) (by kernel_rfl) (by kernel_rfl) (fun _ _ _ h => h) (Or.inl ⟨by rfl, ?_⟩) (by assumption) ?_
        rotate_left
        · (intro w hSw; (try dsimp only at hSw); (skip); go_simp; try (with_reducible rfl))
        try simp only [Act.put, List.getElem_toArray, List.getElem_cons_zero, List.getElem_cons_succ, List.setIfInBounds_toArray, List.set_cons_zero, List.set_cons_succ]
        refine wpAnyU_take (i := 4) (v := ?_) [13] rfl (by kernel_rfl) (by kernel_rfl) (by kernel_rfl) (by kernel_rfl) (fun _ _ _ h => h) (Or.inl ⟨by rfl, ?_⟩) (by assumption) ?_
        rotate_left
        · (intro w hSw; (try dsimp only at hSw); (have z6 := hSw.c6); go_simp; try (with_reducible rfl))
        try simp only [Act.put, List.getElem_toArray, List.getElem_cons_zero, List.getElem_cons_succ, List.setIfInBounds_toArray, List.set_cons_zero, List.set_cons_succ]
        refine wpAnyU_take (i := 5) (v := ?_) [13] rfl (by kernel_rfl) (by kernel_rfl) (by kernel_rfl) (by kernel_rfl) (fun _ _ _ h => h) (Or.inl ⟨by rfl, ?_⟩) (by assumption) ?_
        rotate_left
        · (intro w hSw; (try dsimp only at hSw); (skip); go_simp; try (with_reducible rfl))
        try simp only [Act.put, List.getElem_toArray, List.getElem_cons_zero, List.getElem_cons_succ, List.setIfInBounds_toArray, List.set_cons_zero, List.set_cons_succ]
        refine wpAnyU_take (i := 6) (v := ?_) [13] rfl (by kernel_rfl) (by kernel_rfl) (by kernel_rfl) (by kernel_rfl) (fun _ _ _ h => h) (Or.inl ⟨by rfl, ?_⟩) (by assumption) ?_
        rotate_left
        · (intro w hSw; (try dsimp only at hSw); (skip); go_simp; try (with_reducible rfl))
        try simp only [Act.put, List.getElem_toArray, List.getElem_cons_zero, List.getElem_cons_succ, List.setIfInBounds_toArray, List.set_cons_zero, List.set_cons_succ]
        refine wpAnyU_ready (rs := [7]) (by kernel_rfl) (by simp) ?_
        refine (AllReadyU.cons rfl (fun K hK => ?_) AllReadyU.nil)
        · refine step_call rfl 44 #[.pointer (some ⟨p, 0, none⟩), .int .i64 1] (by simp [go_sem]) (HEC.out wd HX7.out.ins) ?_
          rintro e9 wc ⟨f2, rfl, hex, hi, hti⟩
          have HXc := hide (HX7.out.call hex hi)
          have hexU : ∀ k, k = p → k < w.heap.size ∨ wd.heap.size ≤ k := fun k z => .inl (by have := HB.out; omega)
          have HGc : Hid (GR (fun w D F => isAt st8 → PA w D L F) 115 8 w wc v) := GR.imp (GR.keep kp_pa HG7.out hex hexU) (fun F h z => h (HAT8.out z))
          have HIc : Hid (isAt st8 → ET wc (DG w v) e f2) := fun z => (hti z).keep (Ex.refl (fun _ => False) _) (fun _ z => z.elim) (fun g z => .inl (by
            rcases z with z | z
            · have := HX7.out.ex.size; omega
            · obtain ⟨F, h1, _⟩ := HG7.out
              exact (h1.lt g z).2))
          clear hex hi hti hexU HX7 HG7
          refine ⟨_, rfl, ?_⟩
          unfold xV
          refine hK.out _ _ ?_ (fun hHeld => ?_)
          · exact HXc.out.te
          clear hK K
          try simp only [Act.put, List.getElem_toArray, List.getElem_cons_zero, List.getElem_cons_succ, List.setIfInBounds_toArray, List.set_cons_zero, List.set_cons_succ]
          refine wpAnyU_take (i := 8) (v := ?_) [13] rfl (by kernel_rfl) (by kernel_rfl) (by kernel_rfl) (by kernel_rfl) (fun _ _ _ h => h) (Or.inl ⟨by rfl, ?_⟩) (by assumption) ?_
          rotate_left
          · (intro w hSw; (try dsimp only at hSw); (skip); go_simp; try (with_reducible rfl))
          try simp only [Act.put, List.getElem_toArray, List.getElem_cons_zero, List.getElem_cons_succ, List.setIfInBounds_toArray, List.set_cons_zero, List.set_cons_succ]
          refine wpAnyU_ready (rs := [9]) (by kernel_rfl) (by simp) ?_
          refine (AllReadyU.cons rfl (fun K hK => ?_) AllReadyU.nil)
          · go_simp
            have HXa := hide (HXc.out.low ((Ex.refl (fun _ => False) wc).alloc (.cells #[.string y, .int .i64 f2.k, .string f2.x, .int .i64 f2.n, .string f2.m, .slice f2.q f2.ql f2.qc, .int .i64 f2.li, .int .i64 f2.co] 115)))
            have HGa : Hid (GR (fun w D F => isAt st8 → PA w D L F) 115 8 w (wc.alloc (.cells #[.string y, .int .i64 f2.k, .string f2.x, .int .i64 f2.n, .string f2.m, .slice f2.q f2.ql f2.qc, .int .i64 f2.li, .int .i64 f2.co] 115)) v) := GR.keep kp_pa HGc.out ((Ex.refl (fun _ => False) wc).alloc _) (fun _ z => z.elim)
            have HIa : Hid (isAt st8 → ET (wc.alloc (.cells #[.string y, .int .i64 f2.k, .string f2.x, .int .i64 f2.n, .string f2.m, .slice f2.q f2.ql f2.qc, .int .i64 f2.li, .int .i64 f2.co] 115)) (DG w v) e f2) := fun z => (HIc.out z).keep ((Ex.refl (fun _ => False) wc).alloc _) (fun _ z => z.elim) (fun g z => .inl z)
            have HNa : Hid (∀ (jq : Nat) (u : Value), [.string y, .int .i64 f2.k, .string f2.x, .int .i64 f2.n, .string f2.m, .slice f2.q f2.ql f2.qc, .int .i64 f2.li, .int .i64 f2.co][jq]? = some u → (wc.alloc (.cells #[.string y, .int .i64 f2.k, .string f2.x, .int .i64 f2.n, .string f2.m, .slice f2.q f2.ql f2.qc, .int .i64 f2.li, .int .i64 f2.co] 115)).cell? ((⟨wc.heap.size, 0, none⟩ : Addr).add jq) = some u) := fun jq u hj => new_cells wc [.string y, .int .i64 f2.k, .string f2.x, .int .i64 f2.n, .string f2.m, .slice f2.q f2.ql f2.qc, .int .i64 f2.li, .int .i64 f2.co] 115 jq u hj
            generalize wc.alloc (.cells #[.string y, .int .i64 f2.k, .string f2.x, .int .i64 f2.n, .string f2.m, .slice f2.q f2.ql f2.qc, .int .i64 f2.li, .int .i64 f2.co] 115) = wa at *
            generalize wc.heap.size = g0 at *
            clear HXc HGc HIc
            refine hK.out _ _ ?_ (fun hHeld => ?_)
            · exact HXa.out.te
            clear hK K
            try simp only [Act.put, List.getElem_toArray, List.getElem_cons_zero, List.getElem_cons_succ, List.setIfInBounds_toArray, List.set_cons_zero, List.set_cons_succ]
            refine wpAnyU_ready (rs := [10]) (by kernel_rfl) (by simp) ?_
            refine (AllReadyU.cons rfl (fun K hK => ?_) AllReadyU.nil)
            · refine step_push (w0 := w) rfl (.tmp 52) (.tmp 57) 60 115 _ 8 104 rfl Try.underlying60 Try.inf115 rfl (by decide) (by decide) v rfl HGa.out g0 1 [.string y, .int .i64 f2.k, .string f2.x, .int .i64 f2.n, .string f2.m, .slice f2.q f2.ql f2.qc, .int .i64 f2.li, .int .i64 f2.co] rfl rfl HNa.out (fun u hu => by simp at hu; rcases hu with rfl | rfl | rfl | rfl | rfl | rfl | rfl | rfl <;> rfl) (by have := HVN.out; have := HN.out; omega) HXa.out.ex.size ?_
              intro gb cb wb hGR hgr hob
              have HGb : Hid (GR (fun w D F => isAt st8 → PA w D (L ++ [(y, e)]) F) 115 8 w wb ⟨some ⟨gb, 0, none⟩, v.n + 1, cb⟩) := hGR _ kp_pa (fun F h z => PA.snoc (HIa.out z) (h z))
              have exb := Ex.ofGrown hgr (S := fun k => (slV v).ownBlock = some k) (fun _ z => z.symm)
              have HXb := hide (HXa.out.oth exb (fun k z => (hob k z).1))
              clear hGR hgr hob exb HXa HGa HIa HNa
              refine hK.out _ _ ?_ (fun hHeld => ?_)
              · exact HXb.out.te
              clear hK K
              try simp only [Act.put, List.getElem_toArray, List.getElem_cons_zero, List.getElem_cons_succ, List.setIfInBounds_toArray, List.set_cons_zero, List.set_cons_succ]
              refine wpAnyU_take (i := 11) (v := ?_) [12, 13] rfl (by kernel_rfl) (by kernel_rfl) (by kernel_rfl) (by kernel_rfl) (fun _ _ _ h => h) (Or.inl ⟨by rfl, ?_⟩) (by assumption) ?_
              rotate_left
              · (intro w hSw; (try dsimp only at hSw); (skip); go_simp; try (with_reducible rfl))
              try simp only [Act.put, List.getElem_toArray, List.getElem_cons_zero, List.getElem_cons_succ, List.setIfInBounds_toArray, List.set_cons_zero, List.set_cons_succ]
              refine wpAnyU_take (i := 12) (v := ?_) [13] rfl (by kernel_rfl) (by kernel_rfl) (by kernel_rfl) (by kernel_rfl) (fun _ _ _ h => h) (Or.inl ⟨by rfl, ?_⟩) (by assumption) ?_
              rotate_left
              · (intro w hSw; (try dsimp only at hSw); (skip); go_simp; try (with_reducible rfl))
              try simp only [Act.put, List.getElem_toArray, List.getElem_cons_zero, List.getElem_cons_succ, List.setIfInBounds_toArray, List.set_cons_zero, List.set_cons_succ]
              refine wpAnyU_ready (rs := [13]) (by kernel_rfl) (by simp) ?_
              refine AllReadyU.last rfl (fun K hK => ?_)
              have Y6 := HXb.out.te.c6
              have YF6 := HXb.out.te.fz 6
              go_simp
              refine hK.out _ _ ?_
              clear hK K
              try simp only [Act.put, List.getElem_toArray, List.getElem_cons_zero, List.getElem_cons_succ, List.setIfInBounds_toArray, List.set_cons_zero, List.set_cons_succ]
              refine wpAnyU_done (by kernel_rfl) ?_ _
              have HXf := hide (HXb.out.set (HXb.out.te.put6 ⟨some ⟨gb, 0, none⟩, v.n + 1, cb⟩))
              have HGf : Hid (GR (fun w D F => isAt st8 → PA w D (L ++ [(y, e)]) F) 115 8 w (wb.setCell ⟨q, 6, none⟩ (.slice (some ⟨gb, 0, none⟩) (v.n + 1) cb)) ⟨some ⟨gb, 0, none⟩, v.n + 1, cb⟩) := GR.keep kp_pa HGb.out ((Ex.refl (fun k => k = q) wb).set (p := q) rfl _) (fun k z => .inl (by have := HB.out; omega))
              dsimp only at HXf
              clear HXb HGb Y6 YF6
              go_upto_region 9 with fail
              generalize wb.setCell ⟨q, 6, none⟩ (.slice (some ⟨gb, 0, none⟩) (v.n + 1) cb) = wf at *
              have HAC := hide (acceptK_any wf HXf.out.ins bCOM)
              have HDA9 : Hid (DA d (acceptS s bCOM st8).2) := acceptS_da HDA8.out _
              have HAT9 : Hid (isAt (acceptS s bCOM st8).2 → isAt st8) := isAt.acc
              generalize hacc : acceptS s bCOM st8 = ac at *
              obtain ⟨bo, st10⟩ := ac
              dsimp only at HAC HDA9 HAT9
              unfold bCOM at HAC
              go_wp2_with fail
              refine HAC.out.mono ?_
              rintro e9 wg ⟨rfl, hex, hi⟩
              have HXg := hide (HXf.out.call hex hi)
              have HGg : Hid (GR (fun w D F => isAt st10 → PA w D (L ++ [(y, e)]) F) 115 8 w wg ⟨some ⟨gb, 0, none⟩, v.n + 1, cb⟩) := GR.imp (GR.keep kp_pa HGf.out hex (fun k z => .inl (by have := HB.out; omega))) (fun F h z => h (HAT9.out z))
              have hrel2 : ∃ m2, m2 < m0 ∧ ARL B p a cp s w q N d l c x (L0, st9) (.bool bo) wg m2 := by
                have hsr := HSR.out
                cases bo
                · rw [if_neg (by simp)] at hsr
                  injection hsr with hsr
                  injection hsr with hs1 hs2
                  have h10 : st10 = st8 := by
                    unfold acceptS at hacc
                    split at hacc
                    · injection hacc with q1 q2; cases q1
                    · injection hacc with q1 q2; exact q2.symm
                  exact ⟨0, by have := HM8.out; omega, L ++ [(y, e)], st10, _, HXg.out, HGg.out, HDA9.out, by have := HVN.out; have := HM8.out; show v.n + 1 + 0 ≤ N; omega, .inr ⟨rfl, rfl, by rw [← HLL.out, ← hs1], by rw [h10]; exact hs2⟩⟩
                · rw [if_pos (by rfl)] at hsr
                  split at hsr
                  · cases hsr
                  · next L3 st5 h3 =>
                    injection hsr with hsr
                    injection hsr with hs1 hs2
                    have hs2 : st5 = st9 := hs2
                    rw [hs2] at h3
                    exact ⟨m8, by have := HM8.out; omega, L ++ [(y, e)], st10, _, HXg.out, HGg.out, HDA9.out, by have := HVN.out; have := HM8.out; show v.n + 1 + m8 ≤ N; omega, .inl ⟨rfl, L3, h3, by rw [← HLL.out, ← hs1, List.append_assoc]; rfl⟩⟩
              obtain ⟨m2, hm2, hr2⟩ := hrel2
              clear hex hi HXf HGf HAC HXg HGg HDA9 HAT9 hacc
              go_wp2
              go_roundw
              case rel => exact ⟨m2, hr2⟩
              case measure => exact lm_lt hr2 (by rw [HLM.out]; exact hm2)
      · have HXP := hide (expectK_any wr HX.out.ins bEND)
        have HAT2 : Hid (isAt (expectS s bEND st6) → isAt st6) := fun z => isAt.ex z
        have HRR2 : Hid ((.call x L l c .nil, expectS s bEND st6) = RR) := by
          show _ = _
          rw [← HRR.out, hL, hst]
        clear hL hst h0 HLM HVN HDA HRR
        generalize expectS s bEND st6 = st7 at *
        unfold bEND at HXP
        go_wp2_with fail
        refine HXP.out.mono ?_
        rintro e9 w5 ⟨rfl, hex, hi⟩
        have HX5 := hide (HX.out.call hex hi)
        have HG5 : Hid (GR (fun w D F => isAt st7 → PA w D L F) 115 8 w w5 v) := GR.imp (GR.keep kp_pa HG.out hex (fun k z => .inl (by have := HB.out; omega))) (fun F h z => h (HAT2.out z))
        clear hex hi HX HG HXP
        have HF : Hid (StPost B p q a cp s w RR (.returned (.tuple #[])) w5) := by
          rw [← HRR2.out]
          obtain ⟨F, g1, g2⟩ := HG5.out.fin kp_pa
          exact HX5.out.fin (fun z => ⟨rfl, v, F, [], rfl, g1, g2 z, rfl⟩)
        clear HX5 HG5
        simp only []
        go_wp2
        exact bodyPost_ret (v := .tuple #[]) (by simp [results, Try.results73]) rfl HF.out
  · have hp0 := HCS.out
    rw [if_pos hbo] at hp0
    have HAT := hide (atK_any w4 HX4.out.ins bEND)
    rw [hbo] at HAT
    unfold bEND at HAT
    have HR0 : Hid (ARL B p a cp s w q N d l c x (L0, st9) (.bool false) w4 0) := ⟨[], st2, nl, HX4.out, GR.nil (fun _ => rfl), HDA2.out, by show 0 + 0 ≤ N; omega, .inr ⟨rfl, rfl, hp0.1.symm, hp0.2.symm⟩⟩
    clear HX4 HDA2 hp0 hbo HCS
    go_wp2_with (go_at_call 72; refine (HAT.out).mono ?_; rintro e wq ⟨rfl, hwq⟩; subst wq; simp only [])
    clear HAT
    go_loopw [5] (fun v5 wr => ∃ m, ARL B p a cp s w q N d l c x (L0, st9) v5 wr m) (fun v5 wr => lm (ARL B p a cp s w q N d l c x (L0, st9) v5 wr))
    case atStart => exact ⟨_, HR0.out⟩
    case round =>
      have hsp := (lm_spec hrel).1
      obtain ⟨m0, hmm⟩ : ∃ m, lm (ARL B p a cp s w q N d l c x (L0, st9) u5 wr) = m := ⟨_, rfl⟩
      have HLM := hide hmm
      rw [hmm] at hsp
      clear hmm hrel HR0
      obtain ⟨L, st6, v, h1, h2, h3, h4, h5⟩ := hsp
      have HX := hide h1
      have HG := hide h2
      have HDA := hide h3
      have HVN := hide h4
      clear h1 h2 h3 h4
      rcases h5 with ⟨rfl, L2, hp, hLL⟩ | ⟨rfl, h0, hL, hst⟩
      · obtain ⟨m8, hm8, hp⟩ : ∃ m8, m8 + 1 = m0 ∧ pargs s (m8 + 1) st6 = some (L2, st9) := by
          cases m0 with
          | zero => unfold pargs at hp; cases hp
          | succ m => exact ⟨m, rfl, hp⟩
        unfold pargs at hp
        obtain ⟨e, st8, hpe, hsr⟩ : ∃ e st8, pj s m8 (.expr 1) (expectS s bASG (takeS s 2 st6).2) = some (e, st8) ∧ ((if (acceptS s bCOM st8).1 = true then
            (match pargs s m8 (acceptS s bCOM st8).2 with
             | none => none
             | some (L, st5) => some (((takeS s 2 st6).1.x, e) :: L, st5))
          else some ([((takeS s 2 st6).1.x, e)], st8)) = some (L2, st9)) := by
          split at hp
          · cases hp
          · next e st8 h1 => exact ⟨e, st8, h1, hp⟩
        have HM8 := hide hm8
        have HPE := hide hpe
        have HSR := hide hsr
        have HLL := hide hLL
        have HDA7 : Hid (DA d (expectS s bASG (takeS s 2 st6).2)) := expectS_da (takeS_da HDA.out 2) _
        have HDA8 : Hid (DA d st8) := pj_da s _ _ _ _ _ hpe HDA7.out
        have HAT8 : Hid (isAt st8 → isAt (expectS s bASG (takeS s 2 st6).2)) := fun z => isAt.pj HPE.out HDA7.out HD0.out z
        have HAT7 : Hid (isAt (expectS s bASG (takeS s 2 st6).2) → isAt (takeS s 2 st6).2) := isAt.ex
        have HAT6 : Hid (isAt (takeS s 2 st6).2 → isAt st6) := fun z => (isAt.take z).1
        have HEC : Hid (∀ wz, InS B p a cp s wz (expectS s bASG (takeS s 2 st6).2) → Calls Try.prog 44 #[.pointer (some ⟨p, 0, none⟩), .int .i64 1] wz (XPost B p a cp s wz (e, st8))) := fun wz hz => expr_any wz HPE.out hz (HDA7.out.ok HD0.out)
        have HTC := hide (takeK_any wr HX.out.ins 2 (by decide))
        have HXC : Hid (∀ wz, InS B p a cp s wz (takeS s 2 st6).2 → _) := fun wz hz => expectK_any wz hz bASG
        clear hm8 hpe hsr hLL hp HPE
        generalize expectS s bASG (takeS s 2 st6).2 = st7 at *
        generalize (takeS s 2 st6).2 = st6b at *
        generalize (takeS s 2 st6).1 = ty at *
        obtain ⟨y, hy⟩ : ∃ y, ty.x = y := ⟨_, rfl⟩
        rw [hy] at HSR
        unfold bASG at HXC
        go_upto_region 10 with fail
        go_wp2_with fail
        refine HTC.out.mono ?_
        rintro e9 w5 ⟨rfl, hex, hi⟩
        have HX5 := hide (HX.out.call hex hi)
        have HG5 : Hid (GR (fun w D F => isAt st6b → PA w D L F) 115 8 w w5 v) := GR.imp (GR.keep kp_pa HG.out hex (fun k z => .inl (by have := HB.out; omega))) (fun F h z => h (HAT6.out z))
        have hfl := fld81 ty w5
        rw [hy] at hfl
        unfold tkV at hfl ⊢
        rw [hy] at hfl ⊢
        clear hex hi HX HG HTC hy
        simp only []
        go_upto_region 11 with fail
        clear hfl
        go_wp2_with fail
        refine (HXC.out w5 HX5.out.ins).mono ?_
        rintro e9 w6 ⟨rfl, hex, hi⟩
        have HX6 := hide (HX5.out.call hex hi)
        have HG6 : Hid (GR (fun w D F => isAt st7 → PA w D L F) 115 8 w w6 v) := GR.imp (GR.keep kp_pa HG5.out hex (fun k z => .inl (by have := HB.out; omega))) (fun F h z => h (HAT7.out z))
        clear hex hi HX5 HG5 HXC
        simp only []
        go_upto_region 12 with fail
        have HX7 : Hid (SX B p a cp s w w6.drew q st7 ⟨1, x, nl, nl, nl, nl, v, nl, l, c⟩) := HX6.out.low (Ex.refl _ _).drew
        have HG7 : Hid (GR (fun w D F => isAt st7 → PA w D L F) 115 8 w w6.drew v) := GR.keep kp_pa HG6.out ((Ex.refl (fun _ => False) w6).drew) (fun _ z => z.elim)
        clear HX6 HG6
        refine wp_region_until (fun w6 => SK w6 q ⟨1, x, nl, nl, nl, nl, v, nl, l, c⟩) 13 (by kernel_rfl) (HX7.out.te) (fun hHeld => ?_)
        generalize w6.drew = wd at *
        refine wpAnyU_take (i := 0) (v := ?_) [13] rfl (by kernel_rfl) (by kernel_rfl) (by kernel_rfl) (by kernel_rfl) (fun _ _ _ h => h) (Or.inl ⟨by rfl, ?_⟩) (by assumption) ?_
        rotate_left
        · (intro w hSw; (try dsimp only at hSw); (skip); go_simp; try (with_reducible rfl))
        try simp only [Act.put, List.getElem_toArray, List.getElem_cons_zero, List.getElem_cons_succ, List.setIfInBounds_toArray, List.set_cons_zero, List.set_cons_succ]
        refine wpAnyU_take (i := 1) (v := ?_) [13] rfl (by kernel_rfl) (by kernel_rfl) (by kernel_rfl) (by kernel_rfl) (fun _ _ _ h => h) (Or.inl ⟨by rfl, ?_⟩) (by assumption) ?_
        rotate_left
        · (intro w hSw; (try dsimp only at hSw); (skip); go_simp; try (with_reducible rfl))
        try simp only [Act.put, List.getElem_toArray, List.getElem_cons_zero, List.getElem_cons_succ, List.setIfInBounds_toArray, List.set_cons_zero, List.set_cons_succ]
        refine wpAnyU_take (i := 2) (v := ?_) [13] rfl (by kernel_rfl) (by kernel_rfl) (by kernel_rfl) (by kernel_rfl) (fun _ _ _ h => h) (Or.inl ⟨by rfl, ?_⟩) (by assumption) ?_
        rotate_left
        · (intro w hSw; (try dsimp only at hSw); (skip); go_simp; try (with_reducible rfl))
        try simp only [Act.put, List.getElem_toArray, List.getElem_cons_zero, List.getElem_cons_succ, List.setIfInBounds_toArray, List.set_cons_zero, List.set_cons_succ]
        refine wpAnyU_take (i := 3) (v := ?_) [13] rfl (by kernel_rfl) (by kernel_rfl) (by kernel_rfl) (by kernel_rfl) (fun _ _ _ h => h) (Or.inl ⟨by rfl, ?_⟩) (by assumption) ?_
        rotate_left
        · (intro w hSw; (try dsimp only at hSw); (skip); go_simp; try (with_reducible rfl))
        try simp only [Act.put, List.getElem_toArray, List.getElem_cons_zero, List.getElem_cons_succ, List.setIfInBounds_toArray, List.set_cons_zero, List.set_cons_succ]
        refine wpAnyU_take (i := 4) (v := ?_) [13] rfl (by kernel_rfl) (by kernel_rfl) (by kernel_rfl) (by kernel_rfl) (fun _ _ _ h => h) (Or.inl ⟨by rfl, ?_⟩) (by assumption) ?_
        rotate_left
        · (intro w hSw; (try dsimp only at hSw); (have z6 := hSw.c6); go_simp; try (with_reducible rfl))
        try simp only [Act.put, List.getElem_toArray, List.getElem_cons_zero, List.getElem_cons_succ, List.setIfInBounds_toArray, List.set_cons_zero, List.set_cons_succ]
        refine wpAnyU_take (i := 5) (v := ?_) [13] rfl (by kernel_rfl) (by kernel_rfl) (by kernel_rfl) (by kernel_rfl) (fun _ _ _ h => h) (Or.inl ⟨by rfl, ?_⟩) (by assumption) ?_
        rotate_left
        · (intro w hSw; (try dsimp only at hSw); (skip); go_simp; try (with_reducible rfl))
        try simp only [Act.put, List.getElem_toArray, List.getElem_cons_zero, List.getElem_cons_succ, List.setIfInBounds_toArray, List.set_cons_zero, List.set_cons_succ]
        refine wpAnyU_take (i := 6) (v := ?_) [13] rfl (by kernel_rfl) (by kernel_rfl) (by kernel_rfl) (by kernel_rfl) (fun _ _ _ h => h) (Or.inl ⟨by rfl, ?_⟩) (by assumption) ?_
        rotate_left
        · (intro w hSw; (try dsimp only at hSw); (skip); go_simp; try (with_reducible rfl))
        try simp only [Act.put, List.getElem_toArray, List.getElem_cons_zero, List.getElem_cons_succ, List.setIfInBounds_toArray, List.set_cons_zero, List.set_cons_succ]
        refine wpAnyU_ready (rs := [7]) (by kernel_rfl) (by simp) ?_
        refine (AllReadyU.cons rfl (fun K hK => ?_) AllReadyU.nil)
        · refine step_call rfl 44 #[.pointer (some ⟨p, 0, none⟩), .int .i64 1] (by simp [go_sem]) (HEC.out wd HX7.out.ins) ?_
          rintro e9 wc ⟨f2, rfl, hex, hi, hti⟩
          have HXc := hide (HX7.out.call hex hi)
          have hexU : ∀ k, k = p → k < w.heap.size ∨ wd.heap.size ≤ k := fun k z => .inl (by have := HB.out; omega)
          have HGc : Hid (GR (fun w D F => isAt st8 → PA w D L F) 115 8 w wc v) := GR.imp (GR.keep kp_pa HG7.out hex hexU) (fun F h z => h (HAT8.out z))
          have HIc : Hid (isAt st8 → ET wc (DG w v) e f2) := fun z => (hti z).keep (Ex.refl (fun _ => False) _) (fun _ z => z.elim) (fun g z => .inl (by
            rcases z with z | z
            · have := HX7.out.ex.size; omega
            · obtain ⟨F, h1, _⟩ := HG7.out
              exact (h1.lt g z).2))
          clear hex hi hti hexU HX7 HG7
          refine ⟨_, rfl, ?_⟩
          unfold xV
          refine hK.out _ _ ?_ (fun hHeld => ?_)
          · exact HXc.out.te
          clear hK K
          try simp only [Act.put, List.getElem_toArray, List.getElem_cons_zero, List.getElem_cons_succ, List.setIfInBounds_toArray, List.set_cons_zero, List.set_cons_succ]
          refine wpAnyU_take (i := 8) (v := ?_) [13] rfl (by kernel_rfl) (by kernel_rfl) (by kernel_rfl) (by kernel_rfl) (fun _ _ _ h => h) (Or.inl ⟨by rfl, ?_⟩) (by assumption) ?_
          rotate_left
          · (intro w hSw; (try dsimp only at hSw); (skip); go_simp; try (with_reducible rfl))
          try simp only [Act.put, List.getElem_toArray, List.getElem_cons_zero, List.getElem_cons_succ, List.setIfInBounds_toArray, List.set_cons_zero, List.set_cons_succ]
          refine wpAnyU_ready (rs := [9]) (by kernel_rfl) (by simp) ?_
          refine (AllReadyU.cons rfl (fun K hK => ?_) AllReadyU.nil)
          · go_simp
            have HXa := hide (HXc.out.low ((Ex.refl (fun _ => False) wc).alloc (.cells #[.string y, .int .i64 f2.k, .string f2.x, .int .i64 f2.n, .string f2.m, .slice f2.q f2.ql f2.qc, .int .i64 f2.li, .int .i64 f2.co] 115)))
            have HGa : Hid (GR (fun w D F => isAt st8 → PA w D L F) 115 8 w (wc.alloc (.cells #[.string y, .int .i64 f2.k, .string f2.x, .int .i64 f2.n, .string f2.m, .slice f2.q f2.ql f2.qc, .int .i64 f2.li, .int .i64 f2.co] 115)) v) := GR.keep kp_pa HGc.out ((Ex.refl (fun _ => False) wc).alloc _) (fun _ z => z.elim)
            have HIa : Hid (isAt st8 → ET (wc.alloc (.cells #[.string y, .int .i64 f2.k, .string f2.x, .int .i64 f2.n, .string f2.m, .slice f2.q f2.ql f2.qc, .int .i64 f2.li, .int .i64 f2.co] 115)) (DG w v) e f2) := fun z => (HIc.out z).keep ((Ex.refl (fun _ => False) wc).alloc _) (fun _ z => z.elim) (fun g z => .inl z)
            have HNa : Hid (∀ (jq : Nat) (u : Value), [.string y, .int .i64 f2.k, .string f2.x, .int .i64 f2.n, .string f2.m, .slice f2.q f2.ql f2.qc, .int .i64 f2.li, .int .i64 f2.co][jq]? = some u → (wc.alloc (.cells #[.string y, .int .i64 f2.k, .string f2.x, .int .i64 f2.n, .string f2.m, .slice f2.q f2.ql f2.qc, .int .i64 f2.li, .int .i64 f2.co] 115)).cell? ((⟨wc.heap.size, 0, none⟩ : Addr).add jq) = some u) := fun jq u hj => new_cells wc [.string y, .int .i64 f2.k, .string f2.x, .int .i64 f2.n, .string f2.m, .slice f2.q f2.ql f2.qc, .int .i64 f2.li, .int .i64 f2.co] 115 jq u hj
            generalize wc.alloc (.cells #[.string y, .int .i64 f2.k, .string f2.x, .int .i64 f2.n, .string f2.m, .slice f2.q f2.ql f2.qc, .int .i64 f2.li, .int .i64 f2.co] 115) = wa at *
            generalize wc.heap.size = g0 at *
            clear HXc HGc HIc
            refine hK.out _ _ ?_ (fun hHeld => ?_)
            · exact HXa.out.te
            clear hK K
            try simp only [Act.put, List.getElem_toArray, List.getElem_cons_zero, List.getElem_cons_succ, List.setIfInBounds_toArray, List.set_cons_zero, List.set_cons_succ]
            refine wpAnyU_ready (rs := [10]) (by kernel_rfl) (by simp) ?_
            refine (AllReadyU.cons rfl (fun K hK => ?_) AllReadyU.nil)
            · refine step_push (w0 := w) rfl (.tmp 52) (.tmp 57) 60 115 _ 8 104 rfl Try.underlying60 Try.inf115 rfl (by decide) (by decide) v rfl HGa.out g0 1 [.string y, .int .i64 f2.k, .string f2.x, .int .i64 f2.n, .string f2.m, .slice f2.q f2.ql f2.qc, .int .i64 f2.li, .int .i64 f2.co] rfl rfl HNa.out (fun u hu => by simp at hu; rcases hu with rfl | rfl | rfl | rfl | rfl | rfl | rfl | rfl <;> rfl) (by have := HVN.out; have := HN.out; omega) HXa.out.ex.size ?_
              intro gb cb wb hGR hgr hob
              have HGb : Hid (GR (fun w D F => isAt st8 → PA w D (L ++ [(y, e)]) F) 115 8 w wb ⟨some ⟨gb, 0, none⟩, v.n + 1, cb⟩) := hGR _ kp_pa (fun F h z => PA.snoc (HIa.out z) (h z))
              have exb := Ex.ofGrown hgr (S := fun k => (slV v).ownBlock = some k) (fun _ z => z.symm)
              have HXb := hide (HXa.out.oth exb (fun k z => (hob k z).1))
              clear hGR hgr hob exb HXa HGa HIa HNa
              refine hK.out _ _ ?_ (fun hHeld => ?_)
              · exact HXb.out.te
              clear hK K
              try simp only [Act.put, List.getElem_toArray, List.getElem_cons_zero, List.getElem_cons_succ, List.setIfInBounds_toArray, List.set_cons_zero, List.set_cons_succ]
              refine wpAnyU_take (i := 11) (v := ?_) [12, 13] rfl (by kernel_rfl) (by kernel_rfl) (by kernel_rfl) (by kernel_rfl) (fun _ _ _ h => h) (Or.inl ⟨by rfl, ?_⟩) (by assumption) ?_
              rotate_left
              · (intro w hSw; (try dsimp only at hSw); (skip); go_simp; try (with_reducible rfl))
              try simp only [Act.put, List.getElem_toArray, List.getElem_cons_zero, List.getElem_cons_succ, List.setIfInBounds_toArray, List.set_cons_zero, List.set_cons_succ]
              refine wpAnyU_take (i := 12) (v := ?_) [13] rfl (by kernel_rfl) (by kernel_rfl) (by kernel_rfl) (by kernel_rfl) (fun _ _ _ h => h) (Or.inl ⟨by rfl, ?_⟩) (by assumption) ?_
              rotate_left
              · (intro w hSw; (try dsimp only at hSw); (skip); go_simp; try (with_reducible rfl))
              try simp only [Act.put, List.getElem_toArray, List.getElem_cons_zero, List.getElem_cons_succ, List.setIfInBounds_toArray, List.set_cons_zero, List.set_cons_succ]
              refine wpAnyU_ready (rs := [13]) (by kernel_rfl) (by simp) ?_
              refine AllReadyU.last rfl (fun K hK => ?_)
              have Y6 := HXb.out.te.c6
              have YF6 := HXb.out.te.fz 6
              go_simp
              refine hK.out _ _ ?_
              clear hK K
              try simp only [Act.put, List.getElem_toArray, List.getElem_cons_zero, List.getElem_cons_succ, List.setIfInBounds_toArray, List.set_cons_zero, List.set_cons_succ]
              refine wpAnyU_done (by kernel_rfl) ?_ _
              have HXf := hide (HXb.out.set (HXb.out.te.put6 ⟨some ⟨gb, 0, none⟩, v.n + 1, cb⟩))
              have HGf : Hid (GR (fun w D F => isAt st8 → PA w D (L ++ [(y, e)]) F) 115 8 w (wb.setCell ⟨q, 6, none⟩ (.slice (some ⟨gb, 0, none⟩) (v.n + 1) cb)) ⟨some ⟨gb, 0, none⟩, v.n + 1, cb⟩) := GR.keep kp_pa HGb.out ((Ex.refl (fun k => k = q) wb).set (p := q) rfl _) (fun k z => .inl (by have := HB.out; omega))
              dsimp only at HXf
              clear HXb HGb Y6 YF6
              go_upto_region 9 with fail
              generalize wb.setCell ⟨q, 6, none⟩ (.slice (some ⟨gb, 0, none⟩) (v.n + 1) cb) = wf at *
              have HAC := hide (acceptK_any wf HXf.out.ins bCOM)
              have HDA9 : Hid (DA d (acceptS s bCOM st8).2) := acceptS_da HDA8.out _
              have HAT9 : Hid (isAt (acceptS s bCOM st8).2 → isAt st8) := isAt.acc
              generalize hacc : acceptS s bCOM st8 = ac at *
              obtain ⟨bo, st10⟩ := ac
              dsimp only at HAC HDA9 HAT9
              unfold bCOM at HAC
              go_wp2_with fail
              refine HAC.out.mono ?_
              rintro e9 wg ⟨rfl, hex, hi⟩
              have HXg := hide (HXf.out.call hex hi)
              have HGg : Hid (GR (fun w D F => isAt st10 → PA w D (L ++ [(y, e)]) F) 115 8 w wg ⟨some ⟨gb, 0, none⟩, v.n + 1, cb⟩) := GR.imp (GR.keep kp_pa HGf.out hex (fun k z => .inl (by have := HB.out; omega))) (fun F h z => h (HAT9.out z))
              have hrel2 : ∃ m2, m2 < m0 ∧ ARL B p a cp s w q N d l c x (L0, st9) (.bool bo) wg m2 := by
                have hsr := HSR.out
                cases bo
                · rw [if_neg (by simp)] at hsr
                  injection hsr with hsr
                  injection hsr with hs1 hs2
                  have h10 : st10 = st8 := by
                    unfold acceptS at hacc
                    split at hacc
                    · injection hacc with q1 q2; cases q1
                    · injection hacc with q1 q2; exact q2.symm
                  exact ⟨0, by have := HM8.out; omega, L ++ [(y, e)], st10, _, HXg.out, HGg.out, HDA9.out, by have := HVN.out; have := HM8.out; show v.n + 1 + 0 ≤ N; omega, .inr ⟨rfl, rfl, by rw [← HLL.out, ← hs1], by rw [h10]; exact hs2⟩⟩
                · rw [if_pos (by rfl)] at hsr
                  split at hsr
                  · cases hsr
                  · next L3 st5 h3 =>
                    injection hsr with hsr
                    injection hsr with hs1 hs2
                    have hs2 : st5 = st9 := hs2
                    rw [hs2] at h3
                    exact ⟨m8, by have := HM8.out; omega, L ++ [(y, e)], st10, _, HXg.out, HGg.out, HDA9.out, by have := HVN.out; have := HM8.out; show v.n + 1 + m8 ≤ N; omega, .inl ⟨rfl, L3, h3, by rw [← HLL.out, ← hs1, List.append_assoc]; rfl⟩⟩
              obtain ⟨m2, hm2, hr2⟩ := hrel2
              clear hex hi HXf HGf HAC HXg HGg HDA9 HAT9 hacc
              go_wp2
              go_roundw
              case rel => exact ⟨m2, hr2⟩
              case measure => exact lm_lt hr2 (by rw [HLM.out]; exact hm2)
      · have HXP := hide (expectK_any wr HX.out.ins bEND)
        have HAT2 : Hid (isAt (expectS s bEND st6) → isAt st6) := fun z => isAt.ex z
        have HRR2 : Hid ((.call x L l c .nil, expectS s bEND st6) = RR) := by
          show _ = _
          rw [← HRR.out, hL, hst]
        clear hL hst h0 HLM HVN HDA HRR
        generalize expectS s bEND st6 = st7 at *
        unfold bEND at HXP
        go_wp2_with fail
        refine HXP.out.mono ?_
        rintro e9 w5 ⟨rfl, hex, hi⟩
        have HX5 := hide (HX.out.call hex hi)
        have HG5 : Hid (GR (fun w D F => isAt st7 → PA w D L F) 115 8 w w5 v) := GR.imp (GR.keep kp_pa HG.out hex (fun k z => .inl (by have := HB.out; omega))) (fun F h z => h (HAT2.out z))
        clear hex hi HX HG HXP
        have HF : Hid (StPost B p q a cp s w RR (.returned (.tuple #[])) w5) := by
          rw [← HRR2.out]
          obtain ⟨F, g1, g2⟩ := HG5.out.fin kp_pa
          exact HX5.out.fin (fun z => ⟨rfl, v, F, [], rfl, g1, g2 z, rfl⟩)
        clear HX5 HG5
        simp only []
        go_wp2
        exact bodyPost_ret (v := .tuple #[]) (by simp [results, Try.results73]) rfl HF.out
end
end Go.Proofs.Qxb6500774a
