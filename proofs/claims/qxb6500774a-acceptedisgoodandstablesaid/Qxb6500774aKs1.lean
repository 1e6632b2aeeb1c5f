import Derived.Test.Qxb6500774aKr1
namespace Go.Proofs.Qxb6500774a
open Go.RowKit
set_option linter.unusedVariables false
set_option linter.unusedSimpArgs false

section
variable {B p : Nat} {a : Option Addr} {cp : Nat} {s : List Int}
def IRL (B p : Nat) (a : Option Addr) (cp : Nat) (s : List Int) (w : World) (q N : Nat) (d l c : Int) (RL : S × PSt) (v4 : Value) (wr : World) (m : Nat) : Prop := ∃ (A : S) (st : PSt) (v : SLc), SX B p a cp s w wr q st ⟨2, nb, nl, v, nl, nl, nl, nl, l, c⟩ ∧ GR (fun w D F => isAt st → SS w D A true F) 117 8 w wr v ∧ DA d st ∧ v.n + m ≤ N ∧ ((v4 = .bool true ∧ ∃ R2, ps s m .arms st = some (R2, RL.2) ∧ A.app R2 = RL.1) ∨ (v4 = .bool false ∧ m = 0 ∧ A = RL.1 ∧ st = RL.2))
theorem kn_arms (FA : List (List Value)) (va : SLc) (A : S) (P0 : Prop) : KN (fun w D => RW w D FA va ∧ (P0 → SS w D A true FA)) := fun _ _ _ _ _ ex hS hD h => ⟨h.1.keep ex hS hD, fun z => (h.2 z).keep ex hS hD⟩
set_option linter.unusedSimpArgs false in
set_option linter.unusedVariables false in
set_option maxRecDepth 100000 in
set_option maxHeartbeats 32000000 in
theorem ifK (N : Nat) (hN : N ≤ 4294967296) (hST : STK B p a cp s N) (l c : Int) (st : PSt) (RR : S × PSt) (w : World) (q : Nat) (hpj : ps s N (.ifs l c) st = some RR) (hin : InS B p a cp s w st) (d : Int) (hd0 : 0 ≤ d ∧ d ≤ 64) (hda : DA d st) (hat : atS s bIF st = true) (hsk : SK w q ⟨0, nb, nl, nl, nl, nl, nl, nl, l, c⟩) (hq : B ≤ q) :
    Calls Try.prog 74 #[.pointer (some ⟨p, 0, none⟩), .pointer (some ⟨q, 0, none⟩)] w (StPost B p q a cp s w RR) := by
  have HD0 := hide hd0
  have HN := hide hN
  have HDA := hide hda
  have HST := hide hST
  have hb := hin.hB
  have HB : Hid (B ≤ q ∧ q < w.heap.size ∧ p < B ∧ B ≤ w.heap.size) := ⟨hq, hsk.lt, hb.2, hb.1⟩
  have HX0 : Hid (SX B p a cp s w w q st ⟨0, nb, nl, nl, nl, nl, nl, nl, l, c⟩) := ⟨hin, Ex.refl _ _, hsk, HB.out⟩
  have HAT := hide hat
  have HPJ := hide hpj
  clear hpj hin hd0 hda hsk hq hN hb hat hST
  have y0 := HX0.out.te.c0
  have yf0 := HX0.out.te.fz 0
  go_enter Try.func74, Try.ntmps74
  go_upto_region 1 with fail
  have HX1 := hide (HX0.out.set (HX0.out.te.put0 2))
  dsimp only at HX1
  clear HX0 y0 yf0
  generalize w.setCell ⟨q, 0, none⟩ (.int .i64 2) = w1 at *
  have HOP := hide (openK_st HX1.out.ins HDA.out HD0.out HAT.out)
  obtain ⟨bo, st1, hos⟩ : ∃ b x, openS s st = (b, x) := ⟨_, _, rfl⟩
  have HOS := hide hos
  clear hos
  rw [HOS.out] at HOP
  cases bo
  · have HRR : Hid ((.nil, st1) = RR) := by
      have hpj := HPJ.out
      cases N with
      | zero => unfold ps at hpj; cases hpj
      | succ m =>
        unfold ps at hpj
        rw [if_neg (by rw [HOS.out]; exact Bool.false_ne_true), HOS.out] at hpj
        injection hpj
    have HB6 : Hid (isB st1) := by
      have h := (openS_da HDA.out).2 (by rw [HOS.out]; exact Bool.false_ne_true)
      rw [HOS.out] at h
      exact h
    clear HPJ
    go_wp2_with fail
    refine HOP.out.mono ?_
    rintro e9 w2 ⟨rfl, hex, hi⟩
    have HX2 := hide (HX1.out.call hex hi)
    clear hex hi HX1 HOP
    simp only []
    have HF : Hid (StPost B p q a cp s w RR (.returned (.tuple #[])) w2) := by
      rw [← HRR.out]
      exact HX2.out.fin (fun z => absurd HB6.out z.nb)
    clear HX2
    go_wp2
    exact bodyPost_ret (v := .tuple #[]) (by simp [results, Try.results74]) rfl HF.out
  have HDL : Hid (d < 64) := openS_lt HAT.out (by rw [HOS.out]) HDA.out
  have HDA1 : Hid (DA (d + 1) st1) := by
    have h := (openS_da HDA.out).1 (by rw [HOS.out])
    rw [HOS.out] at h
    exact h
  have HD1 : Hid (0 ≤ d + 1 ∧ d + 1 ≤ 64) := by have := HD0.out; have := HDL.out; exact ⟨by omega, by omega⟩
  obtain ⟨m, A0, stA, hm, hp1, hrest⟩ : ∃ m A0 stA, m < N ∧ ps s m .arms st1 = some (A0, stA) ∧ ((if (acceptS s bELS stA).1 = true then
          (match ps s m .stmts (acceptS s bELS stA).2 with
           | none => none
           | some (L, st2) => some (.iff A0 L l c .nil, expectS s bEIF (decS st2)))
         else some (.iff A0 .nil l c .nil, expectS s bEIF (decS stA))) = some RR) := by
    have hpj := HPJ.out
    cases N with
    | zero => unfold ps at hpj; cases hpj
    | succ m =>
      unfold ps at hpj
      rw [if_pos (by rw [HOS.out]), HOS.out] at hpj
      dsimp only at hpj
      split at hpj
      · cases hpj
      · next A0 stA h1 => exact ⟨m, A0, stA, Nat.lt_succ_self m, h1, hpj⟩
  have HM := hide hm
  have HRT := hide hrest
  have HP1 := hide hp1
  have HDAA : Hid (DA (d + 1) stA) := ps_da s _ _ _ _ _ hp1 HDA1.out
  clear hp1 hrest hm HPJ HOS HDA
  go_upto_region 2 with (go_at_call 94; refine HOP.out.mono ?_; rintro e9 w2 ⟨rfl, hex, hi⟩; have HEX := hide hex; have HI := hide hi; clear hex hi; simp only [])
  have HX2 := hide (HX1.out.call HEX.out HI.out)
  clear HX1 HEX HI HOP
  go_wp2_with fail
  have HR0 : Hid (IRL B p a cp s w q N (d + 1) l c (A0, stA) (.bool true) w2 m) := ⟨.nil, st1, nl, HX2.out, GR.nil (fun _ => rfl), HDA1.out, by have := HM.out; show 0 + m ≤ N; omega, .inl ⟨rfl, A0, HP1.out, rfl⟩⟩
  clear HX2 HDA1 HP1
  go_loopw [4] (fun v4 wr => ∃ m, IRL B p a cp s w q N (d + 1) l c (A0, stA) v4 wr m) (fun v4 wr => lm (IRL B p a cp s w q N (d + 1) l c (A0, stA) v4 wr))
  case atStart => exact ⟨_, HR0.out⟩
  case round =>
    have hsp := (lm_spec hrel).1
    obtain ⟨m0, hmm⟩ : ∃ m, lm (IRL B p a cp s w q N (d + 1) l c (A0, stA) u4 wr) = m := ⟨_, rfl⟩
    have HLM := hide hmm
    rw [hmm] at hsp
    clear hmm hrel HR0
    obtain ⟨A, st6, v, h1, h2, h3, h4, h5⟩ := hsp
    have HX := hide h1
    have HG := hide h2
    have HDA := hide h3
    have HVN := hide h4
    clear h1 h2 h3 h4
    rcases h5 with ⟨rfl, L2, hp, hLL⟩ | ⟨rfl, h0, hL, hst⟩
    · obtain ⟨m8, hm8, hp⟩ : ∃ m8, m8 + 1 = m0 ∧ ps s (m8 + 1) .arms st6 = some (L2, stA) := by
        cases m0 with
        | zero => unfold ps at hp; cases hp
        | succ m => exact ⟨m, rfl, hp⟩
      unfold ps at hp
      obtain ⟨e, st7, L, st8, hpe, hps, hsr⟩ : ∃ e st7 L st8, pj s m8 (.expr 1) st6 = some (e, st7) ∧ ps s m8 .stmts (expectS s bTHN st7) = some (L, st8) ∧ ((if (acceptS s bELI st8).1 = true then
            (match ps s m8 .arms (acceptS s bELI st8).2 with
             | none => none
             | some (R, st3) => some (.arm e L R, st3))
          else some (.arm e L .nil, st8)) = some (L2, stA)) := by
        split at hp
        · cases hp
        · next e st7 h1 =>
          split at hp
          · cases hp
          · next L st8 h2 => exact ⟨e, st7, L, st8, h1, h2, hp⟩
      have HM8 := hide hm8
      have HSR := hide hsr
      have HLL := hide hLL
      have HDA7 : Hid (DA (d + 1) st7) := pj_da s _ _ _ _ _ hpe HDA.out
      have HDA7b : Hid (DA (d + 1) (expectS s bTHN st7)) := expectS_da HDA7.out _
      have HDA8 : Hid (DA (d + 1) st8) := ps_da s _ _ _ _ _ hps HDA7b.out
      have HA6 : Hid (isAt st7 → isAt st6) := fun z => isAt.pj hpe HDA.out HD1.out z
      have HA7 : Hid (isAt (expectS s bTHN st7) → isAt st7) := isAt.ex
      have HA8 : Hid (isAt st8 → isAt (expectS s bTHN st7)) := fun z => isAt.ps hps HDA7b.out HD1.out z
      have HC7 : Hid (∀ wz, InS B p a cp s wz st6 → Calls Try.prog 44 #[.pointer (some ⟨p, 0, none⟩), .int .i64 1] wz (XPost B p a cp s wz (e, st7))) := fun wz hz => expr_any wz hpe hz (HDA.out.ok HD1.out)
      have HC8 : Hid (∀ wz, InS B p a cp s wz (expectS s bTHN st7) → Calls Try.prog 37 #[.pointer (some ⟨p, 0, none⟩)] wz (LPost B p a cp s wz (L, st8))) := fun wz hz => HST.out m8 (by have := HVN.out; have := HM8.out; omega) _ _ wz hps hz (HDA7b.out.ok HD1.out)
      have HE7 : Hid (∀ wz, InS B p a cp s wz st7 → _) := fun wz hz => expectK_any wz hz bTHN
      clear hm8 hpe hps hsr hLL hp HDA7 HDA7b
      generalize expectS s bTHN st7 = st7b at *
      unfold bTHN at HE7
      go_upto_region 5 with fail
      go_wp2_with fail
      refine (HC7.out wr HX.out.ins).mono ?_
      rintro e9 w6 ⟨f1, rfl, hex, hi, hti⟩
      have exa : Ex (fun _ => False) w6 (w6.alloc (xO f1)) := (Ex.refl _ _).alloc _
      have HX6 : Hid (SX B p a cp s w (w6.alloc (xO f1)) q st7 ⟨2, nb, nl, v, nl, nl, nl, nl, l, c⟩) := (HX.out.call hex hi).low exa
      have HG6 : Hid (GR (fun w D F => isAt st7 → SS w D A true F) 117 8 w (w6.alloc (xO f1)) v) := GR.imp (GR.keep kp_ss (GR.keep kp_ss HG.out hex (fun k z => .inl (by have := HB.out; omega))) exa (fun _ z => z.elim)) (fun F h z => h (HA6.out z))
      have HR6 : Hid (XK (w6.alloc (xO f1)) w6.heap.size f1 ∧ w.heap.size ≤ w6.heap.size) := ⟨XK.new w6 f1, Nat.le_trans HX.out.ex.size hex.size⟩
      have HR5N : Hid (¬ (slV v).ownBlock = some w6.heap.size) := fun z => by
        obtain ⟨F, g1, _⟩ := HG.out
        have := (g1.lt _ z).2
        have := hex.size
        omega
      have HT6 : Hid (isAt st7 → ET (w6.alloc (xO f1)) (DG w v) e f1) := fun z => (hti z).keep exa (fun _ z => z.elim) (fun k z => .inl (by
        rcases z with z | z
        · have := HX.out.ex.size; omega
        · obtain ⟨F, g1, _⟩ := HG.out
          exact (g1.lt k z).2))
      clear hex hi hti HX HG HC7 exa
      obtain ⟨w7, hw7⟩ : ∃ x, w6.alloc (xO f1) = x := ⟨_, rfl⟩
      rw [hw7] at HX6 HR6 HT6 HG6
      have HW7 := hide hw7
      unfold xO at HW7
      clear hw7
      unfold xV
      go_upto_region 6 with fail
      rw [HW7.out]
      clear HW7
      generalize w6.heap.size = r5 at *
      go_wp2_with fail
      refine (HE7.out w7 HX6.out.ins).mono ?_
      rintro e9 w8 ⟨rfl, hex, hi⟩
      have HX8 := hide (HX6.out.call hex hi)
      have HR8 : Hid (XK w8 r5 f1 ∧ w.heap.size ≤ r5) := ⟨HR6.out.1.keep hex (by have := HR6.out.2; have := HB.out; omega), HR6.out.2⟩
      have HT8 : Hid (isAt st7b → ET w8 (DG w v) e f1) := fun z => (HT6.out (HA7.out z)).keep hex (fun k z => .inl (.inl (by have := HB.out; omega))) (fun _ z => .inl z)
      have HG8 : Hid (GR (fun w D F => isAt st7b → SS w D A true F) 117 8 w w8 v) := GR.imp (GR.keep kp_ss HG6.out hex (fun k z => .inl (by have := HB.out; omega))) (fun F h z => h (HA7.out z))
      clear hex hi HX6 HR6 HT6 HE7 HG6
      simp only []
      go_upto_region 7 with fail
      have HX9 : Hid (SX B p a cp s w w8.drew q st7b ⟨2, nb, nl, v, nl, nl, nl, nl, l, c⟩) := HX8.out.low (Ex.refl _ _).drew
      have HR9 : Hid (XK w8.drew r5 f1 ∧ w.heap.size ≤ r5) := ⟨HR8.out.1.keep (Ex.refl (fun _ => False) _).drew (fun z => z), HR8.out.2⟩
      have HT9 : Hid (isAt st7b → ET w8.drew (DG w v) e f1) := fun z => (HT8.out z).keep (Ex.refl (fun _ => False) _).drew (fun _ z => z.elim) (fun _ z => .inl z)
      have HG9 : Hid (GR (fun w D F => isAt st7b → SS w D A true F) 117 8 w w8.drew v) := GR.keep kp_ss HG8.out ((Ex.refl (fun _ => False) w8).drew) (fun _ z => z.elim)
      clear HX8 HR8 HT8 HG8
      refine wp_region_until (fun w6 => SK w6 q ⟨2, nb, nl, v, nl, nl, nl, nl, l, c⟩ ∧ XK w6 r5 f1) 13 (by kernel_rfl) (⟨HX9.out.te, HR9.out.1⟩) (fun hHeld => ?_)
      generalize w8.drew = wd at *
      refine wpAnyU_take (i := 0) (v := ?_) [13] rfl (by kernel_rfl) (by kernel_rfl) (by kernel_rfl) (by kernel_rfl) (fun _ _ _ h => h) (Or.inl ⟨by rfl, ?_⟩) (by assumption) ?_
      rotate_left
      · (intro w hSw; (try dsimp only at hSw); (skip); go_simp; try (with_reducible rfl))
      try simp only [Act.put, List.getElem_toArray, List.getElem_cons_zero, List.getElem_cons_succ, List.setIfInBounds_toArray, List.set_cons_zero, List.set_cons_succ]
      refine wpAnyU_take (i := 1) (v := ?_) [13] rfl (by kernel_rfl) (by kernel_rfl) (by kernel_rfl) (by kernel_rfl) (fun _ _ _ h => h) (Or.inl ⟨by rfl, ?_⟩) (by assumption) ?_
      rotate_left
      · (intro w hSw; (try dsimp only at hSw); (skip); go_simp; try (with_reducible rfl))
      try simp only [Act.put, List.getElem_toArray, List.getElem_cons_zero, List.getElem_cons_succ, List.setIfInBounds_toArray, List.set_cons_zero, List.set_cons_succ]
      refine wpAnyU_take (i := 2) (v := ?_) [13] rfl (by kernel_rfl) (by kernel_rfl) (by kernel_rfl) (by kernel_rfl) (fun _ _ _ h => h) (Or.inl ⟨by rfl, ?_⟩) (by assumption) ?_
      rotate_left
      · (intro w hSw; (try dsimp only at hSw); (skip); go_simp; try (with_reducible rfl))
      try simp only [Act.put, List.getElem_toArray, List.getElem_cons_zero, List.getElem_cons_succ, List.setIfInBounds_toArray, List.set_cons_zero, List.set_cons_succ]
      refine wpAnyU_take (i := 3) (v := ?_) [13] rfl (by kernel_rfl) (by kernel_rfl) (by kernel_rfl) (by kernel_rfl) (fun _ _ _ h => h) (Or.inl ⟨by rfl, ?_⟩) (by assumption) ?_
      rotate_left
      · (intro w hSw; (try dsimp only at hSw); (skip); go_simp; try (with_reducible rfl))
      try simp only [Act.put, List.getElem_toArray, List.getElem_cons_zero, List.getElem_cons_succ, List.setIfInBounds_toArray, List.set_cons_zero, List.set_cons_succ]
      refine wpAnyU_take (i := 4) (v := ?_) [13] rfl (by kernel_rfl) (by kernel_rfl) (by kernel_rfl) (by kernel_rfl) (fun _ _ _ h => h) (Or.inl ⟨by rfl, ?_⟩) (by assumption) ?_
      rotate_left
      · (intro w hSw; (try dsimp only at hSw); (have z3 := hSw.1.c3; have x0 := hSw.2.c0; have x1 := hSw.2.c1; have x2 := hSw.2.c2; have x3 := hSw.2.c3; have x4 := hSw.2.c4; have x5 := hSw.2.c5; have x6 := hSw.2.c6); go_simp; try (with_reducible rfl))
      try simp only [Act.put, List.getElem_toArray, List.getElem_cons_zero, List.getElem_cons_succ, List.setIfInBounds_toArray, List.set_cons_zero, List.set_cons_succ]
      refine wpAnyU_take (i := 5) (v := ?_) [13] rfl (by kernel_rfl) (by kernel_rfl) (by kernel_rfl) (by kernel_rfl) (fun _ _ _ h => h) (Or.inl ⟨by rfl, ?_⟩) (by assumption) ?_
      rotate_left
      · (intro w hSw; (try dsimp only at hSw); (have z3 := hSw.1.c3; have x0 := hSw.2.c0; have x1 := hSw.2.c1; have x2 := hSw.2.c2; have x3 := hSw.2.c3; have x4 := hSw.2.c4; have x5 := hSw.2.c5; have x6 := hSw.2.c6); go_simp; try (with_reducible rfl))
      try simp only [Act.put, List.getElem_toArray, List.getElem_cons_zero, List.getElem_cons_succ, List.setIfInBounds_toArray, List.set_cons_zero, List.set_cons_succ]
      refine wpAnyU_take (i := 6) (v := ?_) [13] rfl (by kernel_rfl) (by kernel_rfl) (by kernel_rfl) (by kernel_rfl) (fun _ _ _ h => h) (Or.inl ⟨by rfl, ?_⟩) (by assumption) ?_
      rotate_left
      · (intro w hSw; (try dsimp only at hSw); (skip); go_simp; try (with_reducible rfl))
      try simp only [Act.put, List.getElem_toArray, List.getElem_cons_zero, List.getElem_cons_succ, List.setIfInBounds_toArray, List.set_cons_zero, List.set_cons_succ]
      refine wpAnyU_ready (rs := [7]) (by kernel_rfl) (by simp) ?_
      refine (AllReadyU.cons rfl (fun K hK => ?_) AllReadyU.nil)
      · refine step_call rfl 37 #[.pointer (some ⟨p, 0, none⟩)] (by simp [go_sem]) (HC8.out wd HX9.out.ins) ?_
        rintro e9 wc ⟨vb, rfl, hex, hi, hti⟩
        have HXc := hide (HX9.out.call hex hi)
        have HRc : Hid (XK wc r5 f1) := HR9.out.1.keep hex (by have := HR9.out.2; have := HB.out; omega)
        have HGc : Hid (GR (fun w D F => isAt st8 → SS w D A true F) 117 8 w wc v) := GR.imp (GR.keep kp_ss HG9.out hex (fun k z => .inl (by have := HB.out; omega))) (fun F h z => h (HA8.out z))
        have HTc : Hid (isAt st8 → ET wc (DG w v) e f1) := fun z => (HT9.out (HA8.out z)).keep hex (fun k z => .inl (.inl (by have := HB.out; omega))) (fun _ z => .inl z)
        have HLc : Hid (isAt st8 → ∃ F, RW wc (DG w v) F vb ∧ SS wc (DG w v) L false F) := fun z => by
          obtain ⟨F, h1, h2⟩ := hti z
          have hD : ∀ k, DG w v k → k < wd.heap.size ∨ wc.heap.size ≤ k := fun k z => .inl (by
            rcases z with z | z
            · have := HX9.out.ex.size; omega
            · obtain ⟨F, h1, _⟩ := HG9.out
              exact (h1.lt k z).2)
          exact ⟨F, h1.keep (Ex.refl (fun _ => False) _) (fun _ z => z.elim) hD, h2.keep (Ex.refl (fun _ => False) _) (fun _ z => z.elim) hD⟩
        clear hex hi hti HX9 HG9 HT9 HC8 HR9
        refine ⟨_, rfl, ?_⟩
        unfold slV
        refine hK.out _ _ ?_ (fun hHeld => ?_)
        · exact ⟨HXc.out.te, HRc.out⟩
        clear hK K
        try simp only [Act.put, List.getElem_toArray, List.getElem_cons_zero, List.getElem_cons_succ, List.setIfInBounds_toArray, List.set_cons_zero, List.set_cons_succ]
        refine wpAnyU_take (i := 8) (v := ?_) [13] rfl (by kernel_rfl) (by kernel_rfl) (by kernel_rfl) (by kernel_rfl) (fun _ _ _ h => h) (Or.inl ⟨by rfl, ?_⟩) (by assumption) ?_
        rotate_left
        · (intro w hSw; (try dsimp only at hSw); (skip); go_simp; try (with_reducible rfl))
        try simp only [Act.put, List.getElem_toArray, List.getElem_cons_zero, List.getElem_cons_succ, List.setIfInBounds_toArray, List.set_cons_zero, List.set_cons_succ]
        refine wpAnyU_ready (rs := [9]) (by kernel_rfl) (by simp) ?_
        refine (AllReadyU.cons rfl (fun K hK => ?_) AllReadyU.nil)
        · go_simp
          have exa : Ex (fun _ => False) wc (wc.alloc (.cells #[.int .i64 f1.k, .string f1.x, .int .i64 f1.n, .string f1.m, .slice f1.q f1.ql f1.qc, .int .i64 f1.li, .int .i64 f1.co, .slice vb.q vb.n vb.c] 117)) := (Ex.refl _ _).alloc _
          have HXa := hide (HXc.out.low exa)
          have HRa : Hid (XK (wc.alloc (.cells #[.int .i64 f1.k, .string f1.x, .int .i64 f1.n, .string f1.m, .slice f1.q f1.ql f1.qc, .int .i64 f1.li, .int .i64 f1.co, .slice vb.q vb.n vb.c] 117)) r5 f1) := HRc.out.keep exa (fun z => z)
          have HGa : Hid (GR (fun w D F => isAt st8 → SS w D A true F) 117 8 w (wc.alloc (.cells #[.int .i64 f1.k, .string f1.x, .int .i64 f1.n, .string f1.m, .slice f1.q f1.ql f1.qc, .int .i64 f1.li, .int .i64 f1.co, .slice vb.q vb.n vb.c] 117)) v) := GR.keep kp_ss HGc.out exa (fun _ z => z.elim)
          have HTa : Hid (isAt st8 → ET (wc.alloc (.cells #[.int .i64 f1.k, .string f1.x, .int .i64 f1.n, .string f1.m, .slice f1.q f1.ql f1.qc, .int .i64 f1.li, .int .i64 f1.co, .slice vb.q vb.n vb.c] 117)) (DG w v) e f1) := fun z => (HTc.out z).keep exa (fun _ z => z.elim) (fun _ z => .inl z)
          have HLa : Hid (isAt st8 → ∃ F, RW (wc.alloc (.cells #[.int .i64 f1.k, .string f1.x, .int .i64 f1.n, .string f1.m, .slice f1.q f1.ql f1.qc, .int .i64 f1.li, .int .i64 f1.co, .slice vb.q vb.n vb.c] 117)) (DG w v) F vb ∧ SS (wc.alloc (.cells #[.int .i64 f1.k, .string f1.x, .int .i64 f1.n, .string f1.m, .slice f1.q f1.ql f1.qc, .int .i64 f1.li, .int .i64 f1.co, .slice vb.q vb.n vb.c] 117)) (DG w v) L false F) := fun z => by
            obtain ⟨F, h1, h2⟩ := HLc.out z
            exact ⟨F, h1.keep exa (fun _ z => z.elim) (fun _ z => .inl z), h2.keep exa (fun _ z => z.elim) (fun _ z => .inl z)⟩
          have HNa : Hid (∀ (jq : Nat) (u : Value), [.int .i64 f1.k, .string f1.x, .int .i64 f1.n, .string f1.m, .slice f1.q f1.ql f1.qc, .int .i64 f1.li, .int .i64 f1.co, .slice vb.q vb.n vb.c][jq]? = some u → (wc.alloc (.cells #[.int .i64 f1.k, .string f1.x, .int .i64 f1.n, .string f1.m, .slice f1.q f1.ql f1.qc, .int .i64 f1.li, .int .i64 f1.co, .slice vb.q vb.n vb.c] 117)).cell? ((⟨wc.heap.size, 0, none⟩ : Addr).add jq) = some u) := fun jq u hj => new_cells wc [.int .i64 f1.k, .string f1.x, .int .i64 f1.n, .string f1.m, .slice f1.q f1.ql f1.qc, .int .i64 f1.li, .int .i64 f1.co, .slice vb.q vb.n vb.c] 117 jq u hj
          clear exa
          generalize wc.alloc (.cells #[.int .i64 f1.k, .string f1.x, .int .i64 f1.n, .string f1.m, .slice f1.q f1.ql f1.qc, .int .i64 f1.li, .int .i64 f1.co, .slice vb.q vb.n vb.c] 117) = wa at *
          generalize wc.heap.size = g0 at *
          clear HXc HGc HTc HLc HRc
          refine hK.out _ _ ?_ (fun hHeld => ?_)
          · exact ⟨HXa.out.te, HRa.out⟩
          clear hK K
          try simp only [Act.put, List.getElem_toArray, List.getElem_cons_zero, List.getElem_cons_succ, List.setIfInBounds_toArray, List.set_cons_zero, List.set_cons_succ]
          refine wpAnyU_ready (rs := [10]) (by kernel_rfl) (by simp) ?_
          refine (AllReadyU.cons rfl (fun K hK => ?_) AllReadyU.nil)
          · refine step_push (w0 := w) rfl (.tmp 23) (.tmp 28) 111 117 _ 8 112 rfl Try.underlying111 Try.inf117 rfl (by decide) (by decide) v rfl HGa.out g0 1 [.int .i64 f1.k, .string f1.x, .int .i64 f1.n, .string f1.m, .slice f1.q f1.ql f1.qc, .int .i64 f1.li, .int .i64 f1.co, .slice vb.q vb.n vb.c] rfl rfl HNa.out (fun u hu => by simp at hu; rcases hu with rfl | rfl | rfl | rfl | rfl | rfl | rfl | rfl <;> rfl) (by have := HVN.out; have := HN.out; omega) HXa.out.ex.size ?_
            intro gb cb wb hGR hgr hob
            have HGb : Hid (GR (fun w D F => isAt st8 → SS w D (A.app (.arm e L .nil)) true F) 117 8 w wb ⟨some ⟨gb, 0, none⟩, v.n + 1, cb⟩) := hGR _ kp_ss (fun F h z => by
              obtain ⟨FL, h1, h2⟩ := HLa.out z
              have hT : SS wa (DG w v) (.arm e L .nil) true [[.int .i64 f1.k, .string f1.x, .int .i64 f1.n, .string f1.m, .slice f1.q f1.ql f1.qc, .int .i64 f1.li, .int .i64 f1.co, .slice vb.q vb.n vb.c]] := ⟨rfl, f1, vb, FL, [], rfl, HTa.out z, h1, h2, rfl⟩
              exact SS.app hT (h z))
            have exb := Ex.ofGrown hgr (S := fun k => (slV v).ownBlock = some k) (fun _ z => z.symm)
            have HXb := hide (HXa.out.oth exb (fun k z => (hob k z).1))
            have HRb : Hid (XK wb r5 f1) := HRa.out.keep exb HR5N.out
            clear hGR hgr hob exb HXa HGa HTa HLa HNa HRa
            refine hK.out _ _ ?_ (fun hHeld => ?_)
            · exact ⟨HXb.out.te, HRb.out⟩
            clear hK K
            try simp only [Act.put, List.getElem_toArray, List.getElem_cons_zero, List.getElem_cons_succ, List.setIfInBounds_toArray, List.set_cons_zero, List.set_cons_succ]
            refine wpAnyU_take (i := 11) (v := ?_) [12, 13] rfl (by kernel_rfl) (by kernel_rfl) (by kernel_rfl) (by kernel_rfl) (fun _ _ _ h => h) (Or.inl ⟨by rfl, ?_⟩) (by assumption) ?_
            rotate_left
            · (intro w hSw; (try dsimp only at hSw); (skip); go_simp; try (with_reducible rfl))
            try simp only [Act.put, List.getElem_toArray, List.getElem_cons_zero, List.getElem_cons_succ, List.setIfInBounds_toArray, List.set_cons_zero, List.set_cons_succ]
            refine wpAnyU_take (i := 12) (v := ?_) [13] rfl (by kernel_rfl) (by kernel_rfl) (by kernel_rfl) (by kernel_rfl) (fun _ _ _ h => h) (Or.inl ⟨by rfl, ?_⟩) (by assumption) ?_
            rotate_left
            · (intro w hSw; (try dsimp only at hSw); (skip); go_simp; try (with_reducible rfl))
            try simp only [Act.put, List.getElem_toArray, List.getElem_cons_zero, List.getElem_cons_succ, List.setIfInBounds_toArray, List.set_cons_zero, List.set_cons_succ]
            refine wpAnyU_ready (rs := [13]) (by kernel_rfl) (by simp) ?_
            refine AllReadyU.last rfl (fun K hK => ?_)
            have Y3 := HXb.out.te.c3
            have YF3 := HXb.out.te.fz 3
            go_simp
            refine hK.out _ _ ?_
            clear hK K
            try simp only [Act.put, List.getElem_toArray, List.getElem_cons_zero, List.getElem_cons_succ, List.setIfInBounds_toArray, List.set_cons_zero, List.set_cons_succ]
            refine wpAnyU_done (by kernel_rfl) ?_ _
            have HXf := hide (HXb.out.set (HXb.out.te.put3 ⟨some ⟨gb, 0, none⟩, v.n + 1, cb⟩))
            have HGf : Hid (GR (fun w D F => isAt st8 → SS w D (A.app (.arm e L .nil)) true F) 117 8 w (wb.setCell ⟨q, 3, none⟩ (.slice (some ⟨gb, 0, none⟩) (v.n + 1) cb)) ⟨some ⟨gb, 0, none⟩, v.n + 1, cb⟩) := GR.keep kp_ss HGb.out ((Ex.refl (fun k => k = q) wb).set (p := q) rfl _) (fun k z => .inl (by have := HB.out; omega))
            dsimp only at HXf
            clear HXb HGb HRb Y3 YF3
            go_upto_region 4 with fail
            generalize wb.setCell ⟨q, 3, none⟩ (.slice (some ⟨gb, 0, none⟩) (v.n + 1) cb) = wf at *
            have HAC := hide (acceptK_any wf HXf.out.ins bELI)
            have HDA9 : Hid (DA (d + 1) (acceptS s bELI st8).2) := acceptS_da HDA8.out _
            have HAT10 : Hid (isAt (acceptS s bELI st8).2 → isAt st8) := isAt.acc
            generalize hacc : acceptS s bELI st8 = ac at *
            obtain ⟨bo, st10⟩ := ac
            dsimp only at HAC HDA9 HAT10
            unfold bELI at HAC
            go_wp2_with fail
            refine HAC.out.mono ?_
            rintro e9 wg ⟨rfl, hex, hi⟩
            have HXg := hide (HXf.out.call hex hi)
            have HGg : Hid (GR (fun w D F => isAt st10 → SS w D (A.app (.arm e L .nil)) true F) 117 8 w wg ⟨some ⟨gb, 0, none⟩, v.n + 1, cb⟩) := GR.imp (GR.keep kp_ss HGf.out hex (fun k z => .inl (by have := HB.out; omega))) (fun F h z => h (HAT10.out z))
            have hrel2 : ∃ m2, m2 < m0 ∧ IRL B p a cp s w q N (d + 1) l c (A0, stA) (.bool bo) wg m2 := by
              have hsr := HSR.out
              cases bo
              · rw [if_neg (by simp)] at hsr
                injection hsr with hsr
                injection hsr with hs1 hs2
                have h10 : st10 = st8 := by
                  unfold acceptS at hacc
                  split at hacc
                  · injection hacc with q1 q2; cases q1
                  · injection hacc with q1 q2; exact q2.symm
                exact ⟨0, by have := HM8.out; omega, A.app (.arm e L .nil), st10, _, HXg.out, HGg.out, HDA9.out, by have := HVN.out; have := HM8.out; show v.n + 1 + 0 ≤ N; omega, .inr ⟨rfl, rfl, by rw [← HLL.out, ← hs1], by rw [h10]; exact hs2⟩⟩
              · rw [if_pos (by rfl)] at hsr
                split at hsr
                · cases hsr
                · next L3 st5 h3 =>
                  injection hsr with hsr
                  injection hsr with hs1 hs2
                  have hs2 : st5 = stA := hs2
                  rw [hs2] at h3
                  exact ⟨m8, by have := HM8.out; omega, A.app (.arm e L .nil), st10, _, HXg.out, HGg.out, HDA9.out, by have := HVN.out; have := HM8.out; show v.n + 1 + m8 ≤ N; omega, .inl ⟨rfl, L3, h3, by rw [← HLL.out, ← hs1, S.app_assoc]; rfl⟩⟩
            obtain ⟨m2, hm2, hr2⟩ := hrel2
            clear hex hi HXf HGf HAC HXg HGg HDA9 HAT10 hacc
            go_wp2
            go_roundw
            case rel => exact ⟨m2, hr2⟩
            case measure => exact lm_lt hr2 (by rw [HLM.out]; exact hm2)
    · subst hL
      subst hst
      clear h0 HLM HVN
      obtain ⟨FA, hrw, hss⟩ := HG.out.fin kp_ss
      obtain ⟨NT, hNT⟩ : ∃ NT : World → (Nat → Prop) → Prop, NT = fun w D => RW w D FA v ∧ (isAt st6 → SS w D A true FA) := ⟨_, rfl⟩
      have HKN : Hid (KN NT) := by rw [hNT]; exact kn_arms FA v A (isAt st6)
      have HN0 : Hid (NT wr (fun k => k < w.heap.size)) := by rw [hNT]; exact ⟨hrw, hss⟩
      have HTE := hide hNT
      clear hNT hrw hss HG HDA
      have HAC := hide (acceptK_any wr HX.out.ins bELS)
      have HDAB : Hid (DA (d + 1) (acceptS s bELS st6).2) := acceptS_da HDAA.out _
      have HATB : Hid (isAt (acceptS s bELS st6).2 → isAt st6) := isAt.acc
      have HRT2 := HRT
      have HEQ : Hid ((acceptS s bELS st6).1 = false → (acceptS s bELS st6).2 = st6) := fun hz => by
        unfold acceptS at hz ⊢
        split at hz
        · cases hz
        · next h => rw [if_neg h]
      clear HRT
      generalize hacc : acceptS s bELS st6 = ac at *
      obtain ⟨bo, stB⟩ := ac
      dsimp only at HAC HDAB HATB HRT2 HEQ
      clear hacc
      unfold bELS at HAC
      cases bo
      · have hB := HEQ.out rfl
        subst hB
        have HRR : Hid ((.iff A .nil l c .nil, expectS s bEIF (decS stB)) = RR) := by
          have h := HRT2.out
          rw [if_neg (by simp)] at h
          injection h
        clear HRT2 HEQ HDAB HATB
        have HDA8 := HDAA
        have HAA : Hid (isAt stB → isAt stB) := fun z => z
        go_upto_region 8 with fail
        go_wp2_with fail
        refine HAC.out.mono ?_
        rintro e9 x1 ⟨rfl, hex, hi⟩
        have HX3 := hide (HX.out.call hex hi)
        have HN3 : Hid (NT x1 (fun k => k < w.heap.size)) := HKN.out _ _ _ _ _ hex (fun k z => .inl (by have := HB.out; omega)) (fun _ z => .inl z) HN0.out
        have HL3 : Hid (isAt stB → ∃ F, RW x1 (fun k => k < w.heap.size) F nl ∧ SS x1 (fun k => k < w.heap.size) .nil false F) := fun _ => ⟨[], RW.nil _ _, rfl⟩
        clear hex hi HX HN0 HAC
        simp only []
        go_upto_region 10 with fail
        obtain ⟨dd, hc10, hf10, hi8⟩ := HX3.out.ins.dec HDA8.out HD0.out
        rw [show IntKind.i64.wrap (dd - 1) = wrap64 (dd - 1) by unfold wrap64; exact IntKind.wrap_i64 _] at hi8
        have ex4 : Ex (fun k => k = p) x1 (x1.setCell ⟨p, 10, none⟩ (.int .i64 (wrap64 (dd - 1)))) := (Ex.refl (fun k => k = p) x1).set (p := p) rfl _
        have HX4 := hide (HX3.out.call ex4 hi8)
        have HN4 : Hid (NT (x1.setCell ⟨p, 10, none⟩ (.int .i64 (wrap64 (dd - 1)))) (fun k => k < w.heap.size)) := HKN.out _ _ _ _ _ ex4 (fun k z => .inl (by have := HB.out; omega)) (fun _ z => .inl z) HN3.out
        have HL4 : Hid (isAt stB → ∃ F, RW (x1.setCell ⟨p, 10, none⟩ (.int .i64 (wrap64 (dd - 1)))) (fun k => k < w.heap.size) F nl ∧ SS (x1.setCell ⟨p, 10, none⟩ (.int .i64 (wrap64 (dd - 1)))) (fun k => k < w.heap.size) .nil false F) := fun z => by
          obtain ⟨F, h1, h2⟩ := HL3.out z
          exact ⟨F, h1.keep ex4 (fun k z => .inl (by have := HB.out; omega)) (fun _ z => .inl z), h2.keep ex4 (fun k z => .inl (by have := HB.out; omega)) (fun _ z => .inl z)⟩
        clear hi8 ex4 HX3 HN3 HL3
        go_upto_region 11 with fail
        generalize x1.setCell ⟨p, 10, none⟩ (.int .i64 (wrap64 (dd - 1))) = x4 at *
        clear hc10 hf10
        have HE9 := hide (expectK_any x4 HX4.out.ins bEIF)
        have HA9 : Hid (isAt (expectS s bEIF (decS stB)) → isAt stB) := fun z => isAt.dec (isAt.ex z) HDA8.out ⟨HD0.out.1, HDL.out⟩
        generalize expectS s bEIF (decS stB) = st9 at *
        unfold bEIF at HE9
        go_wp2_with fail
        refine HE9.out.mono ?_
        rintro e9 x5 ⟨rfl, hex, hi⟩
        have HX5 := hide (HX4.out.call hex hi)
        have HN5 : Hid (NT x5 (fun k => k < w.heap.size)) := HKN.out _ _ _ _ _ hex (fun k z => .inl (by have := HB.out; omega)) (fun _ z => .inl z) HN4.out
        have HF : Hid (StPost B p q a cp s w RR (.returned (.tuple #[])) x5) := by
          rw [← HRR.out]
          refine HX5.out.fin (fun z => ?_)
          obtain ⟨F, h1, h2⟩ := HL4.out (HA9.out z)
          have hn := HN5.out
          rw [HTE.out] at hn
          exact ⟨rfl, v, nl, FA, F, [], rfl, hn.1, h1.keep hex (fun k z => .inl (by have := HB.out; omega)) (fun _ z => .inl z), hn.2 (HAA.out (HA9.out z)), h2.keep hex (fun k z => .inl (by have := HB.out; omega)) (fun _ z => .inl z), rfl⟩
        clear hex hi HX4 HN4 HL4 HE9 HX5 HN5
        simp only []
        go_wp2
        exact bodyPost_ret (v := .tuple #[]) (by simp [results, Try.results74]) rfl HF.out
      · obtain ⟨L, st8, hp8, hrr⟩ : ∃ L st8, ps s m .stmts stB = some (L, st8) ∧ (.iff A L l c .nil, expectS s bEIF (decS st8)) = RR := by
          have h := HRT2.out
          rw [if_pos (by rfl)] at h
          split at h
          · cases h
          · next L st8 h8 => injection h with h; exact ⟨L, st8, h8, h⟩
        have HRR := hide hrr
        have HDA8 : Hid (DA (d + 1) st8) := ps_da s _ _ _ _ _ hp8 HDAB.out
        have HAA : Hid (isAt st8 → isAt st6) := fun z => HATB.out (isAt.ps hp8 HDAB.out HD1.out z)
        have HC8 : Hid (∀ wz, InS B p a cp s wz stB → Calls Try.prog 37 #[.pointer (some ⟨p, 0, none⟩)] wz (LPost B p a cp s wz (L, st8))) := fun wz hz => HST.out m HM.out _ _ wz hp8 hz (HDAB.out.ok HD1.out)
        clear HRT2 HEQ HATB hp8 hrr
        go_upto_region 8 with fail
        go_wp2_with fail
        refine HAC.out.mono ?_
        rintro e9 x1 ⟨rfl, hex, hi⟩
        have HX1 := hide (HX.out.call hex hi)
        have HN1 : Hid (NT x1 (fun k => k < w.heap.size)) := HKN.out _ _ _ _ _ hex (fun k z => .inl (by have := HB.out; omega)) (fun _ z => .inl z) HN0.out
        clear hex hi HX HN0 HAC
        simp only []
        go_upto_region 9 with fail
        go_wp2_with fail
        refine (HC8.out x1 HX1.out.ins).mono ?_
        rintro e9 x2 ⟨vb, rfl, hex, hi, hti⟩
        have HX2 := hide (HX1.out.call hex hi)
        have HN2 : Hid (NT x2 (fun k => k < w.heap.size)) := HKN.out _ _ _ _ _ hex (fun k z => .inl (by have := HB.out; omega)) (fun _ z => .inl z) HN1.out
        have HL2 : Hid (isAt st8 → ∃ F, RW x2 (fun k => k < w.heap.size) F vb ∧ SS x2 (fun k => k < w.heap.size) L false F) := fun z => by
          obtain ⟨F, h1, h2⟩ := hti z
          have hsz := HX1.out.ex.size
          exact ⟨F, h1.keep (Ex.refl (fun _ => False) _) (fun _ z => z.elim) (fun k z => .inl (by omega)), h2.keep (Ex.refl (fun _ => False) _) (fun _ z => z.elim) (fun k z => .inl (by omega))⟩
        have y4 := HX2.out.te.c4
        have yf4 := HX2.out.te.fz 4
        have HX3 := hide (HX2.out.set (HX2.out.te.put4 vb))
        have ex3 : Ex (fun k => k = q) x2 (x2.setCell ⟨q, 4, none⟩ (.slice vb.q vb.n vb.c)) := (Ex.refl (fun k => k = q) x2).set (p := q) rfl _
        have HN3 : Hid (NT (x2.setCell ⟨q, 4, none⟩ (.slice vb.q vb.n vb.c)) (fun k => k < w.heap.size)) := HKN.out _ _ _ _ _ ex3 (fun k z => .inl (by have := HB.out; omega)) (fun _ z => .inl z) HN2.out
        have HL3 : Hid (isAt st8 → ∃ F, RW (x2.setCell ⟨q, 4, none⟩ (.slice vb.q vb.n vb.c)) (fun k => k < w.heap.size) F vb ∧ SS (x2.setCell ⟨q, 4, none⟩ (.slice vb.q vb.n vb.c)) (fun k => k < w.heap.size) L false F) := fun z => by
          obtain ⟨F, h1, h2⟩ := HL2.out z
          exact ⟨F, h1.keep ex3 (fun k z => .inl (by have := HB.out; omega)) (fun _ z => .inl z), h2.keep ex3 (fun k z => .inl (by have := HB.out; omega)) (fun _ z => .inl z)⟩
        dsimp only at HX3
        clear hex hi hti HX1 HN1 HX2 HN2 HL2 ex3 HC8
        unfold slV
        simp only []
        go_upto_region 10 with fail
        generalize x2.setCell ⟨q, 4, none⟩ (.slice vb.q vb.n vb.c) = x3 at *
        clear y4 yf4
        obtain ⟨dd, hc10, hf10, hi8⟩ := HX3.out.ins.dec HDA8.out HD0.out
        rw [show IntKind.i64.wrap (dd - 1) = wrap64 (dd - 1) by unfold wrap64; exact IntKind.wrap_i64 _] at hi8
        have ex4 : Ex (fun k => k = p) x3 (x3.setCell ⟨p, 10, none⟩ (.int .i64 (wrap64 (dd - 1)))) := (Ex.refl (fun k => k = p) x3).set (p := p) rfl _
        have HX4 := hide (HX3.out.call ex4 hi8)
        have HN4 : Hid (NT (x3.setCell ⟨p, 10, none⟩ (.int .i64 (wrap64 (dd - 1)))) (fun k => k < w.heap.size)) := HKN.out _ _ _ _ _ ex4 (fun k z => .inl (by have := HB.out; omega)) (fun _ z => .inl z) HN3.out
        have HL4 : Hid (isAt st8 → ∃ F, RW (x3.setCell ⟨p, 10, none⟩ (.int .i64 (wrap64 (dd - 1)))) (fun k => k < w.heap.size) F vb ∧ SS (x3.setCell ⟨p, 10, none⟩ (.int .i64 (wrap64 (dd - 1)))) (fun k => k < w.heap.size) L false F) := fun z => by
          obtain ⟨F, h1, h2⟩ := HL3.out z
          exact ⟨F, h1.keep ex4 (fun k z => .inl (by have := HB.out; omega)) (fun _ z => .inl z), h2.keep ex4 (fun k z => .inl (by have := HB.out; omega)) (fun _ z => .inl z)⟩
        clear hi8 ex4 HX3 HN3 HL3
        go_upto_region 11 with fail
        generalize x3.setCell ⟨p, 10, none⟩ (.int .i64 (wrap64 (dd - 1))) = x4 at *
        clear hc10 hf10
        have HE9 := hide (expectK_any x4 HX4.out.ins bEIF)
        have HA9 : Hid (isAt (expectS s bEIF (decS st8)) → isAt st8) := fun z => isAt.dec (isAt.ex z) HDA8.out ⟨HD0.out.1, HDL.out⟩
        generalize expectS s bEIF (decS st8) = st9 at *
        unfold bEIF at HE9
        go_wp2_with fail
        refine HE9.out.mono ?_
        rintro e9 x5 ⟨rfl, hex, hi⟩
        have HX5 := hide (HX4.out.call hex hi)
        have HN5 : Hid (NT x5 (fun k => k < w.heap.size)) := HKN.out _ _ _ _ _ hex (fun k z => .inl (by have := HB.out; omega)) (fun _ z => .inl z) HN4.out
        have HF : Hid (StPost B p q a cp s w RR (.returned (.tuple #[])) x5) := by
          rw [← HRR.out]
          refine HX5.out.fin (fun z => ?_)
          obtain ⟨F, h1, h2⟩ := HL4.out (HA9.out z)
          have hn := HN5.out
          rw [HTE.out] at hn
          exact ⟨rfl, v, vb, FA, F, [], rfl, hn.1, h1.keep hex (fun k z => .inl (by have := HB.out; omega)) (fun _ z => .inl z), hn.2 (HAA.out (HA9.out z)), h2.keep hex (fun k z => .inl (by have := HB.out; omega)) (fun _ z => .inl z), rfl⟩
        clear hex hi HX4 HN4 HL4 HE9 HX5 HN5
        simp only []
        go_wp2
        exact bodyPost_ret (v := .tuple #[]) (by simp [results, Try.results74]) rfl HF.out
end
end Go.Proofs.Qxb6500774a
