import Derived.Test.Qxb6500774aKv0
namespace Go.Proofs.Qxb6500774a
open Go.RowKit
set_option linter.unusedVariables false
set_option linter.unusedSimpArgs false

section
variable {B p : Nat} {a : Option Addr} {cp : Nat} {s : List Int}
/-- what a call of blocks leaves -/
def BPost (B p : Nat) (a : Option Addr) (cp : Nat) (s : List Int) (w : World) (R : List Dc × PSt) (e : Ending) (w' : World) : Prop := ∃ v : SLc, e = .returned (slV v) ∧ Ex (fun k => k = p) w w' ∧ InS B p a cp s w' R.2 ∧ (isAt R.2 → ∃ F, RW w' (fun k => k < w.heap.size) F v ∧ DS w' (fun k => k < w.heap.size) R.1 F)
def BRL (B p : Nat) (a : Option Addr) (cp : Nat) (s : List Int) (w : World) (N : Nat) (d : Int) (RL : List Dc × PSt) (j : BJob) (m0 : Nat) (v3 : Value) (wr : World) (m : Nat) : Prop := ∃ (L : List Dc) (st : PSt) (v : SLc), v3 = slV v ∧ InS B p a cp s wr st ∧ Ex (fun k => k = p) w wr ∧ GR (fun w D F => isAt st → DS w D L F) 66 9 w wr v ∧ DA d st ∧ v.n + m ≤ N ∧ m < m0 ∧ ∃ R2, pbl s m j st = some (R2, RL.2) ∧ L ++ R2 = RL.1
theorem fld81v (t : TK) (w : World) : (Instr.field 81 (tkV t) 2).run Try.prog w = .ok (.int .i64 t.v) w := by kernel_rfl
set_option linter.unusedSimpArgs false in
set_option linter.unusedVariables false in
set_option maxRecDepth 100000 in
set_option maxHeartbeats 32000000 in
theorem blocksK (N : Nat) (hN : N ≤ 4294967296) (st : PSt) (RR : List Dc × PSt) (w : World) (hpj : pbl s N .outer st = some RR) (hin : InS B p a cp s w st) (d : Int) (hd0 : 0 ≤ d ∧ d ≤ 64) (hda : DA d st) :
    Calls Try.prog 36 #[.pointer (some ⟨p, 0, none⟩)] w (BPost B p a cp s w RR) := by
  have HD0 := hide hd0
  have HN := hide hN
  have HB := hide hin.hB
  have HR0 : Hid (BRL B p a cp s w N d RR .outer (N + 1) (slV nl) w N) := ⟨[], st, nl, rfl, hin, Ex.refl _ _, GR.nil (fun _ => rfl), hda, by show 0 + N ≤ N; omega, Nat.lt_succ_self N, RR.1, hpj, rfl⟩
  clear hpj hin hd0 hda hN
  unfold slV nl at HR0
  dsimp only at HR0
  go_enter Try.func36, Try.ntmps36
  go_wp2_with fail
  go_loopw [3] (fun v3 wr => ∃ m, BRL B p a cp s w N d RR .outer (N + 1) v3 wr m) (fun v3 wr => lm (BRL B p a cp s w N d RR .outer (N + 1) v3 wr))
  case atStart => exact ⟨_, HR0.out⟩
  case round =>
    have hsp := (lm_spec hrel).1
    obtain ⟨m0, hmm⟩ : ∃ m, lm (BRL B p a cp s w N d RR .outer (N + 1) u3 wr) = m := ⟨_, rfl⟩
    have HLM := hide hmm
    rw [hmm] at hsp
    clear hmm hrel HR0
    obtain ⟨L, st6, v, rfl, h1, h1b, h2, h3, h4, h4b, R2, hp, hLL⟩ := hsp
    have HI := hide h1
    have HE := hide h1b
    have HG := hide h2
    have HDA := hide h3
    have HVN := hide h4
    have HLL := hide hLL
    obtain ⟨m8, hm8, hp⟩ : ∃ m8, m8 + 1 = m0 ∧ pbl s (m8 + 1) .outer st6 = some (R2, RR.2) := by
      cases m0 with
      | zero => unfold pbl at hp; cases hp
      | succ m => exact ⟨m, rfl, hp⟩
    unfold pbl at hp
    have HPS := hide hp
    have HM8 := hide hm8
    clear h1 h1b h2 h3 h4 h4b hLL hp hm8
    go_upto_region 2 with fail
    go_cut [15] (fun s15 wx => s15 = .bool (isVar s st6) ∧ wr = wx)
    case first =>
      have hat := fun u : ByteArray => atK_any wr HI.out u
      have hiv : isVar s st6 = (atS s ⟨#[86, 65, 82]⟩ st6 || atS s ⟨#[86, 65, 82, 95, 73, 78, 80, 85, 84]⟩ st6 || atS s ⟨#[86, 65, 82, 95, 79, 85, 84, 80, 85, 84]⟩ st6) := rfl
      have HIV := hide hiv
      clear hiv
      cases h1 : atS s ⟨#[86, 65, 82]⟩ st6
      · cases h2 : atS s ⟨#[86, 65, 82, 95, 73, 78, 80, 85, 84]⟩ st6
        · cases h3 : atS s ⟨#[86, 65, 82, 95, 79, 85, 84, 80, 85, 84]⟩ st6
          · go_wp2_with (go_at_call 72; refine (hat _).mono ?_; rintro e9 wq ⟨rfl, hwq⟩; subst wq; simp only [h1, h2, h3])
            go_meet
            case rel => exact ⟨by rw [HIV.out, h1, h2, h3]; rfl, rfl⟩
          · go_wp2_with (go_at_call 72; refine (hat _).mono ?_; rintro e9 wq ⟨rfl, hwq⟩; subst wq; simp only [h1, h2, h3])
            go_meet
            case rel => exact ⟨by rw [HIV.out, h1, h2, h3]; rfl, rfl⟩
        · go_wp2_with (go_at_call 72; refine (hat _).mono ?_; rintro e9 wq ⟨rfl, hwq⟩; subst wq; simp only [h1, h2])
          go_meet
          case rel => exact ⟨by rw [HIV.out, h1, h2]; rfl, rfl⟩
      · go_wp2_with (go_at_call 72; refine (hat _).mono ?_; rintro e9 wq ⟨rfl, hwq⟩; subst wq; simp only [h1])
        go_meet
        case rel => exact ⟨by rw [HIV.out, h1]; rfl, rfl⟩
    obtain ⟨rfl, hwc⟩ := hcut
    subst wc
    cases hv : isVar s st6
    · have HRR : Hid (R2 = [] ∧ RR.2 = st6) := by
        have h := HPS.out
        rw [if_neg (by rw [hv]; decide)] at h
        injection h with h
        injection h with h1 h2
        exact ⟨h1.symm, h2.symm⟩
      have HF : Hid (BPost B p a cp s w RR (.returned (slV v)) wr) := by
        obtain ⟨F, h1, h2⟩ := HG.out.fin kp_ds
        refine ⟨v, rfl, HE.out, ?_, fun z => ?_⟩
        · rw [HRR.out.2]; exact HI.out
        · refine ⟨F, h1, ?_⟩
          rw [HRR.out.2] at z
          have hl := HLL.out
          rw [HRR.out.1, List.append_nil] at hl
          rw [← hl]
          exact h2 z
      clear HI HE HG HPS HVN HDA
      go_wp2
      exact bodyPost_ret (v := slV v) (by simp [results, Try.results36, slV]) rfl HF.out
    have hp := HPS.out
    rw [if_pos hv] at hp
    have HPI := hide hp
    have HTC := hide (takeK_any wr HI.out 5 (by decide))
    have HDA5 : Hid (DA d (takeS s 5 st6).2) := takeS_da HDA.out 5
    have HA5 : Hid (isAt (takeS s 5 st6).2 → isAt st6) := fun z => (isAt.take z).1
    clear hp HPS hv
    generalize (takeS s 5 st6).2 = st5 at *
    generalize (takeS s 5 st6).1 = ty at *
    obtain ⟨cls, hcl⟩ : ∃ y, ty.x = y := ⟨_, rfl⟩
    rw [hcl] at HPI
    go_upto_region 3 with fail
    go_wp2_with fail
    refine HTC.out.mono ?_
    rintro e9 w1 ⟨rfl, hex, hi⟩
    have HR1 : Hid (BRL B p a cp s w N d RR (.inner cls) m0 (slV v) w1 m8) := ⟨L, st5, v, rfl, hi, HE.out.trans hex, GR.imp (GR.keep kp_ds HG.out hex (fun k z => .inl (by have := HB.out; omega))) (fun F h z => h (HA5.out z)), HDA5.out, by have := HVN.out; have := HM8.out; omega, by have := HM8.out; omega, R2, HPI.out, HLL.out⟩
    have hfl := fld81 ty w1
    unfold tkV at hfl ⊢
    rw [hcl] at hfl ⊢
    clear hex hi HI HG HTC hcl HPI HDA5 HA5 HE HDA HLL
    simp only []
    unfold slV
    go_wp2_with fail
    clear hfl
    unfold slV at HR1
    go_loopw [3] (fun v3 wy => ∃ m, BRL B p a cp s w N d RR (.inner cls) m0 v3 wy m) (fun v3 wy => lm (BRL B p a cp s w N d RR (.inner cls) m0 v3 wy))
    case atStart => exact ⟨_, HR1.out⟩
    case round =>
      have hsp := (lm_spec hrel).1
      obtain ⟨m1, hmm⟩ : ∃ m, lm (BRL B p a cp s w N d RR (.inner cls) m0 u3 wr) = m := ⟨_, rfl⟩
      have HLM1 := hide hmm
      rw [hmm] at hsp
      clear hmm hrel HR1
      obtain ⟨L, st6, v, rfl, h1, h1b, h2, h3, h4, h4b, R2, hp, hLL⟩ := hsp
      have HI := hide h1
      have HE := hide h1b
      have HG := hide h2
      have HDA := hide h3
      have HVN := hide h4
      have HM1 := hide h4b
      have HLL := hide hLL
      obtain ⟨m9, hm9, hp⟩ : ∃ m9, m9 + 1 = m1 ∧ pbl s (m9 + 1) (.inner cls) st6 = some (R2, RR.2) := by
        cases m1 with
        | zero => unfold pbl at hp; cases hp
        | succ m => exact ⟨m, rfl, hp⟩
      unfold pbl at hp
      have HPS := hide hp
      have HM9 := hide hm9
      clear h1 h1b h2 h3 h4 h4b hLL hp hm9
      obtain ⟨q1, t, d1, fe, fl, fc, hpk, htk, htt⟩ := HI.out.all
      have HTK := hide htk
      have c4 := hpk.c4
      have c8 := hpk.c8
      have c9 := hpk.c9
      have hpl : p < wr.heap.size := World.block_lt_of_cell? _ _ c8
      clear hpk htk
      by_cases hk : (tokS s st6).k = 2
      rotate_left
      · have hk2 : (t.k == 2) = false := by rw [← htt]; simpa using hk
        have hp := HPS.out
        rw [if_neg hk] at hp
        have HPI := hide hp
        have HXP := hide (expectK_any wr HI.out bEVR)
        have HDA5 : Hid (DA d (expectS s bEVR st6)) := expectS_da HDA.out _
        have HA5 : Hid (isAt (expectS s bEVR st6) → isAt st6) := isAt.ex
        clear hp HPS htt hk
        generalize expectS s bEVR st6 = st5 at *
        unfold bEVR at HXP
        unfold slV
        go_upto_region 21 with fail
        clear c4 c8 c9
        go_wp2_with fail
        refine HXP.out.mono ?_
        rintro e9 w2 ⟨rfl, hex, hi⟩
        have hrel2 : BRL B p a cp s w N d RR .outer (N + 1) (slV v) w2 m9 := ⟨L, st5, v, rfl, hi, HE.out.trans hex, GR.imp (GR.keep kp_ds HG.out hex (fun k z => .inl (by have := HB.out; omega))) (fun F h z => h (HA5.out z)), HDA5.out, by have := HVN.out; have := HM9.out; omega, by have := HM1.out; have := HM9.out; have := HVN.out; omega, R2, HPI.out, HLL.out⟩
        have HM0 : Hid (m9 < m0) := by have := HM1.out; have := HM9.out; show m9 < m0; omega
        clear hex hi HI HE HG HXP HPI HLL HTK
        simp only []
        go_wp2
        go_roundw
        case rel => exact ⟨m9, hrel2⟩
        case measure => exact lm_lt hrel2 (by rw [HLM.out]; exact HM0.out)
      have hk2 : (t.k == 2) = true := by rw [← htt, hk]; rfl
      have HTQ : Hid (t = tokS s st6) := HTK.out (isAt.of HDA.out HD0.out fun zb => by
        obtain ⟨e, l, c, rfl⟩ := zb.ex
        cases hk)
      obtain ⟨X, st9, R3, hc, hp3, hr3⟩ : ∃ X st9 R3, pdecl s m9 cls st6 = some (X, st9) ∧ pbl s m9 (.inner cls) st9 = some (R3, RR.2) ∧ X :: R3 = R2 := by
        have h := HPS.out
        rw [if_pos hk] at h
        split at h
        · cases h
        · next X st9 h7 =>
          split at h
          · cases h
          · next R3 st8 h8 =>
            injection h with h
            injection h with h9 h10
            have h10 : st8 = RR.2 := h10
            rw [h10] at h8
            exact ⟨X, st9, R3, h7, h8, h9⟩
      have HP3 := hide hp3
      have HR3 := hide hr3
      have HDA9 : Hid (DA d st9) := pdecl_da hc HDA.out
      clear hp3 hr3 HPS hk htt
      -- the plain parts of the declaration
      have e2 : Ex (fun _ => False) wr (wr.alloc (dpO ⟨cls, nb, nb, false, 0, 0, nl, t.l, t.c⟩)).drew := ((Ex.refl _ wr).alloc _).drew
      have HX2 : Hid (DX9 B p a cp s wr (wr.alloc (dpO ⟨cls, nb, nb, false, 0, 0, nl, t.l, t.c⟩)).drew wr.heap.size st6 ⟨cls, nb, nb, false, 0, 0, nl, t.l, t.c⟩) := ⟨HI.out.ex e2 (fun _ z => z.elim), e2.mono (fun _ z => z.elim), (DK.new wr ⟨cls, nb, nb, false, 0, 0, nl, t.l, t.c⟩).keep (Ex.refl (fun _ => False) _).drew (fun z => z), Nat.le_refl _, Nat.le_trans HB.out.1 HE.out.size, HB.out.2⟩
      obtain ⟨w2, hw2⟩ : ∃ x, (wr.alloc (dpO ⟨cls, nb, nb, false, 0, 0, nl, t.l, t.c⟩)).drew = x := ⟨_, rfl⟩
      rw [hw2] at HX2
      have HW2 := hide hw2
      unfold dpO nb nl at HW2
      dsimp only at HW2
      clear hw2 e2
      unfold slV
      go_upto_region 5 with fail
      go_region
      rw [HW2.out]
      clear HW2 c4 c8 c9 hk2
      obtain ⟨r, hr⟩ : ∃ q, wr.heap.size = q := ⟨_, rfl⟩
      rw [hr] at HX2 ⊢
      clear hr
      unfold pdecl at hc
      rw [← HTQ.out] at hc
      have HC := hide hc
      clear hc HTQ HTK
      have HTC := hide (takeK_any w2 HX2.out.ins 2 (by decide))
      have HD1 : Hid (DA d (takeS s 2 st6).2) := takeS_da HDA.out 2
      have HA1 : Hid (isAt (takeS s 2 st6).2 → isAt st6) := fun z => (isAt.take z).1
      generalize (takeS s 2 st6).2 = st1 at *
      generalize (takeS s 2 st6).1 = t1 at *
      obtain ⟨x1, hx1⟩ : ∃ y, t1.x = y := ⟨_, rfl⟩
      rw [hx1] at HC
      go_upto_region 6 with fail
      go_wp2_with fail
      refine HTC.out.mono ?_
      rintro e9 w3 ⟨rfl, hex, hi⟩
      have HX3 := hide (HX2.out.call hex hi)
      have hfl := fld81 t1 w3
      unfold tkV at hfl ⊢
      rw [hx1] at hfl ⊢
      have y1 := HX3.out.te.c1
      have yf1 := HX3.out.te.fz 1
      have HX4 := hide (HX3.out.set (HX3.out.te.put1 x1))
      dsimp only at HX4
      clear hex hi HX2 HX3 HTC hx1
      simp only []
      go_upto_region 7 with fail
      generalize w3.setCell ⟨r, 1, none⟩ (.string x1) = w4 at *
      clear hfl y1 yf1
      have HXP := hide (expectK_any w4 HX4.out.ins bCOL)
      have HD2 : Hid (DA d (expectS s bCOL st1)) := expectS_da HD1.out _
      have HA2 : Hid (isAt (expectS s bCOL st1) → isAt st1) := isAt.ex
      generalize expectS s bCOL st1 = st2 at *
      unfold bCOL at HXP
      go_wp2_with fail
      refine HXP.out.mono ?_
      rintro e9 w5 ⟨rfl, hex, hi⟩
      have HX5 := hide (HX4.out.call hex hi)
      clear hex hi HX4 HXP
      simp only []
      go_upto_region 8 with fail
      have HAC := hide (acceptK_any w5 HX5.out.ins bARY)
      have HMA : Hid (mayArr s st2 = if (acceptS s bARY st2).1 = true then ((true, (arrS s (acceptS s bARY st2).2).1), (arrS s (acceptS s bARY st2).2).2) else ((false, 0, 0), st2)) := rfl
      have HD3 : Hid (DA d (mayArr s st2).2) := mayArr_da HD2.out
      have HA3 : Hid (isAt (mayArr s st2).2 → isAt st2) := fun z => isAt.mayArr HD2.out HD0.out z
      generalize mayArr s st2 = MA at *
      obtain ⟨⟨ba, lo, hi0⟩, st3⟩ := MA
      dsimp only at HC HD3 HA3
      have HAE : Hid ((acceptS s bARY st2).1 = false → (acceptS s bARY st2).2 = st2) := fun hz => by
        unfold acceptS at hz ⊢
        split at hz
        · cases hz
        · next h => rw [if_neg h]
      generalize acceptS s bARY st2 = ac at *
      obtain ⟨bo, st2b⟩ := ac
      dsimp only at HAC HMA HAE
      unfold bARY at HAC
      cases bo
      · have hm := HMA.out
        rw [if_neg (by decide)] at hm
        injection hm with hm1 hm2
        injection hm1 with hm3 hm4
        injection hm4 with hm5 hm6
        subst hm2 hm3 hm5 hm6
        have hst := HAE.out rfl
        subst hst
        clear HMA HAE
        go_wp2_with fail
        refine HAC.out.mono ?_
        rintro e9 w6 ⟨rfl, hex, hi⟩
        have HX6 := hide (HX5.out.call hex hi)
        clear hex hi HX5 HAC
        simp only []
        go_upto_region 16 with fail
        have HTC := hide (takeK_any w6 HX6.out.ins 2 (by decide))
        have HD4 : Hid (DA d (takeS s 2 st2b).2) := takeS_da HD3.out 2
        have HA4 : Hid (isAt (takeS s 2 st2b).2 → isAt st2b) := fun z => (isAt.take z).1
        generalize (takeS s 2 st2b).2 = st4 at *
        generalize (takeS s 2 st2b).1 = t2 at *
        obtain ⟨x2, hx1⟩ : ∃ y, t2.x = y := ⟨_, rfl⟩
        rw [hx1] at HC
        go_wp2_with fail
        refine HTC.out.mono ?_
        rintro e9 v0 ⟨rfl, hex, hi⟩
        have HY0 := hide (HX6.out.call hex hi)
        have hfl := fld81 t2 v0
        unfold tkV at hfl ⊢
        rw [hx1] at hfl ⊢
        have y1 := HY0.out.te.c2
        have yf1 := HY0.out.te.fz 2
        have HY1 := hide (HY0.out.set (HY0.out.te.put2 x2))
        dsimp only at HY1
        clear hex hi HX6 HY0 HTC hx1
        simp only []
        go_upto_region 17 with fail
        generalize v0.setCell ⟨r, 2, none⟩ (.string x2) = v1 at *
        clear hfl y1 yf1
        have HAC := hide (acceptK_any v1 HY1.out.ins bASG)
        have HD5 : Hid (DA d (acceptS s bASG st4).2) := acceptS_da HD4.out _
        have HA5 : Hid (isAt (acceptS s bASG st4).2 → isAt st4) := isAt.acc
        have HAE : Hid ((acceptS s bASG st4).1 = false → (acceptS s bASG st4).2 = st4) := fun hz => by
          unfold acceptS at hz ⊢
          split at hz
          · cases hz
          · next h => rw [if_neg h]
        generalize acceptS s bASG st4 = ac at *
        obtain ⟨bo, st5⟩ := ac
        dsimp only at HAC HD5 HA5 HAE HC
        unfold bASG at HAC
        cases bo
        · have hst := HAE.out rfl
          subst hst
          have hc := HC.out
          rw [if_neg (by decide)] at hc
          injection hc with hc
          injection hc with hX hS
          clear HC HAE
          go_wp2_with fail
          refine HAC.out.mono ?_
          rintro e9 v2 ⟨rfl, hex, hi⟩
          have HY2 := hide (HY1.out.call hex hi)
          clear hex hi HY1 HAC
          simp only []
          go_upto_region 19 with fail
          obtain ⟨vi, hvi⟩ : ∃ x, nl = x := ⟨_, rfl⟩
          rw [hvi] at HY2
          have HIN : Hid (isAt st5 → IN v2 (DG w v) none vi) := fun _ => hvi.symm
          have HST : Hid (expectS s bSEM st5 = st9) := hS
          have HXX : Hid (⟨cls, x1, x2, false, 0, 0, none, t.l, t.c⟩ = X) := hX
          have HA7 : Hid (isAt st5 → isAt st6) := fun z => HA1.out (HA2.out (HA3.out (HA4.out z)))
          clear hX hS hvi
          have HXP := hide (expectK_any v2 HY2.out.ins bSEM)
          rw [HST.out] at HXP
          have HA8 : Hid (isAt st9 → isAt st5) := by rw [← HST.out]; exact isAt.ex
          clear HST
          unfold bSEM at HXP
          go_wp2_with fail
          refine HXP.out.mono ?_
          rintro e9 z1 ⟨rfl, hex, hi⟩
          have HZ1 := hide (HY2.out.call hex hi)
          have HIN1 : Hid (isAt st9 → IN z1 (DG w v) none vi) := fun z => (HIN.out (HA8.out z)).keep hex (fun k z => .inl (.inl (by have := HB.out; omega))) (fun _ z => .inl z)
          clear hex hi HY2 HXP HIN
          simp only []
          go_upto_region 20 with fail
          have T0 := HZ1.out.te.c0
          have T1 := HZ1.out.te.c1
          have T2 := HZ1.out.te.c2
          have T3 := HZ1.out.te.c3
          have T4 := HZ1.out.te.c4
          have T5 := HZ1.out.te.c5
          have T6 := HZ1.out.te.c6
          have T7 := HZ1.out.te.c7
          have T8 := HZ1.out.te.c8
          have ex7 : Ex (fun _ => False) z1 (z1.alloc (.cells #[.string cls, .string x1, .string x2, .bool false, .int .i64 0, .int .i64 0, .slice vi.q vi.n vi.c, .int .i64 t.l, .int .i64 t.c] 66)) := (Ex.refl _ _).alloc _
          have HE7 : Hid (Ex (fun k => k = p) w (z1.alloc (.cells #[.string cls, .string x1, .string x2, .bool false, .int .i64 0, .int .i64 0, .slice vi.q vi.n vi.c, .int .i64 t.l, .int .i64 t.c] 66))) := (HE.out.trans HZ1.out.ex).trans (ex7.mono (fun _ z => z.elim))
          have HI7 : Hid (InS B p a cp s (z1.alloc (.cells #[.string cls, .string x1, .string x2, .bool false, .int .i64 0, .int .i64 0, .slice vi.q vi.n vi.c, .int .i64 t.l, .int .i64 t.c] 66)) st9) := HZ1.out.ins.ex ex7 (fun _ z => z.elim)
          have HG7 : Hid (GR (fun w D F => isAt st9 → DS w D L F) 66 9 w (z1.alloc (.cells #[.string cls, .string x1, .string x2, .bool false, .int .i64 0, .int .i64 0, .slice vi.q vi.n vi.c, .int .i64 t.l, .int .i64 t.c] 66)) v) := GR.imp (GR.keep kp_ds (GR.keep kp_ds HG.out HZ1.out.ex (fun k z => .inl (by have := HB.out; omega))) ex7 (fun _ z => z.elim)) (fun F h z => h (HA7.out (HA8.out z)))
          have HT7 : Hid (isAt st9 → IN (z1.alloc (.cells #[.string cls, .string x1, .string x2, .bool false, .int .i64 0, .int .i64 0, .slice vi.q vi.n vi.c, .int .i64 t.l, .int .i64 t.c] 66)) (DG w v) none vi) := fun z => (HIN1.out z).keep ex7 (fun _ z => z.elim) (fun _ z => .inl z)
          have HN7 : Hid (∀ (jq : Nat) (u : Value), [.string cls, .string x1, .string x2, .bool false, .int .i64 0, .int .i64 0, .slice vi.q vi.n vi.c, .int .i64 t.l, .int .i64 t.c][jq]? = some u → (z1.alloc (.cells #[.string cls, .string x1, .string x2, .bool false, .int .i64 0, .int .i64 0, .slice vi.q vi.n vi.c, .int .i64 t.l, .int .i64 t.c] 66)).cell? ((⟨z1.heap.size, 0, none⟩ : Addr).add jq) = some u) := fun jq u hj => new_cells z1 [.string cls, .string x1, .string x2, .bool false, .int .i64 0, .int .i64 0, .slice vi.q vi.n vi.c, .int .i64 t.l, .int .i64 t.c] 66 jq u hj
          clear ex7 HZ1 HIN1 HG HE HI
          go_wp2_with (at_builtin; refine wpl_push (w0 := w) rfl (.tmp 74) (.tmp 76) 26 66 _ 9 112 rfl Try.underlying26 Try.inf66 rfl (by decide) (by decide) v rfl HG7.out z1.heap.size 1 [.string cls, .string x1, .string x2, .bool false, .int .i64 0, .int .i64 0, .slice vi.q vi.n vi.c, .int .i64 t.l, .int .i64 t.c] rfl rfl HN7.out (fun u hu => by simp at hu; rcases hu with rfl | rfl | rfl | rfl | rfl | rfl | rfl | rfl | rfl <;> rfl) (by have := HVN.out; have := HN.out; omega) HE7.out.size ?_; intro gb cb wb hGR hgr hob; have HGB : Hid (GR (fun w D F => isAt st9 → DS w D (L ++ [X]) F) 66 9 w wb ⟨some ⟨gb, 0, none⟩, v.n + 1, cb⟩) := hGR _ kp_ds (fun F h z => by rw [← HXX.out]; exact DS.snoc (x := ⟨cls, x1, x2, false, 0, 0, none, t.l, t.c⟩) (HT7.out z) (h z)); have exb := Ex.ofGrown hgr (S := fun k => (slV v).ownBlock = some k) (fun _ z => z.symm); have HEB : Hid (Ex (fun k => k = p) w wb) := HE7.out.trans2 exb (fun k z => .inr (hob k z).1); have HIB : Hid (InS B p a cp s wb st9) := HI7.out.ex exb (fun k z => by have := (hob k z).1; have := HB.out; omega); clear hGR hgr hob exb HG7 HE7 HI7 HT7 HN7)
          have hrel2 : BRL B p a cp s w N d RR (.inner cls) m0 (slV ⟨some ⟨gb, 0, none⟩, v.n + 1, cb⟩) wb m9 := ⟨L ++ [X], st9, _, rfl, HIB.out, HEB.out, HGB.out, HDA9.out, by have := HVN.out; have := HM9.out; show v.n + 1 + m9 ≤ N; omega, by have := HM1.out; have := HM9.out; omega, R3, HP3.out, by rw [List.append_assoc]; rw [← HLL.out, ← HR3.out]; rfl⟩
          go_roundw
          case rel => exact ⟨m9, hrel2⟩
          case measure => exact lm_lt hrel2 (by have h9 := HLM1.out; unfold slV at h9; rw [h9]; have := HM9.out; omega)
        · have hc := HC.out
          rw [if_pos (by rfl)] at hc
          obtain ⟨e, st7, hpe, hrest⟩ : ∃ e st7, pj s m9 (.expr 1) st5 = some (e, st7) ∧ some (({ cls := cls, nm := x1, ty := x2, arr := false, lo := 0, hi := 0, ini := some e, l := t.l, c := t.c } : Dc), expectS s bSEM st7) = some (X, st9) := by
            split at hc
            · cases hc
            · next e st7 h7 => exact ⟨e, st7, h7, hc⟩
          injection hrest with hrest
          injection hrest with hX hS
          have HEC := hide (fun wz hz => expr_any (B := B) (p := p) (a := a) (cp := cp) wz hpe hz (HD5.out.ok HD0.out))
          have HA6 : Hid (isAt st7 → isAt st5) := fun z => isAt.pj hpe HD5.out HD0.out z
          clear HC HAE hc hpe
          go_wp2_with fail
          refine HAC.out.mono ?_
          rintro e9 v2 ⟨rfl, hex, hi⟩
          have HY2 := hide (HY1.out.call hex hi)
          clear hex hi HY1 HAC
          simp only []
          go_upto_region 18 with fail
          go_wp2_with fail
          refine (HEC.out v2 HY2.out.ins).mono ?_
          rintro e9 v3 ⟨f2, rfl, hex, hi, hti⟩
          have HY3 := hide (HY2.out.call hex hi)
          have hDG : ∀ k, DG w v k → k < v2.heap.size := fun k z => by
            have hs1 := HY2.out.ex.size
            rcases z with z | z
            · have := HE.out.size; omega
            · obtain ⟨F, g1, _⟩ := HG.out
              have := (g1.lt k z).2
              omega
          have hs3 := hex.size
          have ex4 : Ex (fun _ => False) v3 (v3.alloc (xO f2)) := (Ex.refl _ _).alloc _
          have HY4 := hide (HY3.out.low ex4)
          have HIN4 : Hid (isAt st7 → IN (v3.alloc (xO f2)) (fun k => k < v2.heap.size) (some e) ⟨some ⟨v3.heap.size, 0, none⟩, 1, 1⟩) := fun z => ⟨v3.heap.size, f2, rfl, ⟨by simp, by omega⟩, (XK.new v3 f2).rc, (hti z).keep ex4 (fun _ z => z.elim) (fun k z => .inl z)⟩
          have hr2 : r < v2.heap.size := HY2.out.te.lt
          have hrl : r < v3.heap.size := HY3.out.te.lt
          have y6 := HY3.out.te.c6
          have yf6 := HY3.out.te.fz 6
          have ex5 : Ex (fun k => k = r) (v3.alloc (xO f2)) ((v3.alloc (xO f2)).setCell ⟨r, 6, none⟩ (.slice (some ⟨v3.heap.size, 0, none⟩) 1 1)) := (Ex.refl (fun k => k = r) _).set (p := r) rfl _
          have HY5 := hide (HY4.out.set (HY4.out.te.put6 ⟨some ⟨v3.heap.size, 0, none⟩, 1, 1⟩))
          have HIN5 : Hid (isAt st7 → IN ((v3.alloc (xO f2)).setCell ⟨r, 6, none⟩ (.slice (some ⟨v3.heap.size, 0, none⟩) 1 1)) (DG w v) (some e) ⟨some ⟨v3.heap.size, 0, none⟩, 1, 1⟩) := fun z => (HIN4.out z).keep ex5 (fun k z => .inl (by omega)) (fun k z => .inl (hDG k z))
          dsimp only at HY5 y6
          clear hex hi hti HY2 HY3 HY4 HIN4 HEC ex4 ex5 hDG hs3 hr2
          obtain ⟨v5, hv5⟩ : ∃ x, (v3.alloc (xO f2)).setCell ⟨r, 6, none⟩ (.slice (some ⟨v3.heap.size, 0, none⟩) 1 1) = x := ⟨_, rfl⟩
          rw [hv5] at HY5 HIN5
          have HV5 := hide hv5
          rw [set_alloc _ _ _ hrl] at HV5
          unfold xO at HV5
          clear hv5
          unfold xV
          go_upto_region 19 with fail
          rw [HV5.out]
          clear HV5 hrl y6 yf6
          obtain ⟨vi, hvi⟩ : ∃ x, (⟨some ⟨v3.heap.size, 0, none⟩, 1, 1⟩ : SLc) = x := ⟨_, rfl⟩
          rw [hvi] at HY5 HIN5
          clear hvi
          have HST : Hid (expectS s bSEM st7 = st9) := hS
          have HXX : Hid (⟨cls, x1, x2, false, 0, 0, some e, t.l, t.c⟩ = X) := hX
          have HIN := HIN5
          have HA7 : Hid (isAt st7 → isAt st6) := fun z => HA1.out (HA2.out (HA3.out (HA4.out (HA5.out (HA6.out z)))))
          clear hX hS HIN5
          have HXP := hide (expectK_any v5 HY5.out.ins bSEM)
          rw [HST.out] at HXP
          have HA8 : Hid (isAt st9 → isAt st7) := by rw [← HST.out]; exact isAt.ex
          clear HST
          unfold bSEM at HXP
          go_wp2_with fail
          refine HXP.out.mono ?_
          rintro e9 z1 ⟨rfl, hex, hi⟩
          have HZ1 := hide (HY5.out.call hex hi)
          have HIN1 : Hid (isAt st9 → IN z1 (DG w v) (some e) vi) := fun z => (HIN.out (HA8.out z)).keep hex (fun k z => .inl (.inl (by have := HB.out; omega))) (fun _ z => .inl z)
          clear hex hi HY5 HXP HIN
          simp only []
          go_upto_region 20 with fail
          have T0 := HZ1.out.te.c0
          have T1 := HZ1.out.te.c1
          have T2 := HZ1.out.te.c2
          have T3 := HZ1.out.te.c3
          have T4 := HZ1.out.te.c4
          have T5 := HZ1.out.te.c5
          have T6 := HZ1.out.te.c6
          have T7 := HZ1.out.te.c7
          have T8 := HZ1.out.te.c8
          have ex7 : Ex (fun _ => False) z1 (z1.alloc (.cells #[.string cls, .string x1, .string x2, .bool false, .int .i64 0, .int .i64 0, .slice vi.q vi.n vi.c, .int .i64 t.l, .int .i64 t.c] 66)) := (Ex.refl _ _).alloc _
          have HE7 : Hid (Ex (fun k => k = p) w (z1.alloc (.cells #[.string cls, .string x1, .string x2, .bool false, .int .i64 0, .int .i64 0, .slice vi.q vi.n vi.c, .int .i64 t.l, .int .i64 t.c] 66))) := (HE.out.trans HZ1.out.ex).trans (ex7.mono (fun _ z => z.elim))
          have HI7 : Hid (InS B p a cp s (z1.alloc (.cells #[.string cls, .string x1, .string x2, .bool false, .int .i64 0, .int .i64 0, .slice vi.q vi.n vi.c, .int .i64 t.l, .int .i64 t.c] 66)) st9) := HZ1.out.ins.ex ex7 (fun _ z => z.elim)
          have HG7 : Hid (GR (fun w D F => isAt st9 → DS w D L F) 66 9 w (z1.alloc (.cells #[.string cls, .string x1, .string x2, .bool false, .int .i64 0, .int .i64 0, .slice vi.q vi.n vi.c, .int .i64 t.l, .int .i64 t.c] 66)) v) := GR.imp (GR.keep kp_ds (GR.keep kp_ds HG.out HZ1.out.ex (fun k z => .inl (by have := HB.out; omega))) ex7 (fun _ z => z.elim)) (fun F h z => h (HA7.out (HA8.out z)))
          have HT7 : Hid (isAt st9 → IN (z1.alloc (.cells #[.string cls, .string x1, .string x2, .bool false, .int .i64 0, .int .i64 0, .slice vi.q vi.n vi.c, .int .i64 t.l, .int .i64 t.c] 66)) (DG w v) (some e) vi) := fun z => (HIN1.out z).keep ex7 (fun _ z => z.elim) (fun _ z => .inl z)
          have HN7 : Hid (∀ (jq : Nat) (u : Value), [.string cls, .string x1, .string x2, .bool false, .int .i64 0, .int .i64 0, .slice vi.q vi.n vi.c, .int .i64 t.l, .int .i64 t.c][jq]? = some u → (z1.alloc (.cells #[.string cls, .string x1, .string x2, .bool false, .int .i64 0, .int .i64 0, .slice vi.q vi.n vi.c, .int .i64 t.l, .int .i64 t.c] 66)).cell? ((⟨z1.heap.size, 0, none⟩ : Addr).add jq) = some u) := fun jq u hj => new_cells z1 [.string cls, .string x1, .string x2, .bool false, .int .i64 0, .int .i64 0, .slice vi.q vi.n vi.c, .int .i64 t.l, .int .i64 t.c] 66 jq u hj
          clear ex7 HZ1 HIN1 HG HE HI
          go_wp2_with (at_builtin; refine wpl_push (w0 := w) rfl (.tmp 74) (.tmp 76) 26 66 _ 9 112 rfl Try.underlying26 Try.inf66 rfl (by decide) (by decide) v rfl HG7.out z1.heap.size 1 [.string cls, .string x1, .string x2, .bool false, .int .i64 0, .int .i64 0, .slice vi.q vi.n vi.c, .int .i64 t.l, .int .i64 t.c] rfl rfl HN7.out (fun u hu => by simp at hu; rcases hu with rfl | rfl | rfl | rfl | rfl | rfl | rfl | rfl | rfl <;> rfl) (by have := HVN.out; have := HN.out; omega) HE7.out.size ?_; intro gb cb wb hGR hgr hob; have HGB : Hid (GR (fun w D F => isAt st9 → DS w D (L ++ [X]) F) 66 9 w wb ⟨some ⟨gb, 0, none⟩, v.n + 1, cb⟩) := hGR _ kp_ds (fun F h z => by rw [← HXX.out]; exact DS.snoc (x := ⟨cls, x1, x2, false, 0, 0, (some e), t.l, t.c⟩) (HT7.out z) (h z)); have exb := Ex.ofGrown hgr (S := fun k => (slV v).ownBlock = some k) (fun _ z => z.symm); have HEB : Hid (Ex (fun k => k = p) w wb) := HE7.out.trans2 exb (fun k z => .inr (hob k z).1); have HIB : Hid (InS B p a cp s wb st9) := HI7.out.ex exb (fun k z => by have := (hob k z).1; have := HB.out; omega); clear hGR hgr hob exb HG7 HE7 HI7 HT7 HN7)
          have hrel2 : BRL B p a cp s w N d RR (.inner cls) m0 (slV ⟨some ⟨gb, 0, none⟩, v.n + 1, cb⟩) wb m9 := ⟨L ++ [X], st9, _, rfl, HIB.out, HEB.out, HGB.out, HDA9.out, by have := HVN.out; have := HM9.out; show v.n + 1 + m9 ≤ N; omega, by have := HM1.out; have := HM9.out; omega, R3, HP3.out, by rw [List.append_assoc]; rw [← HLL.out, ← HR3.out]; rfl⟩
          go_roundw
          case rel => exact ⟨m9, hrel2⟩
          case measure => exact lm_lt hrel2 (by have h9 := HLM1.out; unfold slV at h9; rw [h9]; have := HM9.out; omega)
      · have hm := HMA.out
        rw [if_pos (by rfl)] at hm
        injection hm with hm1 hm2
        injection hm1 with hm3 hm4
        subst hm3
        have HMB : Hid ((lo, hi0) = (arrS s st2b).1 ∧ st3 = (arrS s st2b).2) := ⟨hm4, hm2⟩
        clear HMA HAE hm2 hm4
        go_wp2_with fail
        refine HAC.out.mono ?_
        rintro e9 w6 ⟨rfl, hex, hi⟩
        have HX6 := hide (HX5.out.call hex hi)
        clear hex hi HX5 HAC
        simp only []
        have y3 := HX6.out.te.c3
        have yf3 := HX6.out.te.fz 3
        have HX7 := hide (HX6.out.set (HX6.out.te.put3 true))
        dsimp only at HX7
        clear HX6
        go_upto_region 10 with fail
        generalize w6.setCell ⟨r, 3, none⟩ (.bool true) = w7 at *
        clear y3 yf3
        unfold arrS at HMB
        dsimp only at HMB
        have HXP := hide (expectK_any w7 HX7.out.ins bBRA)
        generalize expectS s bBRA st2b = sa1 at *
        unfold bBRA at HXP
        go_wp2_with fail
        refine HXP.out.mono ?_
        rintro e9 w8 ⟨rfl, hex, hi⟩
        have HX8 := hide (HX7.out.call hex hi)
        clear hex hi HX7 HXP
        simp only []
        go_upto_region 11 with fail
        have HTC := hide (takeK_any w8 HX8.out.ins 3 (by decide))
        generalize (takeS s 3 sa1).2 = sa2 at *
        generalize (takeS s 3 sa1).1 = ta at *
        obtain ⟨xa, hx1⟩ : ∃ y, ta.v = y := ⟨_, rfl⟩
        rw [hx1] at HMB
        go_wp2_with fail
        refine HTC.out.mono ?_
        rintro e9 w9a ⟨rfl, hex, hi⟩
        have HX9a := hide (HX8.out.call hex hi)
        have hfl := fld81v ta w9a
        unfold tkV at hfl ⊢
        rw [hx1] at hfl ⊢
        have y1 := HX9a.out.te.c4
        have yf1 := HX9a.out.te.fz 4
        have HX9 := hide (HX9a.out.set (HX9a.out.te.put4 xa))
        dsimp only at HX9
        clear hex hi HX8 HX9a HTC hx1
        simp only []
        go_upto_region 12 with fail
        generalize w9a.setCell ⟨r, 4, none⟩ (.int .i64 xa) = w9 at *
        clear hfl y1 yf1
        have HXP := hide (expectK_any w9 HX9.out.ins bDD)
        generalize expectS s bDD sa2 = sa3 at *
        unfold bDD at HXP
        go_wp2_with fail
        refine HXP.out.mono ?_
        rintro e9 w10 ⟨rfl, hex, hi⟩
        have HX10 := hide (HX9.out.call hex hi)
        clear hex hi HX9 HXP
        simp only []
        go_upto_region 13 with fail
        have HTC := hide (takeK_any w10 HX10.out.ins 3 (by decide))
        generalize (takeS s 3 sa3).2 = sa4 at *
        generalize (takeS s 3 sa3).1 = tb at *
        obtain ⟨xb, hx1⟩ : ∃ y, tb.v = y := ⟨_, rfl⟩
        rw [hx1] at HMB
        go_wp2_with fail
        refine HTC.out.mono ?_
        rintro e9 w11a ⟨rfl, hex, hi⟩
        have HX11a := hide (HX10.out.call hex hi)
        have hfl := fld81v tb w11a
        unfold tkV at hfl ⊢
        rw [hx1] at hfl ⊢
        have y1 := HX11a.out.te.c5
        have yf1 := HX11a.out.te.fz 5
        have HX11 := hide (HX11a.out.set (HX11a.out.te.put5 xb))
        dsimp only at HX11
        clear hex hi HX10 HX11a HTC hx1
        simp only []
        go_upto_region 14 with fail
        generalize w11a.setCell ⟨r, 5, none⟩ (.int .i64 xb) = w11 at *
        clear hfl y1 yf1
        have HXP := hide (expectK_any w11 HX11.out.ins bKET)
        generalize expectS s bKET sa4 = sa5 at *
        unfold bKET at HXP
        go_wp2_with fail
        refine HXP.out.mono ?_
        rintro e9 w12 ⟨rfl, hex, hi⟩
        have HX12 := hide (HX11.out.call hex hi)
        clear hex hi HX11 HXP
        simp only []
        go_upto_region 15 with fail
        have HXP := hide (expectK_any w12 HX12.out.ins bOF)
        generalize expectS s bOF sa5 = sa6 at *
        unfold bOF at HXP
        go_wp2_with fail
        refine HXP.out.mono ?_
        rintro e9 w13 ⟨rfl, hex, hi⟩
        have HX13 := hide (HX12.out.call hex hi)
        clear hex hi HX12 HXP
        simp only []
        go_upto_region 16 with fail
        obtain ⟨hlh, h36⟩ := HMB.out
        injection hlh with hlo hhi
        subst hlo hhi h36
        clear HMB
        have HTC := hide (takeK_any w13 HX13.out.ins 2 (by decide))
        have HD4 : Hid (DA d (takeS s 2 st3).2) := takeS_da HD3.out 2
        have HA4 : Hid (isAt (takeS s 2 st3).2 → isAt st3) := fun z => (isAt.take z).1
        generalize (takeS s 2 st3).2 = st4 at *
        generalize (takeS s 2 st3).1 = t2 at *
        obtain ⟨x2, hx1⟩ : ∃ y, t2.x = y := ⟨_, rfl⟩
        rw [hx1] at HC
        go_wp2_with fail
        refine HTC.out.mono ?_
        rintro e9 v0 ⟨rfl, hex, hi⟩
        have HY0 := hide (HX13.out.call hex hi)
        have hfl := fld81 t2 v0
        unfold tkV at hfl ⊢
        rw [hx1] at hfl ⊢
        have y1 := HY0.out.te.c2
        have yf1 := HY0.out.te.fz 2
        have HY1 := hide (HY0.out.set (HY0.out.te.put2 x2))
        dsimp only at HY1
        clear hex hi HX13 HY0 HTC hx1
        simp only []
        go_upto_region 17 with fail
        generalize v0.setCell ⟨r, 2, none⟩ (.string x2) = v1 at *
        clear hfl y1 yf1
        have HAC := hide (acceptK_any v1 HY1.out.ins bASG)
        have HD5 : Hid (DA d (acceptS s bASG st4).2) := acceptS_da HD4.out _
        have HA5 : Hid (isAt (acceptS s bASG st4).2 → isAt st4) := isAt.acc
        have HAE : Hid ((acceptS s bASG st4).1 = false → (acceptS s bASG st4).2 = st4) := fun hz => by
          unfold acceptS at hz ⊢
          split at hz
          · cases hz
          · next h => rw [if_neg h]
        generalize acceptS s bASG st4 = ac at *
        obtain ⟨bo, st5⟩ := ac
        dsimp only at HAC HD5 HA5 HAE HC
        unfold bASG at HAC
        cases bo
        · have hst := HAE.out rfl
          subst hst
          have hc := HC.out
          rw [if_neg (by decide)] at hc
          injection hc with hc
          injection hc with hX hS
          clear HC HAE
          go_wp2_with fail
          refine HAC.out.mono ?_
          rintro e9 v2 ⟨rfl, hex, hi⟩
          have HY2 := hide (HY1.out.call hex hi)
          clear hex hi HY1 HAC
          simp only []
          go_upto_region 19 with fail
          obtain ⟨vi, hvi⟩ : ∃ x, nl = x := ⟨_, rfl⟩
          rw [hvi] at HY2
          have HIN : Hid (isAt st5 → IN v2 (DG w v) none vi) := fun _ => hvi.symm
          have HST : Hid (expectS s bSEM st5 = st9) := hS
          have HXX : Hid (⟨cls, x1, x2, true, lo, hi0, none, t.l, t.c⟩ = X) := hX
          have HA7 : Hid (isAt st5 → isAt st6) := fun z => HA1.out (HA2.out (HA3.out (HA4.out z)))
          clear hX hS hvi
          have HXP := hide (expectK_any v2 HY2.out.ins bSEM)
          rw [HST.out] at HXP
          have HA8 : Hid (isAt st9 → isAt st5) := by rw [← HST.out]; exact isAt.ex
          clear HST
          unfold bSEM at HXP
          go_wp2_with fail
          refine HXP.out.mono ?_
          rintro e9 z1 ⟨rfl, hex, hi⟩
          have HZ1 := hide (HY2.out.call hex hi)
          have HIN1 : Hid (isAt st9 → IN z1 (DG w v) none vi) := fun z => (HIN.out (HA8.out z)).keep hex (fun k z => .inl (.inl (by have := HB.out; omega))) (fun _ z => .inl z)
          clear hex hi HY2 HXP HIN
          simp only []
          go_upto_region 20 with fail
          have T0 := HZ1.out.te.c0
          have T1 := HZ1.out.te.c1
          have T2 := HZ1.out.te.c2
          have T3 := HZ1.out.te.c3
          have T4 := HZ1.out.te.c4
          have T5 := HZ1.out.te.c5
          have T6 := HZ1.out.te.c6
          have T7 := HZ1.out.te.c7
          have T8 := HZ1.out.te.c8
          have ex7 : Ex (fun _ => False) z1 (z1.alloc (.cells #[.string cls, .string x1, .string x2, .bool true, .int .i64 lo, .int .i64 hi0, .slice vi.q vi.n vi.c, .int .i64 t.l, .int .i64 t.c] 66)) := (Ex.refl _ _).alloc _
          have HE7 : Hid (Ex (fun k => k = p) w (z1.alloc (.cells #[.string cls, .string x1, .string x2, .bool true, .int .i64 lo, .int .i64 hi0, .slice vi.q vi.n vi.c, .int .i64 t.l, .int .i64 t.c] 66))) := (HE.out.trans HZ1.out.ex).trans (ex7.mono (fun _ z => z.elim))
          have HI7 : Hid (InS B p a cp s (z1.alloc (.cells #[.string cls, .string x1, .string x2, .bool true, .int .i64 lo, .int .i64 hi0, .slice vi.q vi.n vi.c, .int .i64 t.l, .int .i64 t.c] 66)) st9) := HZ1.out.ins.ex ex7 (fun _ z => z.elim)
          have HG7 : Hid (GR (fun w D F => isAt st9 → DS w D L F) 66 9 w (z1.alloc (.cells #[.string cls, .string x1, .string x2, .bool true, .int .i64 lo, .int .i64 hi0, .slice vi.q vi.n vi.c, .int .i64 t.l, .int .i64 t.c] 66)) v) := GR.imp (GR.keep kp_ds (GR.keep kp_ds HG.out HZ1.out.ex (fun k z => .inl (by have := HB.out; omega))) ex7 (fun _ z => z.elim)) (fun F h z => h (HA7.out (HA8.out z)))
          have HT7 : Hid (isAt st9 → IN (z1.alloc (.cells #[.string cls, .string x1, .string x2, .bool true, .int .i64 lo, .int .i64 hi0, .slice vi.q vi.n vi.c, .int .i64 t.l, .int .i64 t.c] 66)) (DG w v) none vi) := fun z => (HIN1.out z).keep ex7 (fun _ z => z.elim) (fun _ z => .inl z)
          have HN7 : Hid (∀ (jq : Nat) (u : Value), [.string cls, .string x1, .string x2, .bool true, .int .i64 lo, .int .i64 hi0, .slice vi.q vi.n vi.c, .int .i64 t.l, .int .i64 t.c][jq]? = some u → (z1.alloc (.cells #[.string cls, .string x1, .string x2, .bool true, .int .i64 lo, .int .i64 hi0, .slice vi.q vi.n vi.c, .int .i64 t.l, .int .i64 t.c] 66)).cell? ((⟨z1.heap.size, 0, none⟩ : Addr).add jq) = some u) := fun jq u hj => new_cells z1 [.string cls, .string x1, .string x2, .bool true, .int .i64 lo, .int .i64 hi0, .slice vi.q vi.n vi.c, .int .i64 t.l, .int .i64 t.c] 66 jq u hj
          clear ex7 HZ1 HIN1 HG HE HI
          go_wp2_with (at_builtin; refine wpl_push (w0 := w) rfl (.tmp 74) (.tmp 76) 26 66 _ 9 112 rfl Try.underlying26 Try.inf66 rfl (by decide) (by decide) v rfl HG7.out z1.heap.size 1 [.string cls, .string x1, .string x2, .bool true, .int .i64 lo, .int .i64 hi0, .slice vi.q vi.n vi.c, .int .i64 t.l, .int .i64 t.c] rfl rfl HN7.out (fun u hu => by simp at hu; rcases hu with rfl | rfl | rfl | rfl | rfl | rfl | rfl | rfl | rfl <;> rfl) (by have := HVN.out; have := HN.out; omega) HE7.out.size ?_; intro gb cb wb hGR hgr hob; have HGB : Hid (GR (fun w D F => isAt st9 → DS w D (L ++ [X]) F) 66 9 w wb ⟨some ⟨gb, 0, none⟩, v.n + 1, cb⟩) := hGR _ kp_ds (fun F h z => by rw [← HXX.out]; exact DS.snoc (x := ⟨cls, x1, x2, true, lo, hi0, none, t.l, t.c⟩) (HT7.out z) (h z)); have exb := Ex.ofGrown hgr (S := fun k => (slV v).ownBlock = some k) (fun _ z => z.symm); have HEB : Hid (Ex (fun k => k = p) w wb) := HE7.out.trans2 exb (fun k z => .inr (hob k z).1); have HIB : Hid (InS B p a cp s wb st9) := HI7.out.ex exb (fun k z => by have := (hob k z).1; have := HB.out; omega); clear hGR hgr hob exb HG7 HE7 HI7 HT7 HN7)
          have hrel2 : BRL B p a cp s w N d RR (.inner cls) m0 (slV ⟨some ⟨gb, 0, none⟩, v.n + 1, cb⟩) wb m9 := ⟨L ++ [X], st9, _, rfl, HIB.out, HEB.out, HGB.out, HDA9.out, by have := HVN.out; have := HM9.out; show v.n + 1 + m9 ≤ N; omega, by have := HM1.out; have := HM9.out; omega, R3, HP3.out, by rw [List.append_assoc]; rw [← HLL.out, ← HR3.out]; rfl⟩
          go_roundw
          case rel => exact ⟨m9, hrel2⟩
          case measure => exact lm_lt hrel2 (by have h9 := HLM1.out; unfold slV at h9; rw [h9]; have := HM9.out; omega)
        · have hc := HC.out
          rw [if_pos (by rfl)] at hc
          obtain ⟨e, st7, hpe, hrest⟩ : ∃ e st7, pj s m9 (.expr 1) st5 = some (e, st7) ∧ some (({ cls := cls, nm := x1, ty := x2, arr := true, lo := lo, hi := hi0, ini := some e, l := t.l, c := t.c } : Dc), expectS s bSEM st7) = some (X, st9) := by
            split at hc
            · cases hc
            · next e st7 h7 => exact ⟨e, st7, h7, hc⟩
          injection hrest with hrest
          injection hrest with hX hS
          have HEC := hide (fun wz hz => expr_any (B := B) (p := p) (a := a) (cp := cp) wz hpe hz (HD5.out.ok HD0.out))
          have HA6 : Hid (isAt st7 → isAt st5) := fun z => isAt.pj hpe HD5.out HD0.out z
          clear HC HAE hc hpe
          go_wp2_with fail
          refine HAC.out.mono ?_
          rintro e9 v2 ⟨rfl, hex, hi⟩
          have HY2 := hide (HY1.out.call hex hi)
          clear hex hi HY1 HAC
          simp only []
          go_upto_region 18 with fail
          go_wp2_with fail
          refine (HEC.out v2 HY2.out.ins).mono ?_
          rintro e9 v3 ⟨f2, rfl, hex, hi, hti⟩
          have HY3 := hide (HY2.out.call hex hi)
          have hDG : ∀ k, DG w v k → k < v2.heap.size := fun k z => by
            have hs1 := HY2.out.ex.size
            rcases z with z | z
            · have := HE.out.size; omega
            · obtain ⟨F, g1, _⟩ := HG.out
              have := (g1.lt k z).2
              omega
          have hs3 := hex.size
          have ex4 : Ex (fun _ => False) v3 (v3.alloc (xO f2)) := (Ex.refl _ _).alloc _
          have HY4 := hide (HY3.out.low ex4)
          have HIN4 : Hid (isAt st7 → IN (v3.alloc (xO f2)) (fun k => k < v2.heap.size) (some e) ⟨some ⟨v3.heap.size, 0, none⟩, 1, 1⟩) := fun z => ⟨v3.heap.size, f2, rfl, ⟨by simp, by omega⟩, (XK.new v3 f2).rc, (hti z).keep ex4 (fun _ z => z.elim) (fun k z => .inl z)⟩
          have hr2 : r < v2.heap.size := HY2.out.te.lt
          have hrl : r < v3.heap.size := HY3.out.te.lt
          have y6 := HY3.out.te.c6
          have yf6 := HY3.out.te.fz 6
          have ex5 : Ex (fun k => k = r) (v3.alloc (xO f2)) ((v3.alloc (xO f2)).setCell ⟨r, 6, none⟩ (.slice (some ⟨v3.heap.size, 0, none⟩) 1 1)) := (Ex.refl (fun k => k = r) _).set (p := r) rfl _
          have HY5 := hide (HY4.out.set (HY4.out.te.put6 ⟨some ⟨v3.heap.size, 0, none⟩, 1, 1⟩))
          have HIN5 : Hid (isAt st7 → IN ((v3.alloc (xO f2)).setCell ⟨r, 6, none⟩ (.slice (some ⟨v3.heap.size, 0, none⟩) 1 1)) (DG w v) (some e) ⟨some ⟨v3.heap.size, 0, none⟩, 1, 1⟩) := fun z => (HIN4.out z).keep ex5 (fun k z => .inl (by omega)) (fun k z => .inl (hDG k z))
          dsimp only at HY5 y6
          clear hex hi hti HY2 HY3 HY4 HIN4 HEC ex4 ex5 hDG hs3 hr2
          obtain ⟨v5, hv5⟩ : ∃ x, (v3.alloc (xO f2)).setCell ⟨r, 6, none⟩ (.slice (some ⟨v3.heap.size, 0, none⟩) 1 1) = x := ⟨_, rfl⟩
          rw [hv5] at HY5 HIN5
          have HV5 := hide hv5
          rw [set_alloc _ _ _ hrl] at HV5
          unfold xO at HV5
          clear hv5
          unfold xV
          go_upto_region 19 with fail
          rw [HV5.out]
          clear HV5 hrl y6 yf6
          obtain ⟨vi, hvi⟩ : ∃ x, (⟨some ⟨v3.heap.size, 0, none⟩, 1, 1⟩ : SLc) = x := ⟨_, rfl⟩
          rw [hvi] at HY5 HIN5
          clear hvi
          have HST : Hid (expectS s bSEM st7 = st9) := hS
          have HXX : Hid (⟨cls, x1, x2, true, lo, hi0, some e, t.l, t.c⟩ = X) := hX
          have HIN := HIN5
          have HA7 : Hid (isAt st7 → isAt st6) := fun z => HA1.out (HA2.out (HA3.out (HA4.out (HA5.out (HA6.out z)))))
          clear hX hS HIN5
          have HXP := hide (expectK_any v5 HY5.out.ins bSEM)
          rw [HST.out] at HXP
          have HA8 : Hid (isAt st9 → isAt st7) := by rw [← HST.out]; exact isAt.ex
          clear HST
          unfold bSEM at HXP
          go_wp2_with fail
          refine HXP.out.mono ?_
          rintro e9 z1 ⟨rfl, hex, hi⟩
          have HZ1 := hide (HY5.out.call hex hi)
          have HIN1 : Hid (isAt st9 → IN z1 (DG w v) (some e) vi) := fun z => (HIN.out (HA8.out z)).keep hex (fun k z => .inl (.inl (by have := HB.out; omega))) (fun _ z => .inl z)
          clear hex hi HY5 HXP HIN
          simp only []
          go_upto_region 20 with fail
          have T0 := HZ1.out.te.c0
          have T1 := HZ1.out.te.c1
          have T2 := HZ1.out.te.c2
          have T3 := HZ1.out.te.c3
          have T4 := HZ1.out.te.c4
          have T5 := HZ1.out.te.c5
          have T6 := HZ1.out.te.c6
          have T7 := HZ1.out.te.c7
          have T8 := HZ1.out.te.c8
          have ex7 : Ex (fun _ => False) z1 (z1.alloc (.cells #[.string cls, .string x1, .string x2, .bool true, .int .i64 lo, .int .i64 hi0, .slice vi.q vi.n vi.c, .int .i64 t.l, .int .i64 t.c] 66)) := (Ex.refl _ _).alloc _
          have HE7 : Hid (Ex (fun k => k = p) w (z1.alloc (.cells #[.string cls, .string x1, .string x2, .bool true, .int .i64 lo, .int .i64 hi0, .slice vi.q vi.n vi.c, .int .i64 t.l, .int .i64 t.c] 66))) := (HE.out.trans HZ1.out.ex).trans (ex7.mono (fun _ z => z.elim))
          have HI7 : Hid (InS B p a cp s (z1.alloc (.cells #[.string cls, .string x1, .string x2, .bool true, .int .i64 lo, .int .i64 hi0, .slice vi.q vi.n vi.c, .int .i64 t.l, .int .i64 t.c] 66)) st9) := HZ1.out.ins.ex ex7 (fun _ z => z.elim)
          have HG7 : Hid (GR (fun w D F => isAt st9 → DS w D L F) 66 9 w (z1.alloc (.cells #[.string cls, .string x1, .string x2, .bool true, .int .i64 lo, .int .i64 hi0, .slice vi.q vi.n vi.c, .int .i64 t.l, .int .i64 t.c] 66)) v) := GR.imp (GR.keep kp_ds (GR.keep kp_ds HG.out HZ1.out.ex (fun k z => .inl (by have := HB.out; omega))) ex7 (fun _ z => z.elim)) (fun F h z => h (HA7.out (HA8.out z)))
          have HT7 : Hid (isAt st9 → IN (z1.alloc (.cells #[.string cls, .string x1, .string x2, .bool true, .int .i64 lo, .int .i64 hi0, .slice vi.q vi.n vi.c, .int .i64 t.l, .int .i64 t.c] 66)) (DG w v) (some e) vi) := fun z => (HIN1.out z).keep ex7 (fun _ z => z.elim) (fun _ z => .inl z)
          have HN7 : Hid (∀ (jq : Nat) (u : Value), [.string cls, .string x1, .string x2, .bool true, .int .i64 lo, .int .i64 hi0, .slice vi.q vi.n vi.c, .int .i64 t.l, .int .i64 t.c][jq]? = some u → (z1.alloc (.cells #[.string cls, .string x1, .string x2, .bool true, .int .i64 lo, .int .i64 hi0, .slice vi.q vi.n vi.c, .int .i64 t.l, .int .i64 t.c] 66)).cell? ((⟨z1.heap.size, 0, none⟩ : Addr).add jq) = some u) := fun jq u hj => new_cells z1 [.string cls, .string x1, .string x2, .bool true, .int .i64 lo, .int .i64 hi0, .slice vi.q vi.n vi.c, .int .i64 t.l, .int .i64 t.c] 66 jq u hj
          clear ex7 HZ1 HIN1 HG HE HI
          go_wp2_with (at_builtin; refine wpl_push (w0 := w) rfl (.tmp 74) (.tmp 76) 26 66 _ 9 112 rfl Try.underlying26 Try.inf66 rfl (by decide) (by decide) v rfl HG7.out z1.heap.size 1 [.string cls, .string x1, .string x2, .bool true, .int .i64 lo, .int .i64 hi0, .slice vi.q vi.n vi.c, .int .i64 t.l, .int .i64 t.c] rfl rfl HN7.out (fun u hu => by simp at hu; rcases hu with rfl | rfl | rfl | rfl | rfl | rfl | rfl | rfl | rfl <;> rfl) (by have := HVN.out; have := HN.out; omega) HE7.out.size ?_; intro gb cb wb hGR hgr hob; have HGB : Hid (GR (fun w D F => isAt st9 → DS w D (L ++ [X]) F) 66 9 w wb ⟨some ⟨gb, 0, none⟩, v.n + 1, cb⟩) := hGR _ kp_ds (fun F h z => by rw [← HXX.out]; exact DS.snoc (x := ⟨cls, x1, x2, true, lo, hi0, (some e), t.l, t.c⟩) (HT7.out z) (h z)); have exb := Ex.ofGrown hgr (S := fun k => (slV v).ownBlock = some k) (fun _ z => z.symm); have HEB : Hid (Ex (fun k => k = p) w wb) := HE7.out.trans2 exb (fun k z => .inr (hob k z).1); have HIB : Hid (InS B p a cp s wb st9) := HI7.out.ex exb (fun k z => by have := (hob k z).1; have := HB.out; omega); clear hGR hgr hob exb HG7 HE7 HI7 HT7 HN7)
          have hrel2 : BRL B p a cp s w N d RR (.inner cls) m0 (slV ⟨some ⟨gb, 0, none⟩, v.n + 1, cb⟩) wb m9 := ⟨L ++ [X], st9, _, rfl, HIB.out, HEB.out, HGB.out, HDA9.out, by have := HVN.out; have := HM9.out; show v.n + 1 + m9 ≤ N; omega, by have := HM1.out; have := HM9.out; omega, R3, HP3.out, by rw [List.append_assoc]; rw [← HLL.out, ← HR3.out]; rfl⟩
          go_roundw
          case rel => exact ⟨m9, hrel2⟩
          case measure => exact lm_lt hrel2 (by have h9 := HLM1.out; unfold slV at h9; rw [h9]; have := HM9.out; omega)
end
end Go.Proofs.Qxb6500774a
