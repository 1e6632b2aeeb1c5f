import Derived.Test.Qxb6500774aKk
namespace Go.Proofs.Qxb6500774a
open Go.RowKit
set_option linter.unusedVariables false
set_option linter.unusedSimpArgs false

section
variable {B p : Nat} {a : Option Addr} {cp : Nat} {s : List Int}
theorem ite_rng {c : Prop} [Decidable c] {x y : Int} (hx : 0 ≤ x ∧ x ≤ 7) (hy : 0 ≤ y ∧ y ≤ 7) : 0 ≤ (if c then x else y) ∧ (if c then x else y) ≤ 7 := by
  split
  · exact hx
  · exact hy
theorem powP_le (t : List UInt8) : 0 ≤ powP t ∧ powP t ≤ 7 := by
  unfold powP
  repeat refine ite_rng ⟨by decide, by decide⟩ ?_
  exact ⟨by decide, by decide⟩
/-- expressions, with fuel below N -/
def EXm (B p : Nat) (a : Option Addr) (cp : Nat) (s : List Int) (N : Nat) : Prop := ∀ m, m < N → ∀ (min : Int) (st : PSt) (R : E × PSt) (w : World), pj s m (.expr min) st = some R → InS B p a cp s w st → DOk st → Calls Try.prog 44 #[.pointer (some ⟨p, 0, none⟩), .int .i64 min] w (XPost B p a cp s w R)
def PLE (B p : Nat) (a : Option Addr) (cp : Nat) (s : List Int) (w : World) (r0 r1 N : Nat) (d min : Int) (RR : E × PSt) (wr : World) (m : Nat) : Prop := ∃ (e : E) (st : PSt) (f : XP), m < N ∧ pj s m (.loop min e) st = some RR ∧ DA d st ∧ PX B p a cp s w wr r0 r1 st f ∧ (isAt st → ET wr (DX w r0 r1) e f)
theorem PX.growb {w0 w : World} {r0 r1 : Nat} {st : PSt} {f f2 : XP} {e i : E} (h : PX B p a cp s w0 w r0 r1 st f) (ht : isAt st → ET w (DX w0 r0 r1) e f) (hi : isAt st → ET w (DX w0 r0 r1) i f2) {g : Nat} (hg : RC w g 0 f) (hg2 : RC w g 7 f2) (hd : ¬ DX w0 r0 r1 g) (x : ByteArray) :
    PX B p a cp s w0 (set7 w r1 ⟨7, x, 0, nb, some ⟨g, 0, none⟩, 2, 2, f.li, f.co⟩) r0 r1 st ⟨7, x, 0, nb, some ⟨g, 0, none⟩, 2, 2, f.li, f.co⟩ ∧ (isAt st → ET (set7 w r1 ⟨7, x, 0, nb, some ⟨g, 0, none⟩, 2, 2, f.li, f.co⟩) (DX w0 r0 r1) (.bin x e i e.l e.c) ⟨7, x, 0, nb, some ⟨g, 0, none⟩, 2, 2, f.li, f.co⟩) := by
  refine ⟨h.put _, fun z => ?_⟩
  have t1 := ht z
  have ex := ex_set7 w r1 ⟨7, x, 0, nb, some ⟨g, 0, none⟩, 2, 2, f.li, f.co⟩
  exact ⟨g, f, f2, by rw [t1.lc.1, t1.lc.2], ⟨by rw [set7_size]; exact World.block_lt_of_cell? _ _ hg.c0, hd⟩, hg.keep ex (fun z => hd (.inr (.inr z))), hg2.keep ex (fun z => hd (.inr (.inr z))), t1.ds ex, (hi z).ds ex⟩
theorem set7_alloc (w : World) (o : Obj) {r : Nat} (f : XP) (h : r < w.heap.size) : set7 (w.alloc o) r f = (set7 w r f).alloc o := by
  unfold set7
  simp [go_sem, h]
set_option linter.unusedSimpArgs false in
set_option linter.unusedVariables false in
set_option maxRecDepth 100000 in
set_option maxHeartbeats 32000000 in
theorem exprK (N : Nat) (hE : EXm B p a cp s N) (hO : OP B p a cp s N) (min : Int) (st : PSt) (RR : E × PSt) (w : World) (hpj : pj s N (.expr min) st = some RR) (hin : InS B p a cp s w st) (hok : DOk st) :
    Calls Try.prog 44 #[.pointer (some ⟨p, 0, none⟩), .int .i64 min] w (XPost B p a cp s w RR) := by
  have HEE := hide hE
  clear hE
  obtain ⟨d, hd0, hda⟩ := hok.da
  have HD0 := hide hd0
  have HDA := hide hda
  obtain ⟨m0, e0, st1, hm0, hp0, hp1⟩ : ∃ m0 e0 st1, m0 < N ∧ pj s m0 .oper st = some (e0, st1) ∧ pj s m0 (.loop min e0) st1 = some RR := by
    cases N with
    | zero => unfold pj at hpj; cases hpj
    | succ m =>
      unfold pj at hpj
      split at hpj
      · cases hpj
      · next e0 st1 h1 => exact ⟨m, e0, st1, Nat.lt_succ_self m, h1, hpj⟩
  have HDA1 : Hid (DA d st1) := pj_da s _ _ _ _ _ hp0 hda
  have HOC := hide (hO m0 hm0 st (e0, st1) (w.alloc (xO x00)) hp0 (hin.ex (S := fun _ => False) ((Ex.refl _ w).alloc _) (fun _ z => z.elim)) hok)
  have HP1 := hide hp1
  have HM0 := hide hm0
  have hb := hin.hB
  have HB := hide hb
  have hpw : p < w.heap.size := by omega
  clear hpj hin hok hd0 hda hp0 hp1 hm0 hO hb
  have HXK := hide (XK.new w x00)
  unfold xO x00 nb at HOC HXK
  go_enter Try.func44, Try.ntmps44
  go_wp2_with fail
  refine HOC.out.mono ?_
  rintro e w2 ⟨f, rfl, hex, hi, hti⟩
  have HX3 : Hid (PX B p a cp s w (w2.alloc (xO f)) w.heap.size w2.heap.size st1 f) := by
    have h1 := hex.size
    simp at h1
    have e1 : Ex (fun _ => False) w2 (w2.alloc (xO f)) := (Ex.refl _ _).alloc _
    exact ⟨hi.ex e1 (fun _ z => z.elim), (((Ex.refl (fun k => k = p) w).alloc _).trans hex).trans (e1.mono (fun _ z => z.elim)), (HXK.out.keep hex (by omega)).keep e1 (fun z => z), XK.new w2 f, ⟨Nat.le_refl _, by omega, by omega⟩, HB.out⟩
  have HT3 : Hid (isAt st1 → ET (w2.alloc (xO f)) (DX w w.heap.size w2.heap.size) e0 f) := fun z => (hti z).keep (S := fun _ => False) ((Ex.refl _ _).alloc _) (fun _ z => z.elim) (fun g z => by
    simp
    rcases z with z | z | z <;> omega)
  obtain ⟨w3, hw3⟩ : ∃ x, w2.alloc (xO f) = x := ⟨_, rfl⟩
  rw [hw3] at HX3 HT3
  have HW3 := hide hw3
  unfold xO at HW3
  clear hw3 hex hi hti HOC HXK
  unfold xV
  go_wp2_with fail
  rw [HW3.out]
  clear HW3
  obtain ⟨r0, hr0⟩ : ∃ x, w.heap.size = x := ⟨_, rfl⟩
  obtain ⟨r1, hr1⟩ : ∃ x, w2.heap.size = x := ⟨_, rfl⟩
  rw [hr0, hr1] at HX3 HT3
  rw [hr0, hr1]
  clear hr0 hr1
  have HR0 : Hid (PLE B p a cp s w r0 r1 N d min RR w3 m0) := ⟨e0, st1, f, HM0.out, HP1.out, HDA1.out, HX3.out, HT3.out⟩
  clear HX3 HT3 HDA1 HP1 HM0 HDA
  go_loopw [25] (fun _ wr => ∃ m, PLE B p a cp s w r0 r1 N d min RR wr m) (fun _ wr => lm (PLE B p a cp s w r0 r1 N d min RR wr))
  case atStart => exact ⟨m0, HR0.out⟩
  case round =>
    have hsp := (lm_spec hrel).1
    obtain ⟨m, hmm⟩ : ∃ m, lm (PLE B p a cp s w r0 r1 N d min RR wr) = m := ⟨_, rfl⟩
    have HLM := hide hmm
    rw [hmm] at hsp
    clear hmm hrel HR0
    obtain ⟨e, st3, f3, h1, h2, h3, h4, h5⟩ := hsp
    have HM := hide h1
    have HPJ := hide h2
    have HDA := hide h3
    have HX := hide h4
    have HT := hide h5
    clear h1 h2 h3 h4 h5
    obtain ⟨q, t, d1, fe, fl, fc, hpk, htk, htt⟩ := HX.out.ins.all
    have c4 := hpk.c4
    have c5 := hpk.c5
    have hps : powS s min st3 = ((t.k == 5) && decide (min ≤ powP t.x.toList)) := by
      unfold powS
      cases st3 with
      | «at» k e => rw [htk (by have := HDA.out; have := HD0.out; have h3 : e = d := HDA.out; show 0 ≤ e ∧ e ≤ 64; omega)]
      | bad er l c => rw [htt]; cases hk : (t.k == 5) with
        | true => rw [beq_iff_eq] at hk; rw [hk] at htt; cases htt
        | false => rfl
    have HTX : Hid (isAt st3 → t = tokS s st3) := htk
    have HPS := hide hps
    clear hpk htk hps htt
    have hpa := fun wz : World => power_any wz t.x
    have hpl := powP_le t.x.toList
    generalize hpw2 : powP t.x.toList = pw at *
    have HPW := hide hpw2
    clear hpw2
    cases hk5 : (t.k == 5)
    · have HRR : Hid ((e, st3) = RR) := by
        have h := HPJ.out
        cases m with
        | zero => unfold pj at h; cases h
        | succ m =>
          unfold pj at h
          rw [if_neg (by rw [HPS.out, hk5]; simp)] at h
          injection h
      have R0 := HX.out.tr.c0
      have R1 := HX.out.tr.c1
      have R2 := HX.out.tr.c2
      have R3 := HX.out.tr.c3
      have R4 := HX.out.tr.c4
      have R5 := HX.out.tr.c5
      have R6 := HX.out.tr.c6
      have RF0 := HX.out.tr.fz 0
      have RF1 := HX.out.tr.fz 1
      have RF2 := HX.out.tr.fz 2
      have RF3 := HX.out.tr.fz 3
      have RF4 := HX.out.tr.fz 4
      have RF5 := HX.out.tr.fz 5
      have RF6 := HX.out.tr.fz 6
      have S0 := HX.out.te.c0
      have S1 := HX.out.te.c1
      have S2 := HX.out.te.c2
      have S3 := HX.out.te.c3
      have S4 := HX.out.te.c4
      have S5 := HX.out.te.c5
      have S6 := HX.out.te.c6
      unfold x00 nb at R0 R1 R2 R3 R4 R5 R6
      dsimp only at R0 R1 R2 R3 R4 R5 R6
      have HF : Hid (XPost B p a cp s w RR (.returned (xV f3)) (set7 wr r0 f3)) := by
        rw [← HRR.out]
        exact HX.out.fin HT.out
      unfold set7 at HF
      clear HX HT
      go_wp2
      exact bodyPost_ret (v := xV f3) (by simp [results, Try.results44, go_sem, xV, R0, R1, R2, R3, R4, R5, R6]) rfl HF.out
    by_cases hle : min ≤ pw
    rotate_left
    · have hd1 : decide (min ≤ pw) = false := decide_eq_false hle
      have HRR : Hid ((e, st3) = RR) := by
        have h := HPJ.out
        cases m with
        | zero => unfold pj at h; cases h
        | succ m =>
          unfold pj at h
          rw [if_neg (by rw [HPS.out, hk5, hd1]; simp)] at h
          injection h
      have R0 := HX.out.tr.c0
      have R1 := HX.out.tr.c1
      have R2 := HX.out.tr.c2
      have R3 := HX.out.tr.c3
      have R4 := HX.out.tr.c4
      have R5 := HX.out.tr.c5
      have R6 := HX.out.tr.c6
      have RF0 := HX.out.tr.fz 0
      have RF1 := HX.out.tr.fz 1
      have RF2 := HX.out.tr.fz 2
      have RF3 := HX.out.tr.fz 3
      have RF4 := HX.out.tr.fz 4
      have RF5 := HX.out.tr.fz 5
      have RF6 := HX.out.tr.fz 6
      have S0 := HX.out.te.c0
      have S1 := HX.out.te.c1
      have S2 := HX.out.te.c2
      have S3 := HX.out.te.c3
      have S4 := HX.out.te.c4
      have S5 := HX.out.te.c5
      have S6 := HX.out.te.c6
      unfold x00 nb at R0 R1 R2 R3 R4 R5 R6
      dsimp only at R0 R1 R2 R3 R4 R5 R6
      have HF : Hid (XPost B p a cp s w RR (.returned (xV f3)) (set7 wr r0 f3)) := by
        rw [← HRR.out]
        exact HX.out.fin HT.out
      unfold set7 at HF
      clear HX HT
      go_wp2_with (go_at_call 67; refine (hpa _).mono ?_; rintro e wq ⟨rfl, hwq⟩; subst wq; simp only [])
      exact bodyPost_ret (v := xV f3) (by simp [results, Try.results44, go_sem, xV, R0, R1, R2, R3, R4, R5, R6]) rfl HF.out
    have hd1 : decide (min ≤ pw) = true := decide_eq_true hle
    have HTS : Hid (takeS s 5 st3 = ((tokS s st3), (takeS s 5 st3).2) ∧ (isAt (takeS s 5 st3).2 → isAt st3) ∧ t = tokS s st3) := by
      have h0 := HDA.out
      have h1 := HD0.out
      cases st3 with
      | «at» k e =>
        have h0 : e = d := h0
        have ht := HTX.out (show 0 ≤ e ∧ e ≤ 64 by omega)
        refine ⟨?_, fun _ => (show 0 ≤ e ∧ e ≤ 64 by omega), ht⟩
        unfold takeS
        dsimp only
        rw [if_pos (by have : (tokS s (.at k e)).k = 5 := by rw [← ht]; simpa using hk5
                       exact this)]
        rfl
      | bad er l c =>
        have h := HPS.out
        rw [hk5, hd1] at h
        cases h
    obtain ⟨m5, r, st5, hm5, hp5, hp6⟩ : ∃ m5 r st5, m5 < m ∧ pj s m5 (.expr (pw + 1)) (takeS s 5 st3).2 = some (r, st5) ∧ pj s m5 (.loop min (.bin t.x e r e.l e.c)) st5 = some RR := by
      have h := HPJ.out
      cases m with
      | zero => unfold pj at h; cases h
      | succ m =>
        unfold pj at h
        rw [if_pos (by rw [HPS.out, hk5, hd1]; rfl), HTS.out.1, ← HTS.out.2.2, HPW.out] at h
        dsimp only at h
        split at h
        · cases h
        · next r st5 h7 => exact ⟨m, r, st5, Nat.lt_succ_self m, h7, h⟩
    have HTK : Hid (∀ wz, InS B p a cp s wz st3 → Calls Try.prog 35 #[.pointer (some ⟨p, 0, none⟩), .int .i64 5] wz (StP B p a cp s wz (tkV t) (takeS s 5 st3).2)) := fun wz hz => by
      have h := takeK_any wz hz 5 (by decide)
      rw [HTS.out.1, ← HTS.out.2.2] at h
      exact h
    have HAT4 : Hid (isAt (takeS s 5 st3).2 → isAt st3) := HTS.out.2.1
    have HDA4 : Hid (DA d (takeS s 5 st3).2) := takeS_da HDA.out 5
    clear HTS HPJ
    generalize (takeS s 5 st3).2 = st4 at *
    have HEC : Hid (∀ wz, InS B p a cp s wz st4 → Calls Try.prog 44 #[.pointer (some ⟨p, 0, none⟩), .int .i64 (pw + 1)] wz (XPost B p a cp s wz (r, st5))) := fun wz hz => HEE.out m5 (Nat.lt_trans hm5 HM.out) (pw + 1) st4 (r, st5) wz hp5 hz (HDA4.out.ok HD0.out)
    have HDA5 : Hid (DA d st5) := pj_da s _ _ _ _ _ hp5 HDA4.out
    have HAT5 : Hid (isAt st5 → isAt st4) := fun z => isAt.pj hp5 HDA4.out HD0.out z
    have HP6 := hide hp6
    have HM5 := hide hm5
    clear hp5 hp6 hm5
    go_upto_region 3 with (go_at_call 67; refine (hpa _).mono ?_; rintro e wq ⟨rfl, hwq⟩; subst wq; simp only [])
    clear c4 c5
    go_wp2_with fail
    refine (HTK.out wr HX.out.ins).mono ?_
    rintro e9 w4 ⟨rfl, hex, hi⟩
    have HX4 := hide (HX.out.call hex hi)
    have HT4 : Hid (isAt st4 → ET w4 (DX w r0 r1) e f3) := fun z => (HT.out (HAT4.out z)).dx hex hpw
    clear hex hi HX HT HTK
    simp only []
    have hfl := fld81 t w4
    unfold tkV at hfl ⊢
    go_upto_region 4 with fail
    clear hfl
    have hw1 : IntKind.i64.wrap (pw + 1) = pw + 1 := by rw [IntKind.wrap_i64]; omega
    go_wp2_with (go_at_call 67; refine (hpa _).mono ?_; rintro e wq ⟨rfl, hwq⟩; subst wq; simp only [])
    refine (HEC.out w4 HX4.out.ins).mono ?_
    rintro e9 w5 ⟨f2, rfl, hex, hi, hti⟩
    have HX5 := hide (HX4.out.call hex hi)
    have HT5 : Hid (isAt st5 → ET w5 (DX w r0 r1) e f3) := fun z => (HT4.out (HAT5.out z)).dx hex hpw
    have HI5 : Hid (isAt st5 → ET w5 (DX w r0 r1) r f2) := fun z => (hti z).ofCall HX4.out.ex.size HX4.out.lt
    clear hex hi hti HX4 HT4 HEC
    have HX6 := hide (HX5.out.low ((Ex.refl (fun _ => False) w5).alloc (xO f2)))
    have HT6 : Hid (isAt st5 → ET (w5.alloc (xO f2)) (DX w r0 r1) e f3) := fun z => (HT5.out z).dlow ((Ex.refl (fun _ => False) w5).alloc (xO f2))
    have HI6 : Hid (isAt st5 → ET (w5.alloc (xO f2)) (DX w r0 r1) r f2) := fun z => (HI5.out z).dlow ((Ex.refl (fun _ => False) w5).alloc (xO f2))
    have HK6 := hide (XK.new w5 f2)
    clear HX5 HT5 HI5
    obtain ⟨w6, hw6⟩ : ∃ x, w5.alloc (xO f2) = x := ⟨_, rfl⟩
    rw [hw6] at HX6 HT6 HI6 HK6
    have HW6 := hide hw6
    unfold xO at HW6
    clear hw6
    unfold xV
    go_upto_region 5 with fail
    rw [HW6.out]
    clear HW6
    generalize w5.heap.size = r2 at *
    have HX7 := hide (HX6.out.low ((Ex.refl (fun _ => False) w6).alloc (xO2 f3 f2)))
    have HT7 : Hid (isAt st5 → ET (w6.alloc (xO2 f3 f2)) (DX w r0 r1) e f3) := fun z => (HT6.out z).dlow ((Ex.refl (fun _ => False) w6).alloc (xO2 f3 f2))
    have HI7 : Hid (isAt st5 → ET (w6.alloc (xO2 f3 f2)) (DX w r0 r1) r f2) := fun z => (HI6.out z).dlow ((Ex.refl (fun _ => False) w6).alloc (xO2 f3 f2))
    have HG7 := hide (RC.new2 w6 f3 f2)
    have HGD : Hid (¬ DX w r0 r1 w6.heap.size) := by
      have h1 := HX6.out.lt
      have h2 := HX6.out.ge
      rintro (q | q | q) <;> omega
    have HFIN := hide (HX7.out.growb HT7.out HI7.out HG7.out.1 HG7.out.2 HGD.out t.x)
    rw [set7_alloc _ _ _ HX6.out.lt.2] at HFIN
    have hrl := HX6.out.lt.2
    have Y0 := HX6.out.te.c0
    have Y1 := HX6.out.te.c1
    have Y2 := HX6.out.te.c2
    have Y3 := HX6.out.te.c3
    have Y4 := HX6.out.te.c4
    have Y5 := HX6.out.te.c5
    have Y6 := HX6.out.te.c6
    have YF0 := HX6.out.te.fz 0
    have YF1 := HX6.out.te.fz 1
    have YF2 := HX6.out.te.fz 2
    have YF3 := HX6.out.te.fz 3
    have YF4 := HX6.out.te.fz 4
    have YF5 := HX6.out.te.fz 5
    have YF6 := HX6.out.te.fz 6
    have Z0 := HK6.out.c0
    have Z1 := HK6.out.c1
    have Z2 := HK6.out.c2
    have Z3 := HK6.out.c3
    have Z4 := HK6.out.c4
    have Z5 := HK6.out.c5
    have Z6 := HK6.out.c6
    clear HX6 HT6 HI6 HK6 HX7 HT7 HI7 HG7 HGD
    unfold set7 xO2 nb at HFIN
    dsimp only at HFIN
    go_wp2
    have hrel2 : PLE B p a cp s w r0 r1 N d min RR _ m5 := ⟨_, st5, _, Nat.lt_trans HM5.out HM.out, HP6.out, HDA5.out, HFIN.out.1, HFIN.out.2⟩
    go_roundw
    case rel => exact ⟨m5, hrel2⟩
    case measure => exact lm_lt hrel2 (by rw [HLM.out]; exact HM5.out)
end
end Go.Proofs.Qxb6500774a
