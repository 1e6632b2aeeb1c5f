import Derived.Test.Qxb6500774aKs1
namespace Go.Proofs.Qxb6500774a
open Go.RowKit
set_option linter.unusedVariables false
set_option linter.unusedSimpArgs false

section
variable {B p : Nat} {a : Option Addr} {cp : Nat} {s : List Int}
def TRL (B p : Nat) (a : Option Addr) (cp : Nat) (s : List Int) (w : World) (N : Nat) (d : Int) (RL : S × PSt) (v3 : Value) (wr : World) (m : Nat) : Prop := ∃ (A : S) (st : PSt) (v : SLc), v3 = slV v ∧ InS B p a cp s wr st ∧ Ex (fun k => k = p) w wr ∧ GR (fun w D F => isAt st → SS w D A false F) 113 10 w wr v ∧ DA d st ∧ v.n + m ≤ N ∧ ∃ R2, ps s m .stmts st = some (R2, RL.2) ∧ A.app R2 = RL.1
def spO (f : SP) : Obj := .cells #[.int .i64 f.k, .string f.x, .slice f.ex.q f.ex.n f.ex.c, .slice f.ar.q f.ar.n f.ar.c, .slice f.el.q f.el.n f.el.c, .slice f.bo.q f.bo.n f.bo.c, .slice f.ag.q f.ag.n f.ag.c, .slice f.co.q f.co.n f.co.c, .int .i64 f.li, .int .i64 f.cl] 113
theorem SK.new (w : World) (f : SP) : SK (w.alloc (spO f)) w.heap.size f := by
  have n := fun j u h => new_cells w [.int .i64 f.k, .string f.x, .slice f.ex.q f.ex.n f.ex.c, .slice f.ar.q f.ar.n f.ar.c, .slice f.el.q f.el.n f.el.c, .slice f.bo.q f.bo.n f.bo.c, .slice f.ag.q f.ag.n f.ag.c, .slice f.co.q f.co.n f.co.c, .int .i64 f.li, .int .i64 f.cl] 113 j u h
  exact ⟨n 0 _ rfl, n 1 _ rfl, n 2 _ rfl, n 3 _ rfl, n 4 _ rfl, n 5 _ rfl, n 6 _ rfl, n 7 _ rfl, n 8 _ rfl, n 9 _ rfl, fun j => by simp [go_sem, spO]⟩
set_option linter.unusedSimpArgs false in
set_option linter.unusedVariables false in
set_option maxRecDepth 100000 in
set_option maxHeartbeats 32000000 in
theorem stmtsK (N : Nat) (hN : N ≤ 4294967296) (hST : STK B p a cp s N) (st : PSt) (RR : S × PSt) (w : World) (hpj : ps s N .stmts st = some RR) (hin : InS B p a cp s w st) (d : Int) (hd0 : 0 ≤ d ∧ d ≤ 64) (hda : DA d st) :
    Calls Try.prog 37 #[.pointer (some ⟨p, 0, none⟩)] w (LPost B p a cp s w RR) := by
  have HD0 := hide hd0
  have HN := hide hN
  have HST := hide hST
  have HB := hide hin.hB
  have HR0 : Hid (TRL B p a cp s w N d RR (slV nl) w N) := ⟨.nil, st, nl, rfl, hin, Ex.refl _ _, GR.nil (fun _ => rfl), hda, by show 0 + N ≤ N; omega, RR.1, hpj, rfl⟩
  clear hpj hin hd0 hda hN hST
  unfold slV nl at HR0
  dsimp only at HR0
  go_enter Try.func37, Try.ntmps37
  go_wp2_with fail
  go_loopw [3] (fun v3 wr => ∃ m, TRL B p a cp s w N d RR v3 wr m) (fun v3 wr => lm (TRL B p a cp s w N d RR v3 wr))
  case atStart => exact ⟨_, HR0.out⟩
  case round =>
    have hsp := (lm_spec hrel).1
    obtain ⟨m0, hmm⟩ : ∃ m, lm (TRL B p a cp s w N d RR u3 wr) = m := ⟨_, rfl⟩
    have HLM := hide hmm
    rw [hmm] at hsp
    clear hmm hrel HR0
    obtain ⟨A, st6, v, rfl, h1, h1b, h2, h3, h4, R2, hp, hLL⟩ := hsp
    have HI := hide h1
    have HE := hide h1b
    have HG := hide h2
    have HDA := hide h3
    have HVN := hide h4
    have HLL := hide hLL
    obtain ⟨m8, hm8, hp⟩ : ∃ m8, m8 + 1 = m0 ∧ ps s (m8 + 1) .stmts st6 = some (R2, RR.2) := by
      cases m0 with
      | zero => unfold ps at hp; cases hp
      | succ m => exact ⟨m, rfl, hp⟩
    unfold ps at hp
    have HPS := hide hp
    have HM8 := hide hm8
    clear h1 h1b h2 h3 h4 hLL hp hm8
    obtain ⟨q1, t, d1, fe, fl, fc, hpk, htk, htt⟩ := HI.out.all
    have HTK := hide htk
    have c8 := hpk.c8
    have c9 := hpk.c9
    have HPK := hide hpk
    have hpl : p < wr.heap.size := World.block_lt_of_cell? _ _ c8
    clear hpk htk
    have e2 : Ex (fun _ => False) wr (wr.alloc (spO ⟨0, nb, nl, nl, nl, nl, nl, nl, t.l, t.c⟩)).drew := ((Ex.refl _ wr).alloc _).drew
    have HI2 : Hid (InS B p a cp s (wr.alloc (spO ⟨0, nb, nl, nl, nl, nl, nl, nl, t.l, t.c⟩)).drew st6) := HI.out.ex e2 (fun _ z => z.elim)
    have HE2 := hide e2
    have HPK2 : Hid (PK B p a cp s (wr.alloc (spO ⟨0, nb, nl, nl, nl, nl, nl, nl, t.l, t.c⟩)).drew q1 t d1 fe fl fc) := HPK.out.ex e2 (fun _ z => z.elim)
    have HSK2 : Hid (SK (wr.alloc (spO ⟨0, nb, nl, nl, nl, nl, nl, nl, t.l, t.c⟩)).drew wr.heap.size ⟨0, nb, nl, nl, nl, nl, nl, nl, t.l, t.c⟩ ∧ B ≤ wr.heap.size) := ⟨(SK.new wr ⟨0, nb, nl, nl, nl, nl, nl, nl, t.l, t.c⟩).keep (Ex.refl (fun _ => False) _).drew (fun z => z), Nat.le_trans HB.out.1 HE.out.size⟩
    obtain ⟨w2, hw2⟩ : ∃ x, (wr.alloc (spO ⟨0, nb, nl, nl, nl, nl, nl, nl, t.l, t.c⟩)).drew = x := ⟨_, rfl⟩
    rw [hw2] at HI2 HE2 HPK2 HSK2
    have HW2 := hide hw2
    unfold spO nb nl at HW2
    dsimp only at HW2
    clear hw2 e2 HPK
    go_upto_region 2 with fail
    go_region
    rw [HW2.out]
    clear HW2 c8 c9
    obtain ⟨q, hq⟩ : ∃ q, wr.heap.size = q := ⟨_, rfl⟩
    have HQ := hide hq
    rw [hq] at HSK2 ⊢
    clear hq
    have c4 := HPK2.out.c4
    have hat := fun u : ByteArray => atK_any w2 HI2.out u
    by_cases hk : (tokS s st6).k = 2
    · have hk2 : (t.k == 2) = true := by rw [← htt, hk]; rfl
      have hab : ¬ isB st6 := fun zb => by
        obtain ⟨e, l, c, rfl⟩ := zb.ex
        cases hk
      obtain ⟨A1, st7, R3, hc, hp3, hr3⟩ : ∃ A1 st7 R3, ps s m8 (.simple (tokS s st6).l (tokS s st6).c) st6 = some (A1, st7) ∧ ps s m8 .stmts (expectS s bSEM st7) = some (R3, RR.2) ∧ A1.app R3 = R2 := by
        have h := HPS.out
        rw [if_pos hk] at h
        split at h
        · cases h
        · next A1 st7 h7 =>
          split at h
          · cases h
          · next R3 st8 h8 =>
            injection h with h
            injection h with h9 h10
            have h10 : st8 = RR.2 := h10
            rw [h10] at h8
            exact ⟨A1, st7, R3, h7, h8, h9⟩
      have HTQ : Hid (t = tokS s st6) := HTK.out (isAt.of HDA.out HD0.out hab)
      rw [← HTQ.out] at hc
      have HC : Hid (Calls Try.prog 73 #[.pointer (some ⟨p, 0, none⟩), .pointer (some ⟨q, 0, none⟩)] w2 (StPost B p q a cp s w2 (A1, st7))) := simpleK m8 (by have := HVN.out; have := HM8.out; have := HN.out; omega) t.l t.c st6 (A1, st7) w2 q hc HI2.out d HD0.out HDA.out HSK2.out.1 HSK2.out.2
      go_upto_region 4 with fail
      have HP3 := hide hp3
      have HR3 := hide hr3
      have HDA7 : Hid (DA d st7) := ps_da s _ _ _ _ _ hc HDA.out
      have HA7 : Hid (isAt st7 → isAt st6) := fun z => (isAt.ps hc HDA.out HD0.out z)
      clear hp3 hr3 hc hab HTQ c4 hk2 hat HPS hk
      go_wp2_with fail
      refine HC.out.mono ?_
      rintro e9 w5 ⟨rfl, hex, hi, f, hsk, hti⟩
      have HE5 : Hid (Ex (fun k => k = p) wr w5) := (HE2.out.mono (fun _ z => z.elim) : Ex (fun k => k = p) wr w2).trans2 hex (fun k z => by
        rcases z with z | z
        · exact .inl z
        · exact .inr (by rw [HQ.out]; omega))
      have HG5 : Hid (GR (fun w D F => isAt st7 → SS w D A false F) 113 10 w w5 v) := GR.imp (GR.keep kp_ss HG.out HE5.out (fun k z => .inl (by have := HB.out; omega))) (fun F h z => h (HA7.out z))
      have HI5 := hide hi
      have HSK5 : Hid (SK w5 q f ∧ B ≤ q) := ⟨hsk, HSK2.out.2⟩
      have HT5 : Hid (isAt st7 → SS w5 (DG w v) A1 false [spL f]) := fun z => (hti z).keep (Ex.refl (fun _ => False) _) (fun _ z => z.elim) (fun k z => .inl (by
        have hsz : wr.heap.size ≤ w2.heap.size := (HE2.out.mono (fun _ z => z.elim) : Ex (fun k => k = p) wr w2).size
        rcases z with z | z
        · have := HE.out.size; omega
        · obtain ⟨F, g1, _⟩ := HG.out
          have := (g1.lt k z).2
          omega))
      clear hex hi hsk hti HC HI2 HE2 HPK2 HSK2 HI HG
      simp only []
      have HXP := hide (expectK_any w5 HI5.out bSEM)
      have HDA8 : Hid (DA d (expectS s bSEM st7)) := expectS_da HDA7.out _
      have HA8 : Hid (isAt (expectS s bSEM st7) → isAt st7) := isAt.ex
      generalize expectS s bSEM st7 = st8 at *
      unfold bSEM at HXP
      go_upto_region 12 with fail
      go_wp2_with fail
      refine HXP.out.mono ?_
      rintro e9 w6 ⟨rfl, hex, hi⟩
      have HE6 : Hid (Ex (fun k => k = p) wr w6) := HE5.out.trans hex
      have HG6 : Hid (GR (fun w D F => isAt st8 → SS w D A false F) 113 10 w w6 v) := GR.imp (GR.keep kp_ss HG5.out hex (fun k z => .inl (by have := HB.out; omega))) (fun F h z => h (HA8.out z))
      have HI6 := hide hi
      have HSK6 : Hid (SK w6 q f) := HSK5.out.1.keep hex (by have := HSK5.out.2; have := HB.out; omega)
      have HT6 : Hid (isAt st8 → SS w6 (DG w v) A1 false [spL f]) := fun z => (HT5.out (HA8.out z)).keep hex (fun k z => .inl (.inl (by have := HB.out; omega))) (fun _ z => .inl z)
      clear hex hi HXP HE5 HG5 HI5 HSK5 HT5
      simp only []
      go_upto_region 13 with fail
      have T0 := HSK6.out.c0
      have T1 := HSK6.out.c1
      have T2 := HSK6.out.c2
      have T3 := HSK6.out.c3
      have T4 := HSK6.out.c4
      have T5 := HSK6.out.c5
      have T6 := HSK6.out.c6
      have T7 := HSK6.out.c7
      have T8 := HSK6.out.c8
      have T9 := HSK6.out.c9
      have ex7 : Ex (fun _ => False) w6 (w6.alloc (.cells #[.int .i64 f.k, .string f.x, .slice f.ex.q f.ex.n f.ex.c, .slice f.ar.q f.ar.n f.ar.c, .slice f.el.q f.el.n f.el.c, .slice f.bo.q f.bo.n f.bo.c, .slice f.ag.q f.ag.n f.ag.c, .slice f.co.q f.co.n f.co.c, .int .i64 f.li, .int .i64 f.cl] 113)) := (Ex.refl _ _).alloc _
      have HE7 : Hid (Ex (fun k => k = p) w (w6.alloc (.cells #[.int .i64 f.k, .string f.x, .slice f.ex.q f.ex.n f.ex.c, .slice f.ar.q f.ar.n f.ar.c, .slice f.el.q f.el.n f.el.c, .slice f.bo.q f.bo.n f.bo.c, .slice f.ag.q f.ag.n f.ag.c, .slice f.co.q f.co.n f.co.c, .int .i64 f.li, .int .i64 f.cl] 113))) := (HE.out.trans HE6.out).trans (ex7.mono (fun _ z => z.elim))
      have HI7 : Hid (InS B p a cp s (w6.alloc (.cells #[.int .i64 f.k, .string f.x, .slice f.ex.q f.ex.n f.ex.c, .slice f.ar.q f.ar.n f.ar.c, .slice f.el.q f.el.n f.el.c, .slice f.bo.q f.bo.n f.bo.c, .slice f.ag.q f.ag.n f.ag.c, .slice f.co.q f.co.n f.co.c, .int .i64 f.li, .int .i64 f.cl] 113)) st8) := HI6.out.ex ex7 (fun _ z => z.elim)
      have HG7 : Hid (GR (fun w D F => isAt st8 → SS w D A false F) 113 10 w (w6.alloc (.cells #[.int .i64 f.k, .string f.x, .slice f.ex.q f.ex.n f.ex.c, .slice f.ar.q f.ar.n f.ar.c, .slice f.el.q f.el.n f.el.c, .slice f.bo.q f.bo.n f.bo.c, .slice f.ag.q f.ag.n f.ag.c, .slice f.co.q f.co.n f.co.c, .int .i64 f.li, .int .i64 f.cl] 113)) v) := GR.keep kp_ss HG6.out ex7 (fun _ z => z.elim)
      have HT7 : Hid (isAt st8 → SS (w6.alloc (.cells #[.int .i64 f.k, .string f.x, .slice f.ex.q f.ex.n f.ex.c, .slice f.ar.q f.ar.n f.ar.c, .slice f.el.q f.el.n f.el.c, .slice f.bo.q f.bo.n f.bo.c, .slice f.ag.q f.ag.n f.ag.c, .slice f.co.q f.co.n f.co.c, .int .i64 f.li, .int .i64 f.cl] 113)) (DG w v) A1 false [[.int .i64 f.k, .string f.x, .slice f.ex.q f.ex.n f.ex.c, .slice f.ar.q f.ar.n f.ar.c, .slice f.el.q f.el.n f.el.c, .slice f.bo.q f.bo.n f.bo.c, .slice f.ag.q f.ag.n f.ag.c, .slice f.co.q f.co.n f.co.c, .int .i64 f.li, .int .i64 f.cl]]) := fun z => (HT6.out z).keep ex7 (fun _ z => z.elim) (fun _ z => .inl z)
      have HN7 : Hid (∀ (jq : Nat) (u : Value), [.int .i64 f.k, .string f.x, .slice f.ex.q f.ex.n f.ex.c, .slice f.ar.q f.ar.n f.ar.c, .slice f.el.q f.el.n f.el.c, .slice f.bo.q f.bo.n f.bo.c, .slice f.ag.q f.ag.n f.ag.c, .slice f.co.q f.co.n f.co.c, .int .i64 f.li, .int .i64 f.cl][jq]? = some u → (w6.alloc (.cells #[.int .i64 f.k, .string f.x, .slice f.ex.q f.ex.n f.ex.c, .slice f.ar.q f.ar.n f.ar.c, .slice f.el.q f.el.n f.el.c, .slice f.bo.q f.bo.n f.bo.c, .slice f.ag.q f.ag.n f.ag.c, .slice f.co.q f.co.n f.co.c, .int .i64 f.li, .int .i64 f.cl] 113)).cell? ((⟨w6.heap.size, 0, none⟩ : Addr).add jq) = some u) := fun jq u hj => new_cells w6 [.int .i64 f.k, .string f.x, .slice f.ex.q f.ex.n f.ex.c, .slice f.ar.q f.ar.n f.ar.c, .slice f.el.q f.el.n f.el.c, .slice f.bo.q f.bo.n f.bo.c, .slice f.ag.q f.ag.n f.ag.c, .slice f.co.q f.co.n f.co.c, .int .i64 f.li, .int .i64 f.cl] 113 jq u hj
      clear ex7 HE6 HI6 HG6 HT6 HSK6
      unfold slV
      go_wp2_with (at_builtin; refine wpl_push (w0 := w) rfl (.tmp 39) (.tmp 41) 27 113 _ 10 184 rfl Try.underlying27 Try.inf113 rfl (by decide) (by decide) v rfl HG7.out w6.heap.size 1 [.int .i64 f.k, .string f.x, .slice f.ex.q f.ex.n f.ex.c, .slice f.ar.q f.ar.n f.ar.c, .slice f.el.q f.el.n f.el.c, .slice f.bo.q f.bo.n f.bo.c, .slice f.ag.q f.ag.n f.ag.c, .slice f.co.q f.co.n f.co.c, .int .i64 f.li, .int .i64 f.cl] rfl rfl HN7.out (fun u hu => by simp at hu; rcases hu with rfl | rfl | rfl | rfl | rfl | rfl | rfl | rfl | rfl | rfl <;> rfl) (by have := HVN.out; have := HN.out; omega) HE7.out.size ?_; intro gb cb wb hGR hgr hob; have HGB : Hid (GR (fun w D F => isAt st8 → SS w D (A.app A1) false F) 113 10 w wb ⟨some ⟨gb, 0, none⟩, v.n + 1, cb⟩) := hGR _ kp_ss (fun F h z => SS.app (HT7.out z) (h z)); have exb := Ex.ofGrown hgr (S := fun k => (slV v).ownBlock = some k) (fun _ z => z.symm); have HEB : Hid (Ex (fun k => k = p) w wb) := HE7.out.trans2 exb (fun k z => .inr (hob k z).1); have HIB : Hid (InS B p a cp s wb st8) := HI7.out.ex exb (fun k z => by have := (hob k z).1; have := HB.out; omega); clear hGR hgr hob exb HG7 HE7 HI7 HT7 HN7)
      have hrel2 : TRL B p a cp s w N d RR (slV ⟨some ⟨gb, 0, none⟩, v.n + 1, cb⟩) wb m8 := ⟨A.app A1, st8, _, rfl, HIB.out, HEB.out, HGB.out, HDA8.out, by have := HVN.out; have := HM8.out; show v.n + 1 + m8 ≤ N; omega, R3, HP3.out, by rw [S.app_assoc, HR3.out]; exact HLL.out⟩
      go_roundw
      case rel => exact ⟨m8, hrel2⟩
      case measure => exact lm_lt hrel2 (by rw [HLM.out]; have := HM8.out; omega)
    have hk2 : (t.k == 2) = false := by rw [← htt]; simpa using hk
    cases hIF : atS s bIF st6
    rotate_left
    · have hab : ¬ isB st6 := fun zb => by
        obtain ⟨e, l, c, rfl⟩ := zb.ex
        cases hIF
      obtain ⟨A1, st7, R3, hc, hp3, hr3⟩ : ∃ A1 st7 R3, ps s m8 (.ifs (tokS s st6).l (tokS s st6).c) st6 = some (A1, st7) ∧ ps s m8 .stmts (expectS s bSEM st7) = some (R3, RR.2) ∧ A1.app R3 = R2 := by
        have h := HPS.out
        rw [if_neg hk, if_pos hIF] at h
        split at h
        · cases h
        · next A1 st7 h7 =>
          split at h
          · cases h
          · next R3 st8 h8 =>
            injection h with h
            injection h with h9 h10
            have h10 : st8 = RR.2 := h10
            rw [h10] at h8
            exact ⟨A1, st7, R3, h7, h8, h9⟩
      have HTQ : Hid (t = tokS s st6) := HTK.out (isAt.of HDA.out HD0.out hab)
      rw [← HTQ.out] at hc
      have HC : Hid (Calls Try.prog 74 #[.pointer (some ⟨p, 0, none⟩), .pointer (some ⟨q, 0, none⟩)] w2 (StPost B p q a cp s w2 (A1, st7))) := ifK m8 (by have := HVN.out; have := HM8.out; have := HN.out; omega) (fun m' hm' => HST.out m' (by have := HVN.out; have := HM8.out; omega)) t.l t.c st6 (A1, st7) w2 q hc HI2.out d HD0.out HDA.out hIF HSK2.out.1 HSK2.out.2
      unfold bIF at hIF
      go_upto_region 6 with (go_at_call 72; refine (hat _).mono ?_; rintro e9 wq ⟨rfl, hwq⟩; subst wq; simp only [hIF])
      have HP3 := hide hp3
      have HR3 := hide hr3
      have HDA7 : Hid (DA d st7) := ps_da s _ _ _ _ _ hc HDA.out
      have HA7 : Hid (isAt st7 → isAt st6) := fun z => (isAt.ps hc HDA.out HD0.out z)
      clear hp3 hr3 hc hab HTQ c4 hk2 hat HPS hk hIF
      go_wp2_with fail
      refine HC.out.mono ?_
      rintro e9 w5 ⟨rfl, hex, hi, f, hsk, hti⟩
      have HE5 : Hid (Ex (fun k => k = p) wr w5) := (HE2.out.mono (fun _ z => z.elim) : Ex (fun k => k = p) wr w2).trans2 hex (fun k z => by
        rcases z with z | z
        · exact .inl z
        · exact .inr (by rw [HQ.out]; omega))
      have HG5 : Hid (GR (fun w D F => isAt st7 → SS w D A false F) 113 10 w w5 v) := GR.imp (GR.keep kp_ss HG.out HE5.out (fun k z => .inl (by have := HB.out; omega))) (fun F h z => h (HA7.out z))
      have HI5 := hide hi
      have HSK5 : Hid (SK w5 q f ∧ B ≤ q) := ⟨hsk, HSK2.out.2⟩
      have HT5 : Hid (isAt st7 → SS w5 (DG w v) A1 false [spL f]) := fun z => (hti z).keep (Ex.refl (fun _ => False) _) (fun _ z => z.elim) (fun k z => .inl (by
        have hsz : wr.heap.size ≤ w2.heap.size := (HE2.out.mono (fun _ z => z.elim) : Ex (fun k => k = p) wr w2).size
        rcases z with z | z
        · have := HE.out.size; omega
        · obtain ⟨F, g1, _⟩ := HG.out
          have := (g1.lt k z).2
          omega))
      clear hex hi hsk hti HC HI2 HE2 HPK2 HSK2 HI HG
      simp only []
      have HXP := hide (expectK_any w5 HI5.out bSEM)
      have HDA8 : Hid (DA d (expectS s bSEM st7)) := expectS_da HDA7.out _
      have HA8 : Hid (isAt (expectS s bSEM st7) → isAt st7) := isAt.ex
      generalize expectS s bSEM st7 = st8 at *
      unfold bSEM at HXP
      go_upto_region 12 with fail
      go_wp2_with fail
      refine HXP.out.mono ?_
      rintro e9 w6 ⟨rfl, hex, hi⟩
      have HE6 : Hid (Ex (fun k => k = p) wr w6) := HE5.out.trans hex
      have HG6 : Hid (GR (fun w D F => isAt st8 → SS w D A false F) 113 10 w w6 v) := GR.imp (GR.keep kp_ss HG5.out hex (fun k z => .inl (by have := HB.out; omega))) (fun F h z => h (HA8.out z))
      have HI6 := hide hi
      have HSK6 : Hid (SK w6 q f) := HSK5.out.1.keep hex (by have := HSK5.out.2; have := HB.out; omega)
      have HT6 : Hid (isAt st8 → SS w6 (DG w v) A1 false [spL f]) := fun z => (HT5.out (HA8.out z)).keep hex (fun k z => .inl (.inl (by have := HB.out; omega))) (fun _ z => .inl z)
      clear hex hi HXP HE5 HG5 HI5 HSK5 HT5
      simp only []
      go_upto_region 13 with fail
      have T0 := HSK6.out.c0
      have T1 := HSK6.out.c1
      have T2 := HSK6.out.c2
      have T3 := HSK6.out.c3
      have T4 := HSK6.out.c4
      have T5 := HSK6.out.c5
      have T6 := HSK6.out.c6
      have T7 := HSK6.out.c7
      have T8 := HSK6.out.c8
      have T9 := HSK6.out.c9
      have ex7 : Ex (fun _ => False) w6 (w6.alloc (.cells #[.int .i64 f.k, .string f.x, .slice f.ex.q f.ex.n f.ex.c, .slice f.ar.q f.ar.n f.ar.c, .slice f.el.q f.el.n f.el.c, .slice f.bo.q f.bo.n f.bo.c, .slice f.ag.q f.ag.n f.ag.c, .slice f.co.q f.co.n f.co.c, .int .i64 f.li, .int .i64 f.cl] 113)) := (Ex.refl _ _).alloc _
      have HE7 : Hid (Ex (fun k => k = p) w (w6.alloc (.cells #[.int .i64 f.k, .string f.x, .slice f.ex.q f.ex.n f.ex.c, .slice f.ar.q f.ar.n f.ar.c, .slice f.el.q f.el.n f.el.c, .slice f.bo.q f.bo.n f.bo.c, .slice f.ag.q f.ag.n f.ag.c, .slice f.co.q f.co.n f.co.c, .int .i64 f.li, .int .i64 f.cl] 113))) := (HE.out.trans HE6.out).trans (ex7.mono (fun _ z => z.elim))
      have HI7 : Hid (InS B p a cp s (w6.alloc (.cells #[.int .i64 f.k, .string f.x, .slice f.ex.q f.ex.n f.ex.c, .slice f.ar.q f.ar.n f.ar.c, .slice f.el.q f.el.n f.el.c, .slice f.bo.q f.bo.n f.bo.c, .slice f.ag.q f.ag.n f.ag.c, .slice f.co.q f.co.n f.co.c, .int .i64 f.li, .int .i64 f.cl] 113)) st8) := HI6.out.ex ex7 (fun _ z => z.elim)
      have HG7 : Hid (GR (fun w D F => isAt st8 → SS w D A false F) 113 10 w (w6.alloc (.cells #[.int .i64 f.k, .string f.x, .slice f.ex.q f.ex.n f.ex.c, .slice f.ar.q f.ar.n f.ar.c, .slice f.el.q f.el.n f.el.c, .slice f.bo.q f.bo.n f.bo.c, .slice f.ag.q f.ag.n f.ag.c, .slice f.co.q f.co.n f.co.c, .int .i64 f.li, .int .i64 f.cl] 113)) v) := GR.keep kp_ss HG6.out ex7 (fun _ z => z.elim)
      have HT7 : Hid (isAt st8 → SS (w6.alloc (.cells #[.int .i64 f.k, .string f.x, .slice f.ex.q f.ex.n f.ex.c, .slice f.ar.q f.ar.n f.ar.c, .slice f.el.q f.el.n f.el.c, .slice f.bo.q f.bo.n f.bo.c, .slice f.ag.q f.ag.n f.ag.c, .slice f.co.q f.co.n f.co.c, .int .i64 f.li, .int .i64 f.cl] 113)) (DG w v) A1 false [[.int .i64 f.k, .string f.x, .slice f.ex.q f.ex.n f.ex.c, .slice f.ar.q f.ar.n f.ar.c, .slice f.el.q f.el.n f.el.c, .slice f.bo.q f.bo.n f.bo.c, .slice f.ag.q f.ag.n f.ag.c, .slice f.co.q f.co.n f.co.c, .int .i64 f.li, .int .i64 f.cl]]) := fun z => (HT6.out z).keep ex7 (fun _ z => z.elim) (fun _ z => .inl z)
      have HN7 : Hid (∀ (jq : Nat) (u : Value), [.int .i64 f.k, .string f.x, .slice f.ex.q f.ex.n f.ex.c, .slice f.ar.q f.ar.n f.ar.c, .slice f.el.q f.el.n f.el.c, .slice f.bo.q f.bo.n f.bo.c, .slice f.ag.q f.ag.n f.ag.c, .slice f.co.q f.co.n f.co.c, .int .i64 f.li, .int .i64 f.cl][jq]? = some u → (w6.alloc (.cells #[.int .i64 f.k, .string f.x, .slice f.ex.q f.ex.n f.ex.c, .slice f.ar.q f.ar.n f.ar.c, .slice f.el.q f.el.n f.el.c, .slice f.bo.q f.bo.n f.bo.c, .slice f.ag.q f.ag.n f.ag.c, .slice f.co.q f.co.n f.co.c, .int .i64 f.li, .int .i64 f.cl] 113)).cell? ((⟨w6.heap.size, 0, none⟩ : Addr).add jq) = some u) := fun jq u hj => new_cells w6 [.int .i64 f.k, .string f.x, .slice f.ex.q f.ex.n f.ex.c, .slice f.ar.q f.ar.n f.ar.c, .slice f.el.q f.el.n f.el.c, .slice f.bo.q f.bo.n f.bo.c, .slice f.ag.q f.ag.n f.ag.c, .slice f.co.q f.co.n f.co.c, .int .i64 f.li, .int .i64 f.cl] 113 jq u hj
      clear ex7 HE6 HI6 HG6 HT6 HSK6
      unfold slV
      go_wp2_with (at_builtin; refine wpl_push (w0 := w) rfl (.tmp 39) (.tmp 41) 27 113 _ 10 184 rfl Try.underlying27 Try.inf113 rfl (by decide) (by decide) v rfl HG7.out w6.heap.size 1 [.int .i64 f.k, .string f.x, .slice f.ex.q f.ex.n f.ex.c, .slice f.ar.q f.ar.n f.ar.c, .slice f.el.q f.el.n f.el.c, .slice f.bo.q f.bo.n f.bo.c, .slice f.ag.q f.ag.n f.ag.c, .slice f.co.q f.co.n f.co.c, .int .i64 f.li, .int .i64 f.cl] rfl rfl HN7.out (fun u hu => by simp at hu; rcases hu with rfl | rfl | rfl | rfl | rfl | rfl | rfl | rfl | rfl | rfl <;> rfl) (by have := HVN.out; have := HN.out; omega) HE7.out.size ?_; intro gb cb wb hGR hgr hob; have HGB : Hid (GR (fun w D F => isAt st8 → SS w D (A.app A1) false F) 113 10 w wb ⟨some ⟨gb, 0, none⟩, v.n + 1, cb⟩) := hGR _ kp_ss (fun F h z => SS.app (HT7.out z) (h z)); have exb := Ex.ofGrown hgr (S := fun k => (slV v).ownBlock = some k) (fun _ z => z.symm); have HEB : Hid (Ex (fun k => k = p) w wb) := HE7.out.trans2 exb (fun k z => .inr (hob k z).1); have HIB : Hid (InS B p a cp s wb st8) := HI7.out.ex exb (fun k z => by have := (hob k z).1; have := HB.out; omega); clear hGR hgr hob exb HG7 HE7 HI7 HT7 HN7)
      have hrel2 : TRL B p a cp s w N d RR (slV ⟨some ⟨gb, 0, none⟩, v.n + 1, cb⟩) wb m8 := ⟨A.app A1, st8, _, rfl, HIB.out, HEB.out, HGB.out, HDA8.out, by have := HVN.out; have := HM8.out; show v.n + 1 + m8 ≤ N; omega, R3, HP3.out, by rw [S.app_assoc, HR3.out]; exact HLL.out⟩
      go_roundw
      case rel => exact ⟨m8, hrel2⟩
      case measure => exact lm_lt hrel2 (by rw [HLM.out]; have := HM8.out; omega)
    cases hFO : atS s bFOR st6
    rotate_left
    · have hab : ¬ isB st6 := fun zb => by
        obtain ⟨e, l, c, rfl⟩ := zb.ex
        cases hFO
      obtain ⟨A1, st7, R3, hc, hp3, hr3⟩ : ∃ A1 st7 R3, ps s m8 (.fors (tokS s st6).l (tokS s st6).c) st6 = some (A1, st7) ∧ ps s m8 .stmts (expectS s bSEM st7) = some (R3, RR.2) ∧ A1.app R3 = R2 := by
        have h := HPS.out
        rw [if_neg hk, if_neg (by rw [hIF]; decide), if_pos hFO] at h
        split at h
        · cases h
        · next A1 st7 h7 =>
          split at h
          · cases h
          · next R3 st8 h8 =>
            injection h with h
            injection h with h9 h10
            have h10 : st8 = RR.2 := h10
            rw [h10] at h8
            exact ⟨A1, st7, R3, h7, h8, h9⟩
      have HTQ : Hid (t = tokS s st6) := HTK.out (isAt.of HDA.out HD0.out hab)
      rw [← HTQ.out] at hc
      have HC : Hid (Calls Try.prog 75 #[.pointer (some ⟨p, 0, none⟩), .pointer (some ⟨q, 0, none⟩)] w2 (StPost B p q a cp s w2 (A1, st7))) := forK m8 (by have := HVN.out; have := HM8.out; have := HN.out; omega) (fun m' hm' => HST.out m' (by have := HVN.out; have := HM8.out; omega)) t.l t.c st6 (A1, st7) w2 q hc HI2.out d HD0.out HDA.out hFO HSK2.out.1 HSK2.out.2
      unfold bIF at hIF
      unfold bFOR at hFO
      go_upto_region 8 with (go_at_call 72; refine (hat _).mono ?_; rintro e9 wq ⟨rfl, hwq⟩; subst wq; simp only [hIF, hFO])
      have HP3 := hide hp3
      have HR3 := hide hr3
      have HDA7 : Hid (DA d st7) := ps_da s _ _ _ _ _ hc HDA.out
      have HA7 : Hid (isAt st7 → isAt st6) := fun z => (isAt.ps hc HDA.out HD0.out z)
      clear hp3 hr3 hc hab HTQ c4 hk2 hat HPS hk hIF hFO
      go_wp2_with fail
      refine HC.out.mono ?_
      rintro e9 w5 ⟨rfl, hex, hi, f, hsk, hti⟩
      have HE5 : Hid (Ex (fun k => k = p) wr w5) := (HE2.out.mono (fun _ z => z.elim) : Ex (fun k => k = p) wr w2).trans2 hex (fun k z => by
        rcases z with z | z
        · exact .inl z
        · exact .inr (by rw [HQ.out]; omega))
      have HG5 : Hid (GR (fun w D F => isAt st7 → SS w D A false F) 113 10 w w5 v) := GR.imp (GR.keep kp_ss HG.out HE5.out (fun k z => .inl (by have := HB.out; omega))) (fun F h z => h (HA7.out z))
      have HI5 := hide hi
      have HSK5 : Hid (SK w5 q f ∧ B ≤ q) := ⟨hsk, HSK2.out.2⟩
      have HT5 : Hid (isAt st7 → SS w5 (DG w v) A1 false [spL f]) := fun z => (hti z).keep (Ex.refl (fun _ => False) _) (fun _ z => z.elim) (fun k z => .inl (by
        have hsz : wr.heap.size ≤ w2.heap.size := (HE2.out.mono (fun _ z => z.elim) : Ex (fun k => k = p) wr w2).size
        rcases z with z | z
        · have := HE.out.size; omega
        · obtain ⟨F, g1, _⟩ := HG.out
          have := (g1.lt k z).2
          omega))
      clear hex hi hsk hti HC HI2 HE2 HPK2 HSK2 HI HG
      simp only []
      have HXP := hide (expectK_any w5 HI5.out bSEM)
      have HDA8 : Hid (DA d (expectS s bSEM st7)) := expectS_da HDA7.out _
      have HA8 : Hid (isAt (expectS s bSEM st7) → isAt st7) := isAt.ex
      generalize expectS s bSEM st7 = st8 at *
      unfold bSEM at HXP
      go_upto_region 12 with fail
      go_wp2_with fail
      refine HXP.out.mono ?_
      rintro e9 w6 ⟨rfl, hex, hi⟩
      have HE6 : Hid (Ex (fun k => k = p) wr w6) := HE5.out.trans hex
      have HG6 : Hid (GR (fun w D F => isAt st8 → SS w D A false F) 113 10 w w6 v) := GR.imp (GR.keep kp_ss HG5.out hex (fun k z => .inl (by have := HB.out; omega))) (fun F h z => h (HA8.out z))
      have HI6 := hide hi
      have HSK6 : Hid (SK w6 q f) := HSK5.out.1.keep hex (by have := HSK5.out.2; have := HB.out; omega)
      have HT6 : Hid (isAt st8 → SS w6 (DG w v) A1 false [spL f]) := fun z => (HT5.out (HA8.out z)).keep hex (fun k z => .inl (.inl (by have := HB.out; omega))) (fun _ z => .inl z)
      clear hex hi HXP HE5 HG5 HI5 HSK5 HT5
      simp only []
      go_upto_region 13 with fail
      have T0 := HSK6.out.c0
      have T1 := HSK6.out.c1
      have T2 := HSK6.out.c2
      have T3 := HSK6.out.c3
      have T4 := HSK6.out.c4
      have T5 := HSK6.out.c5
      have T6 := HSK6.out.c6
      have T7 := HSK6.out.c7
      have T8 := HSK6.out.c8
      have T9 := HSK6.out.c9
      have ex7 : Ex (fun _ => False) w6 (w6.alloc (.cells #[.int .i64 f.k, .string f.x, .slice f.ex.q f.ex.n f.ex.c, .slice f.ar.q f.ar.n f.ar.c, .slice f.el.q f.el.n f.el.c, .slice f.bo.q f.bo.n f.bo.c, .slice f.ag.q f.ag.n f.ag.c, .slice f.co.q f.co.n f.co.c, .int .i64 f.li, .int .i64 f.cl] 113)) := (Ex.refl _ _).alloc _
      have HE7 : Hid (Ex (fun k => k = p) w (w6.alloc (.cells #[.int .i64 f.k, .string f.x, .slice f.ex.q f.ex.n f.ex.c, .slice f.ar.q f.ar.n f.ar.c, .slice f.el.q f.el.n f.el.c, .slice f.bo.q f.bo.n f.bo.c, .slice f.ag.q f.ag.n f.ag.c, .slice f.co.q f.co.n f.co.c, .int .i64 f.li, .int .i64 f.cl] 113))) := (HE.out.trans HE6.out).trans (ex7.mono (fun _ z => z.elim))
      have HI7 : Hid (InS B p a cp s (w6.alloc (.cells #[.int .i64 f.k, .string f.x, .slice f.ex.q f.ex.n f.ex.c, .slice f.ar.q f.ar.n f.ar.c, .slice f.el.q f.el.n f.el.c, .slice f.bo.q f.bo.n f.bo.c, .slice f.ag.q f.ag.n f.ag.c, .slice f.co.q f.co.n f.co.c, .int .i64 f.li, .int .i64 f.cl] 113)) st8) := HI6.out.ex ex7 (fun _ z => z.elim)
      have HG7 : Hid (GR (fun w D F => isAt st8 → SS w D A false F) 113 10 w (w6.alloc (.cells #[.int .i64 f.k, .string f.x, .slice f.ex.q f.ex.n f.ex.c, .slice f.ar.q f.ar.n f.ar.c, .slice f.el.q f.el.n f.el.c, .slice f.bo.q f.bo.n f.bo.c, .slice f.ag.q f.ag.n f.ag.c, .slice f.co.q f.co.n f.co.c, .int .i64 f.li, .int .i64 f.cl] 113)) v) := GR.keep kp_ss HG6.out ex7 (fun _ z => z.elim)
      have HT7 : Hid (isAt st8 → SS (w6.alloc (.cells #[.int .i64 f.k, .string f.x, .slice f.ex.q f.ex.n f.ex.c, .slice f.ar.q f.ar.n f.ar.c, .slice f.el.q f.el.n f.el.c, .slice f.bo.q f.bo.n f.bo.c, .slice f.ag.q f.ag.n f.ag.c, .slice f.co.q f.co.n f.co.c, .int .i64 f.li, .int .i64 f.cl] 113)) (DG w v) A1 false [[.int .i64 f.k, .string f.x, .slice f.ex.q f.ex.n f.ex.c, .slice f.ar.q f.ar.n f.ar.c, .slice f.el.q f.el.n f.el.c, .slice f.bo.q f.bo.n f.bo.c, .slice f.ag.q f.ag.n f.ag.c, .slice f.co.q f.co.n f.co.c, .int .i64 f.li, .int .i64 f.cl]]) := fun z => (HT6.out z).keep ex7 (fun _ z => z.elim) (fun _ z => .inl z)
      have HN7 : Hid (∀ (jq : Nat) (u : Value), [.int .i64 f.k, .string f.x, .slice f.ex.q f.ex.n f.ex.c, .slice f.ar.q f.ar.n f.ar.c, .slice f.el.q f.el.n f.el.c, .slice f.bo.q f.bo.n f.bo.c, .slice f.ag.q f.ag.n f.ag.c, .slice f.co.q f.co.n f.co.c, .int .i64 f.li, .int .i64 f.cl][jq]? = some u → (w6.alloc (.cells #[.int .i64 f.k, .string f.x, .slice f.ex.q f.ex.n f.ex.c, .slice f.ar.q f.ar.n f.ar.c, .slice f.el.q f.el.n f.el.c, .slice f.bo.q f.bo.n f.bo.c, .slice f.ag.q f.ag.n f.ag.c, .slice f.co.q f.co.n f.co.c, .int .i64 f.li, .int .i64 f.cl] 113)).cell? ((⟨w6.heap.size, 0, none⟩ : Addr).add jq) = some u) := fun jq u hj => new_cells w6 [.int .i64 f.k, .string f.x, .slice f.ex.q f.ex.n f.ex.c, .slice f.ar.q f.ar.n f.ar.c, .slice f.el.q f.el.n f.el.c, .slice f.bo.q f.bo.n f.bo.c, .slice f.ag.q f.ag.n f.ag.c, .slice f.co.q f.co.n f.co.c, .int .i64 f.li, .int .i64 f.cl] 113 jq u hj
      clear ex7 HE6 HI6 HG6 HT6 HSK6
      unfold slV
      go_wp2_with (at_builtin; refine wpl_push (w0 := w) rfl (.tmp 39) (.tmp 41) 27 113 _ 10 184 rfl Try.underlying27 Try.inf113 rfl (by decide) (by decide) v rfl HG7.out w6.heap.size 1 [.int .i64 f.k, .string f.x, .slice f.ex.q f.ex.n f.ex.c, .slice f.ar.q f.ar.n f.ar.c, .slice f.el.q f.el.n f.el.c, .slice f.bo.q f.bo.n f.bo.c, .slice f.ag.q f.ag.n f.ag.c, .slice f.co.q f.co.n f.co.c, .int .i64 f.li, .int .i64 f.cl] rfl rfl HN7.out (fun u hu => by simp at hu; rcases hu with rfl | rfl | rfl | rfl | rfl | rfl | rfl | rfl | rfl | rfl <;> rfl) (by have := HVN.out; have := HN.out; omega) HE7.out.size ?_; intro gb cb wb hGR hgr hob; have HGB : Hid (GR (fun w D F => isAt st8 → SS w D (A.app A1) false F) 113 10 w wb ⟨some ⟨gb, 0, none⟩, v.n + 1, cb⟩) := hGR _ kp_ss (fun F h z => SS.app (HT7.out z) (h z)); have exb := Ex.ofGrown hgr (S := fun k => (slV v).ownBlock = some k) (fun _ z => z.symm); have HEB : Hid (Ex (fun k => k = p) w wb) := HE7.out.trans2 exb (fun k z => .inr (hob k z).1); have HIB : Hid (InS B p a cp s wb st8) := HI7.out.ex exb (fun k z => by have := (hob k z).1; have := HB.out; omega); clear hGR hgr hob exb HG7 HE7 HI7 HT7 HN7)
      have hrel2 : TRL B p a cp s w N d RR (slV ⟨some ⟨gb, 0, none⟩, v.n + 1, cb⟩) wb m8 := ⟨A.app A1, st8, _, rfl, HIB.out, HEB.out, HGB.out, HDA8.out, by have := HVN.out; have := HM8.out; show v.n + 1 + m8 ≤ N; omega, R3, HP3.out, by rw [S.app_assoc, HR3.out]; exact HLL.out⟩
      go_roundw
      case rel => exact ⟨m8, hrel2⟩
      case measure => exact lm_lt hrel2 (by rw [HLM.out]; have := HM8.out; omega)
    have HAC := hide (acceptK_any w2 HI2.out bRUN)
    cases hac : (acceptS s bRUN st6).1
    rotate_left
    · have hab : ¬ isB st6 := fun zb => by
        obtain ⟨e, l, c, rfl⟩ := zb.ex
        rw [accept_bad] at hac
        cases hac
      obtain ⟨A1, st7, R3, hc, hp3, hr3⟩ : ∃ A1 st7 R3, ps s m8 (.rungs (tokS s st6).l (tokS s st6).c) (acceptS s bRUN st6).2 = some (A1, st7) ∧ ps s m8 .stmts (expectS s bSEM st7) = some (R3, RR.2) ∧ A1.app R3 = R2 := by
        have h := HPS.out
        rw [if_neg hk, if_neg (by rw [hIF]; decide), if_neg (by rw [hFO]; decide), if_pos hac] at h
        split at h
        · cases h
        · next A1 st7 h7 =>
          split at h
          · cases h
          · next R3 st8 h8 =>
            injection h with h
            injection h with h9 h10
            have h10 : st8 = RR.2 := h10
            rw [h10] at h8
            exact ⟨A1, st7, R3, h7, h8, h9⟩
      have HTQ : Hid (t = tokS s st6) := HTK.out (isAt.of HDA.out HD0.out hab)
      rw [← HTQ.out] at hc
      rw [hac] at HAC
      have HDA6 : Hid (DA d (acceptS s bRUN st6).2) := acceptS_da HDA.out _
      have HA6 : Hid (isAt (acceptS s bRUN st6).2 → isAt st6) := isAt.acc
      clear hac HPS hat
      generalize (acceptS s bRUN st6).2 = st6r at *
      unfold bIF at hIF
      unfold bFOR at hFO
      unfold bRUN at HAC
      have hat := fun u : ByteArray => atK_any w2 HI2.out u
      go_upto_region 10 with (first | (go_at_call 72; refine (hat _).mono ?_; rintro e9 wq ⟨rfl, hwq⟩; subst wq; simp only [hIF, hFO]) | (go_at_call 43; refine HAC.out.mono ?_; rintro e9 w3 ⟨rfl, hex, hi⟩; have HEX := hide hex; have HI3 := hide hi; clear hex hi; simp only []))
      have HSK3 : Hid (SK w3 q ⟨0, nb, nl, nl, nl, nl, nl, nl, t.l, t.c⟩ ∧ B ≤ q) := ⟨HSK2.out.1.keep HEX.out (by have := HSK2.out.2; have := HB.out; omega), HSK2.out.2⟩
      have HE3 : Hid (Ex (fun k => k = p) wr w3) := (HE2.out.mono (fun _ z => z.elim)).trans HEX.out
      have HC : Hid (Calls Try.prog 76 #[.pointer (some ⟨p, 0, none⟩), .pointer (some ⟨q, 0, none⟩)] w3 (StPost B p q a cp s w3 (A1, st7))) := rungK m8 (by have := HVN.out; have := HM8.out; have := HN.out; omega) t.l t.c st6r (A1, st7) w3 q hc HI3.out d HD0.out HDA6.out HSK3.out.1 HSK3.out.2
      clear HEX
      have HP3 := hide hp3
      have HR3 := hide hr3
      have HDA7 : Hid (DA d st7) := ps_da s _ _ _ _ _ hc HDA6.out
      have HA7 : Hid (isAt st7 → isAt st6) := fun z => HA6.out (isAt.ps hc HDA6.out HD0.out z)
      clear hp3 hr3 hc hab HTQ c4 hk2 hat hk hIF hFO
      go_wp2_with fail
      refine HC.out.mono ?_
      rintro e9 w5 ⟨rfl, hex, hi, f, hsk, hti⟩
      have HE5 : Hid (Ex (fun k => k = p) wr w5) := HE3.out.trans2 hex (fun k z => by
        rcases z with z | z
        · exact .inl z
        · exact .inr (by rw [HQ.out]; omega))
      have HG5 : Hid (GR (fun w D F => isAt st7 → SS w D A false F) 113 10 w w5 v) := GR.imp (GR.keep kp_ss HG.out HE5.out (fun k z => .inl (by have := HB.out; omega))) (fun F h z => h (HA7.out z))
      have HI5 := hide hi
      have HSK5 : Hid (SK w5 q f ∧ B ≤ q) := ⟨hsk, HSK3.out.2⟩
      have HT5 : Hid (isAt st7 → SS w5 (DG w v) A1 false [spL f]) := fun z => (hti z).keep (Ex.refl (fun _ => False) _) (fun _ z => z.elim) (fun k z => .inl (by
        have hsz : wr.heap.size ≤ w3.heap.size := HE3.out.size
        rcases z with z | z
        · have := HE.out.size; omega
        · obtain ⟨F, g1, _⟩ := HG.out
          have := (g1.lt k z).2
          omega))
      clear hex hi hsk hti HC HI2 HE2 HPK2 HSK2 HI HG HI3 HE3 HSK3 HAC
      simp only []
      have HXP := hide (expectK_any w5 HI5.out bSEM)
      have HDA8 : Hid (DA d (expectS s bSEM st7)) := expectS_da HDA7.out _
      have HA8 : Hid (isAt (expectS s bSEM st7) → isAt st7) := isAt.ex
      generalize expectS s bSEM st7 = st8 at *
      unfold bSEM at HXP
      go_upto_region 12 with fail
      go_wp2_with fail
      refine HXP.out.mono ?_
      rintro e9 w6 ⟨rfl, hex, hi⟩
      have HE6 : Hid (Ex (fun k => k = p) wr w6) := HE5.out.trans hex
      have HG6 : Hid (GR (fun w D F => isAt st8 → SS w D A false F) 113 10 w w6 v) := GR.imp (GR.keep kp_ss HG5.out hex (fun k z => .inl (by have := HB.out; omega))) (fun F h z => h (HA8.out z))
      have HI6 := hide hi
      have HSK6 : Hid (SK w6 q f) := HSK5.out.1.keep hex (by have := HSK5.out.2; have := HB.out; omega)
      have HT6 : Hid (isAt st8 → SS w6 (DG w v) A1 false [spL f]) := fun z => (HT5.out (HA8.out z)).keep hex (fun k z => .inl (.inl (by have := HB.out; omega))) (fun _ z => .inl z)
      clear hex hi HXP HE5 HG5 HI5 HSK5 HT5
      simp only []
      go_upto_region 13 with fail
      have T0 := HSK6.out.c0
      have T1 := HSK6.out.c1
      have T2 := HSK6.out.c2
      have T3 := HSK6.out.c3
      have T4 := HSK6.out.c4
      have T5 := HSK6.out.c5
      have T6 := HSK6.out.c6
      have T7 := HSK6.out.c7
      have T8 := HSK6.out.c8
      have T9 := HSK6.out.c9
      have ex7 : Ex (fun _ => False) w6 (w6.alloc (.cells #[.int .i64 f.k, .string f.x, .slice f.ex.q f.ex.n f.ex.c, .slice f.ar.q f.ar.n f.ar.c, .slice f.el.q f.el.n f.el.c, .slice f.bo.q f.bo.n f.bo.c, .slice f.ag.q f.ag.n f.ag.c, .slice f.co.q f.co.n f.co.c, .int .i64 f.li, .int .i64 f.cl] 113)) := (Ex.refl _ _).alloc _
      have HE7 : Hid (Ex (fun k => k = p) w (w6.alloc (.cells #[.int .i64 f.k, .string f.x, .slice f.ex.q f.ex.n f.ex.c, .slice f.ar.q f.ar.n f.ar.c, .slice f.el.q f.el.n f.el.c, .slice f.bo.q f.bo.n f.bo.c, .slice f.ag.q f.ag.n f.ag.c, .slice f.co.q f.co.n f.co.c, .int .i64 f.li, .int .i64 f.cl] 113))) := (HE.out.trans HE6.out).trans (ex7.mono (fun _ z => z.elim))
      have HI7 : Hid (InS B p a cp s (w6.alloc (.cells #[.int .i64 f.k, .string f.x, .slice f.ex.q f.ex.n f.ex.c, .slice f.ar.q f.ar.n f.ar.c, .slice f.el.q f.el.n f.el.c, .slice f.bo.q f.bo.n f.bo.c, .slice f.ag.q f.ag.n f.ag.c, .slice f.co.q f.co.n f.co.c, .int .i64 f.li, .int .i64 f.cl] 113)) st8) := HI6.out.ex ex7 (fun _ z => z.elim)
      have HG7 : Hid (GR (fun w D F => isAt st8 → SS w D A false F) 113 10 w (w6.alloc (.cells #[.int .i64 f.k, .string f.x, .slice f.ex.q f.ex.n f.ex.c, .slice f.ar.q f.ar.n f.ar.c, .slice f.el.q f.el.n f.el.c, .slice f.bo.q f.bo.n f.bo.c, .slice f.ag.q f.ag.n f.ag.c, .slice f.co.q f.co.n f.co.c, .int .i64 f.li, .int .i64 f.cl] 113)) v) := GR.keep kp_ss HG6.out ex7 (fun _ z => z.elim)
      have HT7 : Hid (isAt st8 → SS (w6.alloc (.cells #[.int .i64 f.k, .string f.x, .slice f.ex.q f.ex.n f.ex.c, .slice f.ar.q f.ar.n f.ar.c, .slice f.el.q f.el.n f.el.c, .slice f.bo.q f.bo.n f.bo.c, .slice f.ag.q f.ag.n f.ag.c, .slice f.co.q f.co.n f.co.c, .int .i64 f.li, .int .i64 f.cl] 113)) (DG w v) A1 false [[.int .i64 f.k, .string f.x, .slice f.ex.q f.ex.n f.ex.c, .slice f.ar.q f.ar.n f.ar.c, .slice f.el.q f.el.n f.el.c, .slice f.bo.q f.bo.n f.bo.c, .slice f.ag.q f.ag.n f.ag.c, .slice f.co.q f.co.n f.co.c, .int .i64 f.li, .int .i64 f.cl]]) := fun z => (HT6.out z).keep ex7 (fun _ z => z.elim) (fun _ z => .inl z)
      have HN7 : Hid (∀ (jq : Nat) (u : Value), [.int .i64 f.k, .string f.x, .slice f.ex.q f.ex.n f.ex.c, .slice f.ar.q f.ar.n f.ar.c, .slice f.el.q f.el.n f.el.c, .slice f.bo.q f.bo.n f.bo.c, .slice f.ag.q f.ag.n f.ag.c, .slice f.co.q f.co.n f.co.c, .int .i64 f.li, .int .i64 f.cl][jq]? = some u → (w6.alloc (.cells #[.int .i64 f.k, .string f.x, .slice f.ex.q f.ex.n f.ex.c, .slice f.ar.q f.ar.n f.ar.c, .slice f.el.q f.el.n f.el.c, .slice f.bo.q f.bo.n f.bo.c, .slice f.ag.q f.ag.n f.ag.c, .slice f.co.q f.co.n f.co.c, .int .i64 f.li, .int .i64 f.cl] 113)).cell? ((⟨w6.heap.size, 0, none⟩ : Addr).add jq) = some u) := fun jq u hj => new_cells w6 [.int .i64 f.k, .string f.x, .slice f.ex.q f.ex.n f.ex.c, .slice f.ar.q f.ar.n f.ar.c, .slice f.el.q f.el.n f.el.c, .slice f.bo.q f.bo.n f.bo.c, .slice f.ag.q f.ag.n f.ag.c, .slice f.co.q f.co.n f.co.c, .int .i64 f.li, .int .i64 f.cl] 113 jq u hj
      clear ex7 HE6 HI6 HG6 HT6 HSK6
      unfold slV
      go_wp2_with (at_builtin; refine wpl_push (w0 := w) rfl (.tmp 39) (.tmp 41) 27 113 _ 10 184 rfl Try.underlying27 Try.inf113 rfl (by decide) (by decide) v rfl HG7.out w6.heap.size 1 [.int .i64 f.k, .string f.x, .slice f.ex.q f.ex.n f.ex.c, .slice f.ar.q f.ar.n f.ar.c, .slice f.el.q f.el.n f.el.c, .slice f.bo.q f.bo.n f.bo.c, .slice f.ag.q f.ag.n f.ag.c, .slice f.co.q f.co.n f.co.c, .int .i64 f.li, .int .i64 f.cl] rfl rfl HN7.out (fun u hu => by simp at hu; rcases hu with rfl | rfl | rfl | rfl | rfl | rfl | rfl | rfl | rfl | rfl <;> rfl) (by have := HVN.out; have := HN.out; omega) HE7.out.size ?_; intro gb cb wb hGR hgr hob; have HGB : Hid (GR (fun w D F => isAt st8 → SS w D (A.app A1) false F) 113 10 w wb ⟨some ⟨gb, 0, none⟩, v.n + 1, cb⟩) := hGR _ kp_ss (fun F h z => SS.app (HT7.out z) (h z)); have exb := Ex.ofGrown hgr (S := fun k => (slV v).ownBlock = some k) (fun _ z => z.symm); have HEB : Hid (Ex (fun k => k = p) w wb) := HE7.out.trans2 exb (fun k z => .inr (hob k z).1); have HIB : Hid (InS B p a cp s wb st8) := HI7.out.ex exb (fun k z => by have := (hob k z).1; have := HB.out; omega); clear hGR hgr hob exb HG7 HE7 HI7 HT7 HN7)
      have hrel2 : TRL B p a cp s w N d RR (slV ⟨some ⟨gb, 0, none⟩, v.n + 1, cb⟩) wb m8 := ⟨A.app A1, st8, _, rfl, HIB.out, HEB.out, HGB.out, HDA8.out, by have := HVN.out; have := HM8.out; show v.n + 1 + m8 ≤ N; omega, R3, HP3.out, by rw [S.app_assoc, HR3.out]; exact HLL.out⟩
      go_roundw
      case rel => exact ⟨m8, hrel2⟩
      case measure => exact lm_lt hrel2 (by rw [HLM.out]; have := HM8.out; omega)
    have HRR : Hid (R2 = .nil ∧ RR.2 = st6) := by
      have h := HPS.out
      rw [if_neg hk, if_neg (by rw [hIF]; decide), if_neg (by rw [hFO]; decide), if_neg (by rw [hac]; decide)] at h
      injection h with h
      injection h with h1 h2
      exact ⟨h1.symm, h2.symm⟩
    have hst : (acceptS s bRUN st6).2 = st6 := by
      unfold acceptS at hac ⊢
      split at hac
      · cases hac
      · next h => rw [if_neg h]
    rw [hac, hst] at HAC
    unfold bIF at hIF
    unfold bFOR at hFO
    unfold bRUN at HAC
    clear HPS hac hst
    go_upto_region 11 with (first | (go_at_call 72; refine (hat _).mono ?_; rintro e9 wq ⟨rfl, hwq⟩; subst wq; simp only [hIF, hFO]) | (go_at_call 43; refine HAC.out.mono ?_; rintro e9 w3 ⟨rfl, hex, hi⟩; have HEX := hide hex; have HI3 := hide hi; clear hex hi; simp only []))
    have HE3 : Hid (Ex (fun k => k = p) wr w3) := (HE2.out.mono (fun _ z => z.elim)).trans HEX.out
    have HF : Hid (LPost B p a cp s w RR (.returned (slV v)) w3) := by
      have hg := GR.keep kp_ss HG.out HE3.out (fun k z => .inl (by have := HB.out; omega))
      obtain ⟨F, h1, h2⟩ := hg.fin kp_ss
      refine ⟨v, rfl, HE.out.trans HE3.out, ?_, fun z => ?_⟩
      · rw [HRR.out.2]; exact HI3.out
      · refine ⟨F, h1, ?_⟩
        rw [HRR.out.2] at z
        have hl := HLL.out
        rw [HRR.out.1, S.app_nil] at hl
        rw [← hl]
        exact h2 z
    clear HI3 HE3 HEX HAC HI2 HE2 HPK2 HSK2 HG HI HE
    go_wp2
    exact bodyPost_ret (v := slV v) (by simp [results, Try.results37, slV]) rfl HF.out
end
end Go.Proofs.Qxb6500774a
