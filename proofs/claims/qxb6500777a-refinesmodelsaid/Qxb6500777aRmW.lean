import Derived.Test.Qxb6500777aRm7
import Derived.Test.Qxb6500777aLfP
namespace Go.Proofs.Qxb6500777a
open Go.RowKit

/-- The model's board shows what the real one shows. -/
structure RB (TT : Nat → Tbl) (EE : Nat → List Slt) (NN : Nat → Int) : Prop where
  mi : ∀ i, i < 4 → MI (EE i) (NN i)
  rel : ∀ i, i < 4 → Rel (fun t => t) (Ent (TT i)) (EE i)
  nx : ∀ i, i < 4 → (TT i).next = NN i
theorem MI.nil : MI [] 1 := ⟨⟨fun s hs => (by cases hs), fun s hs => (by cases hs), List.Pairwise.nil, List.Pairwise.nil⟩, List.Pairwise.nil, fun s hs => (by cases hs), fun s hs => (by cases hs)⟩
theorem RB.first : RB (fun _ => tbl0) (fun _ => []) (fun _ => 1) := by
  have e : ∀ s, ¬ s ∈ Ent tbl0 := fun s hs => by
    obtain ⟨k, _, hu, _⟩ := ent_mem.1 hs
    cases hu
  exact ⟨fun _ _ => MI.nil, fun _ _ => ⟨fun n k => ⟨fun ⟨s, hs, _⟩ => absurd hs (e s), fun ⟨s, hs, _⟩ => by cases hs⟩, fun t k _ _ => ⟨fun ⟨s, hs, _⟩ => absurd hs (e s), fun ⟨s, hs, _⟩ => by cases hs⟩⟩, fun _ _ => rfl⟩
theorem RB.len {TT : Nat → Tbl} {EE : Nat → List Slt} {NN : Nat → Int} (h : RB TT EE NN) {N : Int} (ht : TsI TT N) {i : Nat} (hi : i < 4) : (EE i).length ≤ 64 := by
  have h1 := (h.rel i hi).len (ent_ok (ht.tk i hi).inv) (h.mi i hi).ok
  have h2 := ent_len (ht.tk i hi).inv
  have h3 := (ht.tk i hi).inv.heldR
  omega
theorem RB.tick {TT TT' : Nat → Tbl} {EE EE' : Nat → List Slt} {NN NN' : Nat → Int} (h : RB TT EE NN) {N : Int} (ht : TsI TT N) (hN : N + 112 ≤ 1000000000) {D : List Det} {W : Nat → Tgt} {X Y : Nat → Int} (hW : ∀ t, t < 112 → TgtOk (W t)) (r1 : TicksR D W X Y TT TT') (r2 : ∀ i : Nat, i < 4 → MTick (fuseP D (i : Int)) W X Y (EE i) (NN i) (EE' i) (NN' i)) : RB TT' EE' NN' := by
  have key : ∀ i, i < 4 → _ := fun i hi => mtick_rel (ht.tk i hi) (h.mi i hi) (h.rel i hi) (h.nx i hi) (by have := ht.nx i hi; omega) (fuse_rng _ _) hW (r1 i hi) (r2 i hi)
  exact ⟨fun i hi => (key i hi).2.2, fun i hi => (key i hi).1, fun i hi => (key i hi).2.1⟩

set_option linter.unusedSimpArgs false in
set_option maxRecDepth 100000 in
set_option maxHeartbeats 16000000 in
theorem refinesModel_walk (w : World) (a : Option Addr) (n cap : Nat) (f : Nat → Opn) (hn : n ≤ 9223372036854775807) (ho : OpsAt w a n f) :
    Calls Try.prog 3 #[.slice a n cap] w fun e w' => e = .returned (.bool true) ∧ Below w.heap.size w w' := by
  have HO := hide ho
  clear ho
  by_cases hsm : n ≤ 65536
  · go_enter Try.func3, Try.ntmps3
    go_wp2_with fail
    refine (small_any _ a n cap hn).mono ?_
    rintro e w' ⟨rfl, ew⟩
    rw [ew]
    have hd : decide (n ≤ 65536) = true := by simpa using hsm
    rw [hd]
    clear hd ew w'
    go_wp2_with fail
    refine (newT_any _).mono ?_
    rintro e wn1 ⟨rfl, h1, b1⟩
    obtain ⟨m, hm⟩ : ∃ x, w.heap.size = x := ⟨_, rfl⟩
    rw [hm] at h1 ⊢
    have hgem : w.heap.size ≤ m := by omega
    have hltm : m < wn1.heap.size := h1.lt
    have hsz1 := b1.size
    have Kt := hide h1
    have KB := hide b1
    clear h1 b1 hm
    go_wp2_with fail
    refine (newW_any _).mono ?_
    rintro e wn2 ⟨rfl, h1, b1⟩
    obtain ⟨p, hp⟩ : ∃ x, wn1.heap.size = x := ⟨_, rfl⟩
    rw [hp] at h1 ⊢
    have hgep : wn1.heap.size ≤ p := by omega
    have hltp : p < wn2.heap.size := h1.lt
    have hsz2 := b1.size
    replace Kt := hide (Kt.out.below b1)
    have Kw := hide h1
    replace KB := hide (lec KB.out b1)
    clear h1 b1 hp
    go_wp2_with fail
    refine (newP_any _).mono ?_
    rintro e wn3 ⟨rfl, h1, b1⟩
    obtain ⟨q, hq⟩ : ∃ x, wn2.heap.size = x := ⟨_, rfl⟩
    rw [hq] at h1 ⊢
    have hgeq : wn2.heap.size ≤ q := by omega
    have hltq : q < wn3.heap.size := h1.lt
    have hsz3 := b1.size
    replace Kt := hide (Kt.out.below b1)
    replace Kw := hide (Kw.out.below b1)
    have Kp := hide h1
    replace KB := hide (lec KB.out b1)
    clear h1 b1 hq
    go_wp2_with fail
    refine (newB_any _ m).mono ?_
    rintro e wn4 ⟨b, rfl, hbg, h1, b1⟩
    have hgeb : wn3.heap.size ≤ b := hbg
    have hltb : b < wn4.heap.size := h1.lt
    have hsz4 := b1.size
    replace Kt := hide (Kt.out.below b1)
    replace Kw := hide (Kw.out.below b1)
    replace Kp := hide (Kp.out.below b1)
    have Kb := hide h1
    replace KB := hide (lec KB.out b1)
    clear h1 b1 hbg
    have HL := hide (show LS w wn4 m p q b (fun _ => tgt0) (fun _ => 0) (fun _ => tbl0) 1 from ⟨Kt.out, Kw.out, Kp.out, Kb.out, ⟨fun _ _ => tbl0_ok, fun _ _ => Int.le_refl 1⟩, fun _ _ => tgt0_ok, fun _ => ⟨Int.le_refl 0, by show (0 : Int) ≤ 3; omega⟩, KB.out, by omega, by omega⟩)
    clear Kt Kw Kp Kb KB
    go_wp2_with fail
    refine (newM_any _).mono ?_
    rintro e w5 ⟨rfl, hm, hb⟩
    have HM := hide hm
    replace HL := hide (HL.out.below hb)
    obtain ⟨mb, hmb⟩ : ∃ x, wn4.heap.size = x := ⟨_, rfl⟩
    obtain ⟨B, hB⟩ : ∃ x, wn4.heap.size + 1 = x := ⟨_, rfl⟩
    have HBS := hide (show B ≤ w5.heap.size by have := hm.lt; omega)
    have HDI := hide (show mb ≠ m ∧ mb ≠ p ∧ mb ≠ q ∧ mb ≠ b ∧ (m < B ∧ p < B ∧ q < B ∧ b < B) ∧ w.heap.size ≤ mb by omega)
    rw [hB, hmb] at HM
    rw [hmb]
    clear hm hb hmb hB hgem hgep hgeq hgeb hltm hltp hltq hltb hsz1 hsz2 hsz3 hsz4
    go_wp2
    go_loopw [8, 9, 10] (fun s8 _ _ wr => ∃ (k : Nat) (W : Nat → Tgt) (G : Nat → Int) (TT : Nat → Tbl) (EE : Nat → List Slt) (NN : Nat → Int), k ≤ n ∧ s8 = .int .i64 k ∧ LS w wr m p q b W G TT (1 + 112 * (k : Int)) ∧ MB wr mb B EE NN ∧ Hid (RB TT EE NN) ∧ B ≤ wr.heap.size) (fun s8 _ _ _ => n - (intOf s8).toNat)
    case atStart => exact ⟨0, _, _, _, _, _, Nat.zero_le _, rfl, HL.out, HM.out, hide RB.first, HBS.out⟩
    case round =>
      clear HL HM HBS
      obtain ⟨k, W, G, TT, EE, NN, hk, rfl, hl, hm, HRB, hbs⟩ := hrel
      have HL := hide hl
      have HM := hide hm
      have HBS := hide hbs
      clear hl hm hbs
      by_cases hlt : k < n
      · have hlti : (k : Int) < (n : Int) := by omega
        obtain ⟨sb, off, rfl, hok, -⟩ := HO.out.at hlt
        have HC := hide (show ∀ wx, Below w.heap.size w wx → _ from fun wx hb => (HO.out.below hb).at hlt)
        obtain ⟨op, hop⟩ : ∃ op, f k = op := ⟨_, rfl⟩
        rw [hop] at hok HC
        have HOK := hide hok
        clear hok hop
        obtain ⟨_, _, e, -, c0, c1, c2, c3, c4, c5, c6⟩ := HC.out _ HL.out.bel
        cases e
        go_wp2_with fail
        refine (stepW_any _ p W HL.out.wr op HOK.out).mono ?_
        rintro e w2 ⟨rfl, h1, h2⟩
        replace HM := hide (HM.out.keep h2 HDI.out.2.1 (by have := HDI.out; omega))
        replace HBS := hide (Nat.le_trans HBS.out h2.ex.size)
        replace HL := hide (HL.out.world h2 h1 (wst_ok op HL.out.wo))
        clear c0 c1 c2 c3 c4 c5 c6 h1 h2
        obtain ⟨W', hW'⟩ : ∃ W', wstP W op = W' := ⟨_, rfl⟩
        rw [hW'] at HL
        clear hW'
        obtain ⟨_, _, e, -, c0, c1, c2, c3, c4, c5, c6⟩ := HC.out _ HL.out.bel
        cases e
        by_cases hkd : op.kd = 2
        · have hkb : (op.kd == 2) = true := by simp [hkd]
          clear hkd
          go_wp2_with fail
          refine (list_any _ q G HL.out.pa).mono ?_
          rintro e w3 ⟨da, dc, rfl, hdr, hb⟩
          clear c0 c1 c2 c3 c4 c5 c6
          have HDG := hide (show ∀ g off, da = some ⟨g, off, none⟩ → g < w3.heap.size ∧ g ≠ b from fun g off e => ⟨(hdr.da.2 g off e).2, by have := (hdr.da.2 g off e).1; have := HL.out.bd.lt; omega⟩)
          replace HL := hide (HL.out.below hb)
          replace HM := hide (HM.out.below hb)
          replace HBS := hide (Nat.le_trans HBS.out hb.size)
          have HDA := hide hdr.da.1
          have hdl : (lsN G 1792).length ≤ 1792 := lsN_len G 1792
          clear hdr hb
          go_wp2_with fail
          refine (tick_any _ b m p dX dY W' da _ dc (lsN G 1792) TT (1 + 112 * (k : Int)) HL.out.bd HL.out.ti (by omega) HL.out.mt HL.out.ne.2.2.1 HDA.out rfl (by omega) HDG.out HL.out.wr.wa HL.out.ne.2.2.2.2.1 HL.out.wo).mono ?_
          rintro e w4 ⟨TT', rfl, hbd, hti, htr, hfr⟩
          have HTR := hide htr
          have HTI := hide HL.out.ti
          replace HM := hide (HM.out.keep hfr HDI.out.2.2.2.1 (by have := HDI.out; omega))
          replace HBS := hide (Nat.le_trans HBS.out hfr.ex.size)
          replace HL := hide (HL.out.board hfr hbd hti)
          clear hbd hti htr hfr HDA HDG
          go_wp2_with fail
          refine (list_any _ q G HL.out.pa).mono ?_
          rintro e w5 ⟨da, dc, rfl, hdr, hb⟩
          have HDG := hide (show ∀ g off, da = some ⟨g, off, none⟩ → g ≠ mb from fun g off e => by have := (hdr.da.2 g off e).1; have := HM.out.lt; omega)
          replace HL := hide (HL.out.below hb)
          replace HM := hide (HM.out.below hb)
          replace HBS := hide (Nat.le_trans HBS.out hb.size)
          have HDA := hide hdr.da.1
          clear hdr hb
          go_wp2_with fail
          refine (tickM_any _ m mb p dX dY W' da _ dc (lsN G 1792) B EE NN HM.out HBS.out (fun i hi => ⟨HRB.out.mi i hi, by have h1 := HRB.out.nx i hi; have h2 := (HTI.out.tk i hi).inv.nx; have h3 := HTI.out.nx i hi; omega, HRB.out.len HTI.out hi⟩) ⟨HL.out.mt, HL.out.wr.wa, HDA.out⟩ rfl (by omega) HL.out.wo ⟨Ne.symm HDI.out.1, Ne.symm HDI.out.2.1, HDG.out⟩).mono ?_
          rintro e w6 ⟨EE', NN', rfl, hmb, hmt, hfr⟩
          replace HRB := hide (HRB.out.tick HTI.out (by omega) HL.out.wo HTR.out hmt)
          replace HM := hide hmb
          replace HBS := hide (Nat.le_trans HBS.out hfr.ex.size)
          replace HL := hide (HL.out.other hfr (Ne.symm HDI.out.1) (Ne.symm HDI.out.2.1) (Ne.symm HDI.out.2.2.1) (Ne.symm HDI.out.2.2.2.1) HDI.out.2.2.2.2.2)
          clear hmb hmt hfr HTR HTI HDA HDG hdl
          have HTB := hide (show ∀ i, i < 4 → tabN (TT' i) 64 = (EE' i).map Slt.tr from fun i hi => tab_mod (HL.out.ti.tk i hi).inv (HRB.out.mi i hi) (HRB.out.rel i hi))
          have HEL := hide (show ∀ i, i < 4 → (EE' i).length ≤ 64 from fun i hi => HRB.out.len HL.out.ti hi)
          have HHD := hide (show ∀ i, i < 4 → ((EE' i).length : Int) = (TT' i).held from fun i hi => by rw [← ent_len (HL.out.ti.tk i hi).inv, (HRB.out.rel i hi).len (ent_ok (HL.out.ti.tk i hi).inv) (HRB.out.mi i hi).ok])
          go_wp2
          go_loopw [9, 10] (fun s9 _ wx => ∃ t : Nat, t ≤ 4 ∧ s9 = .int .i64 t ∧ LS w wx m p q b W' G TT' (1 + 112 * (k : Int) + 112) ∧ MB wx mb B EE' NN' ∧ B ≤ wx.heap.size) (fun s9 _ _ => 4 - (intOf s9).toNat)
          case atStart => exact ⟨0, by omega, rfl, HL.out, HM.out, HBS.out⟩
          case round =>
            clear HL HM HBS
            obtain ⟨t, ht, rfl, hl, hm, hbs⟩ := hrel
            have HL := hide hl
            have HM := hide hm
            have HBS := hide hbs
            clear hl hm hbs
            by_cases ht4 : t < 4
            · have ht4i : (t : Int) < 4 := by omega
              go_wp2_with fail
              refine (table_any _ b t ht4 (TT' t) (HL.out.bd.ta t ht4)).mono ?_
              rintro e w7 ⟨ta, tc, rfl, hr, hb⟩
              replace HL := hide (HL.out.below hb)
              replace HM := hide (HM.out.below hb)
              replace HBS := hide (Nat.le_trans HBS.out hb.size)
              have HR := hide hr
              clear hr hb
              rw [HTB.out t ht4] at HR ⊢
              obtain ⟨a2, c2, hv⟩ := HM.out t ht4
              have hel := HEL.out t ht4
              have ct := hide (tableM_any _ mb t B ht4 a2 _ c2 (EE' t) (NN' t) hv hel)
              clear hv
              obtain ⟨L, hL⟩ : ∃ L, (EE' t).map Slt.tr = L := ⟨_, rfl⟩
              have hll : L.length = (EE' t).length := by rw [← hL, List.length_map]
              rw [hL] at HR ct ⊢
              clear hL
              have hhd := HHD.out t ht4
              rw [← hll] at hel hhd
              clear hll
              go_wp2_with fail
              refine ct.out.mono ?_
              rintro e w8 ⟨tb, td, rfl, hr, hb⟩
              replace HL := hide (HL.out.below hb)
              replace HM := hide (HM.out.below hb)
              replace HR := hide (HR.out.below hb)
              replace HBS := hide (Nat.le_trans HBS.out hb.size)
              have HR2 := hide hr
              clear hr hb ct
              go_wp2_with fail
              refine (same_any _ _ _ ta tb _ tc td L HR.out HR2.out rfl hel).mono ?_
              rintro e w9 ⟨rfl, hb⟩
              replace HL := hide (HL.out.below hb)
              replace HM := hide (HM.out.below hb)
              replace HBS := hide (Nat.le_trans HBS.out hb.size)
              clear hb HR HR2
              have hld : decide ((64 : Int) < (L.length : Int)) = false := by simp; omega
              have hhe : ((TT' t).held != (L.length : Int)) = false := by simp; omega
              go_wp2_with fail
              refine (held_any _ b t ht4 (TT' t) (HL.out.bd.ta t ht4)).mono ?_
              rintro e w10 ⟨rfl, rfl⟩
              clear hhd
              go_wp2
              go_roundw
              case rel => exact ⟨t + 1, by omega, by simp, HL.out, HM.out, HBS.out⟩
              case measure => simp [intOf]; omega
            · obtain rfl : t = 4 := by omega
              rw [show ((4 : Nat) : Int) = 4 from rfl]
              clear HTB HEL HHD
              go_upto_region 21 with fail
              obtain ⟨_, _, e, -, c0, c1, c2, c3, c4, c5, c6⟩ := HC.out _ HL.out.bel
              cases e
              go_wp2_with fail
              refine (stepP_any _ q G HL.out.pa op HOK.out).mono ?_
              rintro e w9 ⟨rfl, h1, h2⟩
              replace HM := hide (HM.out.keep h2 HDI.out.2.2.1 (by have := HDI.out; omega))
              replace HBS := hide (Nat.le_trans HBS.out h2.ex.size)
              replace HL := hide (HL.out.pend h2 h1 (pst_ok op HL.out.gk))
              clear c0 c1 c2 c3 c4 c5 c6 h1 h2
              go_wp2
              go_roundw
              case rel => exact ⟨k + 1, _, _, _, _, _, by omega, by simp, HL.out.mono (by omega), HM.out, HRB, HBS.out⟩
              case measure => simp [intOf]; omega
        · have hkb : (op.kd == 2) = false := by simp [hkd]
          clear hkd
          go_upto_region 21 with fail
          clear c0 c1 c2 c3 c4 c5 c6
          obtain ⟨_, _, e, -, c0, c1, c2, c3, c4, c5, c6⟩ := HC.out _ HL.out.bel
          cases e
          go_wp2_with fail
          refine (stepP_any _ q G HL.out.pa op HOK.out).mono ?_
          rintro e w9 ⟨rfl, h1, h2⟩
          replace HM := hide (HM.out.keep h2 HDI.out.2.2.1 (by have := HDI.out; omega))
          replace HBS := hide (Nat.le_trans HBS.out h2.ex.size)
          replace HL := hide (HL.out.pend h2 h1 (pst_ok op HL.out.gk))
          clear c0 c1 c2 c3 c4 c5 c6 h1 h2
          go_wp2
          go_roundw
          case rel => exact ⟨k + 1, _, _, _, _, _, by omega, by simp, HL.out.mono (by omega), HM.out, HRB, HBS.out⟩
          case measure => simp [intOf]; omega
      · obtain rfl : k = n := by omega
        have hlti : ¬ (k : Int) < (k : Int) := by omega
        go_wp2
        go_ret
        exact ⟨rfl, HL.out.bel⟩
  · go_enter Try.func3, Try.ntmps3
    go_wp2_with fail
    refine (small_any _ a n cap hn).mono ?_
    rintro e w' ⟨rfl, ew⟩
    rw [ew]
    have hd : decide (n ≤ 65536) = false := by simpa using hsm
    rw [hd]
    clear hd ew w'
    go_wp2
    go_ret
    exact ⟨rfl, Below.refl _ _⟩
end Go.Proofs.Qxb6500777a
