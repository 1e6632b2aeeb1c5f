import Derived.Test.Qxb6500777aCsP
import Derived.Test.Qxb6500777aEvW
import Derived.Test.Qxb6500777aFsd
namespace Go.Proofs.Qxb6500777a
open Go.RowKit

theorem new_bf2 (w : World) (o : Obj) : BF ((w.alloc (.cells #[.slice none 0 0, .slice none 0 0, .slice none 0 0, .slice none 0 0] 46)).alloc o) w.heap.size ((w.alloc (.cells #[.slice none 0 0, .slice none 0 0, .slice none 0 0, .slice none 0 0] 46)).alloc o).heap.size (fun _ => []) := by
  have h := (new_bf w).below (be1 _ o)
  exact ⟨fun i hi => by obtain ⟨a, c, h1, h2⟩ := h.c i hi; refine ⟨none, 0, ?_, World.ownsRow_nil _ _ _ _⟩; rw [h1]; rcases h2.2 with ⟨e, _⟩ | ⟨g, cap, cur, e, _, _, hn, _⟩; exact congrArg some e; (have hx := cellKeep (be1 (w.alloc (.cells #[.slice none 0 0, .slice none 0 0, .slice none 0 0, .slice none 0 0] 46)) o) (show (w.alloc (.cells #[.slice none 0 0, .slice none 0 0, .slice none 0 0, .slice none 0 0] 46)).cell? ⟨w.heap.size, i, none⟩ = some (.slice none 0 0) by rcases (by omega : i = 0 ∨ i = 1 ∨ i = 2 ∨ i = 3) with rfl | rfl | rfl | rfl <;> simp [go_sem]); rw [h1] at hx; exact hx), h.f, by simp; omega⟩
theorem new_cn3 (w : World) : CN (w.alloc (.cells #[.int .i64 0, .int .i64 0, .int .i64 0, .int .i64 0] 53)) w.heap.size (fun _ => 0) := by
  refine ⟨fun i hi => ?_, fun j => by simp [go_sem]⟩
  rcases (by omega : i = 0 ∨ i = 1 ∨ i = 2 ∨ i = 3) with rfl | rfl | rfl | rfl <;> simp [go_sem]
theorem CN.keep {w w' : World} {x : Nat} {f : Nat → Int} (h : CN w x f) {b lo n : Nat} (k : Fr b lo n w w') (hq : x ≠ b) : CN w' x f := ⟨fun i hi => k.ex.cell hq (h.c i hi), fun j => (k.ex.frozen hq h.lt).trans (h.f j)⟩
theorem CN.frs {w : World} {x : Nat} {f : Nat → Int} (h : CN w x f) {i : Nat} (hi : i < 4) (u : Int) : CN (w.setCell ⟨x, i, none⟩ (.int .i64 u)) x (upd f i u) ∧ Fr x 0 4 w (w.setCell ⟨x, i, none⟩ (.int .i64 u)) := ⟨h.set hi u, (Fr.refl _ _ _ _).set (by omega) (by omega) _⟩

theorem bel_sets {w w' : World} {z : Nat} {vs : List Value} (o : Nat) (h : Below w.heap.size w w') (hz : w.heap.size ≤ z) : Below w.heap.size w (w'.setCells z o vs) :=
  (Ex.setsNew (S := fun _ => False) hz vs o w' (Ex.of h)).below (Nat.le_refl _) (fun _ _ e => e)

set_option linter.unusedSimpArgs false in
set_option maxRecDepth 100000 in
set_option maxHeartbeats 16000000 in
theorem coastRule_walk (w : World) (a : Option Addr) (n cap : Nat) (f : Nat → Opn) (hn : n ≤ 9223372036854775807) (ho : OpsAt w a n f) :
    Calls Try.prog 5 #[.slice a n cap] w fun e w' => e = .returned (.bool true) ∧ Below w.heap.size w w' := by
  have HO := hide ho
  clear ho
  by_cases hsm : n ≤ 65536
  · go_enter Try.func5, Try.ntmps5
    go_wp2_with fail
    refine (small_any _ a n cap hn).mono ?_
    rintro e w' ⟨rfl, ew⟩
    rw [ew]
    have hd : decide (n ≤ 65536) = true := by simpa using hsm
    rw [hd]
    clear hd ew w'
    go_wp2_with fail
    refine (newT_any _).mono ?_
    rintro e wn1 ⟨rfl, h1, b1⟩
    obtain ⟨m, hm⟩ : ∃ x, w.heap.size = x := ⟨_, rfl⟩
    rw [hm] at h1 ⊢
    have hgem : w.heap.size ≤ m := by omega
    have hltm : m < wn1.heap.size := h1.lt
    have hsz1 := b1.size
    have Kt := hide h1
    have KB := hide b1
    clear h1 b1 hm
    go_wp2_with fail
    refine (newW_any _).mono ?_
    rintro e wn2 ⟨rfl, h1, b1⟩
    obtain ⟨p, hp⟩ : ∃ x, wn1.heap.size = x := ⟨_, rfl⟩
    rw [hp] at h1 ⊢
    have hgep : wn1.heap.size ≤ p := by omega
    have hltp : p < wn2.heap.size := h1.lt
    have hsz2 := b1.size
    replace Kt := hide (Kt.out.below b1)
    have Kw := hide h1
    replace KB := hide (lec KB.out b1)
    clear h1 b1 hp
    go_wp2_with fail
    refine (newP_any _).mono ?_
    rintro e wn3 ⟨rfl, h1, b1⟩
    obtain ⟨q, hq⟩ : ∃ x, wn2.heap.size = x := ⟨_, rfl⟩
    rw [hq] at h1 ⊢
    have hgeq : wn2.heap.size ≤ q := by omega
    have hltq : q < wn3.heap.size := h1.lt
    have hsz3 := b1.size
    replace Kt := hide (Kt.out.below b1)
    replace Kw := hide (Kw.out.below b1)
    have Kp := hide h1
    replace KB := hide (lec KB.out b1)
    clear h1 b1 hq
    go_wp2_with fail
    refine (newB_any _ m).mono ?_
    rintro e wn4 ⟨b, rfl, hbg, h1, b1⟩
    have hgeb : wn3.heap.size ≤ b := hbg
    have hltb : b < wn4.heap.size := h1.lt
    have hsz4 := b1.size
    replace Kt := hide (Kt.out.below b1)
    replace Kw := hide (Kw.out.below b1)
    replace Kp := hide (Kp.out.below b1)
    have Kb := hide h1
    replace KB := hide (lec KB.out b1)
    clear h1 b1 hbg
    have HL := hide (show LS w wn4 m p q b (fun _ => tgt0) (fun _ => 0) (fun _ => tbl0) 1 from ⟨Kt.out, Kw.out, Kp.out, Kb.out, ⟨fun _ _ => tbl0_ok, fun _ _ => Int.le_refl 1⟩, fun _ _ => tgt0_ok, fun _ => ⟨Int.le_refl 0, by show (0 : Int) ≤ 3; omega⟩, KB.out, by omega, by omega⟩)
    clear Kt Kw Kp Kb KB
    clear hgem hgep hgeq hgeb hltm hltp hltq hltb hsz1 hsz2 hsz3 hsz4
    go_wp2
    go_loopw [7, 8, 9, 10, 11, 12, 13, 14, 15, 16, 17, 18, 19, 20, 21, 22] (fun s7 _ _ _ _ _ _ _ _ _ _ _ _ _ _ _ wr => ∃ (k : Nat) (W : Nat → Tgt) (G : Nat → Int) (TT : Nat → Tbl), k ≤ n ∧ s7 = .int .i64 k ∧ LS w wr m p q b W G TT (1 + 112 * (k : Int))) (fun s7 _ _ _ _ _ _ _ _ _ _ _ _ _ _ _ _ => n - (intOf s7).toNat)
    case atStart => exact ⟨0, _, _, _, Nat.zero_le _, rfl, HL.out⟩
    case round =>
      clear HL
      obtain ⟨k, W, G, TT, hk, rfl, hl⟩ := hrel
      have HL := hide hl
      clear hl
      by_cases hlt : k < n
      · have hlti : (k : Int) < (n : Int) := by omega
        obtain ⟨sb, off, rfl, hok, -⟩ := HO.out.at hlt
        have HC := hide (show ∀ wx, Below w.heap.size w wx → _ from fun wx hb => (HO.out.below hb).at hlt)
        obtain ⟨op, hop⟩ : ∃ op, f k = op := ⟨_, rfl⟩
        rw [hop] at hok HC
        have HOK := hide hok
        clear hok hop
        obtain ⟨_, _, e, -, c0, c1, c2, c3, c4, c5, c6⟩ := HC.out _ HL.out.bel
        cases e
        go_wp2_with fail
        refine (stepW_any _ p W HL.out.wr op HOK.out).mono ?_
        rintro e w2 ⟨rfl, h1, h2⟩
        have HL2 := hide (HL.out.world h2 h1 (wst_ok op HL.out.wo))
        clear c0 c1 c2 c3 c4 c5 c6 h1 h2 HL
        obtain ⟨W', hW'⟩ : ∃ W', wstP W op = W' := ⟨_, rfl⟩
        rw [hW'] at HL2
        clear hW'
        obtain ⟨_, _, e, -, c0, c1, c2, c3, c4, c5, c6⟩ := HC.out _ HL2.out.bel
        cases e
        have HL0 := hide (show m < w2.heap.size ∧ p < w2.heap.size ∧ q < w2.heap.size ∧ b < w2.heap.size ∧ w.heap.size ≤ w2.heap.size from ⟨HL2.out.mt.lt, HL2.out.wr.lt, HL2.out.pa.lt, HL2.out.bd.lt, HL2.out.bel.size⟩)
        by_cases hkd : op.kd = 2
        · have hkb : (op.kd == 2) = true := by simp [hkd]
          clear hkd
          go_wp2_with fail
          refine (list_any _ q G HL2.out.pa).mono ?_
          rintro e w3 ⟨da, dc, rfl, hdr, hb⟩
          clear c0 c1 c2 c3 c4 c5 c6
          replace HL2 := hide (HL2.out.below hb)
          have HDA := hide hdr.da.1
          have hdl : (lsN G 1792).length ≤ 1792 := lsN_len G 1792
          have HDQ0 := hide (show ∀ g off, da = some ⟨g, off, none⟩ → g < w3.heap.size ∧ g ≠ b from fun g off e => ⟨(hdr.da.2 g off e).2, by have := (hdr.da.2 g off e).1; have := HL0.out.2.2.2.1; omega⟩)
          clear hdr hb HL0
          have HL0 := hide (show m < w3.heap.size ∧ p < w3.heap.size ∧ q < w3.heap.size ∧ b < w3.heap.size ∧ w.heap.size ≤ w3.heap.size from ⟨HL2.out.mt.lt, HL2.out.wr.lt, HL2.out.pa.lt, HL2.out.bd.lt, HL2.out.bel.size⟩)
          go_upto_region 15 with fail
          have HBF := hide (new_bf2 w3 (.cells #[.int .i64 0, .int .i64 0, .int .i64 0, .int .i64 0] 53))
          have HCN := hide (new_cn3 (w3.alloc (.cells #[.slice none 0 0, .slice none 0 0, .slice none 0 0, .slice none 0 0] 46)))
          have hz : (w3.alloc (.cells #[.slice none 0 0, .slice none 0 0, .slice none 0 0, .slice none 0 0] 46)).heap.size = w3.heap.size + 1 := by simp
          have hz2 : ((w3.alloc (.cells #[.slice none 0 0, .slice none 0 0, .slice none 0 0, .slice none 0 0] 46)).alloc (.cells #[.int .i64 0, .int .i64 0, .int .i64 0, .int .i64 0] 53)).heap.size = w3.heap.size + 1 + 1 := by simp
          rw [hz] at HCN
          rw [hz2] at HBF
          replace HL := hide (HL2.out.below (be2 w3 (.cells #[.slice none 0 0, .slice none 0 0, .slice none 0 0, .slice none 0 0] 46) (.cells #[.int .i64 0, .int .i64 0, .int .i64 0, .int .i64 0] 53)))
          replace HDA := hide (HDA.out.below (be2 w3 (.cells #[.slice none 0 0, .slice none 0 0, .slice none 0 0, .slice none 0 0] 46) (.cells #[.int .i64 0, .int .i64 0, .int .i64 0, .int .i64 0] 53)))
          have HBG := hide (show w3.heap.size + 1 + 1 ≤ ((w3.alloc (.cells #[.slice none 0 0, .slice none 0 0, .slice none 0 0, .slice none 0 0] 46)).alloc (.cells #[.int .i64 0, .int .i64 0, .int .i64 0, .int .i64 0] 53)).heap.size by omega)
          clear hz hz2 HL2
          generalize (w3.alloc (.cells #[.slice none 0 0, .slice none 0 0, .slice none 0 0, .slice none 0 0] 46)).alloc (.cells #[.int .i64 0, .int .i64 0, .int .i64 0, .int .i64 0] 53) = w4 at *
          obtain ⟨B, hB⟩ : ∃ B, w3.heap.size + 1 + 1 = B := ⟨_, rfl⟩
          obtain ⟨y, hy⟩ : ∃ y, w3.heap.size + 1 = y := ⟨_, rfl⟩
          obtain ⟨x, hx⟩ : ∃ x, w3.heap.size = x := ⟨_, rfl⟩
          have HXN := hide (show m ≠ x ∧ p ≠ x ∧ q ≠ x ∧ b ≠ x ∧ w.heap.size ≤ x by have := HL0.out; omega)
          have HYN := hide (show m ≠ y ∧ p ≠ y ∧ q ≠ y ∧ b ≠ y ∧ w.heap.size ≤ y by have := HL0.out; omega)
          have HXY := hide (show x ≠ y ∧ x < B ∧ y < B ∧ b < B by have := HL0.out; omega)
          have HDQ := hide (show ∀ g off, da = some ⟨g, off, none⟩ → g ≠ b ∧ g ≠ x ∧ g ≠ y ∧ g < B from fun g off e => by have := HDQ0.out g off e; omega)
          rw [hB] at HBF HBG
          rw [hy] at HCN ⊢
          rw [hx] at HBF ⊢
          clear hB hy hx HDQ0 HL0
          go_wp2
          go_loopw [11] (fun s11 wy => ∃ t : Nat, t ≤ 4 ∧ s11 = .int .i64 t ∧ LS w wy m p q b W' G TT (1 + 112 * (k : Int)) ∧ BF wy x B (fun i => if i < t then tabN (TT i) 64 else []) ∧ CN wy y (fun i => if i < t then (TT i).next - 1 else 0) ∧ DA wy da (lsN G 1792) ∧ B ≤ wy.heap.size) (fun s11 _ => 4 - (intOf s11).toNat)
          case atStart => exact ⟨0, by omega, rfl, HL.out, HBF.out.congr (fun i _ => by rw [if_neg (by omega)]), HCN.out.congr (fun i _ => by rw [if_neg (by omega)]), HDA.out, HBG.out⟩
          case round =>
            clear HL HBF HCN HDA HBG
            obtain ⟨t, ht, rfl, hl, hbf, hcn, hda, hbg⟩ := hrel
            have HL := hide hl
            have HBF := hide hbf
            have HCN := hide hcn
            have HDA := hide hda
            have HBG := hide hbg
            clear hl hbf hcn hda hbg
            by_cases ht4 : t < 4
            · have ht4i : (t : Int) < 4 := by omega
              have hnx := (HL.out.ti.tk t ht4).inv.nx
              go_wp2_with fail
              refine (table_any _ b t ht4 (TT t) (HL.out.bd.ta t ht4)).mono ?_
              rintro e w5 ⟨ta, tc, rfl, hr, hb⟩
              replace HL := hide (HL.out.below hb)
              replace HBF := hide (HBF.out.below hb)
              replace HCN := hide (HCN.out.below hb)
              replace HDA := hide (HDA.out.below hb)
              have HS := hide (HBF.out.set ht4 (own_base hr HBG.out : TRow w5 B _ _))
              replace HBG := hide (Nat.le_trans HBG.out hb.size)
              obtain ⟨a0, c0, cc0, _⟩ := HBF.out.c t ht4
              have f0 := HBF.out.f t
              replace HL := hide (HL.out.other HS.out.2 HXN.out.1 HXN.out.2.1 HXN.out.2.2.1 HXN.out.2.2.2.1 HXN.out.2.2.2.2)
              replace HCN := hide (HCN.out.keep HS.out.2 (Ne.symm HXY.out.1))
              replace HDA := hide (HDA.out.keep HS.out.2.ex (fun g off e => (HDQ.out g off e).2.1))
              replace HBG := hide (Nat.le_trans HBG.out HS.out.2.ex.size)
              replace HBF := hide HS.out.1
              clear hr hb HS
              go_upto_region 19 with fail
              generalize w5.setCell ⟨x, t, none⟩ (.slice ta (tabN (TT t) 64).length tc) = w6 at *
              clear cc0 f0
              go_wp2_with fail
              refine (issued_any _ b t ht4 (TT t) (HL.out.bd.ta t ht4) ⟨by omega, hnx.2⟩).mono ?_
              rintro e w7 ⟨rfl, rfl⟩
              have c1 := HCN.out.c t ht4
              have f1 := HCN.out.f t
              have HS := hide (HCN.out.frs ht4 ((TT t).next - 1))
              replace HL := hide (HL.out.other HS.out.2 HYN.out.1 HYN.out.2.1 HYN.out.2.2.1 HYN.out.2.2.2.1 HYN.out.2.2.2.2)
              replace HBF := hide (HBF.out.keep HS.out.2 HXY.out.1 HXY.out.2.2.1)
              replace HDA := hide (HDA.out.keep HS.out.2.ex (fun g off e => (HDQ.out g off e).2.2.1))
              replace HBG := hide (Nat.le_trans HBG.out HS.out.2.ex.size)
              clear HCN hnx
              go_wp2
              go_roundw
              case rel => exact ⟨t + 1, by omega, by simp, HL.out, HBF.out.congr (fun i hi => by
                by_cases e : i = t
                · subst e; rw [upd_same, if_pos (by omega)]
                · rw [upd_ne _ _ e]
                  by_cases z : i < t
                  · rw [if_pos z, if_pos (by omega)]
                  · rw [if_neg z, if_neg (by omega)]), HS.out.1.congr (fun i hi => by
                by_cases e : i = t
                · subst e; rw [upd_same, if_pos (by omega)]
                · rw [upd_ne _ _ e]
                  by_cases z : i < t
                  · rw [if_pos z, if_pos (by omega)]
                  · rw [if_neg z, if_neg (by omega)]), HDA.out, HBG.out⟩
              case measure => simp [intOf]; omega
            · obtain rfl : t = 4 := by omega
              rw [show ((4 : Nat) : Int) = 4 from rfl]
              replace HBF := hide (HBF.out.congr (M := fun i => tabN (TT i) 64) (fun i hi => by rw [if_pos hi]))
              replace HCN := hide (HCN.out.congr (g := fun i => (TT i).next - 1) (fun i hi => by rw [if_pos hi]))
              go_upto_region 20 with fail
              go_wp2_with fail
              refine (tick_any _ b m p dX dY W' da _ dc (lsN G 1792) TT (1 + 112 * (k : Int)) HL.out.bd HL.out.ti (by omega) HL.out.mt HL.out.ne.2.2.1 HDA.out rfl (by omega) (fun g off e => ⟨Nat.lt_of_lt_of_le (HDQ.out g off e).2.2.2 HBG.out, (HDQ.out g off e).1⟩) HL.out.wr.wa HL.out.ne.2.2.2.2.1 HL.out.wo).mono ?_
              rintro e w6 ⟨TT', rfl, hbd, hti, htr, hfr⟩
              have HTP := hide (show ∀ t : Nat, t < 4 → ∃ T3, TickP (fuseP (lsN G 1792) (t : Int)) W' dX dY (TT t) T3 (TT' t) from fun t ht => TickR.parts (HL.out.ti.tk t ht) (by have := HL.out.ti.nx t ht; omega) (fuse_rng _ _) HL.out.wo (htr t ht))
              have HT0 := hide (show ∀ t, t < 4 → TInv (TT t) ∧ (TT t).next + 112 ≤ 1000000000 from fun t ht => ⟨(HL.out.ti.tk t ht).inv, by have := HL.out.ti.nx t ht; omega⟩)
              have HWO := hide HL.out.wo
              replace HL := hide (HL.out.board hfr hbd hti)
              replace HBF := hide (HBF.out.keep hfr (Ne.symm HXN.out.2.2.2.1) HXY.out.2.2.2)
              replace HCN := hide (HCN.out.keep hfr (Ne.symm HYN.out.2.2.2.1))
              replace HDA := hide (HDA.out.keep hfr.ex (fun g off e => (HDQ.out g off e).1))
              have HT1 := hide (show ∀ t, t < 4 → TkI (TT' t) from fun t ht => HL.out.ti.tk t ht)
              clear hbd hti htr hfr HBG HDQ
              go_wp2
              go_loopw [12, 13, 14, 15, 16, 17, 18, 19, 20, 21, 22] (fun s12 _ _ _ _ _ _ _ _ _ _ wy => ∃ t : Nat, t ≤ 4 ∧ s12 = .int .i64 t ∧ LS w wy m p q b W' G TT' (1 + 112 * (k : Int) + 112) ∧ BF wy x B (fun i => tabN (TT i) 64) ∧ CN wy y (fun i => (TT i).next - 1) ∧ DA wy da (lsN G 1792)) (fun s12 _ _ _ _ _ _ _ _ _ _ _ => 4 - (intOf s12).toNat)
              case atStart => exact ⟨0, by omega, rfl, HL.out, HBF.out, HCN.out, HDA.out⟩
              case round =>
                clear HL HBF HCN HDA
                obtain ⟨t, ht, rfl, hl, hbf, hcn, hda⟩ := hrel
                have HL := hide hl
                have HBF := hide hbf
                have HCN := hide hcn
                have HDA := hide hda
                clear hl hbf hcn hda
                by_cases ht4 : t < 4
                · have ht4i : (t : Int) < 4 := by omega
                  obtain ⟨T3, htp⟩ := HTP.out t ht4
                  have HP := hide htp
                  have HI0 := hide (HT0.out t ht4)
                  have HI1 := hide (HT1.out t ht4)
                  clear htp
                  have HTA := hide (show ∀ wx, LS w wx m p q b W' G TT' (1 + 112 * (k : Int) + 112) → TA wx b (1 + t * 754) (TT' t) from fun wx h => h.bd.ta t ht4)
                  have HBT := hide (show ∀ wx, BF wx x B (fun i => tabN (TT i) 64) → ∃ a c, wx.cell? ⟨x, t, none⟩ = some (.slice a (tabN (TT t) 64).length c) ∧ TRow wx B (.slice a (tabN (TT t) 64).length c) (tabN (TT t) 64) from fun wx h => h.c t ht4)
                  have HCT := hide (show ∀ wx, CN wx y (fun i => (TT i).next - 1) → wx.cell? ⟨y, t, none⟩ = some (.int .i64 ((TT t).next - 1)) from fun wx h => h.c t ht4)
                  obtain ⟨T, hT⟩ : ∃ T, TT t = T := ⟨_, rfl⟩
                  obtain ⟨T', hT'⟩ : ∃ T, TT' t = T := ⟨_, rfl⟩
                  rw [hT] at HP HI0 HBT HCT
                  rw [hT'] at HP HI1 HTA
                  clear hT hT'
                  have HM0 := hide (show ∀ d, d ∈ tabN T 64 ↔ ∃ k, k < 64 ∧ (T.sl k).used = true ∧ (T.sl k).tr = d from fun d => tab_mem 64 d)
                  have HLH := hide (show ((tabN T 64).length : Int) = T.held by rw [tab_len, HI0.out.1.cnt])
                  have hl0 : (tabN T 64).length ≤ 64 := tab_le 64
                  obtain ⟨L0, hL0⟩ : ∃ L, tabN T 64 = L := ⟨_, rfl⟩
                  rw [hL0] at HM0 HBT HLH hl0
                  clear hL0
                  have HM1 := hide (show ∀ d, d ∈ tabN T' 64 ↔ ∃ k, k < 64 ∧ (T'.sl k).used = true ∧ (T'.sl k).tr = d from fun d => tab_mem 64 d)
                  have hl1 : (tabN T' 64).length ≤ 64 := tab_le 64
                  go_wp2_with fail
                  refine (table_any _ b t ht4 T' (HTA.out _ HL.out)).mono ?_
                  rintro e w7 ⟨ta, tc, rfl, hr, hb⟩
                  obtain ⟨L1, hL1⟩ : ∃ L, tabN T' 64 = L := ⟨_, rfl⟩
                  rw [hL1] at HM1 hl1 hr ⊢
                  clear hL1
                  obtain ⟨n1, hn1⟩ : ∃ n, L1.length = n := ⟨_, rfl⟩
                  rw [hn1] at hl1 hr ⊢
                  have HN1 := hide hn1
                  clear hn1
                  obtain ⟨n0, hn0⟩ : ∃ n, L0.length = n := ⟨_, rfl⟩
                  rw [hn0] at hl0 HBT HLH
                  have HN0 := hide hn0
                  clear hn0
                  replace HL := hide (HL.out.below hb)
                  replace HBF := hide (HBF.out.below hb)
                  replace HCN := hide (HCN.out.below hb)
                  replace HDA := hide (HDA.out.below hb)
                  obtain ⟨B1, HR⟩ : ∃ B1, Hid (TRow w7 B1 (.slice ta n1 tc) L1) := ⟨_, hide hr⟩
                  clear hr hb
                  have hx0 := HI0.out.1.nx
                  have hx1 := HI1.out.inv.nx
                  obtain ⟨bo, hbo⟩ : ∃ z, T'.next - T.next = z := ⟨_, rfl⟩
                  have hwb : IntKind.i64.wrap (T'.next - 1 - (T.next - 1)) = bo := by rw [IntKind.wrap_i64]; omega
                  have hwn : IntKind.i64.wrap ((n0 : Int) + bo) = (n0 : Int) + bo := by rw [IntKind.wrap_i64]; omega
                  have HVA := hide (show ∀ g, GoneB T T' g → 64 < (n0 : Int) + bo from fun g hg => by
                    have := vanish_ok HI0.out.1 (fuse_rng _ _) HWO.out HI0.out.2 HP.out hg
                    rw [HLH.out, ← hbo]; exact this)
                  have zS := HCT.out _ HCN.out
                  have ci := fun w h => hide (issued_any w b t ht4 T' h ⟨by omega, hx1.2⟩)
                  clear hbo hx0
                  go_upto_region 25 with fail
                  refine wp_region_held_drew (S := fun w' => w'.cell? ⟨y, t, none⟩ = some (.int .i64 (T.next - 1))) (by kernel_rfl) zS (fun hHeld => ?_)
                  refine wpAnyH_take (i := 0) (v := ?_) rfl (by kernel_rfl) (by kernel_rfl) (by kernel_rfl) (fun _ _ _ h => h) (Or.inl ⟨by rfl, ?_⟩) (by assumption) ?_
                  rotate_left
                  · (intro w hSw; (try dsimp only at hSw); go_simp; try (with_reducible rfl))
                  try simp only [Act.put, List.getElem_toArray, List.getElem_cons_zero, List.getElem_cons_succ, List.setIfInBounds_toArray, List.set_cons_zero, List.set_cons_succ]
                  refine wpAnyH_take (i := 1) (v := ?_) rfl (by kernel_rfl) (by kernel_rfl) (by kernel_rfl) (fun _ _ _ h => h) (Or.inl ⟨by rfl, ?_⟩) (by assumption) ?_
                  rotate_left
                  · (intro w hSw; (try dsimp only at hSw); go_simp; try (with_reducible rfl))
                  try simp only [Act.put, List.getElem_toArray, List.getElem_cons_zero, List.getElem_cons_succ, List.setIfInBounds_toArray, List.set_cons_zero, List.set_cons_succ]
                  refine wpAnyH_take (i := 3) (v := ?_) rfl (by kernel_rfl) (by kernel_rfl) (by kernel_rfl) (fun _ _ _ h => h) (Or.inl ⟨by rfl, ?_⟩) (by assumption) ?_
                  rotate_left
                  · (intro w hSw; (try dsimp only at hSw); go_simp; try (with_reducible rfl))
                  try simp only [Act.put, List.getElem_toArray, List.getElem_cons_zero, List.getElem_cons_succ, List.setIfInBounds_toArray, List.set_cons_zero, List.set_cons_succ]
                  refine wpAnyH_take (i := 4) (v := ?_) rfl (by kernel_rfl) (by kernel_rfl) (by kernel_rfl) (fun _ _ _ h => h) (Or.inl ⟨by rfl, ?_⟩) (by assumption) ?_
                  rotate_left
                  · (intro w hSw; (try dsimp only at hSw); go_simp; try (with_reducible rfl))
                  try simp only [Act.put, List.getElem_toArray, List.getElem_cons_zero, List.getElem_cons_succ, List.setIfInBounds_toArray, List.set_cons_zero, List.set_cons_succ]
                  refine wpAnyH_take (i := 5) (v := ?_) rfl (by kernel_rfl) (by kernel_rfl) (by kernel_rfl) (fun _ _ _ h => h) (Or.inl ⟨by rfl, ?_⟩) (by assumption) ?_
                  rotate_left
                  · (intro w hSw; (try dsimp only at hSw); go_simp; try (with_reducible rfl))
                  try simp only [Act.put, List.getElem_toArray, List.getElem_cons_zero, List.getElem_cons_succ, List.setIfInBounds_toArray, List.set_cons_zero, List.set_cons_succ]
                  refine wpAnyH_ready (rs := [2]) (by kernel_rfl) (by simp) ?_
                  refine (AllReadyH.cons rfl (fun K hK => ?_) AllReadyH.nil)
                  · refine step_call rfl 29 #[.pointer (some ⟨b, 0, none⟩), .int .i64 t] (by simp [go_sem]) (ci _ (HTA.out _ HL.out.drew)).out ?_
                    rintro e w8 ⟨rfl, rfl⟩
                    refine ⟨_, rfl, ?_⟩
                    refine hK.out _ _ ?_ (fun hHeld => ?_)
                    · (first | with_reducible exact zS | exact zS)
                    clear hK K
                    try simp only [Act.put, List.getElem_toArray, List.getElem_cons_zero, List.getElem_cons_succ, List.setIfInBounds_toArray, List.set_cons_zero, List.set_cons_succ]
                    refine wpAnyH_take (i := 6) (v := ?_) rfl (by kernel_rfl) (by kernel_rfl) (by kernel_rfl) (fun _ _ _ h => h) (Or.inl ⟨by rfl, ?_⟩) (by assumption) ?_
                    rotate_left
                    · (intro w hSw; (try dsimp only at hSw); go_simp; try (with_reducible rfl))
                    try simp only [Act.put, List.getElem_toArray, List.getElem_cons_zero, List.getElem_cons_succ, List.setIfInBounds_toArray, List.set_cons_zero, List.set_cons_succ]
                    refine wpAnyH_take (i := 7) (v := ?_) rfl (by kernel_rfl) (by kernel_rfl) (by kernel_rfl) (fun _ _ _ h => h) (Or.inl ⟨by rfl, ?_⟩) (by assumption) ?_
                    rotate_left
                    · (intro w hSw; (try dsimp only at hSw); go_simp; try (with_reducible rfl))
                    try simp only [Act.put, List.getElem_toArray, List.getElem_cons_zero, List.getElem_cons_succ, List.setIfInBounds_toArray, List.set_cons_zero, List.set_cons_succ]
                    refine wpAnyH_done (by kernel_rfl) ?_ _
                    replace HL := hide HL.out.drew
                    replace HBF := hide (HBF.out.below (Below.refl _ _).drew)
                    replace HCN := hide (HCN.out.below (Below.refl _ _).drew)
                    replace HDA := hide (HDA.out.below (Below.refl _ _).drew)
                    replace HR := hide (HR.out.below (Below.refl _ _).drew)
                    generalize World.drew _ = w8 at *
                    clear zS ci hwb
                    go_wp2
                    go_loopw [15, 16] (fun s15 _ wy => ∃ j : Nat, j ≤ n0 ∧ s15 = .int .i64 j ∧ LS w wy m p q b W' G TT' (1 + 112 * (k : Int) + 112) ∧ BF wy x B (fun i => tabN (TT i) 64) ∧ CN wy y (fun i => (TT i).next - 1) ∧ DA wy da (lsN G 1792) ∧ TRow wy B1 (.slice ta n1 tc) L1) (fun s15 _ _ => n0 - (intOf s15).toNat)
                    case atStart => exact ⟨0, by omega, rfl, HL.out, HBF.out, HCN.out, HDA.out, HR.out⟩
                    case round =>
                      clear HL HBF HCN HDA HR
                      obtain ⟨j, hj, rfl, hl, hbf, hcn, hda, hr⟩ := hrel
                      have HL := hide hl
                      have HBF := hide hbf
                      have HCN := hide hcn
                      have HDA := hide hda
                      have HR := hide hr
                      clear hl hbf hcn hda hr
                      obtain ⟨ba, bc, cb, hbr⟩ := HBT.out _ HBF.out
                      by_cases hjn : j < n0
                      · have hjni : (j : Int) < (n0 : Int) := by omega
                        obtain ⟨g, hg⟩ : ∃ g, L0[j]? = some g := ⟨_, List.getElem?_eq_getElem (by have := HN0.out; omega)⟩
                        have HGM := hide ((HM0.out g).1 (List.mem_of_getElem? hg))
                        have hga : 0 ≤ g.ag ∧ g.ag ≤ 30 := by obtain ⟨z, z1, z2, rfl⟩ := HGM.out; exact (HI0.out.1.ok z z1).tr.ag
                        obtain ⟨gb, e, hra⟩ := hbr.get HN0.out.symm hg
                        subst e
                        obtain ⟨d0, d1, d2, d3, d4, d5, d6⟩ := hra.tt
                        clear hg hra hbr
                        have hwg : IntKind.i64.wrap (g.ag + 1) = g.ag + 1 := by rw [IntKind.wrap_i64]; omega
                        have cb2 := cellKeep (be1 wr (.cells #[.int .i64 g.num, .int .i64 g.x, .int .i64 g.y, .int .i64 g.co, .int .i64 g.sp, .int .i64 g.st, .int .i64 g.ag] 51)) cb
                        go_upto_region 30 with fail
                        replace HL := hide (HL.out.below (be1 wr (.cells #[.int .i64 g.num, .int .i64 g.x, .int .i64 g.y, .int .i64 g.co, .int .i64 g.sp, .int .i64 g.st, .int .i64 g.ag] 51)))
                        replace HBF := hide (HBF.out.below (be1 wr (.cells #[.int .i64 g.num, .int .i64 g.x, .int .i64 g.y, .int .i64 g.co, .int .i64 g.sp, .int .i64 g.st, .int .i64 g.ag] 51)))
                        replace HCN := hide (HCN.out.below (be1 wr (.cells #[.int .i64 g.num, .int .i64 g.x, .int .i64 g.y, .int .i64 g.co, .int .i64 g.sp, .int .i64 g.st, .int .i64 g.ag] 51)))
                        replace HDA := hide (HDA.out.below (be1 wr (.cells #[.int .i64 g.num, .int .i64 g.x, .int .i64 g.y, .int .i64 g.co, .int .i64 g.sp, .int .i64 g.st, .int .i64 g.ag] 51)))
                        replace HR := hide (HR.out.below (be1 wr (.cells #[.int .i64 g.num, .int .i64 g.x, .int .i64 g.y, .int .i64 g.co, .int .i64 g.sp, .int .i64 g.st, .int .i64 g.ag] 51)))
                        have HY := hide (new_rt wr g)
                        generalize wr.alloc (.cells #[.int .i64 g.num, .int .i64 g.x, .int .i64 g.y, .int .i64 g.co, .int .i64 g.sp, .int .i64 g.st, .int .i64 g.ag] 51) = w9 at *
                        generalize wr.heap.size = z at *
                        clear d0 d1 d2 d3 d4 d5 d6 cb
                        obtain ⟨y0, y1, y2, y3, y4, y5, y6⟩ := HY.out.tt
                        simp only [Nat.zero_add] at y1 y2 y3 y4 y5 y6
                        go_wp2_with fail
                        refine (find_any _ B1 n1 tc ta L1 HR.out HN1.out.symm hl1 g.num).mono ?_
                        rintro e w10 ⟨r, rfl, hf, rfl⟩
                        by_cases hr0 : 0 ≤ r
                        · have hrb : decide (r < 0) = false := by simp; omega
                          clear hf hr0
                          go_wp2
                          go_roundw
                          case rel => exact ⟨j + 1, by omega, by simp, HL.out, HBF.out, HCN.out, HDA.out, HR.out⟩
                          case measure => simp [intOf]; omega
                        · have hrb : decide (r < 0) = true := by simp; omega
                          have HNO := hide (show NoN T' g.num from fun z z1 z2 e => by
                            cases hf with
                            | some kk d hd hdn => omega
                            | none hno => exact hno _ ((HM1.out _).2 ⟨z, z1, z2, rfl⟩) e)
                          clear hf hr0
                          by_cases h30 : g.ag + 1 < 30
                          · have hva := HVA.out g ⟨HGM.out, HNO.out, h30⟩
                            have hvb : decide ((n0 : Int) + bo ≤ 64) = false := by simp; omega
                            clear hva
                            go_wp2
                            go_roundw
                            case rel => exact ⟨j + 1, by omega, by simp, HL.out, HBF.out, HCN.out, HDA.out, HR.out⟩
                            case measure => simp [intOf]; omega
                          · have h30b : decide (g.ag + 1 < 30) = false := by simp; omega
                            clear h30
                            go_wp2
                            go_roundw
                            case rel => exact ⟨j + 1, by omega, by simp, HL.out, HBF.out, HCN.out, HDA.out, HR.out⟩
                            case measure => simp [intOf]; omega
                      · have hjni : ¬ (j : Int) < (n0 : Int) := by omega
                        clear hbr
                        go_wp2
                        go_loopw [17, 18, 19, 20, 21, 22] (fun s17 _ _ _ _ _ wy => ∃ j : Nat, j ≤ n1 ∧ s17 = .int .i64 j ∧ LS w wy m p q b W' G TT' (1 + 112 * (k : Int) + 112) ∧ BF wy x B (fun i => tabN (TT i) 64) ∧ CN wy y (fun i => (TT i).next - 1) ∧ DA wy da (lsN G 1792) ∧ TRow wy B1 (.slice ta n1 tc) L1) (fun s17 _ _ _ _ _ _ => n1 - (intOf s17).toNat)
                        case atStart => exact ⟨0, by omega, rfl, HL.out, HBF.out, HCN.out, HDA.out, HR.out⟩
                        case round =>
                          clear HL HBF HCN HDA HR cb
                          obtain ⟨j, hj, rfl, hl, hbf, hcn, hda, hr⟩ := hrel
                          have HL := hide hl
                          have HBF := hide hbf
                          have HCN := hide hcn
                          have HDA := hide hda
                          have HR := hide hr
                          clear hl hbf hcn hda hr
                          by_cases hjn1 : j < n1
                          · have hjn1i : (j : Int) < (n1 : Int) := by omega
                            obtain ⟨u, hu⟩ : ∃ u, L1[j]? = some u := ⟨_, List.getElem?_eq_getElem (by have := HN1.out; omega)⟩
                            have HUI := hide hu
                            obtain ⟨sk, hsk, hsu, hst⟩ := (HM1.out u).1 (List.mem_of_getElem? hu)
                            have hua := HI1.out.age sk hsk hsu
                            have htg := (HI1.out.inv.ok sk hsk).tg
                            have hco2 := coast_ok2 (fun t => (fuse_rng _ _ t).1) HP.out hsk hsu
                            rw [hst] at hua hco2
                            obtain ⟨xt, hxt'⟩ : ∃ x : Nat, (T'.sl sk).tg = x := ⟨(T'.sl sk).tg.toNat, by omega⟩
                            have hxt : xt < 112 := by omega
                            rw [hxt', Int.toNat_natCast] at hco2
                            have HXX := hide hxt'
                            have HSU := hide hsu
                            have HST := hide hst
                            have hua30 : decide (30 ≤ u.ag) = false := by simp; omega
                            have cr := fun w h => hide (resolve_any w b t ht4 T' h u.num)
                            obtain ⟨gu, e, hru⟩ := HR.out.get HN1.out.symm hu
                            subst e
                            have v0 := hru.tt.1
                            clear hu hru hst hsu hua htg hxt'
                            go_wp2_with fail
                            refine (cr _ (HTA.out _ HL.out)).out.mono ?_
                            rintro e w9 ⟨tt, hh, rfl, hres, rfl⟩
                            rw [← HST.out] at hres
                            obtain ⟨e1, e2⟩ := res_of HI1.out.inv hsk HSU.out hres
                            rw [HXX.out] at e1
                            subst e1 e2
                            clear hres cr v0
                            go_upto_region 39 with fail
                            have HZ := hide (new_rt w9 trk0)
                            have HBv := hide (be1 w9 (.cells #[.int .i64 0, .int .i64 0, .int .i64 0, .int .i64 0, .int .i64 0, .int .i64 0, .int .i64 0] 51))
                            have hzv : w9.heap.size ≤ w9.heap.size := Nat.le_refl _
                            have HZ' : Hid (RA (w9.alloc (.cells #[.int .i64 0, .int .i64 0, .int .i64 0, .int .i64 0, .int .i64 0, .int .i64 0, .int .i64 0] 51)) w9.heap.size 0 trk0.vals) := HZ
                            clear HZ
                            have HZ := HZ'
                            clear HZ'
                            generalize w9.alloc (.cells #[.int .i64 0, .int .i64 0, .int .i64 0, .int .i64 0, .int .i64 0, .int .i64 0, .int .i64 0] 51) = w1z at *
                            obtain ⟨z, hz⟩ : ∃ z, w9.heap.size = z := ⟨_, rfl⟩
                            have hzv' : w9.heap.size ≤ z := by omega
                            rw [hz] at HZ ⊢
                            clear hz hzv
                            have hzv := hzv'
                            clear hzv'
                            go_wp2_with fail
                            refine (fused_any _ da _ dc (lsN G 1792) (HDA.out.below HBv.out) rfl (by omega) (t : Int) xt hxt).mono ?_
                            rintro e w10 ⟨rfl, rfl⟩
                            obtain ⟨g, hg⟩ : ∃ g, fuseP (lsN G 1792) (t : Int) xt = g := ⟨_, rfl⟩
                            have hgr := fuse_rng (lsN G 1792) (t : Int) xt
                            rw [hg] at hgr hco2 ⊢
                            have HCO := hide hco2
                            clear hg hco2
                            obtain ⟨ba, bc, cb, hbr⟩ := HBT.out _ HBF.out
                            have cf := fun w h => hide (find_any w B n0 bc ba L0 h HN0.out.symm hl0 u.num)
                            obtain ⟨gu2, e, hru⟩ := (HR.out.below HBv.out).get HN1.out.symm HUI.out
                            cases e
                            have v0 := hru.tt.1
                            clear hru
                            have zS := And.intro (cellKeep HBv.out cb) v0
                            go_upto_region 40 with fail
                            refine wp_region_held_drew (S := fun w' => w'.cell? ⟨x, t, none⟩ = some (.slice ba n0 bc) ∧ w'.cell? ⟨gu, j * 7, none⟩ = some (.int .i64 u.num)) (by kernel_rfl) zS (fun hHeld => ?_)
                            refine wpAnyH_take (i := 0) (v := ?_) rfl (by kernel_rfl) (by kernel_rfl) (by kernel_rfl) (fun _ _ _ h => h) (Or.inl ⟨by rfl, ?_⟩) (by assumption) ?_
                            rotate_left
                            · (intro w hSw; (try dsimp only at hSw); go_simp; try (with_reducible rfl))
                            try simp only [Act.put, List.getElem_toArray, List.getElem_cons_zero, List.getElem_cons_succ, List.setIfInBounds_toArray, List.set_cons_zero, List.set_cons_succ]
                            refine wpAnyH_take (i := 1) (v := ?_) rfl (by kernel_rfl) (by kernel_rfl) (by kernel_rfl) (fun _ _ _ h => h) (Or.inl ⟨by rfl, ?_⟩) (by assumption) ?_
                            rotate_left
                            · (intro w hSw; (try dsimp only at hSw); go_simp; try (with_reducible rfl))
                            try simp only [Act.put, List.getElem_toArray, List.getElem_cons_zero, List.getElem_cons_succ, List.setIfInBounds_toArray, List.set_cons_zero, List.set_cons_succ]
                            refine wpAnyH_take (i := 2) (v := ?_) rfl (by kernel_rfl) (by kernel_rfl) (by kernel_rfl) (fun _ _ _ h => h) (Or.inl ⟨by rfl, ?_⟩) (by assumption) ?_
                            rotate_left
                            · (intro w hSw; (try dsimp only at hSw); go_simp; try (with_reducible rfl))
                            try simp only [Act.put, List.getElem_toArray, List.getElem_cons_zero, List.getElem_cons_succ, List.setIfInBounds_toArray, List.set_cons_zero, List.set_cons_succ]
                            refine wpAnyH_take (i := 3) (v := ?_) rfl (by kernel_rfl) (by kernel_rfl) (by kernel_rfl) (fun _ _ _ h => h) (Or.inl ⟨by rfl, ?_⟩) (by assumption) ?_
                            rotate_left
                            · (intro w hSw; (try dsimp only at hSw); go_simp; try (with_reducible rfl))
                            try simp only [Act.put, List.getElem_toArray, List.getElem_cons_zero, List.getElem_cons_succ, List.setIfInBounds_toArray, List.set_cons_zero, List.set_cons_succ]
                            refine wpAnyH_take (i := 4) (v := ?_) rfl (by kernel_rfl) (by kernel_rfl) (by kernel_rfl) (fun _ _ _ h => h) (Or.inl ⟨by rfl, ?_⟩) (by assumption) ?_
                            rotate_left
                            · (intro w hSw; (try dsimp only at hSw); go_simp; try (with_reducible rfl))
                            try simp only [Act.put, List.getElem_toArray, List.getElem_cons_zero, List.getElem_cons_succ, List.setIfInBounds_toArray, List.set_cons_zero, List.set_cons_succ]
                            refine wpAnyH_take (i := 5) (v := ?_) rfl (by kernel_rfl) (by kernel_rfl) (by kernel_rfl) (fun _ _ _ h => h) (Or.inl ⟨by rfl, ?_⟩) (by assumption) ?_
                            rotate_left
                            · (intro w hSw; (try dsimp only at hSw); go_simp; try (with_reducible rfl))
                            try simp only [Act.put, List.getElem_toArray, List.getElem_cons_zero, List.getElem_cons_succ, List.setIfInBounds_toArray, List.set_cons_zero, List.set_cons_succ]
                            refine wpAnyH_take (i := 6) (v := ?_) rfl (by kernel_rfl) (by kernel_rfl) (by kernel_rfl) (fun _ _ _ h => h) (Or.inl ⟨by rfl, ?_⟩) (by assumption) ?_
                            rotate_left
                            · (intro w hSw; (try dsimp only at hSw); go_simp; try (with_reducible rfl))
                            try simp only [Act.put, List.getElem_toArray, List.getElem_cons_zero, List.getElem_cons_succ, List.setIfInBounds_toArray, List.set_cons_zero, List.set_cons_succ]
                            refine wpAnyH_take (i := 7) (v := ?_) rfl (by kernel_rfl) (by kernel_rfl) (by kernel_rfl) (fun _ _ _ h => h) (Or.inl ⟨by rfl, ?_⟩) (by assumption) ?_
                            rotate_left
                            · (intro w hSw; (try dsimp only at hSw); go_simp; try (with_reducible rfl))
                            try simp only [Act.put, List.getElem_toArray, List.getElem_cons_zero, List.getElem_cons_succ, List.setIfInBounds_toArray, List.set_cons_zero, List.set_cons_succ]
                            refine wpAnyH_ready (rs := [8]) (by kernel_rfl) (by simp) ?_
                            refine (AllReadyH.cons rfl (fun K hK => ?_) AllReadyH.nil)
                            · refine step_call rfl 27 #[.slice ba n0 bc, .int .i64 u.num] (by simp [go_sem]) (cf _ (hbr.below HBv.out.drew)).out ?_
                              rintro e w11 ⟨r, rfl, hf, rfl⟩
                              refine ⟨_, rfl, ?_⟩
                              refine hK.out _ _ ?_ (fun hHeld => ?_)
                              · (first | with_reducible exact zS | exact zS)
                              clear hK K
                              try simp only [Act.put, List.getElem_toArray, List.getElem_cons_zero, List.getElem_cons_succ, List.setIfInBounds_toArray, List.set_cons_zero, List.set_cons_succ]
                              refine wpAnyH_take (i := 9) (v := ?_) rfl (by kernel_rfl) (by kernel_rfl) (by kernel_rfl) (fun _ _ _ h => h) (Or.inl ⟨by rfl, ?_⟩) (by assumption) ?_
                              rotate_left
                              · (intro w hSw; (try dsimp only at hSw); go_simp; try (with_reducible rfl))
                              try simp only [Act.put, List.getElem_toArray, List.getElem_cons_zero, List.getElem_cons_succ, List.setIfInBounds_toArray, List.set_cons_zero, List.set_cons_succ]
                              refine wpAnyH_done (by kernel_rfl) ?_ _
                              replace HBv := hide HBv.out.drew
                              replace HZ := hide HZ.out.drew
                              have HFD := hide hf
                              clear zS cf v0 hf
                              generalize World.drew _ = w2z at *
                              by_cases hg0 : 0 < g
                              · obtain ⟨e1, e2⟩ : 0 < g ∧ u = { lookP trk0 (W' xt) g with num := u.num, st := u.st } := by
                                  rcases HCO.out with z | z
                                  · exact z
                                  · exact absurd hg0 (by rw [z.1]; decide)
                                have HUE := hide e2
                                have hgb : (g == 0) = false := by simp; omega
                                clear e1 e2
                                have a0 := (HL.out.below HBv.out).wr.wa xt hxt 0 _ rfl
                                have a1 := (HL.out.below HBv.out).wr.wa xt hxt 1 _ rfl
                                have a2 := (HL.out.below HBv.out).wr.wa xt hxt 2 _ rfl
                                have a3 := (HL.out.below HBv.out).wr.wa xt hxt 3 _ rfl
                                rw [Nat.add_zero] at a0
                                go_wp2_with fail
                                refine (seen_any _ (W' xt) (HWO.out xt hxt) g).mono ?_
                                rintro e w3z ⟨rfl, hb⟩
                                clear a0 a1 a2 a3
                                replace HZ := hide (HZ.out.below (HZ.out.lt (by simp [Trk.vals])) hb)
                                replace HBv := hide (lec HBv.out hb)
                                clear hb
                                obtain ⟨z0, z1, z2, z3, z4, z5, z6⟩ := HZ.out.tt
                                simp only [Nat.zero_add] at z1 z2 z3 z4 z5 z6
                                have zf := HZ.out.f
                                go_upto_region 48 with fail
                                rw [show (((((((w3z.setCell ⟨z, 0, none⟩ (.int .i64 (lookP trk0 (W' xt) g).num)).setCell ⟨z, 1, none⟩ (.int .i64 (lookP trk0 (W' xt) g).x)).setCell ⟨z, 2, none⟩ (.int .i64 (lookP trk0 (W' xt) g).y)).setCell ⟨z, 3, none⟩ (.int .i64 (lookP trk0 (W' xt) g).co)).setCell ⟨z, 4, none⟩ (.int .i64 (lookP trk0 (W' xt) g).sp)).setCell ⟨z, 5, none⟩ (.int .i64 (lookP trk0 (W' xt) g).st)).setCell ⟨z, 6, none⟩ (.int .i64 (lookP trk0 (W' xt) g).ag)) = w3z.setCells z 0 (Trk.vals (lookP trk0 (W' xt) g)) from rfl]
                                have HZ2 := hide (HZ.out.fill (us := Trk.vals (lookP trk0 (W' xt) g)) rfl)
                                have HBv2 := hide (bel_sets (vs := Trk.vals (lookP trk0 (W' xt) g)) 0 HBv.out hzv)
                                clear z0 z1 z2 z3 z4 z5 z6 zf
                                clear HZ HBv
                                generalize w3z.setCells z 0 (Trk.vals (lookP trk0 (W' xt) g)) = w4z at *
                                have HZ := HZ2
                                have HBv := HBv2
                                clear HZ2 HBv2
                                as_aux_lemma =>
                                  obtain ⟨gu2, e, hru⟩ := (HR.out.below HBv.out).get HN1.out.symm HUI.out
                                  cases e
                                  obtain ⟨v0, v1, v2, v3, v4, v5, v6⟩ := hru.tt
                                  clear hru
                                  obtain ⟨z0, z1, z2, z3, z4, z5, z6⟩ := HZ.out.tt
                                  simp only [Nat.zero_add] at z1 z2 z3 z4 z5 z6
                                  have zf := HZ.out.f
                                  go_upto_region 49 with fail
                                  have HZ2 := hide (HZ.out.put (k := 0) (.int .i64 u.num) (by rw [Trk.len]; omega))
                                  have HBv2 := hide (HBv.out.setCell (p := ⟨z, 0, none⟩) hzv (.int .i64 u.num))
                                  clear z0 z1 z2 z3 z4 z5 z6 zf
                                  clear v0 v1 v2 v3 v4 v5 v6 HZ HBv
                                  simp only [Nat.zero_add, Nat.add_zero] at HZ2
                                  generalize w4z.setCell ⟨z, 0, none⟩ (.int .i64 u.num) = we1 at *
                                  as_aux_lemma =>
                                    have HZ := hide (show RA we1 z 0 (Trk.vals { (lookP trk0 (W' xt) g) with num := u.num }) from HZ2.out)
                                    have HBv := HBv2
                                    clear HZ2 HBv2
                                    obtain ⟨gu2, e, hru⟩ := (HR.out.below HBv.out).get HN1.out.symm HUI.out
                                    cases e
                                    obtain ⟨v0, v1, v2, v3, v4, v5, v6⟩ := hru.tt
                                    clear hru
                                    obtain ⟨z0, z1, z2, z3, z4, z5, z6⟩ := HZ.out.tt
                                    simp only [Nat.zero_add] at z1 z2 z3 z4 z5 z6
                                    have zf := HZ.out.f
                                    go_upto_region 50 with fail
                                    have HZ2 := hide (HZ.out.put (k := 5) (.int .i64 u.st) (by rw [Trk.len]; omega))
                                    have HBv2 := hide (HBv.out.setCell (p := ⟨z, 5, none⟩) hzv (.int .i64 u.st))
                                    clear z0 z1 z2 z3 z4 z5 z6 zf
                                    clear v0 v1 v2 v3 v4 v5 v6 HZ HBv
                                    simp only [Nat.zero_add] at HZ2
                                    generalize we1.setCell ⟨z, 5, none⟩ (.int .i64 u.st) = we2 at *
                                    as_aux_lemma =>
                                      have HZ := hide (show RA we2 z 0 (Trk.vals u) by have := HZ2.out; rw [show ((Trk.vals { (lookP trk0 (W' xt) g) with num := u.num }).set 5 (.int .i64 u.st)) = Trk.vals u from (by rw [HUE.out]; rfl)] at this; exact this)
                                      have HBv := HBv2
                                      clear HZ2 HBv2
                                      obtain ⟨gu2, e, hru⟩ := (HR.out.below HBv.out).get HN1.out.symm HUI.out
                                      cases e
                                      obtain ⟨v0, v1, v2, v3, v4, v5, v6⟩ := hru.tt
                                      clear hru
                                      obtain ⟨z0, z1, z2, z3, z4, z5, z6⟩ := HZ.out.tt
                                      simp only [Nat.zero_add] at z1 z2 z3 z4 z5 z6
                                      have zf := HZ.out.f
                                      go_quiet (fail)
                                      as_aux_lemma =>
                                        go_upto_region 52 with fail
                                        as_aux_lemma =>
                                          go_quiet (fail)
                                          as_aux_lemma =>
                                            clear v0 v1 v2 v3 v4 v5 v6
                                            clear z0 z1 z2 z3 z4 z5 z6 zf
                                            go_wp2
                                            go_roundw
                                            case rel => exact ⟨j + 1, by omega, by simp, (HL.out.below HBv.out).below (belN _ _), (HBF.out.below HBv.out).below (belN _ _), (HCN.out.below HBv.out).below (belN _ _), (HDA.out.below HBv.out).below (belN _ _), (HR.out.below HBv.out).below (belN _ _)⟩
                                            case measure => simp [intOf]; omega
                              · have hg1 : g = 0 := Int.le_antisymm (Int.not_lt.1 hg0) hgr.1
                                obtain ⟨d, kk, hd, hdn, hr, hue⟩ : ∃ (d : Trk) (kk : Nat), L0[kk]? = some d ∧ d.num = u.num ∧ r = (kk : Int) ∧ u = { d with x := mapP (d.x + d.sp * dX d.co.toNat / 1073741824), y := mapP (d.y + d.sp * dY d.co.toNat / 1073741824), ag := d.ag + 1 } ∧ TrkOk d := by
                                  rcases HCO.out with z | ⟨_, z1, z2, z3⟩
                                  · exact absurd z.1 hg0
                                  · have hmem := (HM0.out (T.sl sk).tr).2 ⟨sk, hsk, z1, rfl⟩
                                    have hf := HFD.out
                                    cases hf with
                                    | some kk d hd hdn =>
                                      obtain ⟨k2, q1, q2, q3⟩ := (HM0.out d).1 (List.mem_of_getElem? hd)
                                      have e : k2 = sk := by
                                        by_cases e : k2 = sk
                                        · exact e
                                        · exact absurd (by rw [q3, hdn, z2]) (HI0.out.1.dif k2 sk q1 hsk e q2 z1)
                                      subst e
                                      rw [q3] at z3
                                      exact ⟨d, kk, hd, hdn, rfl, z3, by rw [← q3]; exact (HI0.out.1.ok k2 q1).tr⟩
                                    | none hno => exact absurd z2 (hno _ hmem)
                                obtain ⟨hue, hdo⟩ := hue
                                subst hr
                                have HUE := hide hue
                                have hust : u.st = d.st := by rw [hue]
                                have hkn : kk < n0 := by have := (List.getElem?_eq_some_iff.1 hd).1; have := HN0.out; omega
                                have hkni : (kk : Int) < (n0 : Int) := by omega
                                have hgb : (g == 0) = true := by simp [hg1]
                                have hgd : decide (0 < g) = false := by simp; omega
                                have hkz : decide ((kk : Int) < 0) = false := by simp
                                have HDM := hide hd
                                have hco := hdo.co
                                have hsp := hdo.sp
                                have hdx := hdo.x
                                have hdy := hdo.y
                                have hda := hdo.ag
                                obtain ⟨co, hcoe⟩ : ∃ c : Nat, d.co = c := ⟨d.co.toNat, by omega⟩
                                have HCE := hide hcoe
                                have hcl : co < 4096 := by omega
                                have hwa : IntKind.i64.wrap (d.ag + 1) = d.ag + 1 := by rw [IntKind.wrap_i64]; omega
                                have cb2 := cellKeep HBv.out cb
                                have hbr2 := hbr.below HBv.out
                                obtain ⟨gd, e, hrd⟩ := hbr2.get HN0.out.symm hd
                                subst e
                                obtain ⟨d0, d1, d2, d3, d4, d5, d6⟩ := hrd.tt
                                have HGB := hide hgb
                                have HUS := hide hust
                                clear hd hdn hue hdo hg0 hg1 hrd hbr2 hcoe hgb hust hgr
                                obtain ⟨z0, z1, z2, z3, z4, z5, z6⟩ := HZ.out.tt
                                simp only [Nat.zero_add] at z1 z2 z3 z4 z5 z6
                                have zf := HZ.out.f
                                as_aux_lemma =>
                                  go_upto_region 43 with fail
                                  go_upto_region 45 with fail
                                  go_upto_region 46 with fail
                                  rw [show (((((((w2z.setCell ⟨z, 0, none⟩ (.int .i64 d.num)).setCell ⟨z, 1, none⟩ (.int .i64 d.x)).setCell ⟨z, 2, none⟩ (.int .i64 d.y)).setCell ⟨z, 3, none⟩ (.int .i64 d.co)).setCell ⟨z, 4, none⟩ (.int .i64 d.sp)).setCell ⟨z, 5, none⟩ (.int .i64 d.st)).setCell ⟨z, 6, none⟩ (.int .i64 d.ag)) = w2z.setCells z 0 (Trk.vals d) from rfl]
                                  have HZ2 := hide (HZ.out.fill (us := Trk.vals d) rfl)
                                  have HBv2 := hide (bel_sets (vs := Trk.vals d) 0 HBv.out hzv)
                                  clear z0 z1 z2 z3 z4 z5 z6 zf
                                  clear HZ HBv d0 d1 d2 d3 d4 d5 d6 cb2
                                  generalize w2z.setCells z 0 (Trk.vals d) = w4z at *
                                  have HZ := HZ2
                                  have HBv := HBv2
                                  clear HZ2 HBv2
                                  obtain ⟨z0, z1, z2, z3, z4, z5, z6⟩ := HZ.out.tt
                                  simp only [Nat.zero_add] at z1 z2 z3 z4 z5 z6
                                  have zf := HZ.out.f
                                  as_aux_lemma =>
                                    rw [HCE.out] at z3
                                    go_wp2_with fail
                                    refine (adv_any _ m dX dY (HL.out.below HBv.out).mt d.x d.y d.sp co hcl hdx.1 hdx.2 hdy.1 hdy.2 hsp.1 hsp.2).mono ?_
                                    rintro e w5z ⟨rfl, nn, hw5⟩
                                    subst hw5
                                    replace HZ := hide (HZ.out.drewN nn)
                                    replace HBv := hide (lec HBv.out (belN _ nn))
                                    clear z0 z1 z2 z3 z4 z5 z6 zf
                                    generalize World.drewN _ nn = w5z at *
                                    obtain ⟨mx, hmx⟩ : ∃ v, mapP (d.x + d.sp * dX co / 1073741824) = v := ⟨_, rfl⟩
                                    obtain ⟨my, hmy⟩ : ∃ v, mapP (d.y + d.sp * dY co / 1073741824) = v := ⟨_, rfl⟩
                                    have HUF := hide (show u = { d with x := mx, y := my, ag := d.ag + 1 } by
                                      have h1 := HUE.out
                                      rw [HCE.out, Int.toNat_natCast, hmx, hmy] at h1
                                      rw [HCE.out]
                                      exact h1)
                                    rw [hmx, hmy]
                                    clear hmx hmy
                                    obtain ⟨z0, z1, z2, z3, z4, z5, z6⟩ := HZ.out.tt
                                    simp only [Nat.zero_add] at z1 z2 z3 z4 z5 z6
                                    have zf := HZ.out.f
                                    go_upto_region 47 with fail
                                    have HZ2 := hide ((HZ.out.put (k := 1) (.int .i64 mx) (by rw [Trk.len]; omega)).put (k := 2) (.int .i64 my) (by rw [List.length_set, Trk.len]; omega))
                                    have HBv2 := hide ((HBv.out.setCell (p := ⟨z, 1, none⟩) hzv (.int .i64 mx)).setCell (p := ⟨z, 2, none⟩) hzv (.int .i64 my))
                                    clear z0 z1 z2 z3 z4 z5 z6 zf
                                    clear HZ HBv
                                    simp only [Nat.zero_add] at HZ2
                                    generalize (w5z.setCell ⟨z, 1, none⟩ (.int .i64 mx)).setCell ⟨z, 2, none⟩ (.int .i64 my) = w6z at *
                                    as_aux_lemma =>
                                      have HZ := hide (show RA w6z z 0 (Trk.vals { d with x := mx, y := my }) from HZ2.out)
                                      have HBv := HBv2
                                      clear HZ2 HBv2
                                      obtain ⟨z0, z1, z2, z3, z4, z5, z6⟩ := HZ.out.tt
                                      simp only [Nat.zero_add] at z1 z2 z3 z4 z5 z6
                                      have zf := HZ.out.f
                                      go_upto_region 48 with fail
                                      have HZ2 := hide (HZ.out.put (k := 6) (.int .i64 (d.ag + 1)) (by rw [Trk.len]; omega))
                                      have HBv2 := hide (HBv.out.setCell (p := ⟨z, 6, none⟩) hzv (.int .i64 (d.ag + 1)))
                                      clear z0 z1 z2 z3 z4 z5 z6 zf
                                      clear HZ HBv
                                      simp only [Nat.zero_add] at HZ2
                                      generalize w6z.setCell ⟨z, 6, none⟩ (.int .i64 (d.ag + 1)) = w7z at *
                                      as_aux_lemma =>
                                        have HZ := hide (show RA w7z z 0 (Trk.vals { d with x := mx, y := my, ag := d.ag + 1 }) from HZ2.out)
                                        have HBv := HBv2
                                        clear HZ2 HBv2
                                        as_aux_lemma =>
                                          obtain ⟨gu2, e, hru⟩ := (HR.out.below HBv.out).get HN1.out.symm HUI.out
                                          cases e
                                          obtain ⟨v0, v1, v2, v3, v4, v5, v6⟩ := hru.tt
                                          clear hru
                                          obtain ⟨z0, z1, z2, z3, z4, z5, z6⟩ := HZ.out.tt
                                          simp only [Nat.zero_add] at z1 z2 z3 z4 z5 z6
                                          have zf := HZ.out.f
                                          go_upto_region 49 with fail
                                          have HZ2 := hide (HZ.out.put (k := 0) (.int .i64 u.num) (by rw [Trk.len]; omega))
                                          have HBv2 := hide (HBv.out.setCell (p := ⟨z, 0, none⟩) hzv (.int .i64 u.num))
                                          clear z0 z1 z2 z3 z4 z5 z6 zf
                                          clear v0 v1 v2 v3 v4 v5 v6 HZ HBv
                                          simp only [Nat.zero_add, Nat.add_zero] at HZ2
                                          generalize w7z.setCell ⟨z, 0, none⟩ (.int .i64 u.num) = we1 at *
                                          as_aux_lemma =>
                                            have HZ := hide (show RA we1 z 0 (Trk.vals { ({ d with x := mx, y := my, ag := d.ag + 1 } : Trk) with num := u.num }) from HZ2.out)
                                            have HBv := HBv2
                                            clear HZ2 HBv2
                                            obtain ⟨gu2, e, hru⟩ := (HR.out.below HBv.out).get HN1.out.symm HUI.out
                                            cases e
                                            obtain ⟨v0, v1, v2, v3, v4, v5, v6⟩ := hru.tt
                                            clear hru
                                            obtain ⟨z0, z1, z2, z3, z4, z5, z6⟩ := HZ.out.tt
                                            simp only [Nat.zero_add] at z1 z2 z3 z4 z5 z6
                                            have zf := HZ.out.f
                                            go_upto_region 50 with fail
                                            have HZ2 := hide (HZ.out.put (k := 5) (.int .i64 u.st) (by rw [Trk.len]; omega))
                                            have HBv2 := hide (HBv.out.setCell (p := ⟨z, 5, none⟩) hzv (.int .i64 u.st))
                                            clear z0 z1 z2 z3 z4 z5 z6 zf
                                            clear v0 v1 v2 v3 v4 v5 v6 HZ HBv
                                            simp only [Nat.zero_add] at HZ2
                                            generalize we1.setCell ⟨z, 5, none⟩ (.int .i64 u.st) = we2 at *
                                            as_aux_lemma =>
                                              have HZ := hide (show RA we2 z 0 (Trk.vals u) by have := HZ2.out; rw [show ((Trk.vals { ({ d with x := mx, y := my, ag := d.ag + 1 } : Trk) with num := u.num }).set 5 (.int .i64 u.st)) = Trk.vals u from (by rw [HUF.out]; rfl)] at this; exact this)
                                              have HBv := HBv2
                                              clear HZ2 HBv2
                                              obtain ⟨gu2, e, hru⟩ := (HR.out.below HBv.out).get HN1.out.symm HUI.out
                                              cases e
                                              obtain ⟨v0, v1, v2, v3, v4, v5, v6⟩ := hru.tt
                                              clear hru
                                              obtain ⟨z0, z1, z2, z3, z4, z5, z6⟩ := HZ.out.tt
                                              simp only [Nat.zero_add] at z1 z2 z3 z4 z5 z6
                                              have zf := HZ.out.f
                                              have cb2 := cellKeep HBv.out cb
                                              have hbr2 := hbr.below HBv.out
                                              obtain ⟨gd2, e, hrd⟩ := hbr2.get HN0.out.symm HDM.out
                                              cases e
                                              obtain ⟨d0, d1, d2, d3, d4, d5, d6⟩ := hrd.tt
                                              clear hrd hbr2
                                              have hsb : (u.st != d.st) = false := by simp [HUS.out]
                                              have hgb := HGB.out
                                              go_quiet (fail)
                                              as_aux_lemma =>
                                                go_upto_region 52 with fail
                                                as_aux_lemma =>
                                                  go_quiet (fail)
                                                  as_aux_lemma =>
                                                    clear v0 v1 v2 v3 v4 v5 v6
                                                    clear z0 z1 z2 z3 z4 z5 z6 zf
                                                    go_wp2
                                                    go_roundw
                                                    case rel => exact ⟨j + 1, by omega, by simp, (HL.out.below HBv.out).below (belN _ _), (HBF.out.below HBv.out).below (belN _ _), (HCN.out.below HBv.out).below (belN _ _), (HDA.out.below HBv.out).below (belN _ _), (HR.out.below HBv.out).below (belN _ _)⟩
                                                    case measure => simp [intOf]; omega
                          · have hjn1i : ¬ (j : Int) < (n1 : Int) := by omega
                            go_wp2
                            go_roundw
                            case rel => exact ⟨t + 1, by omega, by simp, HL.out, HBF.out, HCN.out, HDA.out⟩
                            case measure => simp [intOf]; omega
                · obtain rfl : t = 4 := by omega
                  rw [show ((4 : Nat) : Int) = 4 from rfl]
                  go_upto_region 54 with fail
                  obtain ⟨_, _, e, -, c0, c1, c2, c3, c4, c5, c6⟩ := HC.out _ HL.out.bel
                  cases e
                  go_wp2_with fail
                  refine (stepP_any _ q G HL.out.pa op HOK.out).mono ?_
                  rintro e w9 ⟨rfl, h1, h2⟩
                  have HLe := hide ((HL.out.pend h2 h1 (pst_ok op HL.out.gk)).mono (N' := 1 + 112 * ((k + 1 : Nat) : Int)) (by omega))
                  clear c0 c1 c2 c3 c4 c5 c6 h1 h2 HL
                  go_wp2
                  go_roundw
                  case rel => exact ⟨k + 1, _, _, _, by omega, by simp, HLe.out⟩
                  case measure => simp [intOf]; omega
        · have hkb : (op.kd == 2) = false := by simp [hkd]
          clear hkd
          go_upto_region 54 with fail
          clear c0 c1 c2 c3 c4 c5 c6
          obtain ⟨_, _, e, -, c0, c1, c2, c3, c4, c5, c6⟩ := HC.out _ HL2.out.bel
          cases e
          go_wp2_with fail
          refine (stepP_any _ q G HL2.out.pa op HOK.out).mono ?_
          rintro e w9 ⟨rfl, h1, h2⟩
          have HLe := hide ((HL2.out.pend h2 h1 (pst_ok op HL2.out.gk)).mono (N' := 1 + 112 * ((k + 1 : Nat) : Int)) (by omega))
          clear c0 c1 c2 c3 c4 c5 c6 h1 h2 HL2
          go_wp2
          go_roundw
          case rel => exact ⟨k + 1, _, _, _, by omega, by simp, HLe.out⟩
          case measure => simp [intOf]; omega
      · obtain rfl : k = n := by omega
        have hlti : ¬ (k : Int) < (k : Int) := by omega
        go_wp2
        go_ret
        exact ⟨rfl, HL.out.bel⟩
  · go_enter Try.func5, Try.ntmps5
    go_wp2_with fail
    refine (small_any _ a n cap hn).mono ?_
    rintro e w' ⟨rfl, ew⟩
    rw [ew]
    have hd : decide (n ≤ 65536) = false := by simpa using hsm
    rw [hd]
    clear hd ew w'
    go_wp2
    go_ret
    exact ⟨rfl, Below.refl _ _⟩
end Go.Proofs.Qxb6500777a
