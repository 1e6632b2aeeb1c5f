import Derived.Test.Qxb6500777aTsQ
import Derived.Test.Qxb6500777aLkP
import Derived.Test.Qxb6500777aLfP
namespace Go.Proofs.Qxb6500777a
open Go.RowKit

theorem own_base {w : World} {B B' e s n : Nat} {v : Value} {xs : List Value} (h : w.ownsRow B' e s v n xs) (hb : B ≤ B') : w.ownsRow B e s v n xs := by
  obtain ⟨h1, h2⟩ := h
  refine ⟨h1, ?_⟩
  rcases h2 with z | ⟨g, cap, cur, a, b, c⟩
  · exact .inl z
  · exact .inr ⟨g, cap, cur, a, by omega, c⟩
/-- Four tables in block x, whose rows lie from B on. -/
structure BF (w : World) (x B : Nat) (L : Nat → List Trk) : Prop where
  c : ∀ i, i < 4 → ∃ a c, w.cell? ⟨x, i, none⟩ = some (.slice a (L i).length c) ∧ TRow w B (.slice a (L i).length c) (L i)
  f : ∀ j, w.frozen? ⟨x, j, none⟩ = false
  lt : x < B
section
variable {w w' : World} {x B : Nat} {L : Nat → List Trk}
theorem BF.xl (h : BF w x B L) : x < w.heap.size := by
  obtain ⟨a, c, h1, _⟩ := h.c 0 (by omega)
  exact World.block_lt_of_cell? _ _ h1
theorem BF.below (h : BF w x B L) (hb : Below w.heap.size w w') : BF w' x B L :=
  ⟨fun i hi => by obtain ⟨a, c, h1, h2⟩ := h.c i hi; exact ⟨a, c, cellKeep hb h1, h2.below hb⟩, fun j => (World.frozen?_of_block (hb.block x h.xl)).trans (h.f j), h.lt⟩
theorem BF.keep (h : BF w x B L) {b lo n : Nat} (k : Fr b lo n w w') (hx : x ≠ b) (hb : b < B) : BF w' x B L :=
  ⟨fun i hi => by obtain ⟨a, c, h1, h2⟩ := h.c i hi; exact ⟨a, c, k.ex.cell hx h1, own_kept h2 k.ex (fun g hg e => by have := (h2.lt g hg).1; omega)⟩, fun j => (k.ex.frozen hx h.xl).trans (h.f j), h.lt⟩
theorem BF.set (h : BF w x B L) {i : Nat} (hi : i < 4) {a : Option Addr} {c : Nat} {M : List Trk} (hr : TRow w B (.slice a M.length c) M) : BF (w.setCell ⟨x, i, none⟩ (.slice a M.length c)) x B (upd L i M) ∧ Fr x 0 4 w (w.setCell ⟨x, i, none⟩ (.slice a M.length c)) := by
  have k : Fr x 0 4 w (w.setCell ⟨x, i, none⟩ (.slice a M.length c)) := (Fr.refl _ _ _ _).set (by omega) (by omega) _
  have kr : ∀ {v : Value} {M : List Trk}, TRow w B v M → TRow (w.setCell ⟨x, i, none⟩ (.slice a (_ : List Trk).length c)) B v M := fun h2 => own_kept h2 k.ex (fun g hg e => by have := (h2.lt g hg).1; have := h.lt; omega)
  refine ⟨⟨fun j hj => ?_, fun j => by rw [set_frozen]; exact h.f j, h.lt⟩, k⟩
  by_cases e : j = i
  · subst e
    obtain ⟨a0, c0, h1, _⟩ := h.c j hj
    rw [upd_same]
    exact ⟨a, c, World.cell?_setCell_same _ _ _ h1, kr hr⟩
  · rw [upd_ne _ _ e]
    obtain ⟨a0, c0, h1, h2⟩ := h.c j hj
    refine ⟨a0, c0, ?_, kr h2⟩
    rw [World.cell?_setCell_other _ _ _ _ (by simp <;> omega)]
    exact h1
theorem new_bf (w : World) : BF (w.alloc (.cells #[.slice none 0 0, .slice none 0 0, .slice none 0 0, .slice none 0 0] 46)) w.heap.size (w.alloc (.cells #[.slice none 0 0, .slice none 0 0, .slice none 0 0, .slice none 0 0] 46)).heap.size (fun _ => []) := by
  refine ⟨fun i hi => ⟨none, 0, ?_, World.ownsRow_nil _ _ _ _⟩, fun j => by simp [go_sem], by simp⟩
  rcases (by omega : i = 0 ∨ i = 1 ∨ i = 2 ∨ i = 3) with rfl | rfl | rfl | rfl <;> simp [go_sem]
theorem BF.congr (h : BF w x B L) {M : Nat → List Trk} (e : ∀ i, i < 4 → L i = M i) : BF w x B M := ⟨fun i hi => by rw [← e i hi]; exact h.c i hi, h.f, h.lt⟩
end

theorem new_rt (w : World) (t : Trk) : RA (w.alloc (.cells #[.int .i64 t.num, .int .i64 t.x, .int .i64 t.y, .int .i64 t.co, .int .i64 t.sp, .int .i64 t.st, .int .i64 t.ag] 51)) w.heap.size 0 t.vals := by
  refine ⟨fun j v hv => ?_, fun j => by simp [go_sem]⟩
  have := new_cells w t.vals 51 j v hv
  rw [Addr.add_mid] at this
  exact this

set_option linter.unusedSimpArgs false in
set_option maxRecDepth 100000 in
set_option maxHeartbeats 16000000 in
theorem evictsOldest_walk (w : World) (a : Option Addr) (n cap : Nat) (f : Nat → Opn) (hn : n ≤ 9223372036854775807) (ho : OpsAt w a n f) :
    Calls Try.prog 11 #[.slice a n cap] w fun e w' => e = .returned (.bool true) ∧ Below w.heap.size w w' := by
  have HO := hide ho
  clear ho
  by_cases hsm : n ≤ 65536
  · go_enter Try.func11, Try.ntmps11
    go_wp2_with fail
    refine (small_any _ a n cap hn).mono ?_
    rintro e w' ⟨rfl, ew⟩
    rw [ew]
    have hd : decide (n ≤ 65536) = true := by simpa using hsm
    rw [hd]
    clear hd ew w'
    go_wp2_with fail
    refine (newW_any _).mono ?_
    rintro e wn1 ⟨rfl, h1, b1⟩
    obtain ⟨p, hp⟩ : ∃ x, w.heap.size = x := ⟨_, rfl⟩
    rw [hp] at h1 ⊢
    have hgep : w.heap.size ≤ p := by omega
    have hltp : p < wn1.heap.size := h1.lt
    have hsz1 := b1.size
    have Kw := hide h1
    have KB := hide b1
    clear h1 b1 hp
    go_wp2_with fail
    refine (newP_any _).mono ?_
    rintro e wn2 ⟨rfl, h1, b1⟩
    obtain ⟨q, hq⟩ : ∃ x, wn1.heap.size = x := ⟨_, rfl⟩
    rw [hq] at h1 ⊢
    have hgeq : wn1.heap.size ≤ q := by omega
    have hltq : q < wn2.heap.size := h1.lt
    have hsz2 := b1.size
    replace Kw := hide (Kw.out.below b1)
    have Kp := hide h1
    replace KB := hide (lec KB.out b1)
    clear h1 b1 hq
    go_wp2_with fail
    refine (newT_any _).mono ?_
    rintro e wn3 ⟨rfl, h1, b1⟩
    obtain ⟨m, hm⟩ : ∃ x, wn2.heap.size = x := ⟨_, rfl⟩
    rw [hm] at h1 ⊢
    have hgem : wn2.heap.size ≤ m := by omega
    have hltm : m < wn3.heap.size := h1.lt
    have hsz3 := b1.size
    replace Kw := hide (Kw.out.below b1)
    replace Kp := hide (Kp.out.below b1)
    have Kt := hide h1
    replace KB := hide (lec KB.out b1)
    clear h1 b1 hm
    go_wp2_with fail
    refine (newB_any _ m).mono ?_
    rintro e wn4 ⟨b, rfl, hbg, h1, b1⟩
    have hgeb : wn3.heap.size ≤ b := hbg
    have hltb : b < wn4.heap.size := h1.lt
    have hsz4 := b1.size
    replace Kw := hide (Kw.out.below b1)
    replace Kp := hide (Kp.out.below b1)
    replace Kt := hide (Kt.out.below b1)
    have Kb := hide h1
    replace KB := hide (lec KB.out b1)
    clear h1 b1 hbg
    have HL := hide (show LS w wn4 m p q b (fun _ => tgt0) (fun _ => 0) (fun _ => tbl0) 1 from ⟨Kt.out, Kw.out, Kp.out, Kb.out, ⟨fun _ _ => tbl0_ok, fun _ _ => Int.le_refl 1⟩, fun _ _ => tgt0_ok, fun _ => ⟨Int.le_refl 0, by show (0 : Int) ≤ 3; omega⟩, KB.out, by omega, by omega⟩)
    clear Kt Kw Kp Kb KB
    clear hgem hgep hgeq hgeb hltm hltp hltq hltb hsz1 hsz2 hsz3 hsz4
    go_wp2
    go_loopw [6, 7, 8, 9, 10, 11, 12, 13, 14, 15] (fun s6 _ _ _ _ _ _ _ _ _ wr => ∃ (k : Nat) (W : Nat → Tgt) (G : Nat → Int) (TT : Nat → Tbl), k ≤ n ∧ s6 = .int .i64 k ∧ LS w wr m p q b W G TT (1 + 112 * (k : Int))) (fun s6 _ _ _ _ _ _ _ _ _ _ => n - (intOf s6).toNat)
    case atStart => exact ⟨0, _, _, _, Nat.zero_le _, rfl, HL.out⟩
    case round =>
      clear HL
      obtain ⟨k, W, G, TT, hk, rfl, hl⟩ := hrel
      have HL := hide hl
      clear hl
      by_cases hlt : k < n
      · have hlti : (k : Int) < (n : Int) := by omega
        obtain ⟨sb, off, rfl, hok, -⟩ := HO.out.at hlt
        have HC := hide (show ∀ wx, Below w.heap.size w wx → _ from fun wx hb => (HO.out.below hb).at hlt)
        obtain ⟨op, hop⟩ : ∃ op, f k = op := ⟨_, rfl⟩
        rw [hop] at hok HC
        have HOK := hide hok
        clear hok hop
        obtain ⟨_, _, e, -, c0, c1, c2, c3, c4, c5, c6⟩ := HC.out _ HL.out.bel
        cases e
        go_wp2_with fail
        refine (stepW_any _ p W HL.out.wr op HOK.out).mono ?_
        rintro e w2 ⟨rfl, h1, h2⟩
        have HL2 := hide (HL.out.world h2 h1 (wst_ok op HL.out.wo))
        clear c0 c1 c2 c3 c4 c5 c6 h1 h2 HL
        obtain ⟨W', hW'⟩ : ∃ W', wstP W op = W' := ⟨_, rfl⟩
        rw [hW'] at HL2
        clear hW'
        obtain ⟨_, _, e, -, c0, c1, c2, c3, c4, c5, c6⟩ := HC.out _ HL2.out.bel
        cases e
        have HL0 := hide (show m < w2.heap.size ∧ p < w2.heap.size ∧ q < w2.heap.size ∧ b < w2.heap.size ∧ w.heap.size ≤ w2.heap.size from ⟨HL2.out.mt.lt, HL2.out.wr.lt, HL2.out.pa.lt, HL2.out.bd.lt, HL2.out.bel.size⟩)
        by_cases hkd : op.kd = 2
        · have hkb : (op.kd == 2) = true := by simp [hkd]
          clear hkd
          go_upto_region 12 with fail
          have HBF := hide (new_bf w2)
          replace HL2 := hide (HL2.out.below (be1 w2 (.cells #[.slice none 0 0, .slice none 0 0, .slice none 0 0, .slice none 0 0] 46)))
          have HBL := hide (show b < (w2.alloc (.cells #[.slice none 0 0, .slice none 0 0, .slice none 0 0, .slice none 0 0] 46)).heap.size from HL2.out.bd.lt)
          have HXN := hide (show m ≠ w2.heap.size ∧ p ≠ w2.heap.size ∧ q ≠ w2.heap.size ∧ b ≠ w2.heap.size ∧ w.heap.size ≤ w2.heap.size from ⟨by have := HL2.out.mt.lt; have := HL0.out.1; omega, by have := HL0.out.2.1; omega, by have := HL0.out.2.2.1; omega, by have := HL0.out.2.2.2.1; omega, HL0.out.2.2.2.2⟩)
          clear c0 c1 c2 c3 c4 c5 c6
          obtain ⟨B, hB⟩ : ∃ B, (w2.alloc (.cells #[.slice none 0 0, .slice none 0 0, .slice none 0 0, .slice none 0 0] 46)).heap.size = B := ⟨_, rfl⟩
          have hBg : B ≤ (w2.alloc (.cells #[.slice none 0 0, .slice none 0 0, .slice none 0 0, .slice none 0 0] 46)).heap.size := by omega
          rw [hB] at HBF HBL
          clear hB
          generalize w2.alloc (.cells #[.slice none 0 0, .slice none 0 0, .slice none 0 0, .slice none 0 0] 46) = w3 at *
          generalize w2.heap.size = x at *
          have HBG := hide hBg
          clear hBg
          go_wp2
          go_loopw [8] (fun s8 wy => ∃ t : Nat, t ≤ 4 ∧ s8 = .int .i64 t ∧ LS w wy m p q b W' G TT (1 + 112 * (k : Int)) ∧ BF wy x B (fun i => if i < t then tabN (TT i) 64 else []) ∧ B ≤ wy.heap.size) (fun s8 _ => 4 - (intOf s8).toNat)
          case atStart => exact ⟨0, by omega, rfl, HL2.out, HBF.out.congr (fun i _ => by rw [if_neg (by omega)]), HBG.out⟩
          case round =>
            clear HL2 HBF HBG
            obtain ⟨t, ht, rfl, hl, hbf, hbg⟩ := hrel
            have HL := hide hl
            have HBF := hide hbf
            have HBG := hide hbg
            clear hl hbf hbg
            by_cases ht4 : t < 4
            · have ht4i : (t : Int) < 4 := by omega
              go_wp2_with fail
              refine (table_any _ b t ht4 (TT t) (HL.out.bd.ta t ht4)).mono ?_
              rintro e w4 ⟨ta, tc, rfl, hr, hb⟩
              replace HL := hide (HL.out.below hb)
              replace HBF := hide (HBF.out.below hb)
              have HS := hide (HBF.out.set ht4 (own_base hr HBG.out : TRow w4 B _ _))
              replace HBG := hide (Nat.le_trans HBG.out hb.size)
              obtain ⟨a0, c0, cc0, _⟩ := HBF.out.c t ht4
              have f0 := HBF.out.f t
              have HL3 := hide (HL.out.other HS.out.2 HXN.out.1 HXN.out.2.1 HXN.out.2.2.1 HXN.out.2.2.2.1 HXN.out.2.2.2.2)
              have HBG2 := hide (Nat.le_trans HBG.out HS.out.2.ex.size)
              clear hr hb HL HBF
              go_wp2
              go_roundw
              case rel => exact ⟨t + 1, by omega, by simp, HL3.out, HS.out.1.congr (fun i hi => by
                by_cases e : i = t
                · subst e; rw [upd_same, if_pos (by omega)]
                · rw [upd_ne _ _ e]
                  by_cases z : i < t
                  · rw [if_pos z, if_pos (by omega)]
                  · rw [if_neg z, if_neg (by omega)]), HBG2.out⟩
              case measure => simp [intOf]; omega
            · obtain rfl : t = 4 := by omega
              rw [show ((4 : Nat) : Int) = 4 from rfl]
              replace HBF := hide (HBF.out.congr (M := fun i => tabN (TT i) 64) (fun i hi => by rw [if_pos hi]))
              go_upto_region 16 with fail
              go_wp2_with fail
              refine (list_any _ q G HL.out.pa).mono ?_
              rintro e w5 ⟨da, dc, rfl, hdr, hb⟩
              have HDG := hide (show ∀ g off, da = some ⟨g, off, none⟩ → g < w5.heap.size ∧ g ≠ b from fun g off e => ⟨(hdr.da.2 g off e).2, by have := (hdr.da.2 g off e).1; have := HL.out.bd.lt; omega⟩)
              replace HL := hide (HL.out.below hb)
              replace HBF := hide (HBF.out.below hb)
              have HDA := hide hdr.da.1
              have hdl : (lsN G 1792).length ≤ 1792 := lsN_len G 1792
              clear hdr hb HBG
              go_wp2_with fail
              refine (tick_any _ b m p dX dY W' da _ dc (lsN G 1792) TT (1 + 112 * (k : Int)) HL.out.bd HL.out.ti (by omega) HL.out.mt HL.out.ne.2.2.1 HDA.out rfl (by omega) HDG.out HL.out.wr.wa HL.out.ne.2.2.2.2.1 HL.out.wo).mono ?_
              rintro e w6 ⟨TT', rfl, hbd, hti, htr, hfr⟩
              have HTP := hide (show ∀ t : Nat, t < 4 → ∃ T3, TickP (fuseP (lsN G 1792) (t : Int)) W' dX dY (TT t) T3 (TT' t) from fun t ht => TickR.parts (HL.out.ti.tk t ht) (by have := HL.out.ti.nx t ht; omega) (fuse_rng _ _) HL.out.wo (htr t ht))
              have HT0 := hide (show ∀ t, t < 4 → TInv (TT t) from fun t ht => (HL.out.ti.tk t ht).inv)
              replace HL := hide (HL.out.board hfr hbd hti)
              replace HBF := hide (HBF.out.keep hfr (Ne.symm HXN.out.2.2.2.1) HBL.out)
              have HT1 := hide (show ∀ t, t < 4 → TInv (TT' t) from fun t ht => (HL.out.ti.tk t ht).inv)
              clear hbd hti htr hfr HDA HDG
              go_wp2
              go_loopw [9, 10, 11, 12, 13, 14, 15] (fun s9 _ _ _ _ _ _ wy => ∃ t : Nat, t ≤ 4 ∧ s9 = .int .i64 t ∧ LS w wy m p q b W' G TT' (1 + 112 * (k : Int) + 112) ∧ BF wy x B (fun i => tabN (TT i) 64)) (fun s9 _ _ _ _ _ _ _ => 4 - (intOf s9).toNat)
              case atStart => exact ⟨0, by omega, rfl, HL.out, HBF.out⟩
              case round =>
                clear HL HBF
                obtain ⟨t, ht, rfl, hl, hbf⟩ := hrel
                have HL := hide hl
                have HBF := hide hbf
                clear hl hbf
                by_cases ht4 : t < 4
                · have ht4i : (t : Int) < 4 := by omega
                  obtain ⟨T3, htp⟩ := HTP.out t ht4
                  have HP := hide htp
                  have HI0 := hide (HT0.out t ht4)
                  have HI1 := hide (HT1.out t ht4)
                  clear htp
                  have HTA := hide (show ∀ wx, LS w wx m p q b W' G TT' (1 + 112 * (k : Int) + 112) → TA wx b (1 + t * 754) (TT' t) from fun wx h => h.bd.ta t ht4)
                  have HBT := hide (show ∀ wx, BF wx x B (fun i => tabN (TT i) 64) → ∃ a c, wx.cell? ⟨x, t, none⟩ = some (.slice a (tabN (TT t) 64).length c) ∧ TRow wx B (.slice a (tabN (TT t) 64).length c) (tabN (TT t) 64) from fun wx h => h.c t ht4)
                  obtain ⟨T, hT⟩ : ∃ T, TT t = T := ⟨_, rfl⟩
                  obtain ⟨T', hT'⟩ : ∃ T, TT' t = T := ⟨_, rfl⟩
                  rw [hT] at HP HI0 HBT
                  rw [hT'] at HP HI1 HTA
                  clear hT hT'
                  have HM0 := hide (show ∀ d, d ∈ tabN T 64 ↔ ∃ k, k < 64 ∧ (T.sl k).used = true ∧ (T.sl k).tr = d from fun d => tab_mem 64 d)
                  have hl0 : (tabN T 64).length ≤ 64 := tab_le 64
                  obtain ⟨L0, hL0⟩ : ∃ L, tabN T 64 = L := ⟨_, rfl⟩
                  rw [hL0] at HM0 HBT hl0
                  clear hL0
                  have HM1 := hide (show ∀ d, d ∈ tabN T' 64 ↔ ∃ k, k < 64 ∧ (T'.sl k).used = true ∧ (T'.sl k).tr = d from fun d => tab_mem 64 d)
                  have hl1 : (tabN T' 64).length ≤ 64 := tab_le 64
                  go_wp2_with fail
                  refine (table_any _ b t ht4 T' (HTA.out _ HL.out)).mono ?_
                  rintro e w7 ⟨ta, tc, rfl, hr, hb⟩
                  obtain ⟨L1, hL1⟩ : ∃ L, tabN T' 64 = L := ⟨_, rfl⟩
                  rw [hL1] at HM1 hl1 hr ⊢
                  clear hL1
                  obtain ⟨n1, hn1⟩ : ∃ n, L1.length = n := ⟨_, rfl⟩
                  rw [hn1] at hl1 hr ⊢
                  have HN1 := hide hn1
                  clear hn1
                  obtain ⟨n0, hn0⟩ : ∃ n, L0.length = n := ⟨_, rfl⟩
                  rw [hn0] at hl0 HBT
                  have HN0 := hide hn0
                  clear hn0
                  replace HL := hide (HL.out.below hb)
                  replace HBF := hide (HBF.out.below hb)
                  obtain ⟨B1, HR⟩ : ∃ B1, Hid (TRow w7 B1 (.slice ta n1 tc) L1) := ⟨_, hide hr⟩
                  clear hr hb
                  go_wp2
                  go_loopw [11, 12, 13, 14, 15] (fun s11 _ _ _ _ wy => ∃ i : Nat, i ≤ n1 ∧ s11 = .int .i64 i ∧ LS w wy m p q b W' G TT' (1 + 112 * (k : Int) + 112) ∧ BF wy x B (fun i => tabN (TT i) 64) ∧ TRow wy B1 (.slice ta n1 tc) L1) (fun s11 _ _ _ _ _ => n1 - (intOf s11).toNat)
                  case atStart => exact ⟨0, by omega, rfl, HL.out, HBF.out, HR.out⟩
                  case round =>
                    clear HL HBF HR
                    obtain ⟨i, hi, rfl, hl, hbf, hr⟩ := hrel
                    have HL := hide hl
                    have HBF := hide hbf
                    have HR := hide hr
                    clear hl hbf hr
                    by_cases hin : i < n1
                    · have hini : (i : Int) < (n1 : Int) := by omega
                      obtain ⟨u, hu⟩ : ∃ u, L1[i]? = some u := ⟨_, List.getElem?_eq_getElem (by have := HN1.out; omega)⟩
                      have HU := hide ((HM1.out u).1 (List.mem_of_getElem? hu))
                      have HUI := hide hu
                      have hua : 0 ≤ u.ag ∧ u.ag ≤ 30 := by obtain ⟨z, z1, z2, rfl⟩ := HU.out; exact (HI1.out.ok z z1).tr.ag
                      clear hu
                      go_wp2
                      go_loopw [12, 13, 14, 15] (fun s12 s13 s14 _ wy => ∃ (j : Nat) (pe lo : Bool), j ≤ n0 ∧ s14 = .int .i64 j ∧ s12 = .bool pe ∧ s13 = .bool lo ∧ Hid (pe = true → ∃ g, GoneB T T' g ∧ u.ag = g.ag + 1 ∧ u.st = g.st) ∧ Hid (∀ g ∈ L0.take j, GoneB T T' g → u.ag = g.ag + 1 → u.st = g.st → g.num < u.num → lo = true) ∧ LS w wy m p q b W' G TT' (1 + 112 * (k : Int) + 112) ∧ BF wy x B (fun i => tabN (TT i) 64) ∧ TRow wy B1 (.slice ta n1 tc) L1) (fun _ _ s14 _ _ => n0 - (intOf s14).toNat)
                      case atStart => exact ⟨0, false, false, by omega, rfl, rfl, rfl, hide (fun z => by cases z), hide (fun g hg => by simp at hg), HL.out, HBF.out, HR.out⟩
                      case round =>
                        clear HL HBF HR
                        obtain ⟨j, pe, lo, hj, rfl, rfl, rfl, HPE, HLO, hl, hbf, hr⟩ := hrel
                        have HL := hide hl
                        have HBF := hide hbf
                        have HR := hide hr
                        clear hl hbf hr
                        obtain ⟨ba, bc, cb, hbr⟩ := HBT.out _ HBF.out
                        by_cases hjn : j < n0
                        · have hjni : (j : Int) < (n0 : Int) := by omega
                          obtain ⟨g, hg⟩ : ∃ g, L0[j]? = some g := ⟨_, List.getElem?_eq_getElem (by have := HN0.out; omega)⟩
                          have HGM := hide ((HM0.out g).1 (List.mem_of_getElem? hg))
                          have hga : 0 ≤ g.ag ∧ g.ag ≤ 30 := by obtain ⟨z, z1, z2, rfl⟩ := HGM.out; exact (HI0.out.ok z z1).tr.ag
                          have HTK := hide (show L0.take (j + 1) = L0.take j ++ [g] by rw [List.take_add_one, hg]; rfl)
                          obtain ⟨gb, e, hra⟩ := hbr.get HN0.out.symm hg
                          subst e
                          obtain ⟨d0, d1, d2, d3, d4, d5, d6⟩ := hra.tt
                          clear hg hra hbr
                          have hwg : IntKind.i64.wrap (g.ag + 1) = g.ag + 1 := by rw [IntKind.wrap_i64]; omega
                          go_upto_region 30 with fail
                          replace HL := hide (HL.out.below (be1 wr (.cells #[.int .i64 g.num, .int .i64 g.x, .int .i64 g.y, .int .i64 g.co, .int .i64 g.sp, .int .i64 g.st, .int .i64 g.ag] 51)))
                          replace HBF := hide (HBF.out.below (be1 wr (.cells #[.int .i64 g.num, .int .i64 g.x, .int .i64 g.y, .int .i64 g.co, .int .i64 g.sp, .int .i64 g.st, .int .i64 g.ag] 51)))
                          replace HR := hide (HR.out.below (be1 wr (.cells #[.int .i64 g.num, .int .i64 g.x, .int .i64 g.y, .int .i64 g.co, .int .i64 g.sp, .int .i64 g.st, .int .i64 g.ag] 51)))
                          have HY := hide (new_rt wr g)
                          generalize wr.alloc (.cells #[.int .i64 g.num, .int .i64 g.x, .int .i64 g.y, .int .i64 g.co, .int .i64 g.sp, .int .i64 g.st, .int .i64 g.ag] 51) = w8 at *
                          generalize wr.heap.size = y at *
                          clear d0 d1 d2 d3 d4 d5 d6 cb
                          obtain ⟨y0, y1, y2, y3, y4, y5, y6⟩ := HY.out.tt
                          simp only [Nat.zero_add] at y1 y2 y3 y4 y5 y6
                          go_wp2_with fail
                          refine (find_any _ B1 n1 tc ta L1 HR.out HN1.out.symm hl1 g.num).mono ?_
                          rintro e w9 ⟨r, rfl, hf, rfl⟩
                          by_cases hr0 : 0 ≤ r
                          · have hrb : decide (0 ≤ r) = true := by simp [hr0]
                            have HNG := hide (show ¬ GoneB T T' g from fun z => by
                              cases hf with
                              | some kk d hd hdn =>
                                obtain ⟨z1, z2, z3, z4⟩ := (HM1.out d).1 (List.mem_of_getElem? hd)
                                exact z.2.1 z1 z2 z3 (by rw [z4]; exact hdn)
                              | none _ => omega)
                            clear hf hr0
                            have HLO2 := hide (show ∀ g ∈ L0.take (j + 1), GoneB T T' g → u.ag = g.ag + 1 → u.st = g.st → g.num < u.num → lo = true from fun z hz a b c d => by
                              rw [HTK.out, List.mem_append] at hz
                              rcases hz with hz | hz
                              · exact HLO.out z hz a b c d
                              · rw [List.mem_singleton] at hz; subst hz; exact absurd a HNG.out)
                            go_wp2
                            go_roundw
                            case rel => exact ⟨j + 1, pe, lo, by omega, by simp, rfl, rfl, HPE, HLO2, HL.out, HBF.out, HR.out⟩
                            case measure => simp [intOf]; omega
                          · have hrb : decide (0 ≤ r) = false := by simp; omega
                            have HNO := hide (show NoN T' g.num from fun z z1 z2 e => by
                              cases hf with
                              | some kk d hd hdn => omega
                              | none hno => exact hno _ ((HM1.out _).2 ⟨z, z1, z2, rfl⟩) e)
                            clear hf hr0
                            by_cases h30 : 30 ≤ g.ag + 1
                            · have h30b : decide (30 ≤ g.ag + 1) = true := by simp [h30]
                              have HNG := hide (show ¬ GoneB T T' g from fun z => by have := z.2.2; omega)
                              clear h30
                              have HLO2 := hide (show ∀ g ∈ L0.take (j + 1), GoneB T T' g → u.ag = g.ag + 1 → u.st = g.st → g.num < u.num → lo = true from fun z hz a b c d => by
                                rw [HTK.out, List.mem_append] at hz
                                rcases hz with hz | hz
                                · exact HLO.out z hz a b c d
                                · rw [List.mem_singleton] at hz; subst hz; exact absurd a HNG.out)
                              go_wp2
                              go_roundw
                              case rel => exact ⟨j + 1, pe, lo, by omega, by simp, rfl, rfl, HPE, HLO2, HL.out, HBF.out, HR.out⟩
                              case measure => simp [intOf]; omega
                            · have h30b : decide (30 ≤ g.ag + 1) = false := by simp; omega
                              have HGB := hide (show GoneB T T' g from ⟨HGM.out, HNO.out, by omega⟩)
                              obtain ⟨e1, e2, -⟩ := evicts_ok HI0.out HP.out HU.out HGB.out
                              obtain ⟨gu, e, hru⟩ := HR.out.get HN1.out.symm HUI.out
                              subst e
                              obtain ⟨v0, v1, v2, v3, v4, v5, v6⟩ := hru.tt
                              have hag1 : decide (g.ag + 1 < u.ag) = false := by simp; omega
                              clear hru h30
                              go_upto_region 31 with fail
                              by_cases hae : u.ag = g.ag + 1
                              · have haeb : (u.ag == g.ag + 1) = true := by simp [hae]
                                have hst := e2 hae
                                have hstb : decide (u.st < g.st) = false := by simp; omega
                                have HAE := hide hae
                                clear hae e1 e2
                                go_quiet (fail)
                                go_upto_region 33 with fail
                                by_cases hse : u.st = g.st
                                · have hseb : (u.st == g.st) = true := by simp [hse]
                                  have HSE := hide hse
                                  clear hse hst hstb
                                  go_quiet (fail)
                                  have HPE2 := hide (show true = true → ∃ g, GoneB T T' g ∧ u.ag = g.ag + 1 ∧ u.st = g.st from fun _ => ⟨g, HGB.out, HAE.out, HSE.out⟩)
                                  go_upto_region 35 with fail
                                  by_cases hnn : g.num < u.num
                                  · have hnb : decide (g.num < u.num) = true := by simp [hnn]
                                    clear hnn
                                    go_quiet (fail)
                                    clear y0 y1 y2 y3 y4 y5 y6 v0 v1 v2 v3 v4 v5 v6
                                    go_wp2
                                    go_roundw
                                    case rel => exact ⟨j + 1, true, true, by omega, by simp, rfl, rfl, HPE2, hide fun _ _ _ _ _ _ => rfl, HL.out.drewN _, HBF.out.below (belN _ _), HR.out.drewN _⟩
                                    case measure => simp [intOf]; omega
                                  · have hnb : decide (g.num < u.num) = false := by simp; omega
                                    have HLO2 := hide (show ∀ g ∈ L0.take (j + 1), GoneB T T' g → u.ag = g.ag + 1 → u.st = g.st → g.num < u.num → lo = true from fun z hz a b c d => by
                                      rw [HTK.out, List.mem_append] at hz
                                      rcases hz with hz | hz
                                      · exact HLO.out z hz a b c d
                                      · rw [List.mem_singleton] at hz; subst hz; omega)
                                    clear hnn
                                    go_quiet (fail)
                                    clear y0 y1 y2 y3 y4 y5 y6 v0 v1 v2 v3 v4 v5 v6
                                    go_wp2
                                    go_roundw
                                    case rel => exact ⟨j + 1, true, lo, by omega, by simp, rfl, rfl, HPE2, HLO2, HL.out.drewN _, HBF.out.below (belN _ _), HR.out.drewN _⟩
                                    case measure => simp [intOf]; omega
                                · have hseb : (u.st == g.st) = false := by simp [hse]
                                  have HSE := hide hse
                                  clear hse hst hstb
                                  go_quiet (fail)
                                  have HLO2 := hide (show ∀ g ∈ L0.take (j + 1), GoneB T T' g → u.ag = g.ag + 1 → u.st = g.st → g.num < u.num → lo = true from fun z hz a b c d => by
                                    rw [HTK.out, List.mem_append] at hz
                                    rcases hz with hz | hz
                                    · exact HLO.out z hz a b c d
                                    · rw [List.mem_singleton] at hz; subst hz; exact absurd c HSE.out)
                                  clear y0 y1 y2 y3 y4 y5 y6 v0 v1 v2 v3 v4 v5 v6
                                  go_wp2
                                  go_roundw
                                  case rel => exact ⟨j + 1, pe, lo, by omega, by simp, rfl, rfl, HPE, HLO2, HL.out.drewN _, HBF.out.below (belN _ _), HR.out.drewN _⟩
                                  case measure => simp [intOf]; omega
                              · have haeb : (u.ag == g.ag + 1) = false := by simp [hae]
                                have HAE := hide hae
                                have HLO2 := hide (show ∀ g ∈ L0.take (j + 1), GoneB T T' g → u.ag = g.ag + 1 → u.st = g.st → g.num < u.num → lo = true from fun z hz a b c d => by
                                  rw [HTK.out, List.mem_append] at hz
                                  rcases hz with hz | hz
                                  · exact HLO.out z hz a b c d
                                  · rw [List.mem_singleton] at hz; subst hz; exact absurd b HAE.out)
                                clear hae e1 e2
                                go_quiet (fail)
                                go_upto_region 33 with fail
                                go_quiet (fail)
                                clear y0 y1 y2 y3 y4 y5 y6 v0 v1 v2 v3 v4 v5 v6
                                go_wp2
                                go_roundw
                                case rel => exact ⟨j + 1, pe, lo, by omega, by simp, rfl, rfl, HPE, HLO2, HL.out.drewN _, HBF.out.below (belN _ _), HR.out.drewN _⟩
                                case measure => simp [intOf]; omega
                        · have hjni : ¬ (j : Int) < (n0 : Int) := by omega
                          have hfin : pe = true → lo = true := fun z => by
                            obtain ⟨g, g1, g2, g3⟩ := HPE.out z
                            obtain ⟨-, -, e3⟩ := evicts_ok HI0.out HP.out HU.out g1
                            obtain ⟨v, v1, v2, v3, v4⟩ := e3 g2 g3
                            refine HLO.out v ?_ v1 v2 v3 v4
                            rw [List.take_of_length_le (by have := HN0.out; omega)]
                            exact (HM0.out v).2 v1.1
                          cases pe
                          · clear hfin
                            go_wp2
                            go_roundw
                            case rel => exact ⟨i + 1, by omega, by simp, HL.out, HBF.out, HR.out⟩
                            case measure => simp [intOf]; omega
                          · obtain rfl := hfin rfl
                            clear hfin
                            go_wp2
                            go_roundw
                            case rel => exact ⟨i + 1, by omega, by simp, HL.out, HBF.out, HR.out⟩
                            case measure => simp [intOf]; omega
                    · have hini : ¬ (i : Int) < (n1 : Int) := by omega
                      go_wp2
                      go_roundw
                      case rel => exact ⟨t + 1, by omega, by simp, HL.out, HBF.out⟩
                      case measure => simp [intOf]; omega
                · obtain rfl : t = 4 := by omega
                  rw [show ((4 : Nat) : Int) = 4 from rfl]
                  go_upto_region 39 with fail
                  obtain ⟨_, _, e, -, c0, c1, c2, c3, c4, c5, c6⟩ := HC.out _ HL.out.bel
                  cases e
                  go_wp2_with fail
                  refine (stepP_any _ q G HL.out.pa op HOK.out).mono ?_
                  rintro e w9 ⟨rfl, h1, h2⟩
                  have HLe := hide ((HL.out.pend h2 h1 (pst_ok op HL.out.gk)).mono (N' := 1 + 112 * ((k + 1 : Nat) : Int)) (by omega))
                  clear c0 c1 c2 c3 c4 c5 c6 h1 h2 HL
                  go_wp2
                  go_roundw
                  case rel => exact ⟨k + 1, _, _, _, by omega, by simp, HLe.out⟩
                  case measure => simp [intOf]; omega
        · have hkb : (op.kd == 2) = false := by simp [hkd]
          clear hkd
          go_upto_region 39 with fail
          clear c0 c1 c2 c3 c4 c5 c6
          obtain ⟨_, _, e, -, c0, c1, c2, c3, c4, c5, c6⟩ := HC.out _ HL2.out.bel
          cases e
          go_wp2_with fail
          refine (stepP_any _ q G HL2.out.pa op HOK.out).mono ?_
          rintro e w9 ⟨rfl, h1, h2⟩
          have HLe := hide ((HL2.out.pend h2 h1 (pst_ok op HL2.out.gk)).mono (N' := 1 + 112 * ((k + 1 : Nat) : Int)) (by omega))
          clear c0 c1 c2 c3 c4 c5 c6 h1 h2 HL2
          go_wp2
          go_roundw
          case rel => exact ⟨k + 1, _, _, _, by omega, by simp, HLe.out⟩
          case measure => simp [intOf]; omega
      · obtain rfl : k = n := by omega
        have hlti : ¬ (k : Int) < (k : Int) := by omega
        go_wp2
        go_ret
        exact ⟨rfl, HL.out.bel⟩
  · go_enter Try.func11, Try.ntmps11
    go_wp2_with fail
    refine (small_any _ a n cap hn).mono ?_
    rintro e w' ⟨rfl, ew⟩
    rw [ew]
    have hd : decide (n ≤ 65536) = false := by simpa using hsm
    rw [hd]
    clear hd ew w'
    go_wp2
    go_ret
    exact ⟨rfl, Below.refl _ _⟩
end Go.Proofs.Qxb6500777a
