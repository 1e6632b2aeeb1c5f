import Derived.Test.Qxb6500777aSgP
import Derived.Test.Qxb6500777aEvW
namespace Go.Proofs.Qxb6500777a
open Go.RowKit

theorem Try.info3 : (Try.prog.info? 3).map (fun i => (i.zero, i.size, i.bytes)) = some (some (.int .i64 0), 1, 8) := by kernel_rfl
/-- Whole numbers behind an address, from block B on. -/
def IR (w : World) (B : Nat) (a : Option Addr) (R : List Int) : Prop := ∀ (j : Nat) (v : Int), R[j]? = some v → ∃ g, a = some ⟨g, 0, none⟩ ∧ B ≤ g ∧ w.cell? ⟨g, j, none⟩ = some (.int .i64 v)
theorem IR.keep {w w' : World} {B : Nat} {a : Option Addr} {R : List Int} (h : IR w B a R) {S : Nat → Prop} (e : Ex S w w') (hs : ∀ g, S g → g < B) : IR w' B a R := fun j v hv => by
  obtain ⟨g, h1, h2, h3⟩ := h j v hv
  exact ⟨g, h1, h2, e.cell (fun z => by have := hs g z; omega) h3⟩
theorem IR.below {w w' : World} {B : Nat} {a : Option Addr} {R : List Int} (h : IR w B a R) (hb : Below w.heap.size w w') : IR w' B a R := h.keep (Ex.of (S := fun _ => False) hb) (fun _ e => e.elim)
/-- Four rows of numbers in block y. -/
structure RN (w : World) (y B : Nat) (R : Nat → List Int) : Prop where
  c : ∀ i, i < 4 → ∃ a c, w.cell? ⟨y, i, none⟩ = some (.slice a (R i).length c) ∧ IR w B a (R i)
  f : ∀ j, w.frozen? ⟨y, j, none⟩ = false
  lt : y < B
section
variable {w w' : World} {y B : Nat} {R : Nat → List Int}
theorem RN.xl (h : RN w y B R) : y < w.heap.size := by
  obtain ⟨a, c, h1, _⟩ := h.c 0 (by omega)
  exact World.block_lt_of_cell? _ _ h1
theorem RN.below (h : RN w y B R) (hb : Below w.heap.size w w') : RN w' y B R :=
  ⟨fun i hi => by obtain ⟨a, c, h1, h2⟩ := h.c i hi; exact ⟨a, c, cellKeep hb h1, h2.below hb⟩, fun j => (World.frozen?_of_block (hb.block y h.xl)).trans (h.f j), h.lt⟩
theorem RN.keep (h : RN w y B R) {b lo n : Nat} (k : Fr b lo n w w') (hx : y ≠ b) (hb : b < B) : RN w' y B R :=
  ⟨fun i hi => by obtain ⟨a, c, h1, h2⟩ := h.c i hi; exact ⟨a, c, k.ex.cell hx h1, h2.keep k.ex (fun g e => by rw [e]; exact hb)⟩, fun j => (k.ex.frozen hx h.xl).trans (h.f j), h.lt⟩
theorem RN.set (h : RN w y B R) {i : Nat} (hi : i < 4) {a : Option Addr} {c : Nat} {M : List Int} {n : Nat} (hn : n = M.length) (hr : IR w B a M) : RN (w.setCell ⟨y, i, none⟩ (.slice a n c)) y B (upd R i M) ∧ Fr y 0 4 w (w.setCell ⟨y, i, none⟩ (.slice a n c)) := by
  have k : Fr y 0 4 w (w.setCell ⟨y, i, none⟩ (.slice a n c)) := (Fr.refl _ _ _ _).set (by omega) (by omega) _
  refine ⟨⟨fun j hj => ?_, fun j => by rw [set_frozen]; exact h.f j, h.lt⟩, k⟩
  by_cases e : j = i
  · subst e
    obtain ⟨a0, c0, h1, _⟩ := h.c j hj
    rw [upd_same, ← hn]
    exact ⟨a, c, World.cell?_setCell_same _ _ _ h1, hr.keep k.ex (fun g e => by rw [e]; exact h.lt)⟩
  · rw [upd_ne _ _ e]
    obtain ⟨a0, c0, h1, h2⟩ := h.c j hj
    refine ⟨a0, c0, ?_, h2.keep k.ex (fun g e => by rw [e]; exact h.lt)⟩
    rw [World.cell?_setCell_other _ _ _ _ (by simp <;> omega)]
    exact h1
theorem new_rn (w : World) : RN (w.alloc (.cells #[.slice none 0 0, .slice none 0 0, .slice none 0 0, .slice none 0 0] 48)) w.heap.size (w.heap.size + 1) (fun _ => []) := by
  refine ⟨fun i hi => ⟨none, 0, ?_, fun j v hv => by simp at hv⟩, fun j => by simp [go_sem], by omega⟩
  rcases (by omega : i = 0 ∨ i = 1 ∨ i = 2 ∨ i = 3) with rfl | rfl | rfl | rfl <;> simp [go_sem]
theorem new_bf3 (w : World) : BF ((w.alloc (.cells #[.slice none 0 0, .slice none 0 0, .slice none 0 0, .slice none 0 0] 46)).alloc (.cells #[.slice none 0 0, .slice none 0 0, .slice none 0 0, .slice none 0 0] 48)) w.heap.size (w.heap.size + 1 + 1) (fun _ => []) := by
  have h := (new_bf w).below (be1 _ (.cells #[.slice none 0 0, .slice none 0 0, .slice none 0 0, .slice none 0 0] 48))
  refine ⟨fun i hi => ⟨none, 0, ?_, World.ownsRow_nil _ _ _ _⟩, h.f, by omega⟩
  refine cellKeep (be1 _ _) ?_
  rcases (by omega : i = 0 ∨ i = 1 ∨ i = 2 ∨ i = 3) with rfl | rfl | rfl | rfl <;> simp [go_sem]
/-- The row of counts that is being filled. -/
structure CR (w : World) (cb n : Nat) (F : Nat → Int) : Prop where
  c : ∀ i, i < n → w.cell? ⟨cb, i, none⟩ = some (.int .i64 (F i))
  f : ∀ j, w.frozen? ⟨cb, j, none⟩ = false
theorem new_cr (w : World) (n : Nat) : CR (w.alloc (.cells (madeCells #[.int .i64 0] n) 3)) w.heap.size n (fun _ => 0) := by
  have h := World.rowIs_made w (.int .i64 0) n 3
  exact ⟨fun i hi => h.cell hi, fun j => by simp [go_sem]⟩
theorem CR.set {w : World} {cb n : Nat} {F : Nat → Int} (h : CR w cb n F) {i : Nat} (hi : i < n) (u : Int) : CR (w.setCell ⟨cb, i, none⟩ (.int .i64 u)) cb n (upd F i u) := by
  refine ⟨fun j hj => ?_, fun j => by rw [set_frozen]; exact h.f j⟩
  by_cases e : j = i
  · subst e; rw [upd_same]; exact World.cell?_setCell_same _ _ _ (h.c j hj)
  · rw [upd_ne _ _ e, World.cell?_setCell_other _ _ _ _ (by simp <;> omega)]; exact h.c j hj
end
theorem CR.dr {w : World} {cb n : Nat} {F : Nat → Int} (h : CR w cb n F) : CR w.drew cb n F := ⟨h.c, h.f⟩
/-- The streaks, in the order of the table. -/
structure RunOk (T : Tbl) (L : List Trk) (R : List Int) : Prop where
  len : R.length = L.length
  at' : ∀ (j : Nat) (d : Trk), L[j]? = some d → ∃ k, k < 64 ∧ (T.sl k).used = true ∧ (T.sl k).tr = d ∧ R[j]? = some (T.sl k).sk
theorem tab0 : tabN tbl0 64 = [] := by
  have h := tab_len (T := tbl0) 64
  have e : cntU tbl0.sl 64 = 0 := tbl0_ok.inv.cnt.symm
  rw [e] at h
  exact List.length_eq_zero_iff.1 (by omega)

set_option linter.unusedSimpArgs false in
set_option maxRecDepth 100000 in
set_option maxHeartbeats 16000000 in
theorem stageRule_walk (w : World) (a : Option Addr) (n cap : Nat) (f : Nat → Opn) (hn : n ≤ 9223372036854775807) (ho : OpsAt w a n f) :
    Calls Try.prog 4 #[.slice a n cap] w fun e w' => e = .returned (.bool true) ∧ Below w.heap.size w w' := by
  have HO := hide ho
  clear ho
  by_cases hsm : n ≤ 65536
  · go_enter Try.func4, Try.ntmps4
    go_wp2_with fail
    refine (small_any _ a n cap hn).mono ?_
    rintro e w' ⟨rfl, ew⟩
    rw [ew]
    have hd : decide (n ≤ 65536) = true := by simpa using hsm
    rw [hd]
    clear hd ew w'
    go_wp2_with fail
    refine (newW_any _).mono ?_
    rintro e wn1 ⟨rfl, h1, b1⟩
    obtain ⟨p, hp⟩ : ∃ x, w.heap.size = x := ⟨_, rfl⟩
    rw [hp] at h1 ⊢
    have hgep : w.heap.size ≤ p := by omega
    have hltp : p < wn1.heap.size := h1.lt
    have hsz1 := b1.size
    have Kw := hide h1
    have KB := hide b1
    clear h1 b1 hp
    go_wp2_with fail
    refine (newP_any _).mono ?_
    rintro e wn2 ⟨rfl, h1, b1⟩
    obtain ⟨q, hq⟩ : ∃ x, wn1.heap.size = x := ⟨_, rfl⟩
    rw [hq] at h1 ⊢
    have hgeq : wn1.heap.size ≤ q := by omega
    have hltq : q < wn2.heap.size := h1.lt
    have hsz2 := b1.size
    replace Kw := hide (Kw.out.below b1)
    have Kp := hide h1
    replace KB := hide (lec KB.out b1)
    clear h1 b1 hq
    go_wp2_with fail
    refine (newT_any _).mono ?_
    rintro e wn3 ⟨rfl, h1, b1⟩
    obtain ⟨m, hm⟩ : ∃ x, wn2.heap.size = x := ⟨_, rfl⟩
    rw [hm] at h1 ⊢
    have hgem : wn2.heap.size ≤ m := by omega
    have hltm : m < wn3.heap.size := h1.lt
    have hsz3 := b1.size
    replace Kw := hide (Kw.out.below b1)
    replace Kp := hide (Kp.out.below b1)
    have Kt := hide h1
    replace KB := hide (lec KB.out b1)
    clear h1 b1 hm
    go_wp2_with fail
    refine (newB_any _ m).mono ?_
    rintro e wn4 ⟨b, rfl, hbg, h1, b1⟩
    have hgeb : wn3.heap.size ≤ b := hbg
    have hltb : b < wn4.heap.size := h1.lt
    have hsz4 := b1.size
    replace Kw := hide (Kw.out.below b1)
    replace Kp := hide (Kp.out.below b1)
    replace Kt := hide (Kt.out.below b1)
    have Kb := hide h1
    replace KB := hide (lec KB.out b1)
    clear h1 b1 hbg
    have HL := hide (show LS w wn4 m p q b (fun _ => tgt0) (fun _ => 0) (fun _ => tbl0) 1 from ⟨Kt.out, Kw.out, Kp.out, Kb.out, ⟨fun _ _ => tbl0_ok, fun _ _ => Int.le_refl 1⟩, fun _ _ => tgt0_ok, fun _ => ⟨Int.le_refl 0, by show (0 : Int) ≤ 3; omega⟩, KB.out, by omega, by omega⟩)
    clear Kt Kw Kp Kb KB
    go_upto_region 8 with fail
    have HBF := hide (new_bf3 wn4)
    have hbs : wn4.heap.size + 1 + 1 ≤ ((wn4.alloc (.cells #[.slice none 0 0, .slice none 0 0, .slice none 0 0, .slice none 0 0] 46)).alloc (.cells #[.slice none 0 0, .slice none 0 0, .slice none 0 0, .slice none 0 0] 48)).heap.size := by simp
    have HRN := hide (new_rn (wn4.alloc (.cells #[.slice none 0 0, .slice none 0 0, .slice none 0 0, .slice none 0 0] 46)))
    have hz : (wn4.alloc (.cells #[.slice none 0 0, .slice none 0 0, .slice none 0 0, .slice none 0 0] 46)).heap.size = wn4.heap.size + 1 := by simp
    rw [hz] at HRN
    replace HL := hide (HL.out.below (be2 wn4 (.cells #[.slice none 0 0, .slice none 0 0, .slice none 0 0, .slice none 0 0] 46) (.cells #[.slice none 0 0, .slice none 0 0, .slice none 0 0, .slice none 0 0] 48)))
    clear hz
    generalize (wn4.alloc (.cells #[.slice none 0 0, .slice none 0 0, .slice none 0 0, .slice none 0 0] 46)).alloc (.cells #[.slice none 0 0, .slice none 0 0, .slice none 0 0, .slice none 0 0] 48) = w1 at *
    obtain ⟨B, hB⟩ : ∃ B, wn4.heap.size + 1 + 1 = B := ⟨_, rfl⟩
    obtain ⟨y, hy⟩ : ∃ y, wn4.heap.size + 1 = y := ⟨_, rfl⟩
    obtain ⟨x, hx⟩ : ∃ x, wn4.heap.size = x := ⟨_, rfl⟩
    have HXN := hide (show m ≠ x ∧ p ≠ x ∧ q ≠ x ∧ b ≠ x ∧ w.heap.size ≤ x by omega)
    have HYN := hide (show m ≠ y ∧ p ≠ y ∧ q ≠ y ∧ b ≠ y ∧ w.heap.size ≤ y by omega)
    have HXY := hide (show x ≠ y ∧ x < B ∧ y < B ∧ b < B ∧ p < B ∧ q < B by omega)
    rw [hB] at HBF HRN hbs
    rw [hy] at HRN ⊢
    rw [hx] at HBF ⊢
    clear hB hy hx hgem hgep hgeq hgeb hltm hltp hltq hltb hsz1 hsz2 hsz3 hsz4
    have HB0 := hide (show BF w1 x B (fun i => tabN ((fun _ => tbl0) i) 64) from HBF.out.congr (fun i _ => tab0.symm))
    have HST := hide (show ∀ i, i < 4 → RunOk tbl0 (tabN tbl0 64) [] ∧ St3 tbl0 from fun i _ => ⟨⟨by rw [tab0]; rfl, fun j d hd => by rw [tab0] at hd; simp at hd⟩, fun k _ hu => by cases hu⟩)
    have HBG := hide (show B ≤ w1.heap.size from hbs)
    clear HBF
    go_wp2
    go_loopw [8, 9, 10, 11, 12, 13, 14, 15, 16, 17] (fun s8 _ _ _ _ _ _ _ _ _ wy => ∃ (k : Nat) (W : Nat → Tgt) (G : Nat → Int) (TT : Nat → Tbl) (R : Nat → List Int), k ≤ n ∧ s8 = .int .i64 k ∧ LS w wy m p q b W G TT (1 + 112 * (k : Int)) ∧ BF wy x B (fun i => tabN (TT i) 64) ∧ RN wy y B R ∧ Hid (∀ i, i < 4 → RunOk (TT i) (tabN (TT i) 64) (R i) ∧ St3 (TT i)) ∧ B ≤ wy.heap.size) (fun s8 _ _ _ _ _ _ _ _ _ _ => n - (intOf s8).toNat)
    case atStart => exact ⟨0, _, _, _, _, Nat.zero_le _, rfl, HL.out, HB0.out, HRN.out, HST, HBG.out⟩
    case round =>
      clear HL HB0 HRN HST HBG
      obtain ⟨k, W, G, TT, R, hk, rfl, hl, hbf, hrn, HST, hbg⟩ := hrel
      have HL := hide hl
      clear hl
      have HBF := hide hbf
      have HRN := hide hrn
      have HBG := hide hbg
      clear hbf hrn hbg
      by_cases hlt : k < n
      · have hlti : (k : Int) < (n : Int) := by omega
        obtain ⟨sb, off, rfl, hok, -⟩ := HO.out.at hlt
        have HC := hide (show ∀ wx, Below w.heap.size w wx → _ from fun wx hb => (HO.out.below hb).at hlt)
        obtain ⟨op, hop⟩ : ∃ op, f k = op := ⟨_, rfl⟩
        rw [hop] at hok HC
        have HOK := hide hok
        clear hok hop
        obtain ⟨_, _, e, -, c0, c1, c2, c3, c4, c5, c6⟩ := HC.out _ HL.out.bel
        cases e
        go_wp2_with fail
        refine (stepW_any _ p W HL.out.wr op HOK.out).mono ?_
        rintro e w2 ⟨rfl, h1, h2⟩
        have HL2 := hide (HL.out.world h2 h1 (wst_ok op HL.out.wo))
        replace HBF := hide (HBF.out.keep h2 (Ne.symm HXN.out.2.1) HXY.out.2.2.2.2.1)
        replace HRN := hide (HRN.out.keep h2 (Ne.symm HYN.out.2.1) HXY.out.2.2.2.2.1)
        replace HBG := hide (Nat.le_trans HBG.out h2.ex.size)
        clear c0 c1 c2 c3 c4 c5 c6 h1 h2 HL
        obtain ⟨W', hW'⟩ : ∃ W', wstP W op = W' := ⟨_, rfl⟩
        rw [hW'] at HL2
        clear hW'
        obtain ⟨_, _, e, -, c0, c1, c2, c3, c4, c5, c6⟩ := HC.out _ HL2.out.bel
        cases e
        by_cases hkd : op.kd = 2
        · as_aux_lemma =>
            have hkb : (op.kd == 2) = true := by simp [hkd]
            clear hkd
            go_wp2_with fail
            refine (list_any _ q G HL2.out.pa).mono ?_
            rintro e w3 ⟨da, dc, rfl, hdr, hb⟩
            clear c0 c1 c2 c3 c4 c5 c6
            have HDG := hide (show ∀ g off, da = some ⟨g, off, none⟩ → g < w3.heap.size ∧ g ≠ b ∧ g ≠ x ∧ g ≠ y from fun g off e => ⟨(hdr.da.2 g off e).2, by have := (hdr.da.2 g off e).1; have := HL2.out.bd.lt; have := HBF.out.xl; have := HRN.out.xl; omega⟩)
            have HL := hide (HL2.out.below hb)
            replace HBF := hide (HBF.out.below hb)
            replace HRN := hide (HRN.out.below hb)
            replace HBG := hide (Nat.le_trans HBG.out hb.size)
            have HDA := hide hdr.da.1
            have hdl : (lsN G 1792).length ≤ 1792 := lsN_len G 1792
            clear hdr hb HL2
            go_wp2_with fail
            refine (tick_any _ b m p dX dY W' da _ dc (lsN G 1792) TT (1 + 112 * (k : Int)) HL.out.bd HL.out.ti (by omega) HL.out.mt HL.out.ne.2.2.1 HDA.out rfl (by omega) (fun g off e => ⟨(HDG.out g off e).1, (HDG.out g off e).2.1⟩) HL.out.wr.wa HL.out.ne.2.2.2.2.1 HL.out.wo).mono ?_
            rintro e w6 ⟨TT', rfl, hbd, hti, htr, hfr⟩
            have HTP := hide (show ∀ t : Nat, t < 4 → ∃ T3, TickP (fuseP (lsN G 1792) (t : Int)) W' dX dY (TT t) T3 (TT' t) from fun t ht => TickR.parts (HL.out.ti.tk t ht) (by have := HL.out.ti.nx t ht; omega) (fuse_rng _ _) HL.out.wo (htr t ht))
            have HT0 := hide (show ∀ t, t < 4 → TInv (TT t) from fun t ht => (HL.out.ti.tk t ht).inv)
            replace HL := hide (HL.out.board hfr hbd hti)
            replace HBF := hide (HBF.out.keep hfr (Ne.symm HXN.out.2.2.2.1) HXY.out.2.2.2.1)
            replace HRN := hide (HRN.out.keep hfr (Ne.symm HYN.out.2.2.2.1) HXY.out.2.2.2.1)
            replace HDA := hide (HDA.out.keep hfr.ex (fun g off e => (HDG.out g off e).2.1))
            replace HBG := hide (Nat.le_trans HBG.out hfr.ex.size)
            have HT1 := hide (show ∀ t, t < 4 → TkI (TT' t) from fun t ht => HL.out.ti.tk t ht)
            clear hbd hti htr hfr
            go_wp2
            go_loopw [10, 11, 12, 13, 14, 15, 16, 17] (fun s10 _ _ _ _ _ _ _ wy => ∃ (t : Nat) (Rn : Nat → List Int), t ≤ 4 ∧ s10 = .int .i64 t ∧ LS w wy m p q b W' G TT' (1 + 112 * (k : Int) + 112) ∧ BF wy x B (fun i => tabN (if i < t then TT' i else TT i) 64) ∧ RN wy y B Rn ∧ Hid (∀ i, i < t → RunOk (TT' i) (tabN (TT' i) 64) (Rn i)) ∧ Hid (∀ i, t ≤ i → Rn i = R i) ∧ DA wy da (lsN G 1792) ∧ B ≤ wy.heap.size) (fun s10 _ _ _ _ _ _ _ _ => 4 - (intOf s10).toNat)
            case atStart => exact ⟨0, R, by omega, rfl, HL.out, HBF.out.congr (fun i _ => by rw [if_neg (by omega)]), HRN.out, hide (fun i hi => by omega), hide (fun _ _ => rfl), HDA.out, HBG.out⟩
            case round =>
              clear HL HBF HRN HDA HBG
              obtain ⟨t, Rn, ht, rfl, hl, hbf, hrn, HRL, HRH, hda, hbg⟩ := hrel
              have HL := hide hl
              have HBF := hide hbf
              have HRN := hide hrn
              have HDA := hide hda
              have HBG := hide hbg
              clear hl hbf hrn hda hbg
              by_cases ht4 : t < 4
              · have ht4i : (t : Int) < 4 := by omega
                obtain ⟨T3, htp⟩ := HTP.out t ht4
                have HP := hide htp
                have HI0 := hide (HT0.out t ht4)
                have HI1 := hide (HT1.out t ht4)
                have HRO := hide (HST.out t ht4).1
                have H3 := hide (HST.out t ht4).2
                clear htp
                have HTA := hide (show ∀ wx, LS w wx m p q b W' G TT' (1 + 112 * (k : Int) + 112) → TA wx b (1 + t * 754) (TT' t) from fun wx h => h.bd.ta t ht4)
                have HBT := hide (show ∀ wx, BF wx x B (fun i => tabN (if i < t then TT' i else TT i) 64) → ∃ a c, wx.cell? ⟨x, t, none⟩ = some (.slice a (tabN (TT t) 64).length c) ∧ TRow wx B (.slice a (tabN (TT t) 64).length c) (tabN (TT t) 64) from fun wx h => by have := h.c t ht4; rw [if_neg (by omega)] at this; exact this)
                have HRT := hide (show ∀ wx, RN wx y B Rn → ∃ a c, wx.cell? ⟨y, t, none⟩ = some (.slice a (R t).length c) ∧ IR wx B a (R t) from fun wx h => by have := h.c t ht4; rw [HRH.out t (Nat.le_refl _)] at this; exact this)
                have HTT := hide (show tabN (TT' t) 64 = tabN (TT' t) 64 from rfl)
                obtain ⟨T, hT⟩ : ∃ T, TT t = T := ⟨_, rfl⟩
                obtain ⟨T', hT'⟩ : ∃ T, TT' t = T := ⟨_, rfl⟩
                have HTE := hide hT'
                rw [hT] at HP HI0 HBT HRO H3
                rw [hT'] at HP HI1 HTA
                clear hT hT' HTT
                have HM0 := hide (show ∀ d, d ∈ tabN T 64 ↔ ∃ k, k < 64 ∧ (T.sl k).used = true ∧ (T.sl k).tr = d from fun d => tab_mem 64 d)
                have hl0 : (tabN T 64).length ≤ 64 := tab_le 64
                obtain ⟨L0, hL0⟩ : ∃ L, tabN T 64 = L := ⟨_, rfl⟩
                rw [hL0] at HM0 HBT hl0 HRO
                clear hL0
                obtain ⟨n0, hn0⟩ : ∃ n, L0.length = n := ⟨_, rfl⟩
                rw [hn0] at hl0 HBT
                have HN0 := hide hn0
                clear hn0
                have HM1 := hide (show ∀ d, d ∈ tabN T' 64 ↔ ∃ k, k < 64 ∧ (T'.sl k).used = true ∧ (T'.sl k).tr = d from fun d => tab_mem 64 d)
                have hl1 : (tabN T' 64).length ≤ 64 := tab_le 64
                go_wp2_with fail
                refine (table_any _ b t ht4 T' (HTA.out _ HL.out)).mono ?_
                rintro e w7 ⟨ta, tc, rfl, hr, hb⟩
                have HR := hide (show TRow w7 B (.slice ta (tabN T' 64).length tc) (tabN T' 64) from own_base hr HBG.out)
                replace HBG := hide (Nat.le_trans HBG.out hb.size)
                replace HL := hide (HL.out.below hb)
                replace HBF := hide (HBF.out.below hb)
                replace HRN := hide (HRN.out.below hb)
                replace HDA := hide (HDA.out.below hb)
                clear hr hb
                obtain ⟨L1, hL1⟩ : ∃ L, tabN T' 64 = L := ⟨_, rfl⟩
                have HL1 := hide hL1
                rw [hL1] at HM1 hl1 HR ⊢
                clear hL1
                obtain ⟨n1, hn1⟩ : ∃ n, L1.length = n := ⟨_, rfl⟩
                rw [hn1] at hl1 HR ⊢
                have HN1 := hide hn1
                clear hn1
                have hmk := run_make_row' (P := Try.prog) 47 3 (.int .i64 0) 8 Try.underlying47 Try.info3 rfl .i64 .i64 n1 (by omega) (by omega)
                go_upto_region 20 with fail
                clear hmk
                have HCR := hide (new_cr w7 n1)
                have HBv := hide (be1 w7 (.cells (madeCells #[.int .i64 0] n1) 3))
                generalize w7.alloc (.cells (madeCells #[.int .i64 0] n1) 3) = w8 at *
                obtain ⟨cb, hcb⟩ : ∃ c, w7.heap.size = c := ⟨_, rfl⟩
                have hcbv : w7.heap.size ≤ cb := by omega
                rw [hcb] at HCR ⊢
                clear hcb
                go_wp2
                go_loopw [13, 14, 15, 16, 17] (fun s13 _ _ _ _ wy => ∃ (j : Nat) (F : Nat → Int), j ≤ n1 ∧ s13 = .int .i64 j ∧ CR wy cb n1 F ∧ Below w7.heap.size w7 wy ∧ Hid (∀ (i : Nat) (d : Trk), i < j → L1[i]? = some d → ∃ k, k < 64 ∧ (T'.sl k).used = true ∧ (T'.sl k).tr = d ∧ F i = (T'.sl k).sk)) (fun s13 _ _ _ _ _ => n1 - (intOf s13).toNat)
                case atStart => exact ⟨0, _, by omega, rfl, HCR.out, HBv.out, hide (fun i d hi => by omega)⟩
                case round =>
                  clear HCR HBv
                  obtain ⟨j, F, hj, rfl, hcr, hbv, HFO⟩ := hrel
                  have HCR := hide hcr
                  have HBv := hide hbv
                  clear hcr hbv
                  by_cases hjn1 : j < n1
                  · as_aux_lemma =>
                      have hjn1i : (j : Int) < (n1 : Int) := by omega
                      obtain ⟨u, hu⟩ : ∃ u, L1[j]? = some u := ⟨_, List.getElem?_eq_getElem (by have := HN1.out; omega)⟩
                      have HUI := hide hu
                      obtain ⟨sk, hsk, hsu, hst⟩ := (HM1.out u).1 (List.mem_of_getElem? hu)
                      have HSO := hide (stage_ok HI0.out H3.out HP.out hsk hsu)
                      have HSU := hide hsu
                      have HST2 := hide hst
                      obtain ⟨g, hg⟩ : ∃ g, fuseP (lsN G 1792) (t : Int) (T'.sl sk).tg.toNat = g := ⟨_, rfl⟩
                      rw [hg] at HSO
                      have HGG := hide hg
                      clear hu hsu hst hg
                      obtain ⟨ba, bc, cbx, hbr⟩ := HBT.out _ HBF.out
                      have cf := fun w h => hide (find_any w B n0 bc ba L0 h HN0.out.symm hl0 u.num)
                      obtain ⟨gu, e, hru⟩ := (HR.out.below HBv.out).get HN1.out.symm HUI.out
                      subst e
                      have v0 := hru.tt.1
                      have zS := And.intro (cellKeep HBv.out cbx) v0
                      have HCX := hide cbx
                      clear hru cbx
                      go_upto_region 25 with fail
                      refine wp_region_held_drew (S := fun w' => w'.cell? ⟨x, t, none⟩ = some (.slice ba n0 bc) ∧ w'.cell? ⟨gu, j * 7, none⟩ = some (.int .i64 u.num)) (by kernel_rfl) zS (fun hHeld => ?_)
                      refine wpAnyH_take (i := 0) (v := ?_) rfl (by kernel_rfl) (by kernel_rfl) (by kernel_rfl) (fun _ _ _ h => h) (Or.inl ⟨by rfl, ?_⟩) (by assumption) ?_
                      rotate_left
                      · (intro w hSw; (try dsimp only at hSw); go_simp; try (with_reducible rfl))
                      try simp only [Act.put, List.getElem_toArray, List.getElem_cons_zero, List.getElem_cons_succ, List.setIfInBounds_toArray, List.set_cons_zero, List.set_cons_succ]
                      refine wpAnyH_take (i := 1) (v := ?_) rfl (by kernel_rfl) (by kernel_rfl) (by kernel_rfl) (fun _ _ _ h => h) (Or.inl ⟨by rfl, ?_⟩) (by assumption) ?_
                      rotate_left
                      · (intro w hSw; (try dsimp only at hSw); go_simp; try (with_reducible rfl))
                      try simp only [Act.put, List.getElem_toArray, List.getElem_cons_zero, List.getElem_cons_succ, List.setIfInBounds_toArray, List.set_cons_zero, List.set_cons_succ]
                      refine wpAnyH_take (i := 2) (v := ?_) rfl (by kernel_rfl) (by kernel_rfl) (by kernel_rfl) (fun _ _ _ h => h) (Or.inl ⟨by rfl, ?_⟩) (by assumption) ?_
                      rotate_left
                      · (intro w hSw; (try dsimp only at hSw); go_simp; try (with_reducible rfl))
                      try simp only [Act.put, List.getElem_toArray, List.getElem_cons_zero, List.getElem_cons_succ, List.setIfInBounds_toArray, List.set_cons_zero, List.set_cons_succ]
                      refine wpAnyH_take (i := 3) (v := ?_) rfl (by kernel_rfl) (by kernel_rfl) (by kernel_rfl) (fun _ _ _ h => h) (Or.inl ⟨by rfl, ?_⟩) (by assumption) ?_
                      rotate_left
                      · (intro w hSw; (try dsimp only at hSw); go_simp; try (with_reducible rfl))
                      try simp only [Act.put, List.getElem_toArray, List.getElem_cons_zero, List.getElem_cons_succ, List.setIfInBounds_toArray, List.set_cons_zero, List.set_cons_succ]
                      refine wpAnyH_take (i := 4) (v := ?_) rfl (by kernel_rfl) (by kernel_rfl) (by kernel_rfl) (fun _ _ _ h => h) (Or.inl ⟨by rfl, ?_⟩) (by assumption) ?_
                      rotate_left
                      · (intro w hSw; (try dsimp only at hSw); go_simp; try (with_reducible rfl))
                      try simp only [Act.put, List.getElem_toArray, List.getElem_cons_zero, List.getElem_cons_succ, List.setIfInBounds_toArray, List.set_cons_zero, List.set_cons_succ]
                      refine wpAnyH_take (i := 5) (v := ?_) rfl (by kernel_rfl) (by kernel_rfl) (by kernel_rfl) (fun _ _ _ h => h) (Or.inl ⟨by rfl, ?_⟩) (by assumption) ?_
                      rotate_left
                      · (intro w hSw; (try dsimp only at hSw); go_simp; try (with_reducible rfl))
                      try simp only [Act.put, List.getElem_toArray, List.getElem_cons_zero, List.getElem_cons_succ, List.setIfInBounds_toArray, List.set_cons_zero, List.set_cons_succ]
                      refine wpAnyH_take (i := 6) (v := ?_) rfl (by kernel_rfl) (by kernel_rfl) (by kernel_rfl) (fun _ _ _ h => h) (Or.inl ⟨by rfl, ?_⟩) (by assumption) ?_
                      rotate_left
                      · (intro w hSw; (try dsimp only at hSw); go_simp; try (with_reducible rfl))
                      try simp only [Act.put, List.getElem_toArray, List.getElem_cons_zero, List.getElem_cons_succ, List.setIfInBounds_toArray, List.set_cons_zero, List.set_cons_succ]
                      refine wpAnyH_take (i := 7) (v := ?_) rfl (by kernel_rfl) (by kernel_rfl) (by kernel_rfl) (fun _ _ _ h => h) (Or.inl ⟨by rfl, ?_⟩) (by assumption) ?_
                      rotate_left
                      · (intro w hSw; (try dsimp only at hSw); go_simp; try (with_reducible rfl))
                      try simp only [Act.put, List.getElem_toArray, List.getElem_cons_zero, List.getElem_cons_succ, List.setIfInBounds_toArray, List.set_cons_zero, List.set_cons_succ]
                      refine wpAnyH_ready (rs := [8]) (by kernel_rfl) (by simp) ?_
                      refine (AllReadyH.cons rfl (fun K hK => ?_) AllReadyH.nil)
                      · refine step_call rfl 27 #[.slice ba n0 bc, .int .i64 u.num] (by simp [go_sem]) (cf _ (hbr.below HBv.out.drew)).out ?_
                        rintro e w11 ⟨r, rfl, hf, rfl⟩
                        refine ⟨_, rfl, ?_⟩
                        refine hK.out _ _ ?_ (fun hHeld => ?_)
                        · (first | with_reducible exact zS | exact zS)
                        clear hK K
                        try simp only [Act.put, List.getElem_toArray, List.getElem_cons_zero, List.getElem_cons_succ, List.setIfInBounds_toArray, List.set_cons_zero, List.set_cons_succ]
                        refine wpAnyH_take (i := 9) (v := ?_) rfl (by kernel_rfl) (by kernel_rfl) (by kernel_rfl) (fun _ _ _ h => h) (Or.inl ⟨by rfl, ?_⟩) (by assumption) ?_
                        rotate_left
                        · (intro w hSw; (try dsimp only at hSw); go_simp; try (with_reducible rfl))
                        try simp only [Act.put, List.getElem_toArray, List.getElem_cons_zero, List.getElem_cons_succ, List.setIfInBounds_toArray, List.set_cons_zero, List.set_cons_succ]
                        refine wpAnyH_done (by kernel_rfl) ?_ _
                        replace HBv := hide HBv.out.drew
                        replace HCR := hide HCR.out.dr
                        clear zS cf v0
                        generalize World.drew _ = w12 at *
                        obtain ⟨gu2, e, hru⟩ := (HR.out.below HBv.out).get HN1.out.symm HUI.out
                        cases e
                        obtain ⟨v0, -, -, -, -, v5, -⟩ := hru.tt
                        clear hru
                        cases hf with
                        | some kk d hd hdn =>
                          as_aux_lemma =>
                            obtain ⟨k2, q1, q2, q3, q4⟩ := HRO.out.at' kk d hd
                            have hkn : kk < n0 := by have := (List.getElem?_eq_some_iff.1 hd).1; have := HN0.out; omega
                            have hkni : (kk : Int) < (n0 : Int) := by omega
                            obtain ⟨ws, rn, hcs, hS1, hS2⟩ := HSO.out
                            obtain ⟨hws, hrn⟩ : ws = d.st ∧ rn = (T.sl k2).sk := by
                              have hnum : (T.sl k2).tr.num = (T'.sl sk).tr.num := by rw [q3, hdn, HST2.out]
                              have hlt := (HI0.out.num k2 q1 q2).2
                              rcases hcs with ⟨a1, a2, a3, a4⟩ | ⟨a1, _⟩
                              · have e : k2 = sk := by
                                  by_cases e : k2 = sk
                                  · exact e
                                  · exact absurd (by rw [hnum, a2]) (HI0.out.dif k2 sk q1 hsk e q2 a1)
                                subst e
                                exact ⟨by rw [a3, q3], a4⟩
                              · omega
                            subst hws
                            have hstr := (HI0.out.ok k2 q1).tr.st
                            have hskr := (HI0.out.ok k2 q1).sk
                            rw [q3] at hstr hskr
                            rw [← hrn] at q4 hskr
                            have HS1 := hide hS1
                            have HS2 := hide hS2
                            have cb2 := cellKeep HBv.out HCX.out
                            have hbr2 := hbr.below HBv.out
                            obtain ⟨gd, e, hrd⟩ := hbr2.get HN0.out.symm hd
                            subst e
                            have d5 := hrd.tt.2.2.2.2.2.1
                            obtain ⟨ra, rc, cy, hir⟩ := HRT.out _ (HRN.out.below HBv.out)
                            rw [HRO.out.len, HN0.out] at cy
                            obtain ⟨rg, e, -, cr5⟩ := hir kk rn q4
                            subst e
                            obtain ⟨ws, hwse⟩ : ∃ z, d.st = z := ⟨_, rfl⟩
                            rw [hwse] at HS1 HS2 hstr hskr d5
                            clear hd hdn q1 q2 q3 q4 hcs hS1 hS2 hrn hrd hbr2 hir hwse
                            have hw1 : IntKind.i64.wrap (ws + 1) = ws + 1 := by rw [IntKind.wrap_i64]; omega
                            have hw2 : IntKind.i64.wrap (ws + 2) = ws + 2 := by rw [IntKind.wrap_i64]; omega
                            have hw4 : IntKind.i64.wrap (rn + 1) = rn + 1 := by rw [IntKind.wrap_i64]; omega
                            go_upto_region 29 with fail
                            clear d5 cr5 cy cb2
                            by_cases hws3 : ws < 3
                            · have cg := fun w h hd => hide (gradeOf_any w b t ht4 T' h HI1.out.inv da _ dc (lsN G 1792) hd rfl (by omega) hsk HSU.out)
                              rw [HST2.out, HGG.out] at cg
                              go_wp2_with fail
                              refine (cg _ (HTA.out _ (HL.out.below HBv.out)) (HDA.out.below HBv.out)).out.mono ?_
                              rintro e w11 ⟨rfl, rfl⟩
                              clear cg
                              by_cases hge : ws + 1 ≤ g
                              · as_aux_lemma =>
                                  have hgeb : decide (ws + 1 ≤ g) = true := by simp [hge]
                                  have HR1 := hide (show runP ws rn g = rn + 1 by unfold runP; rw [if_pos ⟨hws3, hge⟩])
                                  clear hge
                                  go_upto_region 32 with fail
                                  by_cases hris : ws < 3 ∧ (rn + 1) = ws + 2
                                  · obtain ⟨hw3, hr2⟩ := hris
                                    have hrb : ((rn + 1) == ws + 2) = true := by simp [hr2]
                                    have hrs : risP ws rn g = true := by unfold risP; rw [HR1.out]; simp [hw3, hr2]
                                    have hust : u.st = ws + 1 := by rw [← HST2.out, HS1.out, hrs]; rfl
                                    have hb1 : decide (u.st < ws) = false := by simp <;> omega
                                    have hb2 : decide (ws + 1 < u.st) = false := by simp <;> omega
                                    have hb3 : (u.st == ws + 1) = true := by simp [hust]
                                    have HRS := hide hrs
                                    clear hr2 hust hrs
                                    have HC2 := hide (HCR.out.set (i := j) hjn1 0)
                                    have HBv2 := hide (HBv.out.setCell (p := ⟨cb, j, none⟩) hcbv (.int .i64 0))
                                    have cj := HCR.out.c j hjn1
                                    have fj := HCR.out.f j
                                    have HSK := hide (show (T'.sl sk).sk = 0 by rw [HS2.out]; rw [HRS.out]; rfl)
                                    go_wp2
                                    go_roundw
                                    case rel => exact ⟨j + 1, upd F j 0, by omega, by simp, HC2.out, HBv2.out, hide fun i d hi hd => by
                                      by_cases e : i = j
                                      · subst e
                                        rw [upd_same]
                                        rw [HUI.out] at hd
                                        cases hd
                                        exact ⟨sk, hsk, HSU.out, HST2.out, HSK.out.symm⟩
                                      · rw [upd_ne _ _ e]
                                        exact HFO.out i d (by omega) hd⟩
                                    case measure => simp [intOf]; omega
                                  · have hrs : risP ws rn g = false := by unfold risP; rw [HR1.out]; simp <;> omega
                                    have hust : u.st = ws := by rw [← HST2.out, HS1.out, hrs]; simp
                                    have hb1 : decide (u.st < ws) = false := by simp <;> omega
                                    have hb2 : decide (ws + 1 < u.st) = false := by simp <;> omega
                                    have hb3 : (u.st == ws + 1) = false := by simp <;> omega
                                    have HRS := hide hrs
                                    have hrb2 : ((rn + 1) == ws + 2) = false := by simp <;> omega
                                    clear hust hrs
                                    have HC2 := hide (HCR.out.set (i := j) hjn1 (rn + 1))
                                    have HBv2 := hide (HBv.out.setCell (p := ⟨cb, j, none⟩) hcbv (.int .i64 (rn + 1)))
                                    have cj := HCR.out.c j hjn1
                                    have fj := HCR.out.f j
                                    have HSK := hide (show (T'.sl sk).sk = (rn + 1) by rw [HS2.out]; rw [HRS.out, HR1.out]; rfl)
                                    go_wp2
                                    go_roundw
                                    case rel => exact ⟨j + 1, upd F j (rn + 1), by omega, by simp, HC2.out, HBv2.out, hide fun i d hi hd => by
                                      by_cases e : i = j
                                      · subst e
                                        rw [upd_same]
                                        rw [HUI.out] at hd
                                        cases hd
                                        exact ⟨sk, hsk, HSU.out, HST2.out, HSK.out.symm⟩
                                      · rw [upd_ne _ _ e]
                                        exact HFO.out i d (by omega) hd⟩
                                    case measure => simp [intOf]; omega
                              · as_aux_lemma =>
                                  have hgeb : decide (ws + 1 ≤ g) = false := by simp <;> omega
                                  have HR1 := hide (show runP ws rn g = 0 by unfold runP; rw [if_neg (fun z => hge z.2)])
                                  clear hge
                                  go_upto_region 32 with fail
                                  have hrs : risP ws rn g = false := by unfold risP; rw [HR1.out]; simp <;> omega
                                  have hust : u.st = ws := by rw [← HST2.out, HS1.out, hrs]; simp
                                  have hb1 : decide (u.st < ws) = false := by simp <;> omega
                                  have hb2 : decide (ws + 1 < u.st) = false := by simp <;> omega
                                  have hb3 : (u.st == ws + 1) = false := by simp <;> omega
                                  have HRS := hide hrs
                                  have hrb2 : (0 == ws + 2) = false := by simp <;> omega
                                  clear hust hrs
                                  have HC2 := hide (HCR.out.set (i := j) hjn1 0)
                                  have HBv2 := hide (HBv.out.setCell (p := ⟨cb, j, none⟩) hcbv (.int .i64 0))
                                  have cj := HCR.out.c j hjn1
                                  have fj := HCR.out.f j
                                  have HSK := hide (show (T'.sl sk).sk = 0 by rw [HS2.out]; rw [HRS.out, HR1.out]; rfl)
                                  go_wp2
                                  go_roundw
                                  case rel => exact ⟨j + 1, upd F j 0, by omega, by simp, HC2.out, HBv2.out, hide fun i d hi hd => by
                                    by_cases e : i = j
                                    · subst e
                                      rw [upd_same]
                                      rw [HUI.out] at hd
                                      cases hd
                                      exact ⟨sk, hsk, HSU.out, HST2.out, HSK.out.symm⟩
                                    · rw [upd_ne _ _ e]
                                      exact HFO.out i d (by omega) hd⟩
                                  case measure => simp [intOf]; omega
                            · as_aux_lemma =>
                                have hws3b : decide (ws < 3) = false := by simp <;> omega
                                have HR1 := hide (show runP ws rn g = 0 by unfold runP; rw [if_neg (fun z => hws3 z.1)])
                                go_upto_region 32 with fail
                                have hrs : risP ws rn g = false := by unfold risP; rw [HR1.out]; simp <;> omega
                                have hust : u.st = ws := by rw [← HST2.out, HS1.out, hrs]; simp
                                have hb1 : decide (u.st < ws) = false := by simp <;> omega
                                have hb2 : decide (ws + 1 < u.st) = false := by simp <;> omega
                                have hb3 : (u.st == ws + 1) = false := by simp <;> omega
                                have HRS := hide hrs
                                clear hust hrs
                                have HC2 := hide (HCR.out.set (i := j) hjn1 0)
                                have HBv2 := hide (HBv.out.setCell (p := ⟨cb, j, none⟩) hcbv (.int .i64 0))
                                have cj := HCR.out.c j hjn1
                                have fj := HCR.out.f j
                                have HSK := hide (show (T'.sl sk).sk = 0 by rw [HS2.out]; rw [HRS.out, HR1.out]; rfl)
                                go_wp2
                                go_roundw
                                case rel => exact ⟨j + 1, upd F j 0, by omega, by simp, HC2.out, HBv2.out, hide fun i d hi hd => by
                                  by_cases e : i = j
                                  · subst e
                                    rw [upd_same]
                                    rw [HUI.out] at hd
                                    cases hd
                                    exact ⟨sk, hsk, HSU.out, HST2.out, HSK.out.symm⟩
                                  · rw [upd_ne _ _ e]
                                    exact HFO.out i d (by omega) hd⟩
                                case measure => simp [intOf]; omega
                        | none hno =>
                          as_aux_lemma =>
                            obtain ⟨ws, rn, hcs, hS1, hS2⟩ := HSO.out
                            obtain ⟨rfl, rfl⟩ : ws = 0 ∧ rn = 0 := by
                              rcases hcs with ⟨a1, a2, a3, a4⟩ | ⟨_, a2, a3⟩
                              · exact absurd (by rw [a2, HST2.out]) (hno _ ((HM0.out (T.sl sk).tr).2 ⟨sk, hsk, a1, rfl⟩))
                              · exact ⟨a2, a3⟩
                            have HS1 := hide hS1
                            have HS2 := hide hS2
                            clear hcs hS1 hS2 hno
                            go_upto_region 29 with fail
                            by_cases hws3 : (0 : Int) < 3
                            · have cg := fun w h hd => hide (gradeOf_any w b t ht4 T' h HI1.out.inv da _ dc (lsN G 1792) hd rfl (by omega) hsk HSU.out)
                              rw [HST2.out, HGG.out] at cg
                              go_wp2_with fail
                              refine (cg _ (HTA.out _ (HL.out.below HBv.out)) (HDA.out.below HBv.out)).out.mono ?_
                              rintro e w11 ⟨rfl, rfl⟩
                              clear cg
                              by_cases hge : 1 ≤ g
                              · as_aux_lemma =>
                                  have hgeb : decide (1 ≤ g) = true := by simp [hge]
                                  have HR1 := hide (show runP 0 0 g = 1 by unfold runP; rw [if_pos ⟨hws3, hge⟩]; rfl)
                                  clear hge
                                  go_upto_region 32 with fail
                                  have hrs : risP 0 0 g = false := by unfold risP; rw [HR1.out]; simp <;> omega
                                  have hust : u.st = 0 := by rw [← HST2.out, HS1.out, hrs]; simp
                                  have hb1 : decide (u.st < 0) = false := by simp <;> omega
                                  have hb2 : decide (1 < u.st) = false := by simp <;> omega
                                  have hb3 : (u.st == 1) = false := by simp <;> omega
                                  have HRS := hide hrs
                                  clear hust hrs
                                  have HC2 := hide (HCR.out.set (i := j) hjn1 1)
                                  have HBv2 := hide (HBv.out.setCell (p := ⟨cb, j, none⟩) hcbv (.int .i64 1))
                                  have cj := HCR.out.c j hjn1
                                  have fj := HCR.out.f j
                                  have HSK := hide (show (T'.sl sk).sk = 1 by rw [HS2.out]; rw [HRS.out, HR1.out]; rfl)
                                  go_wp2
                                  go_roundw
                                  case rel => exact ⟨j + 1, upd F j 1, by omega, by simp, HC2.out, HBv2.out, hide fun i d hi hd => by
                                    by_cases e : i = j
                                    · subst e
                                      rw [upd_same]
                                      rw [HUI.out] at hd
                                      cases hd
                                      exact ⟨sk, hsk, HSU.out, HST2.out, HSK.out.symm⟩
                                    · rw [upd_ne _ _ e]
                                      exact HFO.out i d (by omega) hd⟩
                                  case measure => simp [intOf]; omega
                              · as_aux_lemma =>
                                  have hgeb : decide (1 ≤ g) = false := by simp <;> omega
                                  have HR1 := hide (show runP 0 0 g = 0 by unfold runP; rw [if_neg (fun z => hge z.2)])
                                  clear hge
                                  go_upto_region 32 with fail
                                  have hrs : risP 0 0 g = false := by unfold risP; rw [HR1.out]; simp <;> omega
                                  have hust : u.st = 0 := by rw [← HST2.out, HS1.out, hrs]; simp
                                  have hb1 : decide (u.st < 0) = false := by simp <;> omega
                                  have hb2 : decide (1 < u.st) = false := by simp <;> omega
                                  have hb3 : (u.st == 1) = false := by simp <;> omega
                                  have HRS := hide hrs
                                  clear hust hrs
                                  have HC2 := hide (HCR.out.set (i := j) hjn1 0)
                                  have HBv2 := hide (HBv.out.setCell (p := ⟨cb, j, none⟩) hcbv (.int .i64 0))
                                  have cj := HCR.out.c j hjn1
                                  have fj := HCR.out.f j
                                  have HSK := hide (show (T'.sl sk).sk = 0 by rw [HS2.out]; rw [HRS.out, HR1.out]; rfl)
                                  go_wp2
                                  go_roundw
                                  case rel => exact ⟨j + 1, upd F j 0, by omega, by simp, HC2.out, HBv2.out, hide fun i d hi hd => by
                                    by_cases e : i = j
                                    · subst e
                                      rw [upd_same]
                                      rw [HUI.out] at hd
                                      cases hd
                                      exact ⟨sk, hsk, HSU.out, HST2.out, HSK.out.symm⟩
                                    · rw [upd_ne _ _ e]
                                      exact HFO.out i d (by omega) hd⟩
                                  case measure => simp [intOf]; omega
                            · exact absurd (by omega) hws3
                  · as_aux_lemma =>
                      have hjn1i : ¬ (j : Int) < (n1 : Int) := by omega
                      obtain rfl : j = n1 := by omega
                      replace HL := hide (HL.out.below HBv.out)
                      replace HBF := hide (HBF.out.below HBv.out)
                      replace HRN := hide (HRN.out.below HBv.out)
                      replace HDA := hide (HDA.out.below HBv.out)
                      replace HR := hide (HR.out.below HBv.out)
                      obtain ⟨M, hM⟩ : ∃ M : List Int, M = (List.range j).map F := ⟨_, rfl⟩
                      have HML := hide (show j = M.length by rw [hM, List.length_map, List.length_range])
                      have HMA := hide (show ∀ i, i < j → M[i]? = some (F i) from fun i hi => by rw [hM, List.getElem?_map, List.getElem?_range hi]; rfl)
                      have HIR := hide (show IR wr B (some ⟨cb, 0, none⟩) M from fun i v hv => by
                        have hi : i < j := by have := (List.getElem?_eq_some_iff.1 hv).1; have := HML.out; omega
                        rw [HMA.out i hi] at hv
                        cases hv
                        exact ⟨cb, rfl, Nat.le_trans HBG.out hcbv, HCR.out.c i hi⟩)
                      have HRM := hide (show RunOk T' L1 M from ⟨by rw [← HML.out, HN1.out], fun i d hd => by
                        have hi : i < j := by have := (List.getElem?_eq_some_iff.1 hd).1; have := HN1.out; omega
                        obtain ⟨z, z1, z2, z3, z4⟩ := HFO.out i d hi hd
                        exact ⟨z, z1, z2, z3, by rw [HMA.out i hi, z4]⟩⟩)
                      replace HBG := hide (Nat.le_trans HBG.out HBv.out.size)
                      clear hM HCR HFO HBv HMA
                      have HS := hide (HBF.out.set ht4 (a := ta) (c := tc) (M := L1) (by rw [HN1.out]; exact HR.out))
                      rw [HN1.out] at HS
                      obtain ⟨a0, c0, cc0, _⟩ := HBF.out.c t ht4
                      have f0 := HBF.out.f t
                      go_upto_region 39 with fail
                      replace HL := hide (HL.out.other HS.out.2 HXN.out.1 HXN.out.2.1 HXN.out.2.2.1 HXN.out.2.2.2.1 HXN.out.2.2.2.2)
                      replace HRN := hide (HRN.out.keep HS.out.2 (Ne.symm HXY.out.1) HXY.out.2.1)
                      replace HDA := hide (HDA.out.keep HS.out.2.ex (fun g off e => (HDG.out g off e).2.2.1))
                      replace HIR := hide (HIR.out.keep HS.out.2.ex (fun g e => by rw [e]; exact HXY.out.2.1))
                      replace HBG := hide (Nat.le_trans HBG.out HS.out.2.ex.size)
                      replace HBF := hide HS.out.1
                      generalize wr.setCell ⟨x, t, none⟩ (.slice ta j tc) = w9 at *
                      clear cc0 f0 HS HR
                      have HS := hide (HRN.out.set ht4 (c := j) HML.out HIR.out)
                      obtain ⟨a0, c0, cc0, _⟩ := HRN.out.c t ht4
                      have f0 := HRN.out.f t
                      replace HL := hide (HL.out.other HS.out.2 HYN.out.1 HYN.out.2.1 HYN.out.2.2.1 HYN.out.2.2.2.1 HYN.out.2.2.2.2)
                      replace HBF := hide (HBF.out.keep HS.out.2 HXY.out.1 HXY.out.2.2.1)
                      replace HDA := hide (HDA.out.keep HS.out.2.ex (fun g off e => (HDG.out g off e).2.2.2))
                      replace HBG := hide (Nat.le_trans HBG.out HS.out.2.ex.size)
                      clear HRN
                      go_wp2
                      go_roundw
                      case rel => exact ⟨t + 1, upd Rn t M, by omega, by simp, HL.out, HBF.out.congr (fun i hi => by
                        by_cases e : i = t
                        · subst e; rw [upd_same, if_pos (by omega), HTE.out, HL1.out]
                        · rw [upd_ne _ _ e]
                          by_cases z : i < t
                          · rw [if_pos z, if_pos (by omega)]
                          · rw [if_neg z, if_neg (by omega)]), HS.out.1, hide fun i hi => by
                        by_cases e : i = t
                        · subst e; rw [upd_same, HTE.out, HL1.out]; exact HRM.out
                        · rw [upd_ne _ _ e]; exact HRL.out i (by omega), hide fun i hi => by rw [upd_ne _ _ (by omega)]; exact HRH.out i (by omega), HDA.out, HBG.out⟩
                      case measure => simp [intOf]; omega
              · obtain rfl : t = 4 := by omega
                rw [show ((4 : Nat) : Int) = 4 from rfl]
                replace HBF := hide (HBF.out.congr (M := fun i => tabN (TT' i) 64) (fun i hi => by rw [if_pos hi]))
                have HSTn := hide (show ∀ i, i < 4 → RunOk (TT' i) (tabN (TT' i) 64) (Rn i) ∧ St3 (TT' i) from fun i hi => by
                  obtain ⟨T3, htp⟩ := HTP.out i hi
                  exact ⟨HRL.out i hi, St3.tick (HT0.out i hi) (HST.out i hi).2 htp⟩)
                go_upto_region 40 with fail
                obtain ⟨_, _, e, -, c0, c1, c2, c3, c4, c5, c6⟩ := HC.out _ HL.out.bel
                cases e
                go_wp2_with fail
                refine (stepP_any _ q G HL.out.pa op HOK.out).mono ?_
                rintro e w9 ⟨rfl, h1, h2⟩
                have HLe := hide ((HL.out.pend h2 h1 (pst_ok op HL.out.gk)).mono (N' := 1 + 112 * ((k + 1 : Nat) : Int)) (by omega))
                replace HBF := hide (HBF.out.keep h2 (Ne.symm HXN.out.2.2.1) HXY.out.2.2.2.2.2)
                replace HRN := hide (HRN.out.keep h2 (Ne.symm HYN.out.2.2.1) HXY.out.2.2.2.2.2)
                replace HBG := hide (Nat.le_trans HBG.out h2.ex.size)
                clear c0 c1 c2 c3 c4 c5 c6 h1 h2 HL
                go_wp2
                go_roundw
                case rel => exact ⟨k + 1, _, _, _, _, by omega, by simp, HLe.out, HBF.out, HRN.out, HSTn, HBG.out⟩
                case measure => simp [intOf]; omega
        · as_aux_lemma =>
            have hkb : (op.kd == 2) = false := by simp [hkd]
            clear hkd
            go_upto_region 40 with fail
            clear c0 c1 c2 c3 c4 c5 c6
            obtain ⟨_, _, e, -, c0, c1, c2, c3, c4, c5, c6⟩ := HC.out _ HL2.out.bel
            cases e
            go_wp2_with fail
            refine (stepP_any _ q G HL2.out.pa op HOK.out).mono ?_
            rintro e w9 ⟨rfl, h1, h2⟩
            have HLe := hide ((HL2.out.pend h2 h1 (pst_ok op HL2.out.gk)).mono (N' := 1 + 112 * ((k + 1 : Nat) : Int)) (by omega))
            replace HBF := hide (HBF.out.keep h2 (Ne.symm HXN.out.2.2.1) HXY.out.2.2.2.2.2)
            replace HRN := hide (HRN.out.keep h2 (Ne.symm HYN.out.2.2.1) HXY.out.2.2.2.2.2)
            replace HBG := hide (Nat.le_trans HBG.out h2.ex.size)
            clear c0 c1 c2 c3 c4 c5 c6 h1 h2 HL2
            go_wp2
            go_roundw
            case rel => exact ⟨k + 1, _, _, _, _, by omega, by simp, HLe.out, HBF.out, HRN.out, HST, HBG.out⟩
            case measure => simp [intOf]; omega
      · obtain rfl : k = n := by omega
        have hlti : ¬ (k : Int) < (k : Int) := by omega
        go_wp2
        go_ret
        exact ⟨rfl, HL.out.bel⟩
  · go_enter Try.func4, Try.ntmps4
    go_wp2_with fail
    refine (small_any _ a n cap hn).mono ?_
    rintro e w' ⟨rfl, ew⟩
    rw [ew]
    have hd : decide (n ≤ 65536) = false := by simpa using hsm
    rw [hd]
    clear hd ew w'
    go_wp2
    go_ret
    exact ⟨rfl, Below.refl _ _⟩
end Go.Proofs.Qxb6500777a
