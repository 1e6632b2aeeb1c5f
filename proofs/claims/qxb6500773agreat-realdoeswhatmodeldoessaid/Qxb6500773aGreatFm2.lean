import Derived.Test.Qxb6500773aGreatFm0
import Derived.Deep.CutBlock
namespace Go.Proofs.Qxb6500773aGreat
set_option maxRecDepth 100000
open Go.RowKit

set_option linter.unusedSimpArgs false in
set_option maxRecDepth 100000 in
set_option maxHeartbeats 16000000 in
/-- cnf.ParseDimacs -/
theorem parseDimacs_any (w : World) (a : Option Addr) (n c : Nat) (T : Nat → Int) (h : BT w a n T) (hn : n ≤ 1000000) :
    Calls Tryz.prog 49 #[.slice a n c] w (FdPost w T n) := by
  have hlt : 0 < n → ∀ g o, a = some ⟨g, o, none⟩ → g < w.heap.size := fun hn0 g o e => by
    obtain ⟨g', o', e', hc, -⟩ := h 0 hn0
    rw [e] at e'
    cases e'
    exact World.block_lt_of_cell? _ _ hc
  have HB := hide h
  have HLT := hide hlt
  clear h
  have hln : IntKind.i64.wrap (n : Int) = (n : Int) := by rw [IntKind.wrap_i64]; omega
  obtain ⟨m, hm⟩ : ∃ m, n / 2 + 1 = m := ⟨_, rfl⟩
  have hm2 : (n : Int) / 2 + 1 = (m : Int) := by omega
  have HMM := hide (show m ≤ 1000000 by omega)
  go_enter Tryz.func49, Tryz.ntmps49
  go_wp2_with fail
  refine (newScanner_any _ a n c).mono ?_
  rintro e w1 ⟨rfl, hb1⟩
  go_upto_region 2 with fail
  have HSC := hide (show SC (w1.alloc (.cells #[.slice a n c, .int .i64 0, .int .i64 1, .int .i64 0] 157)) w1.heap.size a n c T 0 1 0 from by
    have hh : 0 < n → ∀ g o, a = some ⟨g, o, none⟩ → g ≠ w1.heap.size := fun hn0 g o e z => by have := hlt hn0 g o e; have := hb1.size; simp at this; omega
    refine ⟨?_, ?_, ?_, ?_, ?_, ?_, hh⟩
    · simp [go_sem]
    · simp [go_sem]
    · simp [go_sem]
    · simp [go_sem]
    · intro j; simp [go_sem]
    · exact HB.out.below (lec (lec (be1 w _) hb1) (be1 w1 _)))
  have HR := hide (show ∃ q : World, (q.cell? ⟨w.heap.size, 0, none⟩ = some (.int .i64 0) ∧ q.cell? ⟨w.heap.size, 1, none⟩ = some (.int .i64 0) ∧ q.cell? ⟨w.heap.size, 2, none⟩ = some (.int .i64 0) ∧ ∀ j, q.frozen? ⟨w.heap.size, j, none⟩ = false) ∧ w.heap.size < q.heap.size ∧ Below w.heap.size w q ∧ Below q.heap.size q (w1.alloc (.cells #[.slice a n c, .int .i64 0, .int .i64 1, .int .i64 0] 157)) from ⟨_, ⟨by simp [go_sem], by simp [go_sem], by simp [go_sem], by intro j; simp [go_sem]⟩, by simp, be1 w _, lec hb1 (be1 w1 _)⟩)
  have hs1 : w.heap.size < w1.heap.size := by have := hb1.size; simp at this; omega
  clear hb1 hlt
  generalize hw2 : w1.alloc (.cells #[.slice a n c, .int .i64 0, .int .i64 1, .int .i64 0] 157) = w2 at *
  have HS2 := hide (show w1.heap.size < w2.heap.size by rw [← hw2]; simp)
  clear hw2
  generalize w1.heap.size = s at *
  obtain ⟨q, ⟨q0, q1, q2, qf⟩, ql, qb, qk⟩ := HR.out
  have HB0 := hide (lec qb qk)
  have HQ := hide (show w2.cell? ⟨w.heap.size, 0, none⟩ = some (.int .i64 0) ∧ w2.cell? ⟨w.heap.size, 1, none⟩ = some (.int .i64 0) ∧ w2.cell? ⟨w.heap.size, 2, none⟩ = some (.int .i64 0) ∧ ∀ j, w2.frozen? ⟨w.heap.size, j, none⟩ = false from ⟨cellKeep qk q0, cellKeep qk q1, cellKeep qk q2, fun j => (World.frozen?_of_block (qk.block _ ql)).trans (qf j)⟩)
  clear HR q0 q1 q2 qf ql qb qk HB
  obtain ⟨r, hr⟩ : ∃ r, w.heap.size = r := ⟨_, rfl⟩
  have HRW := hide hr
  have hs1' : r < s := by omega
  replace HQ := hide (show w2.cell? ⟨r, 0, none⟩ = some (.int .i64 0) ∧ w2.cell? ⟨r, 1, none⟩ = some (.int .i64 0) ∧ w2.cell? ⟨r, 2, none⟩ = some (.int .i64 0) ∧ ∀ j, w2.frozen? ⟨r, j, none⟩ = false from by rw [← HRW.out]; exact HQ.out)
  rw [hr]
  clear hr hs1
  have PO := hide (hdP_ok (T := T) (n := n) (p := ⟨0, 1, 0⟩) ⟨Nat.zero_le _, by decide, Nat.le_refl _⟩)
  go_wp2_with fail
  refine (parseHeader_any _ s n c a T ⟨0, 1, 0⟩ HSC.out (by omega) ⟨Nat.zero_le _, by decide, Nat.le_refl _⟩).mono ?_
  rintro e w3 ⟨hex, hcase⟩
  have HQ3 := hide (show w3.cell? ⟨r, 0, none⟩ = some (.int .i64 0) ∧ w3.cell? ⟨r, 1, none⟩ = some (.int .i64 0) ∧ w3.cell? ⟨r, 2, none⟩ = some (.int .i64 0) ∧ (∀ j, w3.frozen? ⟨r, j, none⟩ = false) ∧ r < w3.heap.size from by
    have hrs : ¬ r = s := by omega
    obtain ⟨z0, z1, z2, zf⟩ := HQ.out
    exact ⟨hex.cell hrs z0, hex.cell hrs z1, hex.cell hrs z2, fun j => (hex.frozen hrs (World.block_lt_of_cell? _ _ z0)).trans (zf j), World.block_lt_of_cell? _ _ (hex.cell hrs z0)⟩)
  have HB3 := hide (show Below w.heap.size w w3 from HB0.out.trans (hex.below HB0.out.size (fun k hk e => by have := HRW.out; omega)))
  have HS3 := hide (show s < w3.heap.size from Nat.lt_of_lt_of_le HS2.out hex.size)
  clear hex HQ HB0 HSC HS2
  rcases hcase with ⟨er, p, v, k, hH, rfl⟩ | ⟨hv, hc, p, hH, rfl, hsc⟩
  · have her : er ≠ 0 := by
      rcases PO.out with ⟨er', q', e1, e2⟩ | ⟨v', k', q', e1, -⟩
      · rw [hH] at e1; cases e1; exact e2
      · rw [hH] at e1; cases e1
    have heb : (er == 0) = false := by simpa using her
    have HHB := hide hH
    have HER := hide her
    clear hH PO her
    unfold faV
    go_upto_region 3 with fail
    have HW4 := hide (show (((w3.alloc (.cells #[.int .i64 v, .int .i64 k] 160)).alloc (.cells #[.int .i64 er, .int .i64 p.line, .int .i64 (colP p)] 41)).cell? ⟨w3.heap.size + 1, 0, none⟩ = some (.int .i64 er) ∧ ((w3.alloc (.cells #[.int .i64 v, .int .i64 k] 160)).alloc (.cells #[.int .i64 er, .int .i64 p.line, .int .i64 (colP p)] 41)).cell? ⟨w3.heap.size + 1, 1, none⟩ = some (.int .i64 p.line) ∧ ((w3.alloc (.cells #[.int .i64 v, .int .i64 k] 160)).alloc (.cells #[.int .i64 er, .int .i64 p.line, .int .i64 (colP p)] 41)).cell? ⟨w3.heap.size + 1, 2, none⟩ = some (.int .i64 (colP p))) ∧ Below w3.heap.size w3 ((w3.alloc (.cells #[.int .i64 v, .int .i64 k] 160)).alloc (.cells #[.int .i64 er, .int .i64 p.line, .int .i64 (colP p)] 41)) from ⟨⟨by simp [go_sem], by simp [go_sem], by simp [go_sem]⟩, be2 _ _ _⟩)
    generalize (w3.alloc (.cells #[.int .i64 v, .int .i64 k] 160)).alloc (.cells #[.int .i64 er, .int .i64 p.line, .int .i64 (colP p)] 41) = w4 at *
    have hrx : r ≠ w3.heap.size + 1 := by have := HQ3.out.2.2.2.2; omega
    generalize w3.heap.size + 1 = y at *
    obtain ⟨⟨x0, x1, x2⟩, hb4⟩ := HW4.out
    obtain ⟨z0, z1, z2, zf, zl⟩ := HQ3.out
    have r0 := cellKeep hb4 z0
    have r1 := cellKeep hb4 z1
    have r2 := cellKeep hb4 z2
    have rf : ∀ j, w4.frozen? ⟨r, j, none⟩ = false := fun j => (World.frozen?_of_block (hb4.block r zl)).trans (zf j)
    have HB4 := hide (lec HB3.out hb4)
    clear HW4 z0 z1 z2 zf zl hb4 HQ3 HB3
    go_upto_region 4 with fail
    have HPP := hide (show ∀ w', Below w.heap.size w4 w' → FdPost w T n (.returned (.tuple #[.pointer none, faV er p.line (colP p)])) w' from fun w' hb => ⟨HB4.out.trans hb, .inl ⟨_, _, _, rfl, HER.out, .inl ⟨p, HHB.out, rfl, rfl⟩⟩⟩)
    have HRL := hide (show w.heap.size ≤ r by have := HRW.out; omega)
    go_region
    all_goals
      go_wp2
      obtain ⟨y0, y1, y2⟩ := set3 (.int .i64 er) (.int .i64 p.line) (.int .i64 (colP p)) r0 r1 r2
      have HPQ := hide (HPP.out _ ((((Below.refl _ _).setCell (p := ⟨r, 0, none⟩) HRL.out (.int .i64 er)).setCell (p := ⟨r, 1, none⟩) HRL.out (.int .i64 p.line)).setCell (p := ⟨r, 2, none⟩) HRL.out (.int .i64 (colP p))).drew)
      clear r0 r1 r2 rf
      generalize ((w4.setCell ⟨r, 0, none⟩ (.int .i64 er)).setCell ⟨r, 1, none⟩ (.int .i64 p.line)).setCell ⟨r, 2, none⟩ (.int .i64 (colP p)) = w9 at *
      exact bodyPost_ret (v := .tuple #[.pointer none, faV er p.line (colP p)]) (by simp [results, Tryz.results49, go_sem, faV, colP, y0, y1, y2]) rfl HPQ.out
  · obtain ⟨hpl, v0, v1, k0, k1⟩ : PlOk n p ∧ 0 ≤ hv ∧ hv ≤ 16777215 ∧ 0 ≤ hc ∧ hc ≤ 2147483647 := by
      rcases PO.out with ⟨er', q', e1, -⟩ | ⟨v', k', q', e1, e2⟩
      · rw [hH] at e1; cases e1
      · rw [hH] at e1; cases e1; exact e2
    have HHB := hide hH
    have HPL := hide hpl
    have HSC := hide hsc
    have HC0 := hide k0
    have HV := hide (And.intro v0 v1)
    obtain ⟨hcn, hhcn⟩ : ∃ z : Nat, hc = z := ⟨hc.toNat, by omega⟩
    subst hhcn
    clear hH PO hsc hpl v0 v1
    unfold faV
    go_upto_region 3 with fail
    have HW4 := hide (show (((w3.alloc (.cells #[.int .i64 hv, .int .i64 (hcn : Int)] 160)).alloc (.cells #[.int .i64 0, .int .i64 0, .int .i64 0] 41)).cell? ⟨w3.heap.size + 1, 0, none⟩ = some (.int .i64 0) ∧ ((w3.alloc (.cells #[.int .i64 hv, .int .i64 (hcn : Int)] 160)).alloc (.cells #[.int .i64 0, .int .i64 0, .int .i64 0] 41)).cell? ⟨w3.heap.size, 0, none⟩ = some (.int .i64 hv) ∧ ((w3.alloc (.cells #[.int .i64 hv, .int .i64 (hcn : Int)] 160)).alloc (.cells #[.int .i64 0, .int .i64 0, .int .i64 0] 41)).cell? ⟨w3.heap.size, 1, none⟩ = some (.int .i64 (hcn : Int))) ∧ Below w3.heap.size w3 ((w3.alloc (.cells #[.int .i64 hv, .int .i64 (hcn : Int)] 160)).alloc (.cells #[.int .i64 0, .int .i64 0, .int .i64 0] 41)) ∧ w3.heap.size < ((w3.alloc (.cells #[.int .i64 hv, .int .i64 (hcn : Int)] 160)).alloc (.cells #[.int .i64 0, .int .i64 0, .int .i64 0] 41)).heap.size from ⟨⟨by simp [go_sem], by simp [go_sem], by simp [go_sem]⟩, be2 _ _ _, by simp; omega⟩)
    generalize (w3.alloc (.cells #[.int .i64 hv, .int .i64 (hcn : Int)] 160)).alloc (.cells #[.int .i64 0, .int .i64 0, .int .i64 0] 41) = w4 at *
    generalize w3.heap.size + 1 = y at *
    obtain ⟨⟨x0, g0, g1⟩, hb4, hxs⟩ := HW4.out
    obtain ⟨z0, z1, z2, zf, zl⟩ := HQ3.out
    have HR4 := hide (show w4.cell? ⟨r, 0, none⟩ = some (.int .i64 0) ∧ w4.cell? ⟨r, 1, none⟩ = some (.int .i64 0) ∧ w4.cell? ⟨r, 2, none⟩ = some (.int .i64 0) ∧ ∀ j, w4.frozen? ⟨r, j, none⟩ = false from ⟨cellKeep hb4 z0, cellKeep hb4 z1, cellKeep hb4 z2, fun j => (World.frozen?_of_block (hb4.block r zl)).trans (zf j)⟩)
    have HB4 := hide (lec HB3.out hb4)
    have HSC4 := hide (HSC.out.below hb4)
    have HG4 := hide (And.intro g0 g1)
    have HLX := hide (show s < w3.heap.size ∧ w3.heap.size < w4.heap.size from ⟨HS3.out, hxs⟩)
    clear HW4 z0 z1 z2 zf zl hb4 HQ3 HB3 HSC hxs g0 HS3
    generalize w3.heap.size = x at *
    go_upto_region 7 with fail
    clear x0
    by_cases hlt : hcn < m
    · have h1 : decide ((hcn : Int) < (m : Int)) = true := by simp; omega
      have h1n : decide (hcn < m) = true := by simp; omega
      have hcm : hcn ≤ m := by omega
      go_upto_region 9 with fail
      go_cut [9] (fun s9 wx => ∃ b, s9 = .pointer (some ⟨b, 0, none⟩) ∧ FM w wx r s x w4.heap.size b a n c T hv hcn ⟨p, [], []⟩)
      case first =>
        have nA := fun w5 => hide (newArena_any w5 hcn m (by have := HMM.out; omega) (by have := HMM.out; omega))
        have g0 := HG4.out.1
        go_region_law (first
          | (refine step_call rfl 115 #[.int .i64 (hcn : Nat), .int .i64 m] (by simp [go_sem]) (nA _).out ?_
             rintro e w5 ⟨g1', c1, g2, c2, rfl, hr1, hr2, hne, hb5⟩
             have hB1 : Below w4.heap.size w4 w5 := of_drew hb5
             have g0' := cellKeep hB1 g0
             refine ⟨_, rfl, ?_⟩))
        all_goals
          have hp := ff_new (nv := hv) hr1 hr2 (fun k z y => by cases z; cases y; exact hne rfl)
          have HD := hide (fm_new (p := p) HB4.out HSC4.out HR4.out HG4.out (lec hB1 (be1 w5 (.cells #[.int .i64 hv, .slice (some ⟨g1', 0, none⟩) 0 c1, .slice (some ⟨g2, 0, none⟩) 0 c2] 73))) hp (by have := HRW.out; omega) hs1' HLX.out hB1.size HLT.out)
          clear hp hr1 hr2 hb5 nA g0 g0' hB1
          go_wp2
          go_meet
          exact ⟨_, rfl, HD.out⟩
      obtain ⟨b, rfl, hfm⟩ := hcut
      have HFM := hide hfm
      have HFO := hide (fst_ok (hv := hv) (hc := (hcn : Int)) HC0.out HPL.out)
      have HRL := hide (show w.heap.size ≤ r by have := HRW.out; omega)
      have HNB := hide hn
      clear hfm HB4 HSC4 HR4 HG4 HLX HPL HC0 g1 h1 h1n hcm hln hm hm2
      generalize w4.heap.size = B at *
      go_wp2
      go_loopw [10, 11, 12] (fun _ _ _ wr => ∃ st, Hid (FRun T n hv hcn ⟨p, [], []⟩ st) ∧ Hid (FOk n hv hcn st) ∧ FM w wr r s x B b a n c T hv hcn st) (fun _ _ _ wr => offLeft s n wr)
      case atStart => exact ⟨_, hide (.refl _), HFO, HFM.out⟩
      case round =>
        clear HFM HFO
        obtain ⟨st, HRUN, HOK, hfm⟩ := hrel
        have HFM := hide hfm
        have HOL := hide (offLeft_at (n := n) hfm.sc.c1)
        clear hfm
        go_wp2_with fail
        refine (seek_any _ s n c a T st.p HFM.out.sc (by omega) HOK.out.pl).mono ?_
        rintro e w3' ⟨rfl, hsc, hpl, hex⟩
        have HFM3 := hide (HFM.out.scan hex hsc)
        have HPL := hide hpl
        have HRG := hide (seekF_rng T n st.p HOK.out.pl)
        have HST := hide (show fStep T n hv hcn st = if (seekF T n st.p).1 = true then fTok T n hv hcn st (seekF T n st.p).2 else if pendP st.L st.E = true then .bad 11 (seekF T n st.p).2.line (colP (seekF T n st.p).2) else if (st.E.length : Int) = hcn then .done else .bad 12 (seekF T n st.p).2.line (colP (seekF T n st.p).2) from rfl)
        clear hsc hpl hex HFM
        obtain ⟨R, hR⟩ : ∃ R, seekF T n st.p = R := ⟨_, rfl⟩
        rw [hR] at HFM3 HPL HRG HST ⊢
        clear hR
        obtain ⟨fd, pp⟩ := R
        dsimp only at HFM3 HPL HRG HST ⊢
        have HEL := hide (show st.E.length ≤ 1000000 ∧ st.L.length ≤ 1000000 from by have := HOK.out.len; have := HOK.out.pl.off; have := HNB.out; omega)
        obtain ⟨q, L, E⟩ := st
        dsimp only at HFM3 HST HOL HEL ⊢
        cases fd
        · rw [if_neg (by decide)] at HST
          go_wp2_with fail
          obtain ⟨va, ve, hff⟩ := HFM3.out.ff
          refine (pending_any _ B b 1 va ve L E hff.ar (by have := HEL.out; omega)).mono ?_
          rintro e w4 ⟨rfl, hb4⟩
          have HFM4 := hide (HFM3.out.below hb4)
          clear HFM3 hff hb4
          by_cases hpd : clsP E < L.length
          · have hpb : decide (clsP E < L.length) = true := by simpa using hpd
            replace HST := hide (show fStep T n hv hcn ⟨q, L, E⟩ = .bad 11 pp.line (colP pp) from by rw [HST.out, if_pos (show pendP L E = true from hpb)])
            clear hpd
            go_wp2_with fail
            refine (fault_any _ s n c pp.off pp.bol a T pp.line 11 HFM4.out.sc (by omega) HPL.out.off HPL.out.bol).mono ?_
            rintro e w5 ⟨rfl, hb5⟩
            have HFM5 := hide (HFM4.out.below hb5)
            have r0 := HFM5.out.r0
            have r1 := HFM5.out.r1
            have r2 := HFM5.out.r2
            have rf := HFM5.out.rf
            clear HFM4 hb5
            have HPP := hide (show ∀ w', Below w.heap.size w5 w' → FdPost w T n (.returned (.tuple #[.pointer none, faV 11 pp.line (colP pp)])) w' from fun w' hb => ⟨HFM5.out.bl.trans hb, .inl ⟨_, _, _, rfl, by decide, .inr ⟨_, _, _, _, HHB.out, HRUN.out, HOK.out, HST.out⟩⟩⟩)
            go_wp2
            obtain ⟨y0, y1, y2⟩ := set3 (.int .i64 11) (.int .i64 pp.line) (.int .i64 ((pp.off : Int) - pp.bol + 1)) r0 r1 r2
            have HPQ := hide (HPP.out _ ((((Below.refl _ _).setCell (p := ⟨r, 0, none⟩) HRL.out (.int .i64 11)).setCell (p := ⟨r, 1, none⟩) HRL.out (.int .i64 pp.line)).setCell (p := ⟨r, 2, none⟩) HRL.out (.int .i64 ((pp.off : Int) - pp.bol + 1))))
            clear r0 r1 r2 rf
            generalize ((w5.setCell ⟨r, 0, none⟩ (.int .i64 11)).setCell ⟨r, 1, none⟩ (.int .i64 pp.line)).setCell ⟨r, 2, none⟩ (.int .i64 ((pp.off : Int) - pp.bol + 1)) = w9 at *
            exact bodyPost_ret (v := .tuple #[.pointer none, faV 11 pp.line (colP pp)]) (by simp [results, Tryz.results49, go_sem, faV, colP, y0, y1, y2]) rfl HPQ.out
          · have hpb : decide (clsP E < L.length) = false := by simpa using hpd
            replace HST := hide (show fStep T n hv hcn ⟨q, L, E⟩ = if (E.length : Int) = hcn then .done else .bad 12 pp.line (colP pp) from by rw [HST.out, if_neg (show ¬ pendP L E = true from by unfold pendP; rw [hpb]; decide)])
            clear hpd
            have cN := fun w' (k : Below w4.heap.size w4 w') => hide (numClauses_any w' B b _ _ L E ((HFM4.out.below k).ff.choose_spec.choose_spec.ar))
            have zS := HFM4.out.h1
            go_upto_region 25 with fail
            refine wp_region_held_drew (S := fun w' => w'.cell? ⟨x, 1, none⟩ = some (.int .i64 (hcn : Int))) (by kernel_rfl) zS (fun hHeld => ?_)
            refine wpAnyH_take (i := 0) (v := ?_) rfl (by kernel_rfl) (by kernel_rfl) (by kernel_rfl) (fun _ _ _ h => h) (Or.inl ⟨by rfl, ?_⟩) (by assumption) ?_
            rotate_left
            · (intro w hSw; (try dsimp only at hSw); go_simp; try (with_reducible rfl))
            try simp only [Act.put, List.getElem_toArray, List.getElem_cons_zero, List.getElem_cons_succ, List.setIfInBounds_toArray, List.set_cons_zero, List.set_cons_succ]
            refine wpAnyH_take (i := 2) (v := ?_) rfl (by kernel_rfl) (by kernel_rfl) (by kernel_rfl) (fun _ _ _ h => h) (Or.inl ⟨by rfl, ?_⟩) (by assumption) ?_
            rotate_left
            · (intro w hSw; (try dsimp only at hSw); go_simp; try (with_reducible rfl))
            try simp only [Act.put, List.getElem_toArray, List.getElem_cons_zero, List.getElem_cons_succ, List.setIfInBounds_toArray, List.set_cons_zero, List.set_cons_succ]
            refine wpAnyH_take (i := 3) (v := ?_) rfl (by kernel_rfl) (by kernel_rfl) (by kernel_rfl) (fun _ _ _ h => h) (Or.inl ⟨by rfl, ?_⟩) (by assumption) ?_
            rotate_left
            · (intro w hSw; (try dsimp only at hSw); go_simp; try (with_reducible rfl))
            try simp only [Act.put, List.getElem_toArray, List.getElem_cons_zero, List.getElem_cons_succ, List.setIfInBounds_toArray, List.set_cons_zero, List.set_cons_succ]
            refine wpAnyH_ready (rs := [1]) (by kernel_rfl) (by simp) ?_
            refine (AllReadyH.cons rfl (fun K hK => ?_) AllReadyH.nil)
            · refine step_call rfl 50 #[.pointer (some ⟨b, 0, none⟩)] (by simp [go_sem]) (cN _ ((Below.refl _ _).drew)).out ?_
              rintro e w4' ⟨rfl, hw5⟩
              replace HFM4 := hide (show FM w w4' r s x B b a n c T hv hcn ⟨pp, L, E⟩ from by rw [hw5]; exact HFM4.out.below ((Below.refl _ _).drew))
              clear hw5
              have zS4 := HFM4.out.h1
              refine ⟨_, rfl, ?_⟩
              refine hK.out _ _ ?_ (fun hHeld => ?_)
              · (first | with_reducible exact zS4 | with_reducible exact zS | exact zS)
              clear hK K
              try simp only [Act.put, List.getElem_toArray, List.getElem_cons_zero, List.getElem_cons_succ, List.setIfInBounds_toArray, List.set_cons_zero, List.set_cons_succ]
              refine wpAnyH_take (i := 4) (v := ?_) rfl (by kernel_rfl) (by kernel_rfl) (by kernel_rfl) (fun _ _ _ h => h) (Or.inl ⟨by rfl, ?_⟩) (by assumption) ?_
              rotate_left
              · (intro w hSw; (try dsimp only at hSw); go_simp; try (with_reducible rfl))
              try simp only [Act.put, List.getElem_toArray, List.getElem_cons_zero, List.getElem_cons_succ, List.setIfInBounds_toArray, List.set_cons_zero, List.set_cons_succ]
              refine wpAnyH_done (by kernel_rfl) ?_ _
              clear zS zS4 cN
              by_cases hcnt : (E.length : Int) = (hcn : Int)
              · have hcb : ((E.length : Int) != (hcn : Int)) = false := by simpa using hcnt
                have hcb2 : ((E.length : Int) == (hcn : Int)) = true := by simpa using hcnt
                have hcb3 : (E.length == hcn) = true := by simp; omega
                replace HST := hide (show fStep T n hv hcn ⟨q, L, E⟩ = .done from by rw [HST.out, if_pos hcnt])
                clear hcnt
                have r0 := HFM4.out.r0
                have r1 := HFM4.out.r1
                have r2 := HFM4.out.r2
                have rf := HFM4.out.rf
                have HPP := hide (show ∀ w', Ex (fun k => k = r) w4' w' → FdPost w T n (.returned (.tuple #[.pointer (some ⟨b, 0, none⟩), faV 0 0 0])) w' from fun w' hb => by
                  have l1 := HFM4.out.l1
                  have l2 := HFM4.out.l2
                  have l3 := HFM4.out.l3
                  have l4 := HFM4.out.l4
                  obtain ⟨va, ve, hff⟩ := HFM4.out.ff
                  exact ⟨HFM4.out.bl.trans (hb.below HFM4.out.bl.size (fun k hk e => by omega)), .inr ⟨_, _, _, _, b, va, ve, HHB.out, HRUN.out, HOK.out, HST.out, rfl, FF.base (by omega) (hff.keep hb (by show ¬ b = r; omega) (fun j hj e => by omega)), by omega⟩⟩)
                go_wp2
                obtain ⟨y0, y1, y2⟩ := set3 (.int .i64 0) (.int .i64 0) (.int .i64 0) r0 r1 r2
                have HPQ := hide (HPP.out _ ((((Ex.refl (fun k => k = r) _).set (p := r) (j := 0) rfl (.int .i64 0)).set (p := r) (j := 1) rfl (.int .i64 0)).set (p := r) (j := 2) rfl (.int .i64 0)))
                clear r0 r1 r2 rf
                generalize ((w4'.setCell ⟨r, 0, none⟩ (.int .i64 0)).setCell ⟨r, 1, none⟩ (.int .i64 0)).setCell ⟨r, 2, none⟩ (.int .i64 0) = w9 at *
                exact bodyPost_ret (v := .tuple #[.pointer (some ⟨b, 0, none⟩), faV 0 0 0]) (by simp [results, Tryz.results49, go_sem, faV, colP, y0, y1, y2]) rfl HPQ.out
              · have hcb : ((E.length : Int) != (hcn : Int)) = true := by simpa using hcnt
                have hcb2 : ((E.length : Int) == (hcn : Int)) = false := by simpa using hcnt
                have hcb3 : (E.length == hcn) = false := by simp; omega
                replace HST := hide (show fStep T n hv hcn ⟨q, L, E⟩ = .bad 12 pp.line (colP pp) from by rw [HST.out, if_neg hcnt])
                clear hcnt
                go_wp2_with fail
                refine (fault_any _ s n c pp.off pp.bol a T pp.line 12 HFM4.out.sc (by omega) HPL.out.off HPL.out.bol).mono ?_
                rintro e w5 ⟨rfl, hb5⟩
                have HFM5 := hide (HFM4.out.below hb5)
                have r0 := HFM5.out.r0
                have r1 := HFM5.out.r1
                have r2 := HFM5.out.r2
                have rf := HFM5.out.rf
                clear HFM4 hb5
                have HPP := hide (show ∀ w', Below w.heap.size w5 w' → FdPost w T n (.returned (.tuple #[.pointer none, faV 12 pp.line (colP pp)])) w' from fun w' hb => ⟨HFM5.out.bl.trans hb, .inl ⟨_, _, _, rfl, by decide, .inr ⟨_, _, _, _, HHB.out, HRUN.out, HOK.out, HST.out⟩⟩⟩)
                go_wp2
                obtain ⟨y0, y1, y2⟩ := set3 (.int .i64 12) (.int .i64 pp.line) (.int .i64 ((pp.off : Int) - pp.bol + 1)) r0 r1 r2
                have HPQ := hide (HPP.out _ ((((Below.refl _ _).setCell (p := ⟨r, 0, none⟩) HRL.out (.int .i64 12)).setCell (p := ⟨r, 1, none⟩) HRL.out (.int .i64 pp.line)).setCell (p := ⟨r, 2, none⟩) HRL.out (.int .i64 ((pp.off : Int) - pp.bol + 1))))
                clear r0 r1 r2 rf
                generalize ((w5.setCell ⟨r, 0, none⟩ (.int .i64 12)).setCell ⟨r, 1, none⟩ (.int .i64 pp.line)).setCell ⟨r, 2, none⟩ (.int .i64 ((pp.off : Int) - pp.bol + 1)) = w9 at *
                exact bodyPost_ret (v := .tuple #[.pointer none, faV 12 pp.line (colP pp)]) (by simp [results, Tryz.results49, go_sem, faV, colP, y0, y1, y2]) rfl HPQ.out
        · rw [if_pos rfl] at HST
          have hpo := HRG.out.2.2 rfl
          go_wp2_with fail
          refine (fault_any _ s n c pp.off pp.bol a T pp.line 0 HFM3.out.sc (by omega) HPL.out.off HPL.out.bol).mono ?_
          rintro e w5 ⟨rfl, hb5⟩
          go_upto_region 12 with fail
          have HX := hide (faCells (w := w5) (l := pp.line) (k := (pp.off : Int) - pp.bol + 1))
          have HXL := hide (show w.heap.size ≤ w5.heap.size ∧ s < w5.heap.size ∧ r < w5.heap.size from by
            have h1 := HFM3.out.lts
            have h2 := HFM3.out.sc.lt
            have h3 := hb5.size
            have h4 := HFM3.out.l2
            omega)
          have HFM5 := hide ((HFM3.out.below hb5).below (be1 w5 (.cells #[.int .i64 0, .int .i64 pp.line, .int .i64 ((pp.off : Int) - pp.bol + 1)] 41)))
          clear HFM3 hb5
          generalize w5.alloc (.cells #[.int .i64 0, .int .i64 pp.line, .int .i64 ((pp.off : Int) - pp.bol + 1)] 41) = w6 at *
          generalize w5.heap.size = xb at *
          go_wp2_with fail
          refine (literal_any _ s n c pp.off pp.bol a T pp.line HFM5.out.sc (by omega) HPL.out.off).mono ?_
          rintro e w7 ⟨rfl, hsc, hex⟩
          have HTE := hide (tokE_rng T n (n - pp.off) pp.off HPL.out.off)
          obtain ⟨te, hte⟩ : ∃ te, tokE T n (n - pp.off) pp.off = te := ⟨_, rfl⟩
          have HTK := hide (show fStep T n hv hcn ⟨q, L, E⟩ = (if errP (litP (numP T pp.off te 16777215 true)) E.length hcn hv = 0 then (if (litP (numP T pp.off te 16777215 true)).1 = 0 then .go ⟨⟨if (numP T pp.off te 16777215 true).2 = 2 then te else pp.off, pp.line, pp.bol⟩, L, E ++ [(L.length : Int)]⟩ else .go ⟨⟨if (numP T pp.off te 16777215 true).2 = 2 then te else pp.off, pp.line, pp.bol⟩, L ++ [(litP (numP T pp.off te 16777215 true)).1], E⟩) else .bad (errP (litP (numP T pp.off te 16777215 true)) E.length hcn hv) pp.line (colP pp)) from by rw [← hte]; exact HST.out)
          have HLO := hide (fun z => litP_ok (numP_cls T pp.off te 16777215 true) z (fun z => (numP_rng T pp.off te 16777215 true (by decide) (hte ▸ HTE.out.1) z).2))
          rw [hte] at hsc ⊢
          clear HST HTE hte
          generalize numP T pp.off te 16777215 true = N at *
          obtain ⟨p2, hp2⟩ : ∃ p2 : Plc, (⟨if N.2 = 2 then te else pp.off, pp.line, pp.bol⟩ : Plc) = p2 := ⟨_, rfl⟩
          have HFM7 := hide (HFM5.out.scan hex (p := p2) (by rw [← hp2]; exact hsc))
          rw [hp2] at HTK
          have HX7 := hide (show (w7.cell? ⟨xb, 0, none⟩ = some (.int .i64 0) ∧ w7.cell? ⟨xb, 1, none⟩ = some (.int .i64 pp.line) ∧ w7.cell? ⟨xb, 2, none⟩ = some (.int .i64 ((pp.off : Int) - pp.bol + 1)) ∧ ∀ j, w7.frozen? ⟨xb, j, none⟩ = false) from by
            have hxs : xb ≠ s := by have := HXL.out; omega
            have hx := HX.out
            exact ⟨hex.cell hxs hx.1, hex.cell hxs hx.2.1, hex.cell hxs hx.2.2.1, fun j => (hex.frozen hxs (World.block_lt_of_cell? _ _ hx.1)).trans (hx.2.2.2 j)⟩)
          clear hsc hex HX HFM5 hp2
          have HLQ := hide (show (litP N).2 = 0 → 0 ≤ (litP N).1 ∧ (litP N).1 ≤ 2147483647 from fun z => by
            rcases (HLO.out z).2 with e | e
            · omega
            · unfold LitOk at e; omega)
          clear HLO
          generalize litP N = X at *
          obtain ⟨v, er⟩ := X
          dsimp only at HTK HLQ ⊢
          by_cases her : er = 0
          · subst her
            have cN := fun w' (k : Below w7.heap.size w7 w') => hide (numClauses_any w' B b _ _ L E ((HFM7.out.below k).ff.choose_spec.choose_spec.ar))
            have zS := HFM7.out.h1
            go_upto_region 13 with fail
            refine wp_region_held_drew (S := fun w' => w'.cell? ⟨x, 1, none⟩ = some (.int .i64 (hcn : Int))) (by kernel_rfl) zS (fun hHeld => ?_)
            refine wpAnyH_take (i := 0) (v := ?_) rfl (by kernel_rfl) (by kernel_rfl) (by kernel_rfl) (fun _ _ _ h => h) (Or.inl ⟨by rfl, ?_⟩) (by assumption) ?_
            rotate_left
            · (intro w hSw; (try dsimp only at hSw); go_simp; try (with_reducible rfl))
            try simp only [Act.put, List.getElem_toArray, List.getElem_cons_zero, List.getElem_cons_succ, List.setIfInBounds_toArray, List.set_cons_zero, List.set_cons_succ]
            refine wpAnyH_take (i := 1) (v := ?_) rfl (by kernel_rfl) (by kernel_rfl) (by kernel_rfl) (fun _ _ _ h => h) (Or.inl ⟨by rfl, ?_⟩) (by assumption) ?_
            rotate_left
            · (intro w hSw; (try dsimp only at hSw); go_simp; try (with_reducible rfl))
            try simp only [Act.put, List.getElem_toArray, List.getElem_cons_zero, List.getElem_cons_succ, List.setIfInBounds_toArray, List.set_cons_zero, List.set_cons_succ]
            refine wpAnyH_take (i := 2) (v := ?_) rfl (by kernel_rfl) (by kernel_rfl) (by kernel_rfl) (fun _ _ _ h => h) (Or.inl ⟨by rfl, ?_⟩) (by assumption) ?_
            rotate_left
            · (intro w hSw; (try dsimp only at hSw); go_simp; try (with_reducible rfl))
            try simp only [Act.put, List.getElem_toArray, List.getElem_cons_zero, List.getElem_cons_succ, List.setIfInBounds_toArray, List.set_cons_zero, List.set_cons_succ]
            refine wpAnyH_take (i := 3) (v := ?_) rfl (by kernel_rfl) (by kernel_rfl) (by kernel_rfl) (fun _ _ _ h => h) (Or.inl ⟨by rfl, ?_⟩) (by assumption) ?_
            rotate_left
            · (intro w hSw; (try dsimp only at hSw); go_simp; try (with_reducible rfl))
            try simp only [Act.put, List.getElem_toArray, List.getElem_cons_zero, List.getElem_cons_succ, List.setIfInBounds_toArray, List.set_cons_zero, List.set_cons_succ]
            refine wpAnyH_take (i := 5) (v := ?_) rfl (by kernel_rfl) (by kernel_rfl) (by kernel_rfl) (fun _ _ _ h => h) (Or.inl ⟨by rfl, ?_⟩) (by assumption) ?_
            rotate_left
            · (intro w hSw; (try dsimp only at hSw); go_simp; try (with_reducible rfl))
            try simp only [Act.put, List.getElem_toArray, List.getElem_cons_zero, List.getElem_cons_succ, List.setIfInBounds_toArray, List.set_cons_zero, List.set_cons_succ]
            refine wpAnyH_take (i := 6) (v := ?_) rfl (by kernel_rfl) (by kernel_rfl) (by kernel_rfl) (fun _ _ _ h => h) (Or.inl ⟨by rfl, ?_⟩) (by assumption) ?_
            rotate_left
            · (intro w hSw; (try dsimp only at hSw); go_simp; try (with_reducible rfl))
            try simp only [Act.put, List.getElem_toArray, List.getElem_cons_zero, List.getElem_cons_succ, List.setIfInBounds_toArray, List.set_cons_zero, List.set_cons_succ]
            refine wpAnyH_ready (rs := [4]) (by kernel_rfl) (by simp) ?_
            refine (AllReadyH.cons rfl (fun K hK => ?_) AllReadyH.nil)
            · refine step_call_g (by rfl) 50 #[.pointer (some ⟨b, 0, none⟩)] (by simp [go_sem]) (cN _ ((Below.refl _ _).drew)).out ?_
              rintro e w7a ⟨rfl, hw5⟩
              replace HFM7 := hide (show FM w w7a r s x B b a n c T hv hcn ⟨p2, L, E⟩ from by rw [hw5]; exact HFM7.out.below ((Below.refl _ _).drew))
              replace HX7 := hide (show (w7a.cell? ⟨xb, 0, none⟩ = some (.int .i64 0) ∧ w7a.cell? ⟨xb, 1, none⟩ = some (.int .i64 pp.line) ∧ w7a.cell? ⟨xb, 2, none⟩ = some (.int .i64 ((pp.off : Int) - pp.bol + 1)) ∧ ∀ j, w7a.frozen? ⟨xb, j, none⟩ = false) from by rw [hw5]; exact HX7.out)
              clear hw5
              have zS4 := HFM7.out.h1
              refine ⟨_, rfl, ?_⟩
              refine hK.out _ _ ?_ (fun hHeld => ?_)
              · (first | with_reducible exact zS4 | with_reducible exact zS | exact zS)
              clear hK K
              try simp only [Act.put, List.getElem_toArray, List.getElem_cons_zero, List.getElem_cons_succ, List.setIfInBounds_toArray, List.set_cons_zero, List.set_cons_succ]
              refine wpAnyH_take (i := 7) (v := ?_) rfl (by kernel_rfl) (by kernel_rfl) (by kernel_rfl) (fun _ _ _ h => h) (Or.inl ⟨by rfl, ?_⟩) (by assumption) ?_
              rotate_left
              · (intro w hSw; (try dsimp only at hSw); go_simp; try (with_reducible rfl))
              try simp only [Act.put, List.getElem_toArray, List.getElem_cons_zero, List.getElem_cons_succ, List.setIfInBounds_toArray, List.set_cons_zero, List.set_cons_succ]
              refine wpAnyH_take (i := 8) (v := ?_) rfl (by kernel_rfl) (by kernel_rfl) (by kernel_rfl) (fun _ _ _ h => h) (Or.inl ⟨by rfl, ?_⟩) (by assumption) ?_
              rotate_left
              · (intro w hSw; (try dsimp only at hSw); go_simp; try (with_reducible rfl))
              try simp only [Act.put, List.getElem_toArray, List.getElem_cons_zero, List.getElem_cons_succ, List.setIfInBounds_toArray, List.set_cons_zero, List.set_cons_succ]
              refine wpAnyH_done (by kernel_rfl) ?_ _
              clear zS zS4 cN
              by_cases hcnt : (E.length : Int) = (hcn : Int)
              · have hcb2 : ((E.length : Int) == (hcn : Int)) = true := by simpa using hcnt
                have hcb3 : (E.length == hcn) = true := by simp; omega
                have heq : errP (v, 0) E.length hcn hv = 12 := by
                  have h1 : cntP (v, 0) E.length hcn = 12 := by unfold cntP; rw [if_pos ⟨rfl, hcnt⟩]
                  unfold errP
                  rw [h1, if_neg (fun z => by cases z.1)]
                rw [heq, if_neg (by decide)] at HTK
                clear heq hcnt
                go_upto_region 15 with fail
                go_quiet (fail)
                rename_i nq
                replace HFM7 := hide (HFM7.out.below (belN w7a nq))
                replace HX7 := hide (show ((w7a.drewN nq).cell? ⟨xb, 0, none⟩ = some (.int .i64 0) ∧ (w7a.drewN nq).cell? ⟨xb, 1, none⟩ = some (.int .i64 pp.line) ∧ (w7a.drewN nq).cell? ⟨xb, 2, none⟩ = some (.int .i64 ((pp.off : Int) - pp.bol + 1)) ∧ ∀ j, (w7a.drewN nq).frozen? ⟨xb, j, none⟩ = false) from by
                  obtain ⟨x0, x1, x2, xf⟩ := HX7.out
                  exact ⟨cellKeep (belN _ nq) x0, cellKeep (belN _ nq) x1, cellKeep (belN _ nq) x2, fun j => (World.frozen?_of_block ((belN _ nq).block xb (World.block_lt_of_cell? _ _ x0))).trans (xf j)⟩)
                generalize w7a.drewN nq = w7b at *
                obtain ⟨x0, x1, x2, xf⟩ := HX7.out
                go_upto_region 19 with fail
                have hxr : r ≠ xb := by have := HXL.out; omega
                have HB8 := hide (show Below w.heap.size w (w7b.setCell ⟨xb, 0, none⟩ (.int .i64 12)) from HFM7.out.bl.setCell (p := ⟨xb, 0, none⟩) HXL.out.1 _)
                have y0 : (w7b.setCell ⟨xb, 0, none⟩ (.int .i64 12)).cell? ⟨xb, 0, none⟩ = some (.int .i64 12) := World.cell?_setCell_same _ _ _ x0
                have y1 : (w7b.setCell ⟨xb, 0, none⟩ (.int .i64 12)).cell? ⟨xb, 1, none⟩ = some (.int .i64 pp.line) := by rw [World.cell?_setCell_other _ _ _ _ (by simp)]; exact x1
                have y2 : (w7b.setCell ⟨xb, 0, none⟩ (.int .i64 12)).cell? ⟨xb, 2, none⟩ = some (.int .i64 ((pp.off : Int) - pp.bol + 1)) := by rw [World.cell?_setCell_other _ _ _ _ (by simp)]; exact x2
                have r0 := (set_cell_ne w7b xb 0 r 0 (.int .i64 12) hxr).trans HFM7.out.r0
                have r1 := (set_cell_ne w7b xb 0 r 1 (.int .i64 12) hxr).trans HFM7.out.r1
                have r2 := (set_cell_ne w7b xb 0 r 2 (.int .i64 12) hxr).trans HFM7.out.r2
                have rf := fun j => (set_frozen w7b ⟨xb, 0, none⟩ ⟨r, j, none⟩ (.int .i64 12)).trans (HFM7.out.rf j)
                clear x0 x1 x2 xf HX7 HFM7
                generalize w7b.setCell ⟨xb, 0, none⟩ (.int .i64 12) = w8 at *
                have HPP := hide (show ∀ w', Below w.heap.size w8 w' → FdPost w T n (.returned (.tuple #[.pointer none, faV 12 pp.line (colP pp)])) w' from fun w' hb => ⟨HB8.out.trans hb, .inl ⟨_, _, _, rfl, by decide, .inr ⟨_, _, _, _, HHB.out, HRUN.out, HOK.out, HTK.out⟩⟩⟩)
                go_region
                all_goals
                  go_wp2
                  obtain ⟨y0, y1, y2⟩ := set3 (.int .i64 12) (.int .i64 pp.line) (.int .i64 ((pp.off : Int) - pp.bol + 1)) r0 r1 r2
                  have HPQ := hide (HPP.out _ ((((Below.refl _ _).setCell (p := ⟨r, 0, none⟩) HRL.out (.int .i64 12)).setCell (p := ⟨r, 1, none⟩) HRL.out (.int .i64 pp.line)).setCell (p := ⟨r, 2, none⟩) HRL.out (.int .i64 ((pp.off : Int) - pp.bol + 1))).drew)
                  clear r0 r1 r2 rf
                  generalize ((w8.setCell ⟨r, 0, none⟩ (.int .i64 12)).setCell ⟨r, 1, none⟩ (.int .i64 pp.line)).setCell ⟨r, 2, none⟩ (.int .i64 ((pp.off : Int) - pp.bol + 1)) = w9 at *
                  exact bodyPost_ret (v := .tuple #[.pointer none, faV 12 pp.line (colP pp)]) (by simp [results, Tryz.results49, go_sem, faV, colP, y0, y1, y2]) rfl HPQ.out
              · have hcb2 : ((E.length : Int) == (hcn : Int)) = false := by simpa using hcnt
                have hcb3 : (E.length == hcn) = false := by simp; omega
                have HCP := hide (show cntP (v, 0) E.length hcn = 0 by unfold cntP; rw [if_neg (fun z => hcnt z.2)])
                clear hcnt
                have hvr := HLQ.out rfl
                have hw1 : IntKind.i64.wrap (v / 2) = v / 2 := by rw [IntKind.wrap_i64]; omega
                have zS := HFM7.out.h0
                go_upto_region 15 with fail
                refine wp_region_held_drew (S := fun w' => w'.cell? ⟨x, 0, none⟩ = some (.int .i64 hv)) (by kernel_rfl) zS (fun hHeld => ?_)
                refine wpAnyH_take (i := 0) (v := ?_) rfl (by kernel_rfl) (by kernel_rfl) (by kernel_rfl) (fun _ _ _ h => h) (Or.inl ⟨by rfl, ?_⟩) (by assumption) ?_
                rotate_left
                · (intro w hSw; (try dsimp only at hSw); go_simp; try (with_reducible rfl))
                try simp only [Act.put, List.getElem_toArray, List.getElem_cons_zero, List.getElem_cons_succ, List.setIfInBounds_toArray, List.set_cons_zero, List.set_cons_succ]
                refine wpAnyH_take (i := 1) (v := ?_) rfl (by kernel_rfl) (by kernel_rfl) (by kernel_rfl) (fun _ _ _ h => h) (Or.inl ⟨by rfl, ?_⟩) (by assumption) ?_
                rotate_left
                · (intro w hSw; (try dsimp only at hSw); go_simp; try (with_reducible rfl))
                try simp only [Act.put, List.getElem_toArray, List.getElem_cons_zero, List.getElem_cons_succ, List.setIfInBounds_toArray, List.set_cons_zero, List.set_cons_succ]
                refine wpAnyH_take (i := 2) (v := ?_) rfl (by kernel_rfl) (by kernel_rfl) (by kernel_rfl) (fun _ _ _ h => h) (Or.inl ⟨by rfl, ?_⟩) (by assumption) ?_
                rotate_left
                · (intro w hSw; (try dsimp only at hSw); go_simp; try (with_reducible rfl))
                try simp only [Act.put, List.getElem_toArray, List.getElem_cons_zero, List.getElem_cons_succ, List.setIfInBounds_toArray, List.set_cons_zero, List.set_cons_succ]
                refine wpAnyH_take (i := 3) (v := ?_) rfl (by kernel_rfl) (by kernel_rfl) (by kernel_rfl) (fun _ _ _ h => h) (Or.inl ⟨by rfl, ?_⟩) (by assumption) ?_
                rotate_left
                · (intro w hSw; (try dsimp only at hSw); go_simp; try (with_reducible rfl))
                try simp only [Act.put, List.getElem_toArray, List.getElem_cons_zero, List.getElem_cons_succ, List.setIfInBounds_toArray, List.set_cons_zero, List.set_cons_succ]
                refine wpAnyH_take (i := 6) (v := ?_) rfl (by kernel_rfl) (by kernel_rfl) (by kernel_rfl) (fun _ _ _ h => h) (Or.inl ⟨by rfl, ?_⟩) (by assumption) ?_
                rotate_left
                · (intro w hSw; (try dsimp only at hSw); go_simp; try (with_reducible rfl))
                try simp only [Act.put, List.getElem_toArray, List.getElem_cons_zero, List.getElem_cons_succ, List.setIfInBounds_toArray, List.set_cons_zero, List.set_cons_succ]
                refine wpAnyH_take (i := 7) (v := ?_) rfl (by kernel_rfl) (by kernel_rfl) (by kernel_rfl) (fun _ _ _ h => h) (Or.inl ⟨by rfl, ?_⟩) (by assumption) ?_
                rotate_left
                · (intro w hSw; (try dsimp only at hSw); go_simp; try (with_reducible rfl))
                try simp only [Act.put, List.getElem_toArray, List.getElem_cons_zero, List.getElem_cons_succ, List.setIfInBounds_toArray, List.set_cons_zero, List.set_cons_succ]
                refine wpAnyH_ready (rs := [4]) (by kernel_rfl) (by simp) ?_
                refine (AllReadyH.cons rfl (fun K hK => ?_) AllReadyH.nil)
                · refine step_call_g (by rfl) 106 #[.int .i32 v] (by simp [go_sem]) (litVar_any _ v hvr) ?_
                  rintro e w7b ⟨rfl, hw5⟩
                  replace HFM7 := hide (show FM w w7b r s x B b a n c T hv hcn ⟨p2, L, E⟩ from by rw [hw5]; exact HFM7.out.below ((Below.refl _ _).drew))
                  replace HX7 := hide (show (w7b.cell? ⟨xb, 0, none⟩ = some (.int .i64 0) ∧ w7b.cell? ⟨xb, 1, none⟩ = some (.int .i64 pp.line) ∧ w7b.cell? ⟨xb, 2, none⟩ = some (.int .i64 ((pp.off : Int) - pp.bol + 1)) ∧ ∀ j, w7b.frozen? ⟨xb, j, none⟩ = false) from by rw [hw5]; exact HX7.out)
                  clear hw5
                  have zS4 := HFM7.out.h0
                  refine ⟨_, rfl, ?_⟩
                  refine hK.out _ _ ?_ (fun hHeld => ?_)
                  · (first | with_reducible exact zS4 | with_reducible exact zS | exact zS)
                  clear hK K
                  try simp only [Act.put, List.getElem_toArray, List.getElem_cons_zero, List.getElem_cons_succ, List.setIfInBounds_toArray, List.set_cons_zero, List.set_cons_succ]
                  refine wpAnyH_take (i := 5) (v := ?_) rfl (by kernel_rfl) (by kernel_rfl) (by kernel_rfl) (fun _ _ _ h => h) (Or.inl ⟨by rfl, ?_⟩) (by assumption) ?_
                  rotate_left
                  · (intro w hSw; (try dsimp only at hSw); go_simp; try (with_reducible rfl))
                  try simp only [Act.put, List.getElem_toArray, List.getElem_cons_zero, List.getElem_cons_succ, List.setIfInBounds_toArray, List.set_cons_zero, List.set_cons_succ]
                  refine wpAnyH_take (i := 8) (v := ?_) rfl (by kernel_rfl) (by kernel_rfl) (by kernel_rfl) (fun _ _ _ h => h) (Or.inl ⟨by rfl, ?_⟩) (by assumption) ?_
                  rotate_left
                  · (intro w hSw; (try dsimp only at hSw); go_simp; try (with_reducible rfl))
                  try simp only [Act.put, List.getElem_toArray, List.getElem_cons_zero, List.getElem_cons_succ, List.setIfInBounds_toArray, List.set_cons_zero, List.set_cons_succ]
                  refine wpAnyH_take (i := 9) (v := ?_) rfl (by kernel_rfl) (by kernel_rfl) (by kernel_rfl) (fun _ _ _ h => h) (Or.inl ⟨by rfl, ?_⟩) (by assumption) ?_
                  rotate_left
                  · (intro w hSw; (try dsimp only at hSw); go_simp; try (with_reducible rfl))
                  try simp only [Act.put, List.getElem_toArray, List.getElem_cons_zero, List.getElem_cons_succ, List.setIfInBounds_toArray, List.set_cons_zero, List.set_cons_succ]
                  refine wpAnyH_done (by kernel_rfl) ?_ _
                  clear zS zS4
                  by_cases hgr : hv < v / 2
                  · have hgb : decide (hv < v / 2) = true := by simpa using hgr
                    rw [hgb]
                    have heq : errP (v, 0) E.length hcn hv = 10 := by
                      unfold errP
                      rw [if_pos ⟨HCP.out, hgr⟩]
                    rw [heq, if_neg (by decide)] at HTK
                    clear heq hgr
                    obtain ⟨x0, x1, x2, xf⟩ := HX7.out
                    go_upto_region 19 with fail
                    have hxr : r ≠ xb := by have := HXL.out; omega
                    have HB8 := hide (show Below w.heap.size w (w7b.setCell ⟨xb, 0, none⟩ (.int .i64 10)) from HFM7.out.bl.setCell (p := ⟨xb, 0, none⟩) HXL.out.1 _)
                    have y0 : (w7b.setCell ⟨xb, 0, none⟩ (.int .i64 10)).cell? ⟨xb, 0, none⟩ = some (.int .i64 10) := World.cell?_setCell_same _ _ _ x0
                    have y1 : (w7b.setCell ⟨xb, 0, none⟩ (.int .i64 10)).cell? ⟨xb, 1, none⟩ = some (.int .i64 pp.line) := by rw [World.cell?_setCell_other _ _ _ _ (by simp)]; exact x1
                    have y2 : (w7b.setCell ⟨xb, 0, none⟩ (.int .i64 10)).cell? ⟨xb, 2, none⟩ = some (.int .i64 ((pp.off : Int) - pp.bol + 1)) := by rw [World.cell?_setCell_other _ _ _ _ (by simp)]; exact x2
                    have r0 := (set_cell_ne w7b xb 0 r 0 (.int .i64 10) hxr).trans HFM7.out.r0
                    have r1 := (set_cell_ne w7b xb 0 r 1 (.int .i64 10) hxr).trans HFM7.out.r1
                    have r2 := (set_cell_ne w7b xb 0 r 2 (.int .i64 10) hxr).trans HFM7.out.r2
                    have rf := fun j => (set_frozen w7b ⟨xb, 0, none⟩ ⟨r, j, none⟩ (.int .i64 10)).trans (HFM7.out.rf j)
                    clear x0 x1 x2 xf HX7 HFM7
                    generalize w7b.setCell ⟨xb, 0, none⟩ (.int .i64 10) = w8 at *
                    have HPP := hide (show ∀ w', Below w.heap.size w8 w' → FdPost w T n (.returned (.tuple #[.pointer none, faV 10 pp.line (colP pp)])) w' from fun w' hb => ⟨HB8.out.trans hb, .inl ⟨_, _, _, rfl, by decide, .inr ⟨_, _, _, _, HHB.out, HRUN.out, HOK.out, HTK.out⟩⟩⟩)
                    go_region
                    all_goals
                      go_wp2
                      obtain ⟨y0, y1, y2⟩ := set3 (.int .i64 10) (.int .i64 pp.line) (.int .i64 ((pp.off : Int) - pp.bol + 1)) r0 r1 r2
                      have HPQ := hide (HPP.out _ ((((Below.refl _ _).setCell (p := ⟨r, 0, none⟩) HRL.out (.int .i64 10)).setCell (p := ⟨r, 1, none⟩) HRL.out (.int .i64 pp.line)).setCell (p := ⟨r, 2, none⟩) HRL.out (.int .i64 ((pp.off : Int) - pp.bol + 1))).drew)
                      clear r0 r1 r2 rf
                      generalize ((w8.setCell ⟨r, 0, none⟩ (.int .i64 10)).setCell ⟨r, 1, none⟩ (.int .i64 pp.line)).setCell ⟨r, 2, none⟩ (.int .i64 ((pp.off : Int) - pp.bol + 1)) = w9 at *
                      exact bodyPost_ret (v := .tuple #[.pointer none, faV 10 pp.line (colP pp)]) (by simp [results, Tryz.results49, go_sem, faV, colP, y0, y1, y2]) rfl HPQ.out
                  · have hgb : decide (hv < v / 2) = false := by simpa using hgr
                    have hgn : (hv < v / 2) = False := by simpa using hgr
                    have hgl : v / 2 ≤ hv := by omega
                    have heq : errP (v, 0) E.length hcn hv = 0 := by
                      unfold errP
                      rw [if_neg (fun z => hgr z.2), HCP.out]
                    rw [heq, if_pos rfl] at HTK
                    clear heq hgr
                    by_cases hv0 : v = 0
                    · have hvb : (v == 0) = true := by simpa using hv0
                      rw [if_pos hv0] at HTK
                      have HNX := hide (HOK.out.step HTK.out)
                      have HR2 := hide (HRUN.out.snoc HTK.out)
                      clear hv0
                      go_wp2_with fail
                      obtain ⟨va, ve, hff⟩ := HFM7.out.ff
                      refine (finish_any _ B b 1 va ve L E hff.ar HFM7.out.l5 (by have := HEL.out; omega)).mono ?_
                      rintro e w8 ⟨rfl, g8, c8, har, hex, hg8, hkp⟩
                      have HFM8 := hide (HFM7.out.deep hex (by rintro j (z | z); rw [z]; exact HFM7.out.l4; exact (hff.ar.r1.lt j z).1) ⟨_, _, ⟨har, hkp 0 _ (by omega) hff.c⟩⟩)
                      have HO2 := hide (offLeft_at (n := n) HFM8.out.sc.c1)
                      clear har hex hg8 hkp hff HFM7 HX7
                      go_wp2
                      go_roundw
                      case rel => exact ⟨_, HR2, HNX.out.1, HFM8.out⟩
                      case measure => rw [HOL.out, HO2.out]; have := HNX.out.2; have := HNX.out.1.pl.off; dsimp only at *; omega
                    · have hvb : (v == 0) = false := by simpa using hv0
                      rw [if_neg hv0] at HTK
                      have HNX := hide (HOK.out.step HTK.out)
                      have HR2 := hide (HRUN.out.snoc HTK.out)
                      clear hv0
                      go_wp2_with fail
                      obtain ⟨va, ve, hff⟩ := HFM7.out.ff
                      refine (put_any _ B b 1 va ve L E v hff.ar HFM7.out.l5 (by have := HEL.out; omega)).mono ?_
                      rintro e w8 ⟨rfl, g8, c8, har, hex, hg8, hkp⟩
                      have HFM8 := hide (HFM7.out.deep hex (by rintro j (z | z); rw [z]; exact HFM7.out.l4; exact (hff.ar.r0.lt j z).1) ⟨_, _, ⟨har, hkp 0 _ (by omega) hff.c⟩⟩)
                      have HO2 := hide (offLeft_at (n := n) HFM8.out.sc.c1)
                      clear har hex hg8 hkp hff HFM7 HX7
                      go_wp2
                      go_roundw
                      case rel => exact ⟨_, HR2, HNX.out.1, HFM8.out⟩
                      case measure => rw [HOL.out, HO2.out]; have := HNX.out.2; have := HNX.out.1.pl.off; dsimp only at *; omega
          · have heb : (er == 0) = false := by simpa using her
            have hen : (er != 0) = true := by simpa using her
            have heq : errP (v, er) E.length hcn hv = er := by
              have h1 : cntP (v, er) E.length hcn = er := by unfold cntP; rw [if_neg (fun z => her z.1)]
              unfold errP
              rw [h1, if_neg (fun z => her z.1)]
            rw [heq, if_neg her] at HTK
            have HER := hide her
            clear heq her
            go_upto_region 13 with fail
            go_quiet (fail)
            rename_i nq
            replace HFM7 := hide (HFM7.out.below (belN w7 nq))
            replace HX7 := hide (show ((w7.drewN nq).cell? ⟨xb, 0, none⟩ = some (.int .i64 0) ∧ (w7.drewN nq).cell? ⟨xb, 1, none⟩ = some (.int .i64 pp.line) ∧ (w7.drewN nq).cell? ⟨xb, 2, none⟩ = some (.int .i64 ((pp.off : Int) - pp.bol + 1)) ∧ ∀ j, (w7.drewN nq).frozen? ⟨xb, j, none⟩ = false) from by
              obtain ⟨x0, x1, x2, xf⟩ := HX7.out
              exact ⟨cellKeep (belN _ nq) x0, cellKeep (belN _ nq) x1, cellKeep (belN _ nq) x2, fun j => (World.frozen?_of_block ((belN _ nq).block xb (World.block_lt_of_cell? _ _ x0))).trans (xf j)⟩)
            generalize w7.drewN nq = w7a at *
            go_upto_region 15 with fail
            go_quiet (fail)
            rename_i nq
            replace HFM7 := hide (HFM7.out.below (belN w7a nq))
            replace HX7 := hide (show ((w7a.drewN nq).cell? ⟨xb, 0, none⟩ = some (.int .i64 0) ∧ (w7a.drewN nq).cell? ⟨xb, 1, none⟩ = some (.int .i64 pp.line) ∧ (w7a.drewN nq).cell? ⟨xb, 2, none⟩ = some (.int .i64 ((pp.off : Int) - pp.bol + 1)) ∧ ∀ j, (w7a.drewN nq).frozen? ⟨xb, j, none⟩ = false) from by
              obtain ⟨x0, x1, x2, xf⟩ := HX7.out
              exact ⟨cellKeep (belN _ nq) x0, cellKeep (belN _ nq) x1, cellKeep (belN _ nq) x2, fun j => (World.frozen?_of_block ((belN _ nq).block xb (World.block_lt_of_cell? _ _ x0))).trans (xf j)⟩)
            generalize w7a.drewN nq = w7b at *
            obtain ⟨x0, x1, x2, xf⟩ := HX7.out
            go_upto_region 19 with fail
            have hxr : r ≠ xb := by have := HXL.out; omega
            have HB8 := hide (show Below w.heap.size w (w7b.setCell ⟨xb, 0, none⟩ (.int .i64 er)) from HFM7.out.bl.setCell (p := ⟨xb, 0, none⟩) HXL.out.1 _)
            have y0 : (w7b.setCell ⟨xb, 0, none⟩ (.int .i64 er)).cell? ⟨xb, 0, none⟩ = some (.int .i64 er) := World.cell?_setCell_same _ _ _ x0
            have y1 : (w7b.setCell ⟨xb, 0, none⟩ (.int .i64 er)).cell? ⟨xb, 1, none⟩ = some (.int .i64 pp.line) := by rw [World.cell?_setCell_other _ _ _ _ (by simp)]; exact x1
            have y2 : (w7b.setCell ⟨xb, 0, none⟩ (.int .i64 er)).cell? ⟨xb, 2, none⟩ = some (.int .i64 ((pp.off : Int) - pp.bol + 1)) := by rw [World.cell?_setCell_other _ _ _ _ (by simp)]; exact x2
            have r0 := (set_cell_ne w7b xb 0 r 0 (.int .i64 er) hxr).trans HFM7.out.r0
            have r1 := (set_cell_ne w7b xb 0 r 1 (.int .i64 er) hxr).trans HFM7.out.r1
            have r2 := (set_cell_ne w7b xb 0 r 2 (.int .i64 er) hxr).trans HFM7.out.r2
            have rf := fun j => (set_frozen w7b ⟨xb, 0, none⟩ ⟨r, j, none⟩ (.int .i64 er)).trans (HFM7.out.rf j)
            clear x0 x1 x2 xf HX7 HFM7
            generalize w7b.setCell ⟨xb, 0, none⟩ (.int .i64 er) = w8 at *
            have HPP := hide (show ∀ w', Below w.heap.size w8 w' → FdPost w T n (.returned (.tuple #[.pointer none, faV er pp.line (colP pp)])) w' from fun w' hb => ⟨HB8.out.trans hb, .inl ⟨_, _, _, rfl, HER.out, .inr ⟨_, _, _, _, HHB.out, HRUN.out, HOK.out, HTK.out⟩⟩⟩)
            go_region
            all_goals
              go_wp2
              obtain ⟨y0, y1, y2⟩ := set3 (.int .i64 er) (.int .i64 pp.line) (.int .i64 ((pp.off : Int) - pp.bol + 1)) r0 r1 r2
              have HPQ := hide (HPP.out _ ((((Below.refl _ _).setCell (p := ⟨r, 0, none⟩) HRL.out (.int .i64 er)).setCell (p := ⟨r, 1, none⟩) HRL.out (.int .i64 pp.line)).setCell (p := ⟨r, 2, none⟩) HRL.out (.int .i64 ((pp.off : Int) - pp.bol + 1))).drew)
              clear r0 r1 r2 rf
              generalize ((w8.setCell ⟨r, 0, none⟩ (.int .i64 er)).setCell ⟨r, 1, none⟩ (.int .i64 pp.line)).setCell ⟨r, 2, none⟩ (.int .i64 ((pp.off : Int) - pp.bol + 1)) = w9 at *
              exact bodyPost_ret (v := .tuple #[.pointer none, faV er pp.line (colP pp)]) (by simp [results, Tryz.results49, go_sem, faV, colP, y0, y1, y2]) rfl HPQ.out
    · have h1 : decide ((hcn : Int) < (m : Int)) = false := by simp; omega
      have h1n : decide (hcn < m) = false := by simp; omega
      have hcm : m ≤ m := Nat.le_refl _
      go_upto_region 9 with fail
      go_cut [9] (fun s9 wx => ∃ b, s9 = .pointer (some ⟨b, 0, none⟩) ∧ FM w wx r s x w4.heap.size b a n c T hv hcn ⟨p, [], []⟩)
      case first =>
        have nA := fun w5 => hide (newArena_any w5 m m (by have := HMM.out; omega) (by have := HMM.out; omega))
        have g0 := HG4.out.1
        go_region_law (first
          | (refine step_call rfl 115 #[.int .i64 (m : Nat), .int .i64 m] (by simp [go_sem]) (nA _).out ?_
             rintro e w5 ⟨g1', c1, g2, c2, rfl, hr1, hr2, hne, hb5⟩
             have hB1 : Below w4.heap.size w4 w5 := of_drew hb5
             have g0' := cellKeep hB1 g0
             refine ⟨_, rfl, ?_⟩))
        all_goals
          have hp := ff_new (nv := hv) hr1 hr2 (fun k z y => by cases z; cases y; exact hne rfl)
          have HD := hide (fm_new (p := p) HB4.out HSC4.out HR4.out HG4.out (lec hB1 (be1 w5 (.cells #[.int .i64 hv, .slice (some ⟨g1', 0, none⟩) 0 c1, .slice (some ⟨g2, 0, none⟩) 0 c2] 73))) hp (by have := HRW.out; omega) hs1' HLX.out hB1.size HLT.out)
          clear hp hr1 hr2 hb5 nA g0 g0' hB1
          go_wp2
          go_meet
          exact ⟨_, rfl, HD.out⟩
      obtain ⟨b, rfl, hfm⟩ := hcut
      have HFM := hide hfm
      have HFO := hide (fst_ok (hv := hv) (hc := (hcn : Int)) HC0.out HPL.out)
      have HRL := hide (show w.heap.size ≤ r by have := HRW.out; omega)
      have HNB := hide hn
      clear hfm HB4 HSC4 HR4 HG4 HLX HPL HC0 g1 h1 h1n hcm hln hm hm2
      generalize w4.heap.size = B at *
      go_wp2
      go_loopw [10, 11, 12] (fun _ _ _ wr => ∃ st, Hid (FRun T n hv hcn ⟨p, [], []⟩ st) ∧ Hid (FOk n hv hcn st) ∧ FM w wr r s x B b a n c T hv hcn st) (fun _ _ _ wr => offLeft s n wr)
      case atStart => exact ⟨_, hide (.refl _), HFO, HFM.out⟩
      case round =>
        clear HFM HFO
        obtain ⟨st, HRUN, HOK, hfm⟩ := hrel
        have HFM := hide hfm
        have HOL := hide (offLeft_at (n := n) hfm.sc.c1)
        clear hfm
        go_wp2_with fail
        refine (seek_any _ s n c a T st.p HFM.out.sc (by omega) HOK.out.pl).mono ?_
        rintro e w3' ⟨rfl, hsc, hpl, hex⟩
        have HFM3 := hide (HFM.out.scan hex hsc)
        have HPL := hide hpl
        have HRG := hide (seekF_rng T n st.p HOK.out.pl)
        have HST := hide (show fStep T n hv hcn st = if (seekF T n st.p).1 = true then fTok T n hv hcn st (seekF T n st.p).2 else if pendP st.L st.E = true then .bad 11 (seekF T n st.p).2.line (colP (seekF T n st.p).2) else if (st.E.length : Int) = hcn then .done else .bad 12 (seekF T n st.p).2.line (colP (seekF T n st.p).2) from rfl)
        clear hsc hpl hex HFM
        obtain ⟨R, hR⟩ : ∃ R, seekF T n st.p = R := ⟨_, rfl⟩
        rw [hR] at HFM3 HPL HRG HST ⊢
        clear hR
        obtain ⟨fd, pp⟩ := R
        dsimp only at HFM3 HPL HRG HST ⊢
        have HEL := hide (show st.E.length ≤ 1000000 ∧ st.L.length ≤ 1000000 from by have := HOK.out.len; have := HOK.out.pl.off; have := HNB.out; omega)
        obtain ⟨q, L, E⟩ := st
        dsimp only at HFM3 HST HOL HEL ⊢
        cases fd
        · rw [if_neg (by decide)] at HST
          go_wp2_with fail
          obtain ⟨va, ve, hff⟩ := HFM3.out.ff
          refine (pending_any _ B b 1 va ve L E hff.ar (by have := HEL.out; omega)).mono ?_
          rintro e w4 ⟨rfl, hb4⟩
          have HFM4 := hide (HFM3.out.below hb4)
          clear HFM3 hff hb4
          by_cases hpd : clsP E < L.length
          · have hpb : decide (clsP E < L.length) = true := by simpa using hpd
            replace HST := hide (show fStep T n hv hcn ⟨q, L, E⟩ = .bad 11 pp.line (colP pp) from by rw [HST.out, if_pos (show pendP L E = true from hpb)])
            clear hpd
            go_wp2_with fail
            refine (fault_any _ s n c pp.off pp.bol a T pp.line 11 HFM4.out.sc (by omega) HPL.out.off HPL.out.bol).mono ?_
            rintro e w5 ⟨rfl, hb5⟩
            have HFM5 := hide (HFM4.out.below hb5)
            have r0 := HFM5.out.r0
            have r1 := HFM5.out.r1
            have r2 := HFM5.out.r2
            have rf := HFM5.out.rf
            clear HFM4 hb5
            have HPP := hide (show ∀ w', Below w.heap.size w5 w' → FdPost w T n (.returned (.tuple #[.pointer none, faV 11 pp.line (colP pp)])) w' from fun w' hb => ⟨HFM5.out.bl.trans hb, .inl ⟨_, _, _, rfl, by decide, .inr ⟨_, _, _, _, HHB.out, HRUN.out, HOK.out, HST.out⟩⟩⟩)
            go_wp2
            obtain ⟨y0, y1, y2⟩ := set3 (.int .i64 11) (.int .i64 pp.line) (.int .i64 ((pp.off : Int) - pp.bol + 1)) r0 r1 r2
            have HPQ := hide (HPP.out _ ((((Below.refl _ _).setCell (p := ⟨r, 0, none⟩) HRL.out (.int .i64 11)).setCell (p := ⟨r, 1, none⟩) HRL.out (.int .i64 pp.line)).setCell (p := ⟨r, 2, none⟩) HRL.out (.int .i64 ((pp.off : Int) - pp.bol + 1))))
            clear r0 r1 r2 rf
            generalize ((w5.setCell ⟨r, 0, none⟩ (.int .i64 11)).setCell ⟨r, 1, none⟩ (.int .i64 pp.line)).setCell ⟨r, 2, none⟩ (.int .i64 ((pp.off : Int) - pp.bol + 1)) = w9 at *
            exact bodyPost_ret (v := .tuple #[.pointer none, faV 11 pp.line (colP pp)]) (by simp [results, Tryz.results49, go_sem, faV, colP, y0, y1, y2]) rfl HPQ.out
          · have hpb : decide (clsP E < L.length) = false := by simpa using hpd
            replace HST := hide (show fStep T n hv hcn ⟨q, L, E⟩ = if (E.length : Int) = hcn then .done else .bad 12 pp.line (colP pp) from by rw [HST.out, if_neg (show ¬ pendP L E = true from by unfold pendP; rw [hpb]; decide)])
            clear hpd
            have cN := fun w' (k : Below w4.heap.size w4 w') => hide (numClauses_any w' B b _ _ L E ((HFM4.out.below k).ff.choose_spec.choose_spec.ar))
            have zS := HFM4.out.h1
            go_upto_region 25 with fail
            refine wp_region_held_drew (S := fun w' => w'.cell? ⟨x, 1, none⟩ = some (.int .i64 (hcn : Int))) (by kernel_rfl) zS (fun hHeld => ?_)
            refine wpAnyH_take (i := 0) (v := ?_) rfl (by kernel_rfl) (by kernel_rfl) (by kernel_rfl) (fun _ _ _ h => h) (Or.inl ⟨by rfl, ?_⟩) (by assumption) ?_
            rotate_left
            · (intro w hSw; (try dsimp only at hSw); go_simp; try (with_reducible rfl))
            try simp only [Act.put, List.getElem_toArray, List.getElem_cons_zero, List.getElem_cons_succ, List.setIfInBounds_toArray, List.set_cons_zero, List.set_cons_succ]
            refine wpAnyH_take (i := 2) (v := ?_) rfl (by kernel_rfl) (by kernel_rfl) (by kernel_rfl) (fun _ _ _ h => h) (Or.inl ⟨by rfl, ?_⟩) (by assumption) ?_
            rotate_left
            · (intro w hSw; (try dsimp only at hSw); go_simp; try (with_reducible rfl))
            try simp only [Act.put, List.getElem_toArray, List.getElem_cons_zero, List.getElem_cons_succ, List.setIfInBounds_toArray, List.set_cons_zero, List.set_cons_succ]
            refine wpAnyH_take (i := 3) (v := ?_) rfl (by kernel_rfl) (by kernel_rfl) (by kernel_rfl) (fun _ _ _ h => h) (Or.inl ⟨by rfl, ?_⟩) (by assumption) ?_
            rotate_left
            · (intro w hSw; (try dsimp only at hSw); go_simp; try (with_reducible rfl))
            try simp only [Act.put, List.getElem_toArray, List.getElem_cons_zero, List.getElem_cons_succ, List.setIfInBounds_toArray, List.set_cons_zero, List.set_cons_succ]
            refine wpAnyH_ready (rs := [1]) (by kernel_rfl) (by simp) ?_
            refine (AllReadyH.cons rfl (fun K hK => ?_) AllReadyH.nil)
            · refine step_call rfl 50 #[.pointer (some ⟨b, 0, none⟩)] (by simp [go_sem]) (cN _ ((Below.refl _ _).drew)).out ?_
              rintro e w4' ⟨rfl, hw5⟩
              replace HFM4 := hide (show FM w w4' r s x B b a n c T hv hcn ⟨pp, L, E⟩ from by rw [hw5]; exact HFM4.out.below ((Below.refl _ _).drew))
              clear hw5
              have zS4 := HFM4.out.h1
              refine ⟨_, rfl, ?_⟩
              refine hK.out _ _ ?_ (fun hHeld => ?_)
              · (first | with_reducible exact zS4 | with_reducible exact zS | exact zS)
              clear hK K
              try simp only [Act.put, List.getElem_toArray, List.getElem_cons_zero, List.getElem_cons_succ, List.setIfInBounds_toArray, List.set_cons_zero, List.set_cons_succ]
              refine wpAnyH_take (i := 4) (v := ?_) rfl (by kernel_rfl) (by kernel_rfl) (by kernel_rfl) (fun _ _ _ h => h) (Or.inl ⟨by rfl, ?_⟩) (by assumption) ?_
              rotate_left
              · (intro w hSw; (try dsimp only at hSw); go_simp; try (with_reducible rfl))
              try simp only [Act.put, List.getElem_toArray, List.getElem_cons_zero, List.getElem_cons_succ, List.setIfInBounds_toArray, List.set_cons_zero, List.set_cons_succ]
              refine wpAnyH_done (by kernel_rfl) ?_ _
              clear zS zS4 cN
              by_cases hcnt : (E.length : Int) = (hcn : Int)
              · have hcb : ((E.length : Int) != (hcn : Int)) = false := by simpa using hcnt
                have hcb2 : ((E.length : Int) == (hcn : Int)) = true := by simpa using hcnt
                have hcb3 : (E.length == hcn) = true := by simp; omega
                replace HST := hide (show fStep T n hv hcn ⟨q, L, E⟩ = .done from by rw [HST.out, if_pos hcnt])
                clear hcnt
                have r0 := HFM4.out.r0
                have r1 := HFM4.out.r1
                have r2 := HFM4.out.r2
                have rf := HFM4.out.rf
                have HPP := hide (show ∀ w', Ex (fun k => k = r) w4' w' → FdPost w T n (.returned (.tuple #[.pointer (some ⟨b, 0, none⟩), faV 0 0 0])) w' from fun w' hb => by
                  have l1 := HFM4.out.l1
                  have l2 := HFM4.out.l2
                  have l3 := HFM4.out.l3
                  have l4 := HFM4.out.l4
                  obtain ⟨va, ve, hff⟩ := HFM4.out.ff
                  exact ⟨HFM4.out.bl.trans (hb.below HFM4.out.bl.size (fun k hk e => by omega)), .inr ⟨_, _, _, _, b, va, ve, HHB.out, HRUN.out, HOK.out, HST.out, rfl, FF.base (by omega) (hff.keep hb (by show ¬ b = r; omega) (fun j hj e => by omega)), by omega⟩⟩)
                go_wp2
                obtain ⟨y0, y1, y2⟩ := set3 (.int .i64 0) (.int .i64 0) (.int .i64 0) r0 r1 r2
                have HPQ := hide (HPP.out _ ((((Ex.refl (fun k => k = r) _).set (p := r) (j := 0) rfl (.int .i64 0)).set (p := r) (j := 1) rfl (.int .i64 0)).set (p := r) (j := 2) rfl (.int .i64 0)))
                clear r0 r1 r2 rf
                generalize ((w4'.setCell ⟨r, 0, none⟩ (.int .i64 0)).setCell ⟨r, 1, none⟩ (.int .i64 0)).setCell ⟨r, 2, none⟩ (.int .i64 0) = w9 at *
                exact bodyPost_ret (v := .tuple #[.pointer (some ⟨b, 0, none⟩), faV 0 0 0]) (by simp [results, Tryz.results49, go_sem, faV, colP, y0, y1, y2]) rfl HPQ.out
              · have hcb : ((E.length : Int) != (hcn : Int)) = true := by simpa using hcnt
                have hcb2 : ((E.length : Int) == (hcn : Int)) = false := by simpa using hcnt
                have hcb3 : (E.length == hcn) = false := by simp; omega
                replace HST := hide (show fStep T n hv hcn ⟨q, L, E⟩ = .bad 12 pp.line (colP pp) from by rw [HST.out, if_neg hcnt])
                clear hcnt
                go_wp2_with fail
                refine (fault_any _ s n c pp.off pp.bol a T pp.line 12 HFM4.out.sc (by omega) HPL.out.off HPL.out.bol).mono ?_
                rintro e w5 ⟨rfl, hb5⟩
                have HFM5 := hide (HFM4.out.below hb5)
                have r0 := HFM5.out.r0
                have r1 := HFM5.out.r1
                have r2 := HFM5.out.r2
                have rf := HFM5.out.rf
                clear HFM4 hb5
                have HPP := hide (show ∀ w', Below w.heap.size w5 w' → FdPost w T n (.returned (.tuple #[.pointer none, faV 12 pp.line (colP pp)])) w' from fun w' hb => ⟨HFM5.out.bl.trans hb, .inl ⟨_, _, _, rfl, by decide, .inr ⟨_, _, _, _, HHB.out, HRUN.out, HOK.out, HST.out⟩⟩⟩)
                go_wp2
                obtain ⟨y0, y1, y2⟩ := set3 (.int .i64 12) (.int .i64 pp.line) (.int .i64 ((pp.off : Int) - pp.bol + 1)) r0 r1 r2
                have HPQ := hide (HPP.out _ ((((Below.refl _ _).setCell (p := ⟨r, 0, none⟩) HRL.out (.int .i64 12)).setCell (p := ⟨r, 1, none⟩) HRL.out (.int .i64 pp.line)).setCell (p := ⟨r, 2, none⟩) HRL.out (.int .i64 ((pp.off : Int) - pp.bol + 1))))
                clear r0 r1 r2 rf
                generalize ((w5.setCell ⟨r, 0, none⟩ (.int .i64 12)).setCell ⟨r, 1, none⟩ (.int .i64 pp.line)).setCell ⟨r, 2, none⟩ (.int .i64 ((pp.off : Int) - pp.bol + 1)) = w9 at *
                exact bodyPost_ret (v := .tuple #[.pointer none, faV 12 pp.line (colP pp)]) (by simp [results, Tryz.results49, go_sem, faV, colP, y0, y1, y2]) rfl HPQ.out
        · rw [if_pos rfl] at HST
          have hpo := HRG.out.2.2 rfl
          go_wp2_with fail
          refine (fault_any _ s n c pp.off pp.bol a T pp.line 0 HFM3.out.sc (by omega) HPL.out.off HPL.out.bol).mono ?_
          rintro e w5 ⟨rfl, hb5⟩
          go_upto_region 12 with fail
          have HX := hide (faCells (w := w5) (l := pp.line) (k := (pp.off : Int) - pp.bol + 1))
          have HXL := hide (show w.heap.size ≤ w5.heap.size ∧ s < w5.heap.size ∧ r < w5.heap.size from by
            have h1 := HFM3.out.lts
            have h2 := HFM3.out.sc.lt
            have h3 := hb5.size
            have h4 := HFM3.out.l2
            omega)
          have HFM5 := hide ((HFM3.out.below hb5).below (be1 w5 (.cells #[.int .i64 0, .int .i64 pp.line, .int .i64 ((pp.off : Int) - pp.bol + 1)] 41)))
          clear HFM3 hb5
          generalize w5.alloc (.cells #[.int .i64 0, .int .i64 pp.line, .int .i64 ((pp.off : Int) - pp.bol + 1)] 41) = w6 at *
          generalize w5.heap.size = xb at *
          go_wp2_with fail
          refine (literal_any _ s n c pp.off pp.bol a T pp.line HFM5.out.sc (by omega) HPL.out.off).mono ?_
          rintro e w7 ⟨rfl, hsc, hex⟩
          have HTE := hide (tokE_rng T n (n - pp.off) pp.off HPL.out.off)
          obtain ⟨te, hte⟩ : ∃ te, tokE T n (n - pp.off) pp.off = te := ⟨_, rfl⟩
          have HTK := hide (show fStep T n hv hcn ⟨q, L, E⟩ = (if errP (litP (numP T pp.off te 16777215 true)) E.length hcn hv = 0 then (if (litP (numP T pp.off te 16777215 true)).1 = 0 then .go ⟨⟨if (numP T pp.off te 16777215 true).2 = 2 then te else pp.off, pp.line, pp.bol⟩, L, E ++ [(L.length : Int)]⟩ else .go ⟨⟨if (numP T pp.off te 16777215 true).2 = 2 then te else pp.off, pp.line, pp.bol⟩, L ++ [(litP (numP T pp.off te 16777215 true)).1], E⟩) else .bad (errP (litP (numP T pp.off te 16777215 true)) E.length hcn hv) pp.line (colP pp)) from by rw [← hte]; exact HST.out)
          have HLO := hide (fun z => litP_ok (numP_cls T pp.off te 16777215 true) z (fun z => (numP_rng T pp.off te 16777215 true (by decide) (hte ▸ HTE.out.1) z).2))
          rw [hte] at hsc ⊢
          clear HST HTE hte
          generalize numP T pp.off te 16777215 true = N at *
          obtain ⟨p2, hp2⟩ : ∃ p2 : Plc, (⟨if N.2 = 2 then te else pp.off, pp.line, pp.bol⟩ : Plc) = p2 := ⟨_, rfl⟩
          have HFM7 := hide (HFM5.out.scan hex (p := p2) (by rw [← hp2]; exact hsc))
          rw [hp2] at HTK
          have HX7 := hide (show (w7.cell? ⟨xb, 0, none⟩ = some (.int .i64 0) ∧ w7.cell? ⟨xb, 1, none⟩ = some (.int .i64 pp.line) ∧ w7.cell? ⟨xb, 2, none⟩ = some (.int .i64 ((pp.off : Int) - pp.bol + 1)) ∧ ∀ j, w7.frozen? ⟨xb, j, none⟩ = false) from by
            have hxs : xb ≠ s := by have := HXL.out; omega
            have hx := HX.out
            exact ⟨hex.cell hxs hx.1, hex.cell hxs hx.2.1, hex.cell hxs hx.2.2.1, fun j => (hex.frozen hxs (World.block_lt_of_cell? _ _ hx.1)).trans (hx.2.2.2 j)⟩)
          clear hsc hex HX HFM5 hp2
          have HLQ := hide (show (litP N).2 = 0 → 0 ≤ (litP N).1 ∧ (litP N).1 ≤ 2147483647 from fun z => by
            rcases (HLO.out z).2 with e | e
            · omega
            · unfold LitOk at e; omega)
          clear HLO
          generalize litP N = X at *
          obtain ⟨v, er⟩ := X
          dsimp only at HTK HLQ ⊢
          by_cases her : er = 0
          · subst her
            have cN := fun w' (k : Below w7.heap.size w7 w') => hide (numClauses_any w' B b _ _ L E ((HFM7.out.below k).ff.choose_spec.choose_spec.ar))
            have zS := HFM7.out.h1
            go_upto_region 13 with fail
            refine wp_region_held_drew (S := fun w' => w'.cell? ⟨x, 1, none⟩ = some (.int .i64 (hcn : Int))) (by kernel_rfl) zS (fun hHeld => ?_)
            refine wpAnyH_take (i := 0) (v := ?_) rfl (by kernel_rfl) (by kernel_rfl) (by kernel_rfl) (fun _ _ _ h => h) (Or.inl ⟨by rfl, ?_⟩) (by assumption) ?_
            rotate_left
            · (intro w hSw; (try dsimp only at hSw); go_simp; try (with_reducible rfl))
            try simp only [Act.put, List.getElem_toArray, List.getElem_cons_zero, List.getElem_cons_succ, List.setIfInBounds_toArray, List.set_cons_zero, List.set_cons_succ]
            refine wpAnyH_take (i := 1) (v := ?_) rfl (by kernel_rfl) (by kernel_rfl) (by kernel_rfl) (fun _ _ _ h => h) (Or.inl ⟨by rfl, ?_⟩) (by assumption) ?_
            rotate_left
            · (intro w hSw; (try dsimp only at hSw); go_simp; try (with_reducible rfl))
            try simp only [Act.put, List.getElem_toArray, List.getElem_cons_zero, List.getElem_cons_succ, List.setIfInBounds_toArray, List.set_cons_zero, List.set_cons_succ]
            refine wpAnyH_take (i := 2) (v := ?_) rfl (by kernel_rfl) (by kernel_rfl) (by kernel_rfl) (fun _ _ _ h => h) (Or.inl ⟨by rfl, ?_⟩) (by assumption) ?_
            rotate_left
            · (intro w hSw; (try dsimp only at hSw); go_simp; try (with_reducible rfl))
            try simp only [Act.put, List.getElem_toArray, List.getElem_cons_zero, List.getElem_cons_succ, List.setIfInBounds_toArray, List.set_cons_zero, List.set_cons_succ]
            refine wpAnyH_take (i := 3) (v := ?_) rfl (by kernel_rfl) (by kernel_rfl) (by kernel_rfl) (fun _ _ _ h => h) (Or.inl ⟨by rfl, ?_⟩) (by assumption) ?_
            rotate_left
            · (intro w hSw; (try dsimp only at hSw); go_simp; try (with_reducible rfl))
            try simp only [Act.put, List.getElem_toArray, List.getElem_cons_zero, List.getElem_cons_succ, List.setIfInBounds_toArray, List.set_cons_zero, List.set_cons_succ]
            refine wpAnyH_take (i := 5) (v := ?_) rfl (by kernel_rfl) (by kernel_rfl) (by kernel_rfl) (fun _ _ _ h => h) (Or.inl ⟨by rfl, ?_⟩) (by assumption) ?_
            rotate_left
            · (intro w hSw; (try dsimp only at hSw); go_simp; try (with_reducible rfl))
            try simp only [Act.put, List.getElem_toArray, List.getElem_cons_zero, List.getElem_cons_succ, List.setIfInBounds_toArray, List.set_cons_zero, List.set_cons_succ]
            refine wpAnyH_take (i := 6) (v := ?_) rfl (by kernel_rfl) (by kernel_rfl) (by kernel_rfl) (fun _ _ _ h => h) (Or.inl ⟨by rfl, ?_⟩) (by assumption) ?_
            rotate_left
            · (intro w hSw; (try dsimp only at hSw); go_simp; try (with_reducible rfl))
            try simp only [Act.put, List.getElem_toArray, List.getElem_cons_zero, List.getElem_cons_succ, List.setIfInBounds_toArray, List.set_cons_zero, List.set_cons_succ]
            refine wpAnyH_ready (rs := [4]) (by kernel_rfl) (by simp) ?_
            refine (AllReadyH.cons rfl (fun K hK => ?_) AllReadyH.nil)
            · refine step_call_g (by rfl) 50 #[.pointer (some ⟨b, 0, none⟩)] (by simp [go_sem]) (cN _ ((Below.refl _ _).drew)).out ?_
              rintro e w7a ⟨rfl, hw5⟩
              replace HFM7 := hide (show FM w w7a r s x B b a n c T hv hcn ⟨p2, L, E⟩ from by rw [hw5]; exact HFM7.out.below ((Below.refl _ _).drew))
              replace HX7 := hide (show (w7a.cell? ⟨xb, 0, none⟩ = some (.int .i64 0) ∧ w7a.cell? ⟨xb, 1, none⟩ = some (.int .i64 pp.line) ∧ w7a.cell? ⟨xb, 2, none⟩ = some (.int .i64 ((pp.off : Int) - pp.bol + 1)) ∧ ∀ j, w7a.frozen? ⟨xb, j, none⟩ = false) from by rw [hw5]; exact HX7.out)
              clear hw5
              have zS4 := HFM7.out.h1
              refine ⟨_, rfl, ?_⟩
              refine hK.out _ _ ?_ (fun hHeld => ?_)
              · (first | with_reducible exact zS4 | with_reducible exact zS | exact zS)
              clear hK K
              try simp only [Act.put, List.getElem_toArray, List.getElem_cons_zero, List.getElem_cons_succ, List.setIfInBounds_toArray, List.set_cons_zero, List.set_cons_succ]
              refine wpAnyH_take (i := 7) (v := ?_) rfl (by kernel_rfl) (by kernel_rfl) (by kernel_rfl) (fun _ _ _ h => h) (Or.inl ⟨by rfl, ?_⟩) (by assumption) ?_
              rotate_left
              · (intro w hSw; (try dsimp only at hSw); go_simp; try (with_reducible rfl))
              try simp only [Act.put, List.getElem_toArray, List.getElem_cons_zero, List.getElem_cons_succ, List.setIfInBounds_toArray, List.set_cons_zero, List.set_cons_succ]
              refine wpAnyH_take (i := 8) (v := ?_) rfl (by kernel_rfl) (by kernel_rfl) (by kernel_rfl) (fun _ _ _ h => h) (Or.inl ⟨by rfl, ?_⟩) (by assumption) ?_
              rotate_left
              · (intro w hSw; (try dsimp only at hSw); go_simp; try (with_reducible rfl))
              try simp only [Act.put, List.getElem_toArray, List.getElem_cons_zero, List.getElem_cons_succ, List.setIfInBounds_toArray, List.set_cons_zero, List.set_cons_succ]
              refine wpAnyH_done (by kernel_rfl) ?_ _
              clear zS zS4 cN
              by_cases hcnt : (E.length : Int) = (hcn : Int)
              · have hcb2 : ((E.length : Int) == (hcn : Int)) = true := by simpa using hcnt
                have hcb3 : (E.length == hcn) = true := by simp; omega
                have heq : errP (v, 0) E.length hcn hv = 12 := by
                  have h1 : cntP (v, 0) E.length hcn = 12 := by unfold cntP; rw [if_pos ⟨rfl, hcnt⟩]
                  unfold errP
                  rw [h1, if_neg (fun z => by cases z.1)]
                rw [heq, if_neg (by decide)] at HTK
                clear heq hcnt
                go_upto_region 15 with fail
                go_quiet (fail)
                rename_i nq
                replace HFM7 := hide (HFM7.out.below (belN w7a nq))
                replace HX7 := hide (show ((w7a.drewN nq).cell? ⟨xb, 0, none⟩ = some (.int .i64 0) ∧ (w7a.drewN nq).cell? ⟨xb, 1, none⟩ = some (.int .i64 pp.line) ∧ (w7a.drewN nq).cell? ⟨xb, 2, none⟩ = some (.int .i64 ((pp.off : Int) - pp.bol + 1)) ∧ ∀ j, (w7a.drewN nq).frozen? ⟨xb, j, none⟩ = false) from by
                  obtain ⟨x0, x1, x2, xf⟩ := HX7.out
                  exact ⟨cellKeep (belN _ nq) x0, cellKeep (belN _ nq) x1, cellKeep (belN _ nq) x2, fun j => (World.frozen?_of_block ((belN _ nq).block xb (World.block_lt_of_cell? _ _ x0))).trans (xf j)⟩)
                generalize w7a.drewN nq = w7b at *
                obtain ⟨x0, x1, x2, xf⟩ := HX7.out
                go_upto_region 19 with fail
                have hxr : r ≠ xb := by have := HXL.out; omega
                have HB8 := hide (show Below w.heap.size w (w7b.setCell ⟨xb, 0, none⟩ (.int .i64 12)) from HFM7.out.bl.setCell (p := ⟨xb, 0, none⟩) HXL.out.1 _)
                have y0 : (w7b.setCell ⟨xb, 0, none⟩ (.int .i64 12)).cell? ⟨xb, 0, none⟩ = some (.int .i64 12) := World.cell?_setCell_same _ _ _ x0
                have y1 : (w7b.setCell ⟨xb, 0, none⟩ (.int .i64 12)).cell? ⟨xb, 1, none⟩ = some (.int .i64 pp.line) := by rw [World.cell?_setCell_other _ _ _ _ (by simp)]; exact x1
                have y2 : (w7b.setCell ⟨xb, 0, none⟩ (.int .i64 12)).cell? ⟨xb, 2, none⟩ = some (.int .i64 ((pp.off : Int) - pp.bol + 1)) := by rw [World.cell?_setCell_other _ _ _ _ (by simp)]; exact x2
                have r0 := (set_cell_ne w7b xb 0 r 0 (.int .i64 12) hxr).trans HFM7.out.r0
                have r1 := (set_cell_ne w7b xb 0 r 1 (.int .i64 12) hxr).trans HFM7.out.r1
                have r2 := (set_cell_ne w7b xb 0 r 2 (.int .i64 12) hxr).trans HFM7.out.r2
                have rf := fun j => (set_frozen w7b ⟨xb, 0, none⟩ ⟨r, j, none⟩ (.int .i64 12)).trans (HFM7.out.rf j)
                clear x0 x1 x2 xf HX7 HFM7
                generalize w7b.setCell ⟨xb, 0, none⟩ (.int .i64 12) = w8 at *
                have HPP := hide (show ∀ w', Below w.heap.size w8 w' → FdPost w T n (.returned (.tuple #[.pointer none, faV 12 pp.line (colP pp)])) w' from fun w' hb => ⟨HB8.out.trans hb, .inl ⟨_, _, _, rfl, by decide, .inr ⟨_, _, _, _, HHB.out, HRUN.out, HOK.out, HTK.out⟩⟩⟩)
                go_region
                all_goals
                  go_wp2
                  obtain ⟨y0, y1, y2⟩ := set3 (.int .i64 12) (.int .i64 pp.line) (.int .i64 ((pp.off : Int) - pp.bol + 1)) r0 r1 r2
                  have HPQ := hide (HPP.out _ ((((Below.refl _ _).setCell (p := ⟨r, 0, none⟩) HRL.out (.int .i64 12)).setCell (p := ⟨r, 1, none⟩) HRL.out (.int .i64 pp.line)).setCell (p := ⟨r, 2, none⟩) HRL.out (.int .i64 ((pp.off : Int) - pp.bol + 1))).drew)
                  clear r0 r1 r2 rf
                  generalize ((w8.setCell ⟨r, 0, none⟩ (.int .i64 12)).setCell ⟨r, 1, none⟩ (.int .i64 pp.line)).setCell ⟨r, 2, none⟩ (.int .i64 ((pp.off : Int) - pp.bol + 1)) = w9 at *
                  exact bodyPost_ret (v := .tuple #[.pointer none, faV 12 pp.line (colP pp)]) (by simp [results, Tryz.results49, go_sem, faV, colP, y0, y1, y2]) rfl HPQ.out
              · have hcb2 : ((E.length : Int) == (hcn : Int)) = false := by simpa using hcnt
                have hcb3 : (E.length == hcn) = false := by simp; omega
                have HCP := hide (show cntP (v, 0) E.length hcn = 0 by unfold cntP; rw [if_neg (fun z => hcnt z.2)])
                clear hcnt
                have hvr := HLQ.out rfl
                have hw1 : IntKind.i64.wrap (v / 2) = v / 2 := by rw [IntKind.wrap_i64]; omega
                have zS := HFM7.out.h0
                go_upto_region 15 with fail
                refine wp_region_held_drew (S := fun w' => w'.cell? ⟨x, 0, none⟩ = some (.int .i64 hv)) (by kernel_rfl) zS (fun hHeld => ?_)
                refine wpAnyH_take (i := 0) (v := ?_) rfl (by kernel_rfl) (by kernel_rfl) (by kernel_rfl) (fun _ _ _ h => h) (Or.inl ⟨by rfl, ?_⟩) (by assumption) ?_
                rotate_left
                · (intro w hSw; (try dsimp only at hSw); go_simp; try (with_reducible rfl))
                try simp only [Act.put, List.getElem_toArray, List.getElem_cons_zero, List.getElem_cons_succ, List.setIfInBounds_toArray, List.set_cons_zero, List.set_cons_succ]
                refine wpAnyH_take (i := 1) (v := ?_) rfl (by kernel_rfl) (by kernel_rfl) (by kernel_rfl) (fun _ _ _ h => h) (Or.inl ⟨by rfl, ?_⟩) (by assumption) ?_
                rotate_left
                · (intro w hSw; (try dsimp only at hSw); go_simp; try (with_reducible rfl))
                try simp only [Act.put, List.getElem_toArray, List.getElem_cons_zero, List.getElem_cons_succ, List.setIfInBounds_toArray, List.set_cons_zero, List.set_cons_succ]
                refine wpAnyH_take (i := 2) (v := ?_) rfl (by kernel_rfl) (by kernel_rfl) (by kernel_rfl) (fun _ _ _ h => h) (Or.inl ⟨by rfl, ?_⟩) (by assumption) ?_
                rotate_left
                · (intro w hSw; (try dsimp only at hSw); go_simp; try (with_reducible rfl))
                try simp only [Act.put, List.getElem_toArray, List.getElem_cons_zero, List.getElem_cons_succ, List.setIfInBounds_toArray, List.set_cons_zero, List.set_cons_succ]
                refine wpAnyH_take (i := 3) (v := ?_) rfl (by kernel_rfl) (by kernel_rfl) (by kernel_rfl) (fun _ _ _ h => h) (Or.inl ⟨by rfl, ?_⟩) (by assumption) ?_
                rotate_left
                · (intro w hSw; (try dsimp only at hSw); go_simp; try (with_reducible rfl))
                try simp only [Act.put, List.getElem_toArray, List.getElem_cons_zero, List.getElem_cons_succ, List.setIfInBounds_toArray, List.set_cons_zero, List.set_cons_succ]
                refine wpAnyH_take (i := 6) (v := ?_) rfl (by kernel_rfl) (by kernel_rfl) (by kernel_rfl) (fun _ _ _ h => h) (Or.inl ⟨by rfl, ?_⟩) (by assumption) ?_
                rotate_left
                · (intro w hSw; (try dsimp only at hSw); go_simp; try (with_reducible rfl))
                try simp only [Act.put, List.getElem_toArray, List.getElem_cons_zero, List.getElem_cons_succ, List.setIfInBounds_toArray, List.set_cons_zero, List.set_cons_succ]
                refine wpAnyH_take (i := 7) (v := ?_) rfl (by kernel_rfl) (by kernel_rfl) (by kernel_rfl) (fun _ _ _ h => h) (Or.inl ⟨by rfl, ?_⟩) (by assumption) ?_
                rotate_left
                · (intro w hSw; (try dsimp only at hSw); go_simp; try (with_reducible rfl))
                try simp only [Act.put, List.getElem_toArray, List.getElem_cons_zero, List.getElem_cons_succ, List.setIfInBounds_toArray, List.set_cons_zero, List.set_cons_succ]
                refine wpAnyH_ready (rs := [4]) (by kernel_rfl) (by simp) ?_
                refine (AllReadyH.cons rfl (fun K hK => ?_) AllReadyH.nil)
                · refine step_call_g (by rfl) 106 #[.int .i32 v] (by simp [go_sem]) (litVar_any _ v hvr) ?_
                  rintro e w7b ⟨rfl, hw5⟩
                  replace HFM7 := hide (show FM w w7b r s x B b a n c T hv hcn ⟨p2, L, E⟩ from by rw [hw5]; exact HFM7.out.below ((Below.refl _ _).drew))
                  replace HX7 := hide (show (w7b.cell? ⟨xb, 0, none⟩ = some (.int .i64 0) ∧ w7b.cell? ⟨xb, 1, none⟩ = some (.int .i64 pp.line) ∧ w7b.cell? ⟨xb, 2, none⟩ = some (.int .i64 ((pp.off : Int) - pp.bol + 1)) ∧ ∀ j, w7b.frozen? ⟨xb, j, none⟩ = false) from by rw [hw5]; exact HX7.out)
                  clear hw5
                  have zS4 := HFM7.out.h0
                  refine ⟨_, rfl, ?_⟩
                  refine hK.out _ _ ?_ (fun hHeld => ?_)
                  · (first | with_reducible exact zS4 | with_reducible exact zS | exact zS)
                  clear hK K
                  try simp only [Act.put, List.getElem_toArray, List.getElem_cons_zero, List.getElem_cons_succ, List.setIfInBounds_toArray, List.set_cons_zero, List.set_cons_succ]
                  refine wpAnyH_take (i := 5) (v := ?_) rfl (by kernel_rfl) (by kernel_rfl) (by kernel_rfl) (fun _ _ _ h => h) (Or.inl ⟨by rfl, ?_⟩) (by assumption) ?_
                  rotate_left
                  · (intro w hSw; (try dsimp only at hSw); go_simp; try (with_reducible rfl))
                  try simp only [Act.put, List.getElem_toArray, List.getElem_cons_zero, List.getElem_cons_succ, List.setIfInBounds_toArray, List.set_cons_zero, List.set_cons_succ]
                  refine wpAnyH_take (i := 8) (v := ?_) rfl (by kernel_rfl) (by kernel_rfl) (by kernel_rfl) (fun _ _ _ h => h) (Or.inl ⟨by rfl, ?_⟩) (by assumption) ?_
                  rotate_left
                  · (intro w hSw; (try dsimp only at hSw); go_simp; try (with_reducible rfl))
                  try simp only [Act.put, List.getElem_toArray, List.getElem_cons_zero, List.getElem_cons_succ, List.setIfInBounds_toArray, List.set_cons_zero, List.set_cons_succ]
                  refine wpAnyH_take (i := 9) (v := ?_) rfl (by kernel_rfl) (by kernel_rfl) (by kernel_rfl) (fun _ _ _ h => h) (Or.inl ⟨by rfl, ?_⟩) (by assumption) ?_
                  rotate_left
                  · (intro w hSw; (try dsimp only at hSw); go_simp; try (with_reducible rfl))
                  try simp only [Act.put, List.getElem_toArray, List.getElem_cons_zero, List.getElem_cons_succ, List.setIfInBounds_toArray, List.set_cons_zero, List.set_cons_succ]
                  refine wpAnyH_done (by kernel_rfl) ?_ _
                  clear zS zS4
                  by_cases hgr : hv < v / 2
                  · have hgb : decide (hv < v / 2) = true := by simpa using hgr
                    rw [hgb]
                    have heq : errP (v, 0) E.length hcn hv = 10 := by
                      unfold errP
                      rw [if_pos ⟨HCP.out, hgr⟩]
                    rw [heq, if_neg (by decide)] at HTK
                    clear heq hgr
                    obtain ⟨x0, x1, x2, xf⟩ := HX7.out
                    go_upto_region 19 with fail
                    have hxr : r ≠ xb := by have := HXL.out; omega
                    have HB8 := hide (show Below w.heap.size w (w7b.setCell ⟨xb, 0, none⟩ (.int .i64 10)) from HFM7.out.bl.setCell (p := ⟨xb, 0, none⟩) HXL.out.1 _)
                    have y0 : (w7b.setCell ⟨xb, 0, none⟩ (.int .i64 10)).cell? ⟨xb, 0, none⟩ = some (.int .i64 10) := World.cell?_setCell_same _ _ _ x0
                    have y1 : (w7b.setCell ⟨xb, 0, none⟩ (.int .i64 10)).cell? ⟨xb, 1, none⟩ = some (.int .i64 pp.line) := by rw [World.cell?_setCell_other _ _ _ _ (by simp)]; exact x1
                    have y2 : (w7b.setCell ⟨xb, 0, none⟩ (.int .i64 10)).cell? ⟨xb, 2, none⟩ = some (.int .i64 ((pp.off : Int) - pp.bol + 1)) := by rw [World.cell?_setCell_other _ _ _ _ (by simp)]; exact x2
                    have r0 := (set_cell_ne w7b xb 0 r 0 (.int .i64 10) hxr).trans HFM7.out.r0
                    have r1 := (set_cell_ne w7b xb 0 r 1 (.int .i64 10) hxr).trans HFM7.out.r1
                    have r2 := (set_cell_ne w7b xb 0 r 2 (.int .i64 10) hxr).trans HFM7.out.r2
                    have rf := fun j => (set_frozen w7b ⟨xb, 0, none⟩ ⟨r, j, none⟩ (.int .i64 10)).trans (HFM7.out.rf j)
                    clear x0 x1 x2 xf HX7 HFM7
                    generalize w7b.setCell ⟨xb, 0, none⟩ (.int .i64 10) = w8 at *
                    have HPP := hide (show ∀ w', Below w.heap.size w8 w' → FdPost w T n (.returned (.tuple #[.pointer none, faV 10 pp.line (colP pp)])) w' from fun w' hb => ⟨HB8.out.trans hb, .inl ⟨_, _, _, rfl, by decide, .inr ⟨_, _, _, _, HHB.out, HRUN.out, HOK.out, HTK.out⟩⟩⟩)
                    go_region
                    all_goals
                      go_wp2
                      obtain ⟨y0, y1, y2⟩ := set3 (.int .i64 10) (.int .i64 pp.line) (.int .i64 ((pp.off : Int) - pp.bol + 1)) r0 r1 r2
                      have HPQ := hide (HPP.out _ ((((Below.refl _ _).setCell (p := ⟨r, 0, none⟩) HRL.out (.int .i64 10)).setCell (p := ⟨r, 1, none⟩) HRL.out (.int .i64 pp.line)).setCell (p := ⟨r, 2, none⟩) HRL.out (.int .i64 ((pp.off : Int) - pp.bol + 1))).drew)
                      clear r0 r1 r2 rf
                      generalize ((w8.setCell ⟨r, 0, none⟩ (.int .i64 10)).setCell ⟨r, 1, none⟩ (.int .i64 pp.line)).setCell ⟨r, 2, none⟩ (.int .i64 ((pp.off : Int) - pp.bol + 1)) = w9 at *
                      exact bodyPost_ret (v := .tuple #[.pointer none, faV 10 pp.line (colP pp)]) (by simp [results, Tryz.results49, go_sem, faV, colP, y0, y1, y2]) rfl HPQ.out
                  · have hgb : decide (hv < v / 2) = false := by simpa using hgr
                    have hgn : (hv < v / 2) = False := by simpa using hgr
                    have hgl : v / 2 ≤ hv := by omega
                    have heq : errP (v, 0) E.length hcn hv = 0 := by
                      unfold errP
                      rw [if_neg (fun z => hgr z.2), HCP.out]
                    rw [heq, if_pos rfl] at HTK
                    clear heq hgr
                    by_cases hv0 : v = 0
                    · have hvb : (v == 0) = true := by simpa using hv0
                      rw [if_pos hv0] at HTK
                      have HNX := hide (HOK.out.step HTK.out)
                      have HR2 := hide (HRUN.out.snoc HTK.out)
                      clear hv0
                      go_wp2_with fail
                      obtain ⟨va, ve, hff⟩ := HFM7.out.ff
                      refine (finish_any _ B b 1 va ve L E hff.ar HFM7.out.l5 (by have := HEL.out; omega)).mono ?_
                      rintro e w8 ⟨rfl, g8, c8, har, hex, hg8, hkp⟩
                      have HFM8 := hide (HFM7.out.deep hex (by rintro j (z | z); rw [z]; exact HFM7.out.l4; exact (hff.ar.r1.lt j z).1) ⟨_, _, ⟨har, hkp 0 _ (by omega) hff.c⟩⟩)
                      have HO2 := hide (offLeft_at (n := n) HFM8.out.sc.c1)
                      clear har hex hg8 hkp hff HFM7 HX7
                      go_wp2
                      go_roundw
                      case rel => exact ⟨_, HR2, HNX.out.1, HFM8.out⟩
                      case measure => rw [HOL.out, HO2.out]; have := HNX.out.2; have := HNX.out.1.pl.off; dsimp only at *; omega
                    · have hvb : (v == 0) = false := by simpa using hv0
                      rw [if_neg hv0] at HTK
                      have HNX := hide (HOK.out.step HTK.out)
                      have HR2 := hide (HRUN.out.snoc HTK.out)
                      clear hv0
                      go_wp2_with fail
                      obtain ⟨va, ve, hff⟩ := HFM7.out.ff
                      refine (put_any _ B b 1 va ve L E v hff.ar HFM7.out.l5 (by have := HEL.out; omega)).mono ?_
                      rintro e w8 ⟨rfl, g8, c8, har, hex, hg8, hkp⟩
                      have HFM8 := hide (HFM7.out.deep hex (by rintro j (z | z); rw [z]; exact HFM7.out.l4; exact (hff.ar.r0.lt j z).1) ⟨_, _, ⟨har, hkp 0 _ (by omega) hff.c⟩⟩)
                      have HO2 := hide (offLeft_at (n := n) HFM8.out.sc.c1)
                      clear har hex hg8 hkp hff HFM7 HX7
                      go_wp2
                      go_roundw
                      case rel => exact ⟨_, HR2, HNX.out.1, HFM8.out⟩
                      case measure => rw [HOL.out, HO2.out]; have := HNX.out.2; have := HNX.out.1.pl.off; dsimp only at *; omega
          · have heb : (er == 0) = false := by simpa using her
            have hen : (er != 0) = true := by simpa using her
            have heq : errP (v, er) E.length hcn hv = er := by
              have h1 : cntP (v, er) E.length hcn = er := by unfold cntP; rw [if_neg (fun z => her z.1)]
              unfold errP
              rw [h1, if_neg (fun z => her z.1)]
            rw [heq, if_neg her] at HTK
            have HER := hide her
            clear heq her
            go_upto_region 13 with fail
            go_quiet (fail)
            rename_i nq
            replace HFM7 := hide (HFM7.out.below (belN w7 nq))
            replace HX7 := hide (show ((w7.drewN nq).cell? ⟨xb, 0, none⟩ = some (.int .i64 0) ∧ (w7.drewN nq).cell? ⟨xb, 1, none⟩ = some (.int .i64 pp.line) ∧ (w7.drewN nq).cell? ⟨xb, 2, none⟩ = some (.int .i64 ((pp.off : Int) - pp.bol + 1)) ∧ ∀ j, (w7.drewN nq).frozen? ⟨xb, j, none⟩ = false) from by
              obtain ⟨x0, x1, x2, xf⟩ := HX7.out
              exact ⟨cellKeep (belN _ nq) x0, cellKeep (belN _ nq) x1, cellKeep (belN _ nq) x2, fun j => (World.frozen?_of_block ((belN _ nq).block xb (World.block_lt_of_cell? _ _ x0))).trans (xf j)⟩)
            generalize w7.drewN nq = w7a at *
            go_upto_region 15 with fail
            go_quiet (fail)
            rename_i nq
            replace HFM7 := hide (HFM7.out.below (belN w7a nq))
            replace HX7 := hide (show ((w7a.drewN nq).cell? ⟨xb, 0, none⟩ = some (.int .i64 0) ∧ (w7a.drewN nq).cell? ⟨xb, 1, none⟩ = some (.int .i64 pp.line) ∧ (w7a.drewN nq).cell? ⟨xb, 2, none⟩ = some (.int .i64 ((pp.off : Int) - pp.bol + 1)) ∧ ∀ j, (w7a.drewN nq).frozen? ⟨xb, j, none⟩ = false) from by
              obtain ⟨x0, x1, x2, xf⟩ := HX7.out
              exact ⟨cellKeep (belN _ nq) x0, cellKeep (belN _ nq) x1, cellKeep (belN _ nq) x2, fun j => (World.frozen?_of_block ((belN _ nq).block xb (World.block_lt_of_cell? _ _ x0))).trans (xf j)⟩)
            generalize w7a.drewN nq = w7b at *
            obtain ⟨x0, x1, x2, xf⟩ := HX7.out
            go_upto_region 19 with fail
            have hxr : r ≠ xb := by have := HXL.out; omega
            have HB8 := hide (show Below w.heap.size w (w7b.setCell ⟨xb, 0, none⟩ (.int .i64 er)) from HFM7.out.bl.setCell (p := ⟨xb, 0, none⟩) HXL.out.1 _)
            have y0 : (w7b.setCell ⟨xb, 0, none⟩ (.int .i64 er)).cell? ⟨xb, 0, none⟩ = some (.int .i64 er) := World.cell?_setCell_same _ _ _ x0
            have y1 : (w7b.setCell ⟨xb, 0, none⟩ (.int .i64 er)).cell? ⟨xb, 1, none⟩ = some (.int .i64 pp.line) := by rw [World.cell?_setCell_other _ _ _ _ (by simp)]; exact x1
            have y2 : (w7b.setCell ⟨xb, 0, none⟩ (.int .i64 er)).cell? ⟨xb, 2, none⟩ = some (.int .i64 ((pp.off : Int) - pp.bol + 1)) := by rw [World.cell?_setCell_other _ _ _ _ (by simp)]; exact x2
            have r0 := (set_cell_ne w7b xb 0 r 0 (.int .i64 er) hxr).trans HFM7.out.r0
            have r1 := (set_cell_ne w7b xb 0 r 1 (.int .i64 er) hxr).trans HFM7.out.r1
            have r2 := (set_cell_ne w7b xb 0 r 2 (.int .i64 er) hxr).trans HFM7.out.r2
            have rf := fun j => (set_frozen w7b ⟨xb, 0, none⟩ ⟨r, j, none⟩ (.int .i64 er)).trans (HFM7.out.rf j)
            clear x0 x1 x2 xf HX7 HFM7
            generalize w7b.setCell ⟨xb, 0, none⟩ (.int .i64 er) = w8 at *
            have HPP := hide (show ∀ w', Below w.heap.size w8 w' → FdPost w T n (.returned (.tuple #[.pointer none, faV er pp.line (colP pp)])) w' from fun w' hb => ⟨HB8.out.trans hb, .inl ⟨_, _, _, rfl, HER.out, .inr ⟨_, _, _, _, HHB.out, HRUN.out, HOK.out, HTK.out⟩⟩⟩)
            go_region
            all_goals
              go_wp2
              obtain ⟨y0, y1, y2⟩ := set3 (.int .i64 er) (.int .i64 pp.line) (.int .i64 ((pp.off : Int) - pp.bol + 1)) r0 r1 r2
              have HPQ := hide (HPP.out _ ((((Below.refl _ _).setCell (p := ⟨r, 0, none⟩) HRL.out (.int .i64 er)).setCell (p := ⟨r, 1, none⟩) HRL.out (.int .i64 pp.line)).setCell (p := ⟨r, 2, none⟩) HRL.out (.int .i64 ((pp.off : Int) - pp.bol + 1))).drew)
              clear r0 r1 r2 rf
              generalize ((w8.setCell ⟨r, 0, none⟩ (.int .i64 er)).setCell ⟨r, 1, none⟩ (.int .i64 pp.line)).setCell ⟨r, 2, none⟩ (.int .i64 ((pp.off : Int) - pp.bol + 1)) = w9 at *
              exact bodyPost_ret (v := .tuple #[.pointer none, faV er pp.line (colP pp)]) (by simp [results, Tryz.results49, go_sem, faV, colP, y0, y1, y2]) rfl HPQ.out
end Go.Proofs.Qxb6500773aGreat
