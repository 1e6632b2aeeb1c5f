import Derived.Test.Qxb6500774aMix
import Derived.Test.Qxb6500774aAw0
namespace Go.Proofs.Qxb6500774a
open Go.RowKit
set_option linter.unusedVariables false
set_option linter.unusedSimpArgs false

/-- the second reading of a property -/
theorem prop_call {P : Pp} (g : gPp P) {f1 f2 : XP} {w0 w : World} (hm : PPM w0 P f1 f2) (hx : Ex (fun _ => False) w0 w) {a : Option Addr} {cp : Nat} (hs : SrcAt w a (prPp P)) (ha : ∀ g off, a = some ⟨g, off, none⟩ → g < w.heap.size) (hl : (prPp P).length ≤ 1099511627776) :
    Calls Try.prog 19 #[.slice a (prPp P).length cp] w fun e w' => ∃ (b : Bool) (wi : Int) (g1 g2 : XP) (er l c : Int) (sm : Bool), e = .returned (.tuple #[prV b g1 wi g2, .agg #[.int .i64 er, .int .i64 l, .int .i64 c]]) ∧ Ex (fun _ => False) w w' ∧ (∀ W, Ex (fun _ => False) w' W → Calls Try.prog 21 #[prV P.re f1 P.wi f2, prV b g1 wi g2, .bool false] W (RdB W sm)) ∧ ∀ W, Calls Try.prog 13 #[.agg #[.int .i64 er, .int .i64 l, .int .i64 c], .int .i64 ((prPp P).length : Nat), .int .i64 0, .bool sm] W (RdB W true) := by
  obtain ⟨n, R, hR⟩ := pprop_all (prPp P)
  by_cases hlong : 1048576 < (prPp P).length
  · have h2 := long_prop hlong hR
    refine (prop_bad n R w hR hs (fun _ _ _ => ha) (by omega) (long_acc hlong _) (long_exp hlong _)).mono ?_
    rintro e w' ⟨g1, rfl, hex, hlf⟩
    have hp := hm.low (hx.trans hex)
    obtain ⟨r1, hr1⟩ := tot_oe (o := some P.p) (show OE w' ND (some P.p) f1 from hp.p) hlf
    obtain ⟨r2, hr2⟩ := tot_oe (f' := x00) hp.q ⟨rfl, rfl, rfl⟩
    refine ⟨false, 0, g1, x00, 1, 1, 1, _, ?_, hex, fun W hW => sameProp W P.re false P.wi 0 f1 f2 g1 x00 r1 r2 (fun V hV => hr1 V (hW.trans hV)) (fun V hV => hr2 V (hW.trans hV)), fun W => came_long W 1 1 _ _ hlong⟩
    rw [h2]
    rfl
  · obtain ⟨e1, e2⟩ := prop_back g (by omega) hR
    refine (propK n R w hR hs (fun _ _ _ => ha) (by omega)).mono ?_
    rintro e w' ⟨b, wi, g1, g2, rfl, hex, _, hat⟩
    obtain ⟨⟨rfl, rfl⟩, ht1, ht2⟩ := hat e2
    have hp := hm.low (hx.trans hex)
    have q1 := ht1.nd (Ex.refl (fun _ => False) w')
    have q2 := ht2.nd (Ex.refl (fun _ => False) w')
    have r1 : P.re = R.1.re := (congrArg Pp.re e1).symm
    have r2 : P.wi = R.1.wi := (congrArg Pp.wi e1).symm
    have r3 : P.p.er = R.1.p.er := (congrArg Pp.p e1).symm
    have r4 : P.q.map E.er = R.1.q.map E.er := (congrArg Pp.q e1).symm
    refine ⟨R.1.re, R.1.wi, g1, g2, 0, 0, 0, true, by rw [fl_at (at_bad e2)], hex, fun W hW => ?_, fun W => came_ok W 0 0 _ (by omega)⟩
    have := sameProp W P.re R.1.re P.wi R.1.wi f1 f2 g1 g2 true true (fun V hV => same_er (hp.p.low (hW.trans hV)) (q1.low (hW.trans hV)) r3) (fun V hV => same_oe (hp.q.nd (hW.trans hV)) (q2.nd (hW.trans hV)) r4)
    rw [r1, r2] at this ⊢
    simpa using this
theorem prog_call {P : Pg} (g : gPg P) {vd vb : SLc} {w0 w : World} (hm : PGM w0 ND P vd vb) (hx : Ex (fun _ => False) w0 w) {a : Option Addr} {cp : Nat} (hs : SrcAt w a (prPg P)) (ha : ∀ g off, a = some ⟨g, off, none⟩ → g < w.heap.size) (hl : (prPg P).length ≤ 1099511627776) :
    Calls Try.prog 12 #[.slice a (prPg P).length cp] w fun e w' => ∃ (y : ByteArray) (ud ub : SLc) (er l c : Int) (sm : Bool), e = .returned (.tuple #[.agg #[.string y, slV ud, slV ub], .agg #[.int .i64 er, .int .i64 l, .int .i64 c]]) ∧ Ex (fun _ => False) w w' ∧ (∀ W, Ex (fun _ => False) w' W → Calls Try.prog 15 #[.agg #[.string P.nm, slV vd, slV vb], .agg #[.string y, slV ud, slV ub], .bool false] W (RdB W sm)) ∧ ∀ W, Calls Try.prog 13 #[.agg #[.int .i64 er, .int .i64 l, .int .i64 c], .int .i64 ((prPg P).length : Nat), .int .i64 0, .bool sm] W (RdB W true) := by
  obtain ⟨n, R, hn, hR⟩ := pprog_all (prPg P)
  refine (progK2 n hn R w hR hs (fun _ _ _ => ha) (by omega)).mono ?_
  rintro e w' ⟨y, ud, ub, rfl, hex, _, hy, hat⟩
  obtain ⟨er, l, c, sm, h1, h2, h3⟩ := prog_after g hR (hm.nd (hx.trans hex)) hy hat
  exact ⟨y, ud, ub, er, l, c, sm, by rw [h1], hex, h2, h3⟩
/-- the first reading of a program -/
theorem prog_first {v : OpV} {w : World} (hb : BT w v.ta v.tn v.T) (hn : v.tn ≤ 65536) : Calls Try.prog 12 #[.slice v.ta v.tn v.tc] w fun e w' => ∃ (x : ByteArray) (vd vb : SLc) (er l c : Int), e = .returned (.tuple #[.agg #[.string x, slV vd, slV vb], .agg #[.int .i64 er, .int .i64 l, .int .i64 c]]) ∧ Ex (fun _ => False) w w' ∧ (er = 0 → ∃ P : Pg, x = P.nm ∧ PGM w' ND P vd vb ∧ gPg P ∧ (prPg P).length ≤ 1099511627776 ∧ 1 + sdep P.bd ≤ 1000000 ∧ P.nm.size ≤ 4611686018427387904 ∧ szDs P.ds ≤ 4611686018427387904 ∧ szS P.bd ≤ 4611686018427387904) := by
  obtain ⟨n, R, hn2, hR⟩ := pprog_all (txL v)
  have hlen := txL_len v
  have := progK2 (cp := v.tc) n hn2 R w hR hb.src hb.lt (by rw [hlen]; omega)
  rw [hlen] at this
  refine this.mono ?_
  rintro e w' ⟨x, vd, vb, rfl, hex, her, hx, hat⟩
  by_cases hB : isB R.2
  · obtain ⟨er, l, c, hbad⟩ := hB.ex
    refine ⟨x, vd, vb, er, l, c, by rw [hbad]; rfl, hex, fun z => ?_⟩
    exfalso
    have := her hB
    rw [hbad] at this
    exact this z
  · obtain ⟨g, r1, r2, r3, r4, r5⟩ := prog_room hR hB (by rw [hlen]; exact hn)
    exact ⟨x, vd, vb, 0, 0, 0, by rw [fl_at hB], hex, fun _ => ⟨R.1, hx, (hat (pprog_at hR hB)).nd (Ex.refl _ _), g, r1, r2, r3, r4, r5⟩⟩
theorem prop_first {v : OpV} {w : World} (hb : BT w v.ta v.tn v.T) (hn : v.tn ≤ 65536) : Calls Try.prog 19 #[.slice v.ta v.tn v.tc] w fun e w' => ∃ (b : Bool) (wi : Int) (f1 f2 : XP) (er l c : Int), e = .returned (.tuple #[prV b f1 wi f2, .agg #[.int .i64 er, .int .i64 l, .int .i64 c]]) ∧ Ex (fun _ => False) w w' ∧ (er = 0 → ∃ P : Pp, b = P.re ∧ wi = P.wi ∧ (∀ w'', Ex (fun k => k < w.heap.size) w' w'' → PPM w'' P f1 f2) ∧ gPp P ∧ (prPp P).length ≤ 1099511627776 ∧ sz P.p ≤ 4611686018427387904 ∧ ∀ e, P.q = some e → sz e ≤ 4611686018427387904) := by
  obtain ⟨n, R, hR⟩ := pprop_all (txL v)
  have hlen := txL_len v
  have := propK (cp := v.tc) n R w hR hb.src hb.lt (by rw [hlen]; omega)
  rw [hlen] at this
  refine this.mono ?_
  rintro e w' ⟨b, wi, f1, f2, rfl, hex, her, hat⟩
  by_cases hB : isB R.2
  · obtain ⟨er, l, c, hbad⟩ := hB.ex
    refine ⟨b, wi, f1, f2, er, l, c, by rw [hbad]; rfl, hex, fun z => ?_⟩
    exfalso
    have := her hB
    rw [hbad] at this
    exact this z
  · obtain ⟨g, r1, r2, r3⟩ := prop_room hR hB (by rw [hlen]; exact hn)
    obtain ⟨⟨hb1, hb2⟩, t1, t2⟩ := hat (pprop_at hR hB)
    exact ⟨b, wi, f1, f2, 0, 0, 0, by rw [fl_at hB], hex, fun _ => ⟨R.1, hb1, hb2, fun w'' ex => ⟨t1.keep ex (fun _ z => .inl z) (fun _ z => z.elim), t2.keep ex (fun _ z => .inl z) (fun _ z => z.elim)⟩, g, r1, r2, r3⟩⟩
structure F3 (w : World) (r : Nat) (er l c : Int) : Prop where
  c0 : w.cell? ⟨r, 0, none⟩ = some (.int .i64 er)
  c1 : w.cell? ⟨r, 1, none⟩ = some (.int .i64 l)
  c2 : w.cell? ⟨r, 2, none⟩ = some (.int .i64 c)
  fz : ∀ j, w.frozen? ⟨r, j, none⟩ = false
theorem F3.lt {w : World} {r : Nat} {er l c : Int} (h : F3 w r er l c) : r < w.heap.size := World.block_lt_of_cell? _ _ h.c0
theorem F3.keep {w w' : World} {r : Nat} {er l c : Int} (h : F3 w r er l c) {T : Nat → Prop} (ex : Ex T w w') (hr : ¬ T r) : F3 w' r er l c := ⟨ex.cell hr h.c0, ex.cell hr h.c1, ex.cell hr h.c2, fun j => (ex.frozen hr h.lt).trans (h.fz j)⟩
theorem f3_new (w : World) (er l c : Int) {r : Nat} (hr : w.heap.size = r) : F3 (w.alloc (.cells #[.int .i64 er, .int .i64 l, .int .i64 c] 36)) r er l c := by
  have n := fun j u h => new_cells w [.int .i64 er, .int .i64 l, .int .i64 c] 36 j u h
  rw [← hr]
  exact ⟨n 0 _ rfl, n 1 _ rfl, n 2 _ rfl, fun j => by simp [go_sem]⟩
theorem f3_put {w : World} {r : Nat} {a b d : Int} (h : F3 w r a b d) (er l c : Int) : F3 (((w.setCell ⟨r, 0, none⟩ (.int .i64 er)).setCell ⟨r, 1, none⟩ (.int .i64 l)).setCell ⟨r, 2, none⟩ (.int .i64 c)) r er l c := by
  refine ⟨?_, ?_, ?_, fun j => by simp only [set_frozen]; exact h.fz j⟩
  all_goals simp [go_sem, h.c0, h.c1, h.c2]
theorem ex_put3 (w : World) (r : Nat) (er l c : Int) : Ex (fun k => k = r) w (((w.setCell ⟨r, 0, none⟩ (.int .i64 er)).setCell ⟨r, 1, none⟩ (.int .i64 l)).setCell ⟨r, 2, none⟩ (.int .i64 c)) := (((Ex.refl (fun k => k = r) w).set (p := r) (j := 0) rfl _).set (p := r) (j := 1) rfl _).set (p := r) (j := 2) rfl _
theorem BT.low {w w' : World} {a : Option Addr} {n : Nat} {T : Nat → Int} (h : BT w a n T) (ex : Ex (fun _ => False) w w') : BT w' a n T := h.below (ex.below (Nat.le_refl _) (fun _ _ z => z))
theorem OpAt.low {w w' : World} {b o : Nat} {v : OpV} (h : OpAt w b o v) (ex : Ex (fun _ => False) w w') : OpAt w' b o v := h.below (ex.below (Nat.le_refl _) (fun _ _ z => z))
set_option linter.unusedSimpArgs false in
set_option linter.unusedVariables false in
set_option maxRecDepth 100000 in
set_option maxHeartbeats 32000000 in
theorem accept_walk (w : World) (a : Option Addr) (len cap : Nat) (f : Nat → OpV) (hn : len ≤ 9223372036854775807) (hops : OpsAt w a len f) :
    Calls Try.prog 4 #[.slice a len cap] w fun e w' => e = .returned (.bool true) ∧ Below w.heap.size w w' := by
  have HO := hide hops
  have HSM := hide (small_any w a len cap f hops hn)
  clear hops
  go_enter Try.func4, Try.ntmps4
  go_wp2_with fail
  refine (HSM.out).mono ?_
  rintro e w' ⟨bb, rfl, rfl, hsm⟩
  cases bb
  · go_wp2
    go_ret
    exact ⟨rfl, Below.refl _ _⟩
  obtain ⟨hlen, hsm⟩ := hsm rfl
  have HS := hide hsm
  clear hsm HSM
  go_wp2
  refine wp_loop_mix [none, none, some 2, none, some 4, some 5, some 6, some 7, some 8, some 9, some 10, some 11, some 12, some 13, none, none, none, none, none, some 19, some 20, some 21, some 22, some 23, some 24, some 25, some 26, some 27, some 28, some 29, some 30, some 31, some 32, some 33, some 34, some 35, some 36, some 37, some 38, some 39, some 40, some 41, some 42, some 43, some 44, some 45, some 46, some 47, some 48, some 49, some 50, some 51, some 52, some 53, some 54, some 55, some 56, some 57, some 58, some 59, some 60, some 61, some 62, some 63, some 64, some 65, some 66, some 67, some 68, some 69, some 70, some 71, some 72, some 73, some 74, some 75, some 76, some 77, some 78, some 79, some 80, some 81] (by kernel_rfl) (fun us wy => (fun s19 wr => ∃ k : Nat, k ≤ len ∧ s19 = .int .i64 k ∧ Hid (Ex (fun _ => False) w wr)) (us 19) wy) (fun us wy => (fun s19 _ => len - (intOf s19).toNat) (us 19) wy) ?atStart ?round
  case atStart => (dsimp only [getL]; exact ⟨0, Nat.zero_le _, rfl, hide (Ex.refl _ _)⟩)
  case round =>
    intro us wr hrel J1 hJ1
    dsimp only at hrel hJ1
    dsimp only [mixF]
    generalize us 19 = s19 at hrel hJ1 ⊢
    have HJ1 := hide hJ1
    clear hJ1
    obtain ⟨k, hk, rfl, HX⟩ := hrel
    by_cases hlt : k < len
    · have d1 : decide ((k : Int) < (len : Int)) = true := decide_eq_true (by omega)
      have d1n : decide (k < len) = true := decide_eq_true hlt
      have hwk : IntKind.i64.wrap ((k : Int) + 1) = ((k + 1 : Nat) : Int) := by rw [IntKind.wrap_i64]; omega
      obtain ⟨b, off, ea, hop0⟩ := HO.out k hlt
      cases ea
      have hop := hop0.low HX.out
      have HTN := hide (HS.out k hlt)
      generalize f k = v at *
      have c0 := hop.c0
      have c1 := hop.c1
      have c2 := hop.c2
      have HBT := hide (hop.bt.low ((Ex.refl (fun _ => False) wr).alloc (.cells #[.int .i64 v.kd, .int .i64 v.a, .slice v.ta v.tn v.tc] 58)))
      have HX4 := hide (HX.out.alloc (.cells #[.int .i64 v.kd, .int .i64 v.a, .slice v.ta v.tn v.tc] 58))
      have HC4 : Hid ((wr.alloc (.cells #[.int .i64 v.kd, .int .i64 v.a, .slice v.ta v.tn v.tc] 58)).cell? ⟨wr.heap.size, 2, none⟩ = some (.slice v.ta v.tn v.tc)) := new_cells wr [.int .i64 v.kd, .int .i64 v.a, .slice v.ta v.tn v.tc] 58 2 _ rfl
      clear hop0 hop
      go_upto_region 6 with fail
      clear c0 c1 c2
      generalize wr.alloc (.cells #[.int .i64 v.kd, .int .i64 v.a, .slice v.ta v.tn v.tc] 58) = w4 at *
      generalize wr.heap.size = r4 at *
      go_cut [19, 4, 5, 6] (fun s19 s4 s5 s6 wx => ∃ (r5 r6 : Nat) (x : ByteArray) (vd vb : SLc) (er l c : Int), s19 = .int .i64 k ∧ s4 = .pointer (some ⟨r4, 0, none⟩) ∧ s5 = .pointer (some ⟨r5, 0, none⟩) ∧ s6 = .pointer (some ⟨r6, 0, none⟩) ∧ P3 wx r5 x vd vb ∧ F3 wx r6 er l c ∧ (w4.heap.size ≤ r5 ∧ w4.heap.size ≤ r6 ∧ r5 ≠ r6) ∧ Ex (fun _ => False) w4 wx ∧ (er = 0 → ∃ P : Pg, x = P.nm ∧ PGM wx ND P vd vb ∧ gPg P ∧ (prPg P).length ≤ 1099511627776 ∧ 1 + sdep P.bd ≤ 1000000 ∧ P.nm.size ≤ 4611686018427387904 ∧ szDs P.ds ≤ 4611686018427387904 ∧ szS P.bd ≤ 4611686018427387904))
      case first =>
        as_aux_lemma =>
          have k2 := HC4.out
          go_wp2_with fail
          refine (prog_first HBT.out HTN.out).mono ?_
          rintro e9 w5 ⟨x, vd, vb, er, l, c, rfl, hex, hP⟩
          have HEX := hide hex
          have HP := hide hP
          clear hex hP
          unfold slV
          simp only []
          go_wp2
          go_meet
          case rel =>
            try dsimp only [rdA, getL]
            refine ⟨w5.heap.size, w5.heap.size + 1, x, vd, vb, er, l, c, rfl, rfl, rfl, by simp, (P3.new1 w5 x vd vb).keep ((Ex.refl (fun _ => False) _).alloc _) (fun z => z), f3_new _ er l c (by simp), ⟨HEX.out.size, Nat.le_succ_of_le HEX.out.size, by omega⟩, (HEX.out.alloc _).alloc _, fun z => ?_⟩
            obtain ⟨P, q1, q2, q3⟩ := HP.out z
            exact ⟨P, q1, q2.nd (((Ex.refl (fun _ => False) w5).alloc _).alloc _), q3⟩
      obtain ⟨r5, r6, x, vd, vb, er, l, c, rfl, rfl, rfl, rfl, hp3, hf3, hge, hex, hP⟩ := hcut
      have HP3 := hide hp3
      have HF3 := hide hf3
      have HGE := hide hge
      have HEX := hide hex
      have HPP := hide hP
      clear hp3 hf3 hge hex hP
      have g0 := HF3.out.c0
      go_upto_if 31 with fail
      clear g0
      go_cut [19, 4, 6] (fun s19 s4 s6 wx => ∃ (er' l' c' : Int), s19 = .int .i64 k ∧ s4 = .pointer (some ⟨r4, 0, none⟩) ∧ s6 = .pointer (some ⟨r6, 0, none⟩) ∧ F3 wx r6 er' l' c' ∧ Ex (fun _ => False) w4 wx)
      case first =>
        as_aux_lemma =>
          by_cases her : er = 0
          · obtain ⟨P, hx, hm, hg, hl, hsd, hn1, hn2, hn3⟩ := HPP.out her
            subst her hx
            have HM := hide hm
            have HG := hide hg
            have HL := hide hl
            have p0 := HP3.out.c0
            have p1 := HP3.out.c1
            have p2 := HP3.out.c2
            have HPR : Hid (Calls Try.prog 11 #[.agg #[.string P.nm, .slice vd.q vd.n vd.c, .slice vb.q vb.n vb.c]] wc (TxPost wc (prPg P))) := by
              obtain ⟨F, G, a1, a2, a3, a4⟩ := hm
              exact prog_any P vd vb F G wc ND a1 a2 a3 a4 hg.ds hg.bd hsd hl
            have HGC : Hid (∀ W, Ex (fun _ => False) wc W → Calls Try.prog 10 #[.agg #[.string P.nm, slV vd, slV vb]] W (RdB W true)) := fun W hW => good_call hg (hm.nd hW) hn1 hn2 hn3
            clear hm hg hl hsd hn1 hn2 hn3 HPP
            go_upto_region 8 with fail
            go_wp2_with fail
            refine HPR.out.mono ?_
            rintro e9 w6 ⟨ta, tc, rfl, hex6, hsrc, hta, htc⟩
            have HEX6 := hide hex6
            have HPC := hide (prog_call (cp := tc) HG.out HM.out hex6 hsrc hta HL.out)
            have HP36 := hide (HP3.out.keep hex6 (fun z => z))
            have HF36 := hide (HF3.out.keep hex6 (fun z => z))
            clear hex6 hsrc hta htc p0 p1 p2 HPR HP3 HF3
            generalize prPg P = T at *
            simp only []
            go_upto_region 9 with fail
            go_wp2_with fail
            refine HPC.out.mono ?_
            rintro e9 w7 ⟨y, ud, ub, er2, l2, c2, sm, rfl, hex7, hsame, hcame⟩
            have HE7 := hide (HEX6.out.trans hex7)
            have HSA := hide hsame
            have HCA := hide hcame
            have HP37 := hide (HP36.out.keep hex7 (fun z => z))
            have HF37 := hide (HF36.out.keep hex7 (fun z => z))
            clear hex7 hsame hcame HPC HP36 HF36 HEX6
            unfold slV
            simp only []
            have exb : Ex (fun _ => False) w7 ((w7.alloc (.cells #[.string y, .slice ud.q ud.n ud.c, .slice ub.q ub.n ub.c] 29)).alloc (.cells #[.int .i64 er2, .int .i64 l2, .int .i64 c2] 36)) := ((Ex.refl _ _).alloc _).alloc _
            have HB5 := hide (HP37.out.keep exb (fun z => z))
            have HB6 := hide (HF37.out.keep exb (fun z => z))
            have HB8 := hide ((P3.new1 w7 y ud ub).keep ((Ex.refl (fun _ => False) _).alloc (.cells #[.int .i64 er2, .int .i64 l2, .int .i64 c2] 36)) (fun z => z))
            have HB9 : Hid (F3 ((w7.alloc (.cells #[.string y, .slice ud.q ud.n ud.c, .slice ub.q ub.n ub.c] 29)).alloc (.cells #[.int .i64 er2, .int .i64 l2, .int .i64 c2] 36)) (w7.heap.size + 1) er2 l2 c2) := f3_new _ er2 l2 c2 (by simp)
            have HBX := hide (HE7.out.trans exb)
            have HSB : Hid (∀ W, Ex (fun _ => False) ((w7.alloc (.cells #[.string y, .slice ud.q ud.n ud.c, .slice ub.q ub.n ub.c] 29)).alloc (.cells #[.int .i64 er2, .int .i64 l2, .int .i64 c2] 36)) W → _) := fun W hW => HSA.out W (exb.trans hW)
            clear exb HE7 HP37 HF37 HSA
            go_upto_region 10 with fail
            generalize (w7.alloc (.cells #[.string y, .slice ud.q ud.n ud.c, .slice ub.q ub.n ub.c] 29)).alloc (.cells #[.int .i64 er2, .int .i64 l2, .int .i64 c2] 36) = wb at *
            generalize w7.heap.size + 1 = r9 at *
            generalize w7.heap.size = r8 at *
            have k50 := HB5.out.c0
            have k51 := HB5.out.c1
            have k52 := HB5.out.c2
            have k80 := HB8.out.c0
            have k81 := HB8.out.c1
            have k82 := HB8.out.c2
            have k90 := HB9.out.c0
            have k91 := HB9.out.c1
            have k92 := HB9.out.c2
            have HGB : Hid (∀ W, Ex (fun _ => False) wb W → _) := fun W hW => HGC.out W (HBX.out.trans hW)
            clear HGC
            unfold slV at HSB HGB
            refine wp_region_held_drew (S := fun w' => Ex (fun _ => False) wb w') (by kernel_rfl) ((Ex.refl _ _).drew) (fun hHeld => ?_)
            refine wpAnyH_take (i := 0) (v := ?_) rfl (by kernel_rfl) (by kernel_rfl) (by kernel_rfl) (fun _ _ _ h => h) (Or.inl ⟨by rfl, ?_⟩) (by assumption) ?_
            rotate_left
            · (intro w hSw; (try dsimp only at hSw); (have q50 := hSw.cell (fun z => z) k50; have q51 := hSw.cell (fun z => z) k51; have q52 := hSw.cell (fun z => z) k52; have q80 := hSw.cell (fun z => z) k80; have q81 := hSw.cell (fun z => z) k81; have q82 := hSw.cell (fun z => z) k82; have q90 := hSw.cell (fun z => z) k90; have q91 := hSw.cell (fun z => z) k91; have q92 := hSw.cell (fun z => z) k92); go_simp; try (with_reducible rfl))
            try simp only [Act.put, List.getElem_toArray, List.getElem_cons_zero, List.getElem_cons_succ, List.setIfInBounds_toArray, List.set_cons_zero, List.set_cons_succ]
            refine wpAnyH_ready (rs := [1]) (by kernel_rfl) (by simp) ?_
            refine (AllReadyH.cons rfl (fun K hK => ?_) AllReadyH.nil)
            · refine step_call rfl 10 _ (by simp [go_sem]) (HGB.out _ hHeld) ?_
              rintro e9 wx1 ⟨rfl, hexs⟩
              have HXx1 := hide (hHeld.trans hexs)
              have HXL := hide HXx1.out
              clear hexs
              refine ⟨_, rfl, ?_⟩
              refine hK.out _ _ ?_ (fun hHeld => ?_)
              · first | exact HXx3.out | exact HXx2.out | exact HXx1.out
              clear hK K
              try simp only [Act.put, List.getElem_toArray, List.getElem_cons_zero, List.getElem_cons_succ, List.setIfInBounds_toArray, List.set_cons_zero, List.set_cons_succ]
              refine wpAnyH_take (i := 2) (v := ?_) rfl (by kernel_rfl) (by kernel_rfl) (by kernel_rfl) (fun _ _ _ h => h) (Or.inl ⟨by rfl, ?_⟩) (by assumption) ?_
              rotate_left
              · (intro w hSw; (try dsimp only at hSw); go_simp; try (with_reducible rfl))
              try simp only [Act.put, List.getElem_toArray, List.getElem_cons_zero, List.getElem_cons_succ, List.setIfInBounds_toArray, List.set_cons_zero, List.set_cons_succ]
              refine wpAnyH_take (i := 3) (v := ?_) rfl (by kernel_rfl) (by kernel_rfl) (by kernel_rfl) (fun _ _ _ h => h) (Or.inl ⟨by rfl, ?_⟩) (by assumption) ?_
              rotate_left
              · (intro w hSw; (try dsimp only at hSw); go_simp; try (with_reducible rfl))
              try simp only [Act.put, List.getElem_toArray, List.getElem_cons_zero, List.getElem_cons_succ, List.setIfInBounds_toArray, List.set_cons_zero, List.set_cons_succ]
              refine wpAnyH_take (i := 4) (v := ?_) rfl (by kernel_rfl) (by kernel_rfl) (by kernel_rfl) (fun _ _ _ h => h) (Or.inl ⟨by rfl, ?_⟩) (by assumption) ?_
              rotate_left
              · (intro w hSw; (try dsimp only at hSw); (have q50 := hSw.cell (fun z => z) k50; have q51 := hSw.cell (fun z => z) k51; have q52 := hSw.cell (fun z => z) k52; have q80 := hSw.cell (fun z => z) k80; have q81 := hSw.cell (fun z => z) k81; have q82 := hSw.cell (fun z => z) k82; have q90 := hSw.cell (fun z => z) k90; have q91 := hSw.cell (fun z => z) k91; have q92 := hSw.cell (fun z => z) k92); go_simp; try (with_reducible rfl))
              try simp only [Act.put, List.getElem_toArray, List.getElem_cons_zero, List.getElem_cons_succ, List.setIfInBounds_toArray, List.set_cons_zero, List.set_cons_succ]
              refine wpAnyH_take (i := 5) (v := ?_) rfl (by kernel_rfl) (by kernel_rfl) (by kernel_rfl) (fun _ _ _ h => h) (Or.inl ⟨by rfl, ?_⟩) (by assumption) ?_
              rotate_left
              · (intro w hSw; (try dsimp only at hSw); go_simp; try (with_reducible rfl))
              try simp only [Act.put, List.getElem_toArray, List.getElem_cons_zero, List.getElem_cons_succ, List.setIfInBounds_toArray, List.set_cons_zero, List.set_cons_succ]
              refine wpAnyH_take (i := 6) (v := ?_) rfl (by kernel_rfl) (by kernel_rfl) (by kernel_rfl) (fun _ _ _ h => h) (Or.inl ⟨by rfl, ?_⟩) (by assumption) ?_
              rotate_left
              · (intro w hSw; (try dsimp only at hSw); go_simp; try (with_reducible rfl))
              try simp only [Act.put, List.getElem_toArray, List.getElem_cons_zero, List.getElem_cons_succ, List.setIfInBounds_toArray, List.set_cons_zero, List.set_cons_succ]
              refine wpAnyH_take (i := 7) (v := ?_) rfl (by kernel_rfl) (by kernel_rfl) (by kernel_rfl) (fun _ _ _ h => h) (Or.inl ⟨by rfl, ?_⟩) (by assumption) ?_
              rotate_left
              · (intro w hSw; (try dsimp only at hSw); (have q50 := hSw.cell (fun z => z) k50; have q51 := hSw.cell (fun z => z) k51; have q52 := hSw.cell (fun z => z) k52; have q80 := hSw.cell (fun z => z) k80; have q81 := hSw.cell (fun z => z) k81; have q82 := hSw.cell (fun z => z) k82; have q90 := hSw.cell (fun z => z) k90; have q91 := hSw.cell (fun z => z) k91; have q92 := hSw.cell (fun z => z) k92); go_simp; try (with_reducible rfl))
              try simp only [Act.put, List.getElem_toArray, List.getElem_cons_zero, List.getElem_cons_succ, List.setIfInBounds_toArray, List.set_cons_zero, List.set_cons_succ]
              refine wpAnyH_take (i := 8) (v := ?_) rfl (by kernel_rfl) (by kernel_rfl) (by kernel_rfl) (fun _ _ _ h => h) (Or.inl ⟨by rfl, ?_⟩) (by assumption) ?_
              rotate_left
              · (intro w hSw; (try dsimp only at hSw); (have q50 := hSw.cell (fun z => z) k50; have q51 := hSw.cell (fun z => z) k51; have q52 := hSw.cell (fun z => z) k52; have q80 := hSw.cell (fun z => z) k80; have q81 := hSw.cell (fun z => z) k81; have q82 := hSw.cell (fun z => z) k82; have q90 := hSw.cell (fun z => z) k90; have q91 := hSw.cell (fun z => z) k91; have q92 := hSw.cell (fun z => z) k92); go_simp; try (with_reducible rfl))
              try simp only [Act.put, List.getElem_toArray, List.getElem_cons_zero, List.getElem_cons_succ, List.setIfInBounds_toArray, List.set_cons_zero, List.set_cons_succ]
              refine wpAnyH_ready (rs := [9]) (by kernel_rfl) (by simp) ?_
              refine (AllReadyH.cons rfl (fun K hK => ?_) AllReadyH.nil)
              · refine step_call_g (by rfl) 15 _ (by simp [go_sem]) (HSB.out _ hHeld) ?_
                rintro e9 wx2 ⟨rfl, hexs⟩
                have HXx2 := hide (hHeld.trans hexs)
                have HXL := hide HXx2.out
                clear hexs
                refine ⟨_, rfl, ?_⟩
                refine hK.out _ _ ?_ (fun hHeld => ?_)
                · first | exact HXx3.out | exact HXx2.out | exact HXx1.out
                clear hK K
                try simp only [Act.put, List.getElem_toArray, List.getElem_cons_zero, List.getElem_cons_succ, List.setIfInBounds_toArray, List.set_cons_zero, List.set_cons_succ]
                refine wpAnyH_ready (rs := [10]) (by kernel_rfl) (by simp) ?_
                refine (AllReadyH.cons rfl (fun K hK => ?_) AllReadyH.nil)
                · refine step_call_g (by rfl) 13 _ (by simp [go_sem]) (HCA.out _) ?_
                  rintro e9 wx3 ⟨rfl, hexs⟩
                  have HXx3 := hide (hHeld.trans hexs)
                  have HXL := hide HXx3.out
                  clear hexs
                  refine ⟨_, rfl, ?_⟩
                  refine hK.out _ _ ?_ (fun hHeld => ?_)
                  · first | exact HXx3.out | exact HXx2.out | exact HXx1.out
                  clear hK K
                  try simp only [Act.put, List.getElem_toArray, List.getElem_cons_zero, List.getElem_cons_succ, List.setIfInBounds_toArray, List.set_cons_zero, List.set_cons_succ]
                  refine wpAnyH_take (i := 11) (v := ?_) rfl (by kernel_rfl) (by kernel_rfl) (by kernel_rfl) (fun _ _ _ h => h) (Or.inl ⟨by rfl, ?_⟩) (by assumption) ?_
                  rotate_left
                  · (intro w hSw; (try dsimp only at hSw); go_simp; try (with_reducible rfl))
                  try simp only [Act.put, List.getElem_toArray, List.getElem_cons_zero, List.getElem_cons_succ, List.setIfInBounds_toArray, List.set_cons_zero, List.set_cons_succ]
                  refine wpAnyH_take (i := 12) (v := ?_) rfl (by kernel_rfl) (by kernel_rfl) (by kernel_rfl) (fun _ _ _ h => h) (Or.inl ⟨by rfl, ?_⟩) (by assumption) ?_
                  rotate_left
                  · (intro w hSw; (try dsimp only at hSw); go_simp; try (with_reducible rfl))
                  try simp only [Act.put, List.getElem_toArray, List.getElem_cons_zero, List.getElem_cons_succ, List.setIfInBounds_toArray, List.set_cons_zero, List.set_cons_succ]
                  refine wpAnyH_done (by kernel_rfl) ?_ _
                  clear hHeld
                  go_wp2
                  go_meet
                  case rel => (try dsimp only [rdA, getL]); (exact ⟨0, l, c, rfl, rfl, rfl, HB6.out.keep HXL.out (fun z => z), HEX.out.trans (HBX.out.trans HXL.out)⟩)
          · have h0 : (er == 0) = false := by simpa using her
            go_wp2
            go_meet
            case rel => (try dsimp only [rdA, getL]); (exact ⟨er, l, c, rfl, rfl, rfl, HF3.out, HEX.out⟩)
      obtain ⟨er', l', c', rfl, rfl, rfl, hf3, hex⟩ := hcut
      have HC5 := hide (hex.cell (fun z => z) HC4.out)
      have HBT5 := hide (HBT.out.low hex)
      have HF5 := hide hf3
      have HEX5 := hide hex
      clear hf3 hex HP3 HF3 HEX HPP HC4 HBT
      go_upto_region 12 with fail
      go_cut [19, 6, 10] (fun s19 s6 s10 wx => ∃ (r10 : Nat) (bb : Bool) (wi : Int) (f1 f2 : XP) (er l c : Int), s19 = .int .i64 k ∧ s6 = .pointer (some ⟨r6, 0, none⟩) ∧ s10 = .pointer (some ⟨r10, 0, none⟩) ∧ QK wx r10 bb f1 wi f2 ∧ F3 wx r6 er l c ∧ Ex (fun _ => False) w4 wx ∧ (er = 0 → ∃ P : Pp, bb = P.re ∧ wi = P.wi ∧ PPM wx P f1 f2 ∧ gPp P ∧ (prPp P).length ≤ 1099511627776 ∧ sz P.p ≤ 4611686018427387904 ∧ ∀ e, P.q = some e → sz e ≤ 4611686018427387904))
      case first =>
        as_aux_lemma =>
          have k2 := HC5.out
          go_wp2_with fail
          refine (prop_first HBT5.out HTN.out).mono ?_
          rintro e9 w6 ⟨bb, wi, f1, f2, er, l, c, rfl, hex, hP⟩
          have HE6 := hide hex
          have HP := hide hP
          have hf6 := HF5.out.keep hex (fun z => z)
          have HF6 := hide hf6
          have g0 := hf6.c0
          have g1 := hf6.c1
          have g2 := hf6.c2
          have z0 := hf6.fz 0
          have z1 := hf6.fz 1
          have z2 := hf6.fz 2
          have hlt6 := hf6.lt
          have HL5 := hide HF5.out.lt
          clear hex hP hf6 k2
          unfold prV
          simp only []
          go_wp2
          go_meet
          case rel =>
            try dsimp only [rdA, getL]
            have e3 := ex_put3 w6 r6 er l c
            have hf7 := f3_put HF6.out er l c
            have hsz3 : (((w6.setCell ⟨r6, 0, none⟩ (.int .i64 er)).setCell ⟨r6, 1, none⟩ (.int .i64 l)).setCell ⟨r6, 2, none⟩ (.int .i64 c)).heap.size = w6.heap.size := by simp
            generalize ((w6.setCell ⟨r6, 0, none⟩ (.int .i64 er)).setCell ⟨r6, 1, none⟩ (.int .i64 l)).setCell ⟨r6, 2, none⟩ (.int .i64 c) = w7 at *
            have hq := qk_new w7 bb f1 wi f2
            rw [hsz3] at hq
            refine ⟨w6.heap.size, bb, wi, f1, f2, er, l, c, rfl, rfl, rfl, hq, hf7.keep ((Ex.refl (fun _ => False) w7).alloc _) (fun z => z), ((HEX5.out.trans HE6.out).trans2 e3 (fun k z => .inr (by have := HGE.out; omega))).alloc _, fun z => ?_⟩
            obtain ⟨P, q1, q2, q3, q4⟩ := HP.out z
            exact ⟨P, q1, q2, q3 _ ((e3.mono (fun k z => by have := HL5.out; omega)).alloc _), q4⟩
      obtain ⟨r10, bb, wi, f1, f2, er, l, c, rfl, rfl, rfl, hq, hf3, hex, hP⟩ := hcut
      have HQ := hide hq
      have HF3 := hide hf3
      have HEX := hide hex
      have HPP := hide hP
      have g0 := hf3.c0
      clear hq hf3 hex hP HC5 HBT5 HF5 HEX5
      go_upto_if 60 with fail
      clear g0
      by_cases her : er = 0
      · obtain ⟨P, hb1, hb2, hm, hg, hl, hn1, hn2⟩ := HPP.out her
        subst her hb1 hb2
        have HM := hide hm
        have HG := hide hg
        have HL := hide hl
        have HPR := hide (print_prop hg hm hl)
        have HGC : Hid (∀ W, Ex (fun _ => False) wc W → Calls Try.prog 17 #[prV P.re f1 P.wi f2] W (RdB W true)) := fun W hW => goodp_call hg (hm.low hW) hn1 hn2
        clear hm hg hl hn1 hn2 HPP
        unfold prV at HPR HGC
        as_aux_lemma =>
          have k0 := HQ.out.c0
          have k1 := HQ.out.c1
          have k2 := HQ.out.c2
          have k3 := HQ.out.c3
          have k4 := HQ.out.c4
          have k5 := HQ.out.c5
          have k6 := HQ.out.c6
          have k7 := HQ.out.c7
          have k8 := HQ.out.c8
          have k9 := HQ.out.c9
          have k10 := HQ.out.c10
          have k11 := HQ.out.c11
          have k12 := HQ.out.c12
          have k13 := HQ.out.c13
          have k14 := HQ.out.c14
          have k15 := HQ.out.c15
          go_upto_region 14 with fail
          go_wp2_with fail
          refine HPR.out.mono ?_
          rintro e9 w6 ⟨ta, tc, rfl, hex6, hsrc, hta, htc⟩
          have HEX6 := hide hex6
          have HPC := hide (prop_call (cp := tc) HG.out HM.out hex6 hsrc hta HL.out)
          have HQ6 := hide (HQ.out.keep hex6 (fun z => z))
          clear hex6 hsrc hta htc k0 k1 k2 k3 k4 k5 k6 k7 k8 k9 k10 k11 k12 k13 k14 k15 HPR HQ
          generalize prPp P = T at *
          simp only []
          go_upto_region 15 with fail
          as_aux_lemma =>
            go_wp2_with fail
            refine HPC.out.mono ?_
            rintro e9 w7 ⟨b2, wi2, g1, g2, er2, l2, c2, sm, rfl, hex7, hsame, hcame⟩
            have HE7 := hide (HEX6.out.trans hex7)
            have HSA := hide hsame
            have HCA := hide hcame
            have HQ7 := hide (HQ6.out.keep hex7 (fun z => z))
            clear hex7 hsame hcame HPC HQ6 HEX6
            unfold prV at HSA ⊢
            simp only []
            have exb : Ex (fun _ => False) w7 ((w7.alloc (prO b2 g1 wi2 g2)).alloc (.cells #[.int .i64 er2, .int .i64 l2, .int .i64 c2] 36)) := ((Ex.refl _ _).alloc _).alloc _
            have HB10 := hide (HQ7.out.keep exb (fun z => z))
            have HB12 := hide ((qk_new w7 b2 g1 wi2 g2).keep ((Ex.refl (fun _ => False) _).alloc (.cells #[.int .i64 er2, .int .i64 l2, .int .i64 c2] 36)) (fun z => z))
            have HB13 : Hid (F3 ((w7.alloc (prO b2 g1 wi2 g2)).alloc (.cells #[.int .i64 er2, .int .i64 l2, .int .i64 c2] 36)) (w7.heap.size + 1) er2 l2 c2) := f3_new _ er2 l2 c2 (by simp)
            have HBX := hide (HE7.out.trans exb)
            have HSB : Hid (∀ W, Ex (fun _ => False) ((w7.alloc (prO b2 g1 wi2 g2)).alloc (.cells #[.int .i64 er2, .int .i64 l2, .int .i64 c2] 36)) W → _) := fun W hW => HSA.out W (exb.trans hW)
            clear exb HE7 HQ7 HSA
            unfold prO at HB10 HB12 HB13 HBX HSB
            go_upto_region 16 with fail
            generalize (w7.alloc (.cells #[.bool b2, .int .i64 g1.k, .string g1.x, .int .i64 g1.n, .string g1.m, .slice g1.q g1.ql g1.qc, .int .i64 g1.li, .int .i64 g1.co, .int .i64 wi2, .int .i64 g2.k, .string g2.x, .int .i64 g2.n, .string g2.m, .slice g2.q g2.ql g2.qc, .int .i64 g2.li, .int .i64 g2.co] 49)).alloc (.cells #[.int .i64 er2, .int .i64 l2, .int .i64 c2] 36) = wb at *
            generalize w7.heap.size + 1 = r13 at *
            generalize w7.heap.size = r12 at *
            have ka0 := HB10.out.c0
            have kb0 := HB12.out.c0
            have ka1 := HB10.out.c1
            have kb1 := HB12.out.c1
            have ka2 := HB10.out.c2
            have kb2 := HB12.out.c2
            have ka3 := HB10.out.c3
            have kb3 := HB12.out.c3
            have ka4 := HB10.out.c4
            have kb4 := HB12.out.c4
            have ka5 := HB10.out.c5
            have kb5 := HB12.out.c5
            have ka6 := HB10.out.c6
            have kb6 := HB12.out.c6
            have ka7 := HB10.out.c7
            have kb7 := HB12.out.c7
            have ka8 := HB10.out.c8
            have kb8 := HB12.out.c8
            have ka9 := HB10.out.c9
            have kb9 := HB12.out.c9
            have ka10 := HB10.out.c10
            have kb10 := HB12.out.c10
            have ka11 := HB10.out.c11
            have kb11 := HB12.out.c11
            have ka12 := HB10.out.c12
            have kb12 := HB12.out.c12
            have ka13 := HB10.out.c13
            have kb13 := HB12.out.c13
            have ka14 := HB10.out.c14
            have kb14 := HB12.out.c14
            have ka15 := HB10.out.c15
            have kb15 := HB12.out.c15
            have kc0 := HB13.out.c0
            have kc1 := HB13.out.c1
            have kc2 := HB13.out.c2
            have HGB : Hid (∀ W, Ex (fun _ => False) wb W → _) := fun W hW => HGC.out W (HBX.out.trans hW)
            clear HGC
            as_aux_lemma =>
              refine wp_region_held_drew (S := fun w' => Ex (fun _ => False) wb w') (by kernel_rfl) ((Ex.refl _ _).drew) (fun hHeld => ?_)
              refine wpAnyH_take (i := 0) (v := ?_) rfl (by kernel_rfl) (by kernel_rfl) (by kernel_rfl) (fun _ _ _ h => h) (Or.inl ⟨by rfl, ?_⟩) (by assumption) ?_
              rotate_left
              · (intro w hSw; (try dsimp only at hSw); (have qa0 := hSw.cell (fun z => z) ka0; have qa1 := hSw.cell (fun z => z) ka1; have qa2 := hSw.cell (fun z => z) ka2; have qa3 := hSw.cell (fun z => z) ka3; have qa4 := hSw.cell (fun z => z) ka4; have qa5 := hSw.cell (fun z => z) ka5; have qa6 := hSw.cell (fun z => z) ka6; have qa7 := hSw.cell (fun z => z) ka7; have qa8 := hSw.cell (fun z => z) ka8; have qa9 := hSw.cell (fun z => z) ka9; have qa10 := hSw.cell (fun z => z) ka10; have qa11 := hSw.cell (fun z => z) ka11; have qa12 := hSw.cell (fun z => z) ka12; have qa13 := hSw.cell (fun z => z) ka13; have qa14 := hSw.cell (fun z => z) ka14; have qa15 := hSw.cell (fun z => z) ka15); go_simp; try (with_reducible rfl))
              try simp only [Act.put, List.getElem_toArray, List.getElem_cons_zero, List.getElem_cons_succ, List.setIfInBounds_toArray, List.set_cons_zero, List.set_cons_succ]
              refine wpAnyH_ready (rs := [1]) (by kernel_rfl) (by simp) ?_
              refine (AllReadyH.cons rfl (fun K hK => ?_) AllReadyH.nil)
              · refine step_call rfl 17 _ (by simp [go_sem]) (HGB.out _ hHeld) ?_
                rintro e9 wx1 ⟨rfl, hexs⟩
                have HXx1 := hide (hHeld.trans hexs)
                have HXL := hide HXx1.out
                clear hexs
                refine ⟨_, rfl, ?_⟩
                refine hK.out _ _ ?_ (fun hHeld => ?_)
                · first | exact HXx3.out | exact HXx2.out | exact HXx1.out
                clear hK K
                try simp only [Act.put, List.getElem_toArray, List.getElem_cons_zero, List.getElem_cons_succ, List.setIfInBounds_toArray, List.set_cons_zero, List.set_cons_succ]
                refine wpAnyH_take (i := 2) (v := ?_) rfl (by kernel_rfl) (by kernel_rfl) (by kernel_rfl) (fun _ _ _ h => h) (Or.inl ⟨by rfl, ?_⟩) (by assumption) ?_
                rotate_left
                · (intro w hSw; (try dsimp only at hSw); go_simp; try (with_reducible rfl))
                try simp only [Act.put, List.getElem_toArray, List.getElem_cons_zero, List.getElem_cons_succ, List.setIfInBounds_toArray, List.set_cons_zero, List.set_cons_succ]
                refine wpAnyH_take (i := 3) (v := ?_) rfl (by kernel_rfl) (by kernel_rfl) (by kernel_rfl) (fun _ _ _ h => h) (Or.inl ⟨by rfl, ?_⟩) (by assumption) ?_
                rotate_left
                · (intro w hSw; (try dsimp only at hSw); go_simp; try (with_reducible rfl))
                try simp only [Act.put, List.getElem_toArray, List.getElem_cons_zero, List.getElem_cons_succ, List.setIfInBounds_toArray, List.set_cons_zero, List.set_cons_succ]
                refine wpAnyH_take (i := 4) (v := ?_) rfl (by kernel_rfl) (by kernel_rfl) (by kernel_rfl) (fun _ _ _ h => h) (Or.inl ⟨by rfl, ?_⟩) (by assumption) ?_
                rotate_left
                · (intro w hSw; (try dsimp only at hSw); (have qc0 := hSw.cell (fun z => z) kc0; have qc1 := hSw.cell (fun z => z) kc1; have qc2 := hSw.cell (fun z => z) kc2); go_simp; try (with_reducible rfl))
                try simp only [Act.put, List.getElem_toArray, List.getElem_cons_zero, List.getElem_cons_succ, List.setIfInBounds_toArray, List.set_cons_zero, List.set_cons_succ]
                refine wpAnyH_take (i := 5) (v := ?_) rfl (by kernel_rfl) (by kernel_rfl) (by kernel_rfl) (fun _ _ _ h => h) (Or.inl ⟨by rfl, ?_⟩) (by assumption) ?_
                rotate_left
                · (intro w hSw; (try dsimp only at hSw); go_simp; try (with_reducible rfl))
                try simp only [Act.put, List.getElem_toArray, List.getElem_cons_zero, List.getElem_cons_succ, List.setIfInBounds_toArray, List.set_cons_zero, List.set_cons_succ]
                refine wpAnyH_take (i := 6) (v := ?_) rfl (by kernel_rfl) (by kernel_rfl) (by kernel_rfl) (fun _ _ _ h => h) (Or.inl ⟨by rfl, ?_⟩) (by assumption) ?_
                rotate_left
                · (intro w hSw; (try dsimp only at hSw); go_simp; try (with_reducible rfl))
                try simp only [Act.put, List.getElem_toArray, List.getElem_cons_zero, List.getElem_cons_succ, List.setIfInBounds_toArray, List.set_cons_zero, List.set_cons_succ]
                refine wpAnyH_take (i := 7) (v := ?_) rfl (by kernel_rfl) (by kernel_rfl) (by kernel_rfl) (fun _ _ _ h => h) (Or.inl ⟨by rfl, ?_⟩) (by assumption) ?_
                rotate_left
                · (intro w hSw; (try dsimp only at hSw); (have qa0 := hSw.cell (fun z => z) ka0; have qa1 := hSw.cell (fun z => z) ka1; have qa2 := hSw.cell (fun z => z) ka2; have qa3 := hSw.cell (fun z => z) ka3; have qa4 := hSw.cell (fun z => z) ka4; have qa5 := hSw.cell (fun z => z) ka5; have qa6 := hSw.cell (fun z => z) ka6; have qa7 := hSw.cell (fun z => z) ka7; have qa8 := hSw.cell (fun z => z) ka8; have qa9 := hSw.cell (fun z => z) ka9; have qa10 := hSw.cell (fun z => z) ka10; have qa11 := hSw.cell (fun z => z) ka11; have qa12 := hSw.cell (fun z => z) ka12; have qa13 := hSw.cell (fun z => z) ka13; have qa14 := hSw.cell (fun z => z) ka14; have qa15 := hSw.cell (fun z => z) ka15); go_simp; try (with_reducible rfl))
                try simp only [Act.put, List.getElem_toArray, List.getElem_cons_zero, List.getElem_cons_succ, List.setIfInBounds_toArray, List.set_cons_zero, List.set_cons_succ]
                refine wpAnyH_take (i := 8) (v := ?_) rfl (by kernel_rfl) (by kernel_rfl) (by kernel_rfl) (fun _ _ _ h => h) (Or.inl ⟨by rfl, ?_⟩) (by assumption) ?_
                rotate_left
                · (intro w hSw; (try dsimp only at hSw); (have qb0 := hSw.cell (fun z => z) kb0; have qb1 := hSw.cell (fun z => z) kb1; have qb2 := hSw.cell (fun z => z) kb2; have qb3 := hSw.cell (fun z => z) kb3; have qb4 := hSw.cell (fun z => z) kb4; have qb5 := hSw.cell (fun z => z) kb5; have qb6 := hSw.cell (fun z => z) kb6; have qb7 := hSw.cell (fun z => z) kb7; have qb8 := hSw.cell (fun z => z) kb8; have qb9 := hSw.cell (fun z => z) kb9; have qb10 := hSw.cell (fun z => z) kb10; have qb11 := hSw.cell (fun z => z) kb11; have qb12 := hSw.cell (fun z => z) kb12; have qb13 := hSw.cell (fun z => z) kb13; have qb14 := hSw.cell (fun z => z) kb14; have qb15 := hSw.cell (fun z => z) kb15); go_simp; try (with_reducible rfl))
                try simp only [Act.put, List.getElem_toArray, List.getElem_cons_zero, List.getElem_cons_succ, List.setIfInBounds_toArray, List.set_cons_zero, List.set_cons_succ]
                refine wpAnyH_ready (rs := [9]) (by kernel_rfl) (by simp) ?_
                refine (AllReadyH.cons rfl (fun K hK => ?_) AllReadyH.nil)
                · refine step_call_g (by rfl) 21 _ (by simp [go_sem]) (HSB.out _ hHeld) ?_
                  rintro e9 wx2 ⟨rfl, hexs⟩
                  have HXx2 := hide (hHeld.trans hexs)
                  have HXL := hide HXx2.out
                  clear hexs
                  refine ⟨_, rfl, ?_⟩
                  refine hK.out _ _ ?_ (fun hHeld => ?_)
                  · first | exact HXx3.out | exact HXx2.out | exact HXx1.out
                  clear hK K
                  try simp only [Act.put, List.getElem_toArray, List.getElem_cons_zero, List.getElem_cons_succ, List.setIfInBounds_toArray, List.set_cons_zero, List.set_cons_succ]
                  refine wpAnyH_ready (rs := [10]) (by kernel_rfl) (by simp) ?_
                  refine (AllReadyH.cons rfl (fun K hK => ?_) AllReadyH.nil)
                  · refine step_call_g (by rfl) 13 _ (by simp [go_sem]) (HCA.out _) ?_
                    rintro e9 wx3 ⟨rfl, hexs⟩
                    have HXx3 := hide (hHeld.trans hexs)
                    have HXL := hide HXx3.out
                    clear hexs
                    refine ⟨_, rfl, ?_⟩
                    refine hK.out _ _ ?_ (fun hHeld => ?_)
                    · first | exact HXx3.out | exact HXx2.out | exact HXx1.out
                    clear hK K
                    try simp only [Act.put, List.getElem_toArray, List.getElem_cons_zero, List.getElem_cons_succ, List.setIfInBounds_toArray, List.set_cons_zero, List.set_cons_succ]
                    refine wpAnyH_take (i := 11) (v := ?_) rfl (by kernel_rfl) (by kernel_rfl) (by kernel_rfl) (fun _ _ _ h => h) (Or.inl ⟨by rfl, ?_⟩) (by assumption) ?_
                    rotate_left
                    · (intro w hSw; (try dsimp only at hSw); go_simp; try (with_reducible rfl))
                    try simp only [Act.put, List.getElem_toArray, List.getElem_cons_zero, List.getElem_cons_succ, List.setIfInBounds_toArray, List.set_cons_zero, List.set_cons_succ]
                    refine wpAnyH_take (i := 12) (v := ?_) rfl (by kernel_rfl) (by kernel_rfl) (by kernel_rfl) (fun _ _ _ h => h) (Or.inl ⟨by rfl, ?_⟩) (by assumption) ?_
                    rotate_left
                    · (intro w hSw; (try dsimp only at hSw); go_simp; try (with_reducible rfl))
                    try simp only [Act.put, List.getElem_toArray, List.getElem_cons_zero, List.getElem_cons_succ, List.setIfInBounds_toArray, List.set_cons_zero, List.set_cons_succ]
                    refine wpAnyH_done (by kernel_rfl) ?_ _
                    clear hHeld
                    go_wp2
                    first | refine HJ1.out _ _ ?rel (by kernel_rfl) rfl ?measure
                    case rel => (try dsimp only [rdA, getL]); (exact ⟨k + 1, by omega, by go_num, hide (HX4.out.trans (HEX.out.trans (HBX.out.trans HXL.out)))⟩)
                    case measure => (try dsimp only [rdA, getL]); (simp [intOf]; omega)
      · have h0 : (er == 0) = false := by simpa using her
        go_wp2
        first | refine HJ1.out _ _ ?rel (by kernel_rfl) rfl ?measure
        case rel => (try dsimp only [rdA, getL]); (exact ⟨k + 1, by omega, by go_num, hide (HX4.out.trans HEX.out)⟩)
        case measure => (try dsimp only [rdA, getL]); (simp [intOf]; omega)
    · obtain rfl : k = len := by omega
      have d1 : decide ((k : Int) < (k : Int)) = false := decide_eq_false (by omega)
      go_wp2
      go_ret
      exact ⟨rfl, HX.out.below (Nat.le_refl _) (fun _ _ z => z)⟩
end Go.Proofs.Qxb6500774a
