import Derived.Test.Qxb6500777aLkP
namespace Go.Proofs.Qxb6500777a
open Go.RowKit

set_option linter.unusedSimpArgs false in
set_option maxRecDepth 100000 in
set_option maxHeartbeats 16000000 in
theorem lookupsAgree_walk (w : World) (a : Option Addr) (n cap : Nat) (f : Nat → Opn) (hn : n ≤ 9223372036854775807) (ho : OpsAt w a n f) :
    Calls Try.prog 10 #[.slice a n cap] w fun e w' => e = .returned (.bool true) ∧ Below w.heap.size w w' := by
  have HO := hide ho
  clear ho
  by_cases hsm : n ≤ 65536
  · go_enter Try.func10, Try.ntmps10
    go_wp2_with fail
    refine (small_any _ a n cap hn).mono ?_
    rintro e w' ⟨rfl, ew⟩
    rw [ew]
    have hd : decide (n ≤ 65536) = true := by simpa using hsm
    rw [hd]
    clear hd ew w'
    go_wp2_with fail
    refine (newW_any _).mono ?_
    rintro e wn1 ⟨rfl, h1, b1⟩
    obtain ⟨p, hp⟩ : ∃ x, w.heap.size = x := ⟨_, rfl⟩
    rw [hp] at h1 ⊢
    have hgep : w.heap.size ≤ p := by omega
    have hltp : p < wn1.heap.size := h1.lt
    have hsz1 := b1.size
    have Kw1 := hide h1
    have KB1 := hide b1
    clear h1 b1 hp
    go_wp2_with fail
    refine (newP_any _).mono ?_
    rintro e wn2 ⟨rfl, h1, b1⟩
    obtain ⟨q, hq⟩ : ∃ x, wn1.heap.size = x := ⟨_, rfl⟩
    rw [hq] at h1 ⊢
    have hgeq : wn1.heap.size ≤ q := by omega
    have hltq : q < wn2.heap.size := h1.lt
    have hsz2 := b1.size
    have Kw2 := hide (Kw1.out.below b1)
    have Kp2 := hide h1
    have KB2 := hide (lec KB1.out b1)
    clear h1 b1 hq
    go_wp2_with fail
    refine (newT_any _).mono ?_
    rintro e wn3 ⟨rfl, h1, b1⟩
    obtain ⟨m, hm⟩ : ∃ x, wn2.heap.size = x := ⟨_, rfl⟩
    rw [hm] at h1 ⊢
    have hgem : wn2.heap.size ≤ m := by omega
    have hltm : m < wn3.heap.size := h1.lt
    have hsz3 := b1.size
    have Kw3 := hide (Kw2.out.below b1)
    have Kp3 := hide (Kp2.out.below b1)
    have Kt3 := hide h1
    have KB3 := hide (lec KB2.out b1)
    clear h1 b1 hm
    go_wp2_with fail
    refine (newB_any _ m).mono ?_
    rintro e wn4 ⟨b, rfl, hbg, h1, b1⟩
    have hgeb : wn3.heap.size ≤ b := hbg
    have hltb : b < wn4.heap.size := h1.lt
    have hsz4 := b1.size
    have Kw4 := hide (Kw3.out.below b1)
    have Kp4 := hide (Kp3.out.below b1)
    have Kt4 := hide (Kt3.out.below b1)
    have Kb4 := hide h1
    have KB4 := hide (lec KB3.out b1)
    clear h1 b1 hbg
    have HL := hide (show LS w wn4 m p q b (fun _ => tgt0) (fun _ => 0) (fun _ => tbl0) 1 from ⟨Kt4.out, Kw4.out, Kp4.out, Kb4.out, ⟨fun _ _ => tbl0_ok, fun _ _ => Int.le_refl 1⟩, fun _ _ => tgt0_ok, fun _ => ⟨Int.le_refl 0, by show (0 : Int) ≤ 3; omega⟩, KB4.out, by omega, by omega⟩)
    clear Kt4 Kw4 Kp4 Kb4 KB4
    clear Kw1
    clear KB1
    clear Kw2
    clear Kp2
    clear KB2
    clear Kw3
    clear Kp3
    clear Kt3
    clear KB3
    go_wp2
    go_loopw [6, 7, 8, 9, 10, 11, 12, 13, 14, 15, 16, 17, 18, 19, 20, 21] (fun s6 _ _ _ _ _ _ _ _ _ _ _ _ _ _ _ wr => ∃ (k : Nat) (W : Nat → Tgt) (G : Nat → Int) (TT : Nat → Tbl), k ≤ n ∧ s6 = .int .i64 k ∧ LS w wr m p q b W G TT (1 + 112 * (k : Int))) (fun s6 _ _ _ _ _ _ _ _ _ _ _ _ _ _ _ _ => n - (intOf s6).toNat)
    case atStart => exact ⟨0, _, _, _, Nat.zero_le _, rfl, HL.out⟩
    case round =>
      clear HL
      obtain ⟨k, W, G, TT, hk, rfl, hl⟩ := hrel
      have HL := hide hl
      clear hl
      by_cases hlt : k < n
      · have hlti : (k : Int) < (n : Int) := by omega
        obtain ⟨sb, off, rfl, hok, -⟩ := HO.out.at hlt
        have HC := hide (show ∀ wx, Below w.heap.size w wx → _ from fun wx hb => (HO.out.below hb).at hlt)
        obtain ⟨op, hop⟩ : ∃ op, f k = op := ⟨_, rfl⟩
        rw [hop] at hok HC
        have HOK := hide hok
        clear hok hop
        obtain ⟨_, _, e, -, c0, c1, c2, c3, c4, c5, c6⟩ := HC.out _ HL.out.bel
        cases e
        go_wp2_with fail
        refine (stepW_any _ p W HL.out.wr op HOK.out).mono ?_
        rintro e w2 ⟨rfl, h1, h2⟩
        have HL2 := hide (HL.out.world h2 h1 (wst_ok op HL.out.wo))
        clear c0 c1 c2 c3 c4 c5 c6 h1 h2 HL
        obtain ⟨W', hW'⟩ : ∃ W', wstP W op = W' := ⟨_, rfl⟩
        rw [hW'] at HL2
        clear hW'
        obtain ⟨_, _, e, -, c0, c1, c2, c3, c4, c5, c6⟩ := HC.out _ HL2.out.bel
        cases e
        by_cases hkd : op.kd = 2
        · have hkb : (op.kd == 2) = true := by simp [hkd]
          clear hkd
          go_wp2_with fail
          refine (list_any _ q G HL2.out.pa).mono ?_
          rintro e w3 ⟨da, dc, rfl, hdr, hb⟩
          have HL3 := hide (HL2.out.below hb)
          have hdl : (lsN G 1792).length ≤ 1792 := lsN_len G 1792
          have HDR := hide hdr
          have HDG := hide (show ∀ g off, da = some ⟨g, off, none⟩ → g < w3.heap.size ∧ g ≠ b from fun g off e => ⟨(hdr.da.2 g off e).2, by have := (hdr.da.2 g off e).1; have := HL2.out.bd.lt; omega⟩)
          clear hdr hb HL2 c0 c1 c2 c3 c4 c5 c6
          obtain ⟨D, hD⟩ : ∃ D, lsN G 1792 = D := ⟨_, rfl⟩
          rw [hD] at hdl HDR ⊢
          have HDD := hide hD
          clear hD
          go_wp2_with fail
          refine (tick_any _ b m p dX dY W' da D.length dc D TT (1 + 112 * (k : Int)) HL3.out.bd HL3.out.ti (by omega) HL3.out.mt HL3.out.ne.2.2.1 HDR.out.da.1 rfl (by omega) HDG.out HL3.out.wr.wa HL3.out.ne.2.2.2.2.1 HL3.out.wo).mono ?_
          rintro e w4 ⟨TT', rfl, hbd, hti, htr, hfr⟩
          have HL4 := hide (HL3.out.board hfr hbd hti)
          have HTR := hide htr
          have HDR4 := hide (show DA w4 da D from HDR.out.da.1.keep hfr.ex (fun g off e => (HDG.out g off e).2))
          have HTI := hide HL4.out.ti
          clear hbd hti htr hfr HL3 HDR HDR4 HDG HTR
          go_wp2
          go_loopw [7, 8, 9, 10, 11, 12, 13, 14, 15, 16, 17, 18, 19, 20, 21] (fun s7 _ _ _ _ _ _ _ _ _ _ _ _ _ _ wx => ∃ tm : Int, -1 ≤ tm ∧ tm ≤ 5 ∧ s7 = .int .i64 tm ∧ LS w wx m p q b W' G TT' (1 + 112 * (k : Int) + 112)) (fun s7 _ _ _ _ _ _ _ _ _ _ _ _ _ _ _ => (5 - intOf s7).toNat)
          case atStart => exact ⟨-1, by omega, by omega, rfl, HL4.out⟩
          case round =>
            clear HL4
            obtain ⟨tm, htm0, htm1, rfl, hl⟩ := hrel
            have HL := hide hl
            clear hl
            by_cases htm5 : tm ≤ 4
            · by_cases hout : tm < 0 ∨ 4 ≤ tm
              · have HOUT := hide hout
                clear hout
                go_wp2_with fail
                refine (table_out _ _ tm HOUT.out).mono ?_
                rintro e w5 ⟨ta, tc, rfl, htr5, hb⟩
                have HL5 := hide (HL.out.below hb)
                clear htr5 hb HL
                go_wp2
                go_loopw [9, 10, 11, 12, 13] (fun s9 _ _ _ _ wx => s9 = .int .i64 0 ∧ wx = w5) (fun _ _ _ _ _ _ => 0)
                case atStart => exact ⟨rfl, rfl⟩
                case round =>
                  obtain ⟨rfl, rfl⟩ := hrel
                  go_wp2
                  go_loopw [14, 15, 16, 17, 18, 19] (fun s14 s15 _ _ _ _ wx => ∃ x : Int, -1 ≤ x ∧ x ≤ 113 ∧ s15 = .int .i64 x ∧ s14 = .int .i64 0 ∧ LS w wx m p q b W' G TT' (1 + 112 * (k : Int) + 112)) (fun _ s15 _ _ _ _ _ => (113 - intOf s15).toNat)
                  case atStart => exact ⟨-1, by omega, by omega, rfl, rfl, HL5.out⟩
                  case round =>
                    clear HL5
                    obtain ⟨x, hx0, hx1, rfl, rfl, hl⟩ := hrel
                    have HL := hide hl
                    clear hl
                    by_cases hx : x ≤ 112
                    · have hwx : IntKind.i64.wrap (x + 1) = x + 1 := by rw [IntKind.wrap_i64]; omega
                      go_wp2_with fail
                      refine (trackOf_out _ _ tm x (.inl HOUT.out)).mono ?_
                      rintro e w6 ⟨tr, hh, rfl, rfl, hb⟩
                      have HL6 := hide ((HL.out.below hb).below (be1 w6 (.cells #[.int .i64 tr.num, .int .i64 tr.x, .int .i64 tr.y, .int .i64 tr.co, .int .i64 tr.sp, .int .i64 tr.st, .int .i64 tr.ag] 51)))
                      clear hb HL
                      go_wp2
                      go_roundw
                      case rel => exact ⟨x + 1, by omega, by omega, rfl, rfl, HL6.out⟩
                      case measure => simp [intOf]; omega
                    · obtain rfl : x = 113 := by omega
                      go_wp2_with fail
                      refine (issued_out _ _ tm HOUT.out).mono ?_
                      rintro e w6 ⟨rfl, rfl⟩
                      go_wp2_with fail
                      refine (resolve_out _ _ tm HOUT.out _).mono ?_
                      rintro e w6 ⟨tt, hh, rfl, ⟨rfl, rfl⟩, rfl⟩
                      have hhe := fun w => hide (held_out w (.pointer (some ⟨b, 0, none⟩)) tm HOUT.out)
                      go_upto_region 34 with fail
                      go_wp2_with fail
                      refine (hhe _).out.mono ?_
                      rintro e w6 ⟨rfl, rfl⟩
                      have hwt : IntKind.i64.wrap (tm + 1) = tm + 1 := by rw [IntKind.wrap_i64]; omega
                      go_wp2
                      go_roundw
                      case rel => exact ⟨tm + 1, by omega, by omega, rfl, HL.out⟩
                      case measure => simp [intOf]; omega
              · obtain ⟨t, ht⟩ : ∃ t : Nat, tm = t := ⟨tm.toNat, by omega⟩
                subst ht
                have ht4 : t < 4 := by omega
                have hwt1 : IntKind.i64.wrap ((t : Int) + 1) = (t : Int) + 1 := by rw [IntKind.wrap_i64]; omega
                have HTI1 := hide (HTI.out.tk t ht4).inv
                have HTA := hide (show ∀ wx, LS w wx m p q b W' G TT' (1 + 112 * (k : Int) + 112) → TA wx b (1 + t * 754) (TT' t) from fun wx h => h.bd.ta t ht4)
                obtain ⟨T, hT⟩ : ∃ T, TT' t = T := ⟨_, rfl⟩
                rw [hT] at HTI1 HTA
                clear hT
                have HLT := hide (show ∀ d, d ∈ tabN T 64 ↔ ∃ k, k < 64 ∧ (T.sl k).used = true ∧ (T.sl k).tr = d from fun d => tab_mem 64 d)
                have HLN := hide (show ((tabN T 64).length : Int) = T.held by rw [tab_len, HTI1.out.cnt])
                have hLl : (tabN T 64).length ≤ 64 := tab_le 64
                have hhr := HTI1.out.heldR
                go_wp2_with fail
                refine (table_any _ b t ht4 T (HTA.out _ HL.out)).mono ?_
                rintro e w5 ⟨ta, tc, rfl, htr5, hb⟩
                obtain ⟨L, hL⟩ : ∃ L, tabN T 64 = L := ⟨_, rfl⟩
                rw [hL] at HLT HLN hLl htr5 ⊢
                clear hL
                obtain ⟨n1, hn1⟩ : ∃ n, L.length = n := ⟨_, rfl⟩
                rw [hn1] at HLN hLl htr5 ⊢
                have HN1 := hide hn1
                clear hn1
                have HL5 := hide (HL.out.below hb)
                obtain ⟨B0, HR5⟩ : ∃ B0, Hid (TRow w5 B0 (.slice ta n1 tc) L) := ⟨_, hide htr5⟩
                clear htr5 hb HL
                go_wp2
                go_loopw [9, 10, 11, 12, 13] (fun s9 _ _ _ _ wx => ∃ j : Nat, j ≤ n1 ∧ s9 = .int .i64 j ∧ LS w wx m p q b W' G TT' (1 + 112 * (k : Int) + 112) ∧ TRow wx B0 (.slice ta n1 tc) L) (fun s9 _ _ _ _ _ => n1 - (intOf s9).toNat)
                case atStart => exact ⟨0, by omega, rfl, HL5.out, HR5.out⟩
                case round =>
                  clear HL5 HR5
                  obtain ⟨j, hj, rfl, hl, hr⟩ := hrel
                  have HL := hide hl
                  have HR := hide hr
                  clear hl hr
                  by_cases hjn : j < n1
                  · have hjni : (j : Int) < (n1 : Int) := by omega
                    obtain ⟨d, hd⟩ : ∃ d, L[j]? = some d := ⟨_, List.getElem?_eq_getElem (by have := HN1.out; omega)⟩
                    obtain ⟨sk, hsk, hsu, hst⟩ := (HLT.out d).1 (List.mem_of_getElem? hd)
                    have HSK := hide (show d = (T.sl sk).tr from hst.symm)
                    have HSU := hide hsu
                    obtain ⟨g, e, hra⟩ := HR.out.get HN1.out.symm hd
                    subst e
                    have HRA := hide hra
                    have HD := hide hd
                    obtain ⟨d0, d1, d2, d3, d4, d5, d6⟩ := hra.tt
                    have htg := (HTI1.out.ok sk hsk).tg
                    obtain ⟨x, hx⟩ : ∃ x : Nat, (T.sl sk).tg = x := ⟨(T.sl sk).tg.toNat, by omega⟩
                    have hx112 : x < 112 := by omega
                    have HXX := hide hx
                    clear hd hst hsu hra htg hx
                    go_wp2_with fail
                    refine (resolve_any _ b t ht4 T (HTA.out _ HL.out) d.num).mono ?_
                    rintro e w6 ⟨tt, hh, rfl, hres, rfl⟩
                    rw [HSK.out] at hres
                    obtain ⟨e1, e2⟩ := res_of HTI1.out hsk HSU.out hres
                    rw [HXX.out] at e1
                    subst e1 e2
                    clear hres
                    go_wp2_with fail
                    refine (trackOf_any _ b t ht4 T (HTA.out _ HL.out) x hx112 (by rcases HTI1.out.wh2 x hx112 with z | ⟨k, hk, z, _⟩; exact .inl z; exact .inr ⟨k, hk, z⟩)).mono ?_
                    rintro e w7 ⟨tr, hh, rfl, htk, hb⟩
                    obtain ⟨e1, e2⟩ := trk_of HTI1.out hsk HSU.out HXX.out htk
                    rw [← HSK.out] at e1
                    subst e1 e2
                    clear htk
                    have HL7 := hide ((HL.out.below hb).below (be1 w7 (.cells #[.int .i64 tr.num, .int .i64 tr.x, .int .i64 tr.y, .int .i64 tr.co, .int .i64 tr.sp, .int .i64 tr.st, .int .i64 tr.ag] 51)))
                    have HR7 := hide ((HR.out.below hb).below (be1 w7 (.cells #[.int .i64 tr.num, .int .i64 tr.x, .int .i64 tr.y, .int .i64 tr.co, .int .i64 tr.sp, .int .i64 tr.st, .int .i64 tr.ag] 51)))
                    obtain ⟨g', e, hra⟩ := HR7.out.get HN1.out.symm HD.out
                    cases e
                    clear d0 d1 d2 d3 d4 d5 d6
                    obtain ⟨d0, d1, d2, d3, d4, d5, d6⟩ := hra.tt
                    clear hra hb HL HR HRA
                    go_upto_region 21 with fail
                    go_quiet (fail)
                    rename_i nq
                    clear d0 d1 d2 d3 d4 d5 d6
                    go_wp2
                    go_roundw
                    case rel => exact ⟨j + 1, by omega, by simp, HL7.out.drewN nq, HR7.out.drewN nq⟩
                    case measure => simp [intOf]; omega
                  · have hjni : ¬ (j : Int) < (n1 : Int) := by omega
                    go_wp2
                    go_loopw [14, 15, 16, 17, 18, 19] (fun s14 s15 _ _ _ _ wx => ∃ x : Int, -1 ≤ x ∧ x ≤ 113 ∧ s15 = .int .i64 x ∧ s14 = .int .i64 (folT T (if x ≤ 112 then x.toNat else 112)) ∧ LS w wx m p q b W' G TT' (1 + 112 * (k : Int) + 112) ∧ TRow wx B0 (.slice ta n1 tc) L) (fun _ s15 _ _ _ _ _ => (113 - intOf s15).toNat)
                    case atStart => exact ⟨-1, by omega, by omega, rfl, rfl, HL.out, HR.out⟩
                    case round =>
                      clear HL HR
                      obtain ⟨x, hx0, hx1, rfl, rfl, hl, hr⟩ := hrel
                      have HL := hide hl
                      have HR := hide hr
                      clear hl hr
                      by_cases hx : x ≤ 112
                      · have hwx : IntKind.i64.wrap (x + 1) = x + 1 := by rw [IntKind.wrap_i64]; omega
                        rw [if_pos hx]
                        by_cases hin : x < 0 ∨ 112 ≤ x
                        · have HCN := hide (show folT T (if x + 1 ≤ 112 then (x + 1).toNat else 112) = folT T x.toNat by
                            rcases hin with z | z
                            · obtain rfl : x = -1 := by omega
                              rfl
                            · obtain rfl : x = 112 := by omega
                              rfl)
                          have HIN := hide hin
                          clear hin
                          go_wp2_with fail
                          refine (trackOf_out _ _ t x (.inr HIN.out)).mono ?_
                          rintro e w6 ⟨tr, hh, rfl, rfl, hb⟩
                          have HL6 := hide ((HL.out.below hb).below (be1 w6 (.cells #[.int .i64 tr.num, .int .i64 tr.x, .int .i64 tr.y, .int .i64 tr.co, .int .i64 tr.sp, .int .i64 tr.st, .int .i64 tr.ag] 51)))
                          have HR6 := hide ((HR.out.below hb).below (be1 w6 (.cells #[.int .i64 tr.num, .int .i64 tr.x, .int .i64 tr.y, .int .i64 tr.co, .int .i64 tr.sp, .int .i64 tr.st, .int .i64 tr.ag] 51)))
                          clear hb HL HR
                          go_wp2
                          go_roundw
                          case rel => exact ⟨x + 1, by omega, by omega, rfl, by rw [HCN.out], HL6.out, HR6.out⟩
                          case measure => simp [intOf]; omega
                        · obtain ⟨y, hy⟩ : ∃ y : Nat, x = y := ⟨x.toNat, by omega⟩
                          subst hy
                          have hy112 : y < 112 := by omega
                          have hfr := fol_rng T y
                          have HCN := hide (show folT T (if (y : Int) + 1 ≤ 112 then ((y : Int) + 1).toNat else 112) = folT T y + (if T.wh y = -1 then 0 else 1) by
                            rw [if_pos (by omega), show ((y : Int) + 1).toNat = y + 1 by omega]; rfl)
                          rw [Int.toNat_natCast]
                          generalize folT T y = cn at *
                          clear hin
                          go_wp2_with fail
                          refine (trackOf_any _ b t ht4 T (HTA.out _ HL.out) y hy112 (by rcases HTI1.out.wh2 y hy112 with z | ⟨k, hk, z, _⟩; exact .inl z; exact .inr ⟨k, hk, z⟩)).mono ?_
                          rintro e w6 ⟨tr, hh, rfl, htk, hb⟩
                          have HL6 := hide ((HL.out.below hb).below (be1 w6 (.cells #[.int .i64 tr.num, .int .i64 tr.x, .int .i64 tr.y, .int .i64 tr.co, .int .i64 tr.sp, .int .i64 tr.st, .int .i64 tr.ag] 51)))
                          have HR6 := hide ((HR.out.below hb).below (be1 w6 (.cells #[.int .i64 tr.num, .int .i64 tr.x, .int .i64 tr.y, .int .i64 tr.co, .int .i64 tr.sp, .int .i64 tr.st, .int .i64 tr.ag] 51)))
                          have HTK := hide htk
                          clear hb HL HR htk
                          cases hh
                          · have HC2 := hide (show folT T (if (y : Int) + 1 ≤ 112 then ((y : Int) + 1).toNat else 112) = cn by
                              rw [HCN.out]
                              have := HTK.out
                              cases this with
                              | none e => rw [if_pos e]; omega)
                            clear hfr
                            go_wp2
                            go_roundw
                            case rel => exact ⟨(y : Int) + 1, by omega, by omega, rfl, by rw [HC2.out], HL6.out, HR6.out⟩
                            case measure => simp [intOf]; omega
                          · obtain ⟨sk, hsk, hsw, htr⟩ : ∃ sk, sk < 64 ∧ T.wh y = (sk : Nat) ∧ tr = (T.sl sk).tr := by
                              have := HTK.out
                              cases this with
                              | some j hj e => exact ⟨j, hj, e, rfl⟩
                            have HC2 := hide (show folT T (if (y : Int) + 1 ≤ 112 then ((y : Int) + 1).toNat else 112) = cn + 1 by
                              rw [HCN.out, if_neg (by rw [hsw]; omega)])
                            have hwc : IntKind.i64.wrap (cn + 1) = cn + 1 := by rw [IntKind.wrap_i64]; omega
                            have hsu : (T.sl sk).used = true ∧ (T.sl sk).tg = y := by
                              rcases HTI1.out.wh2 y hy112 with z | ⟨k2, hk2, z1, z2, z3⟩
                              · rw [hsw] at z; omega
                              · have : k2 = sk := by rw [hsw] at z1; omega
                                subst this; exact ⟨z2, z3⟩
                            have HSU := hide hsu
                            have HTE := hide htr
                            have HFD := hide (show ∀ r, Fnd L tr.num r → 0 ≤ r from fun r hr => fnd_of hr ⟨tr, (HLT.out tr).2 ⟨sk, hsk, hsu.1, htr.symm⟩, rfl⟩)
                            clear hsu htr hsw hfr HTK
                            have c0 : (w6.alloc (.cells #[.int .i64 tr.num, .int .i64 tr.x, .int .i64 tr.y, .int .i64 tr.co, .int .i64 tr.sp, .int .i64 tr.st, .int .i64 tr.ag] 51)).cell? ⟨w6.heap.size, 0, none⟩ = some (.int .i64 tr.num) := by simp [go_sem]
                            go_upto_region 30 with fail
                            generalize w6.alloc (.cells #[.int .i64 tr.num, .int .i64 tr.x, .int .i64 tr.y, .int .i64 tr.co, .int .i64 tr.sp, .int .i64 tr.st, .int .i64 tr.ag] 51) = w7 at *
                            generalize w6.heap.size = x7 at *
                            go_wp2_with fail
                            refine (resolve_any _ b t ht4 T (HTA.out _ HL6.out) tr.num).mono ?_
                            rintro e w8 ⟨tt, hh, rfl, hres, rfl⟩
                            rw [HTE.out] at hres
                            obtain ⟨e1, e2⟩ := res_of HTI1.out hsk HSU.out.1 hres
                            rw [HSU.out.2] at e1
                            subst e1 e2
                            clear hres
                            have hfi := fun w h => hide (find_any w B0 n1 tc ta L h HN1.out.symm hLl tr.num)
                            go_upto_region 31 with fail
                            go_wp2_with fail
                            refine (hfi _ HR6.out).out.mono ?_
                            rintro e w8 ⟨fr, rfl, hfn, rfl⟩
                            have hf0 := HFD.out fr hfn
                            have hf1 : decide (fr < 0) = false := by simp; omega
                            clear hfi hfn c0
                            go_wp2
                            go_roundw
                            case rel => exact ⟨(y : Int) + 1, by omega, by omega, rfl, by rw [HC2.out], HL6.out, HR6.out⟩
                            case measure => simp [intOf]; omega
                      · obtain rfl : x = 113 := by omega
                        rw [if_neg (by omega), fol_cnt HTI1.out]
                        have hnx := HTI1.out.nx
                        have HGH := hide (show ∀ t b, Res T T.next t b → b = false from fun t b r => res_ghost HTI1.out r)
                        have hwn : IntKind.i64.wrap (T.next - 1 + 1) = T.next := by rw [IntKind.wrap_i64]; omega
                        have hwn1 : T.next - 1 + 1 = T.next := by omega
                        have hwn2 : IntKind.i64.wrap T.next = T.next := by rw [IntKind.wrap_i64]; omega
                        go_wp2_with fail
                        refine (issued_any _ b t ht4 T (HTA.out _ HL.out) ⟨by omega, hnx.2⟩).mono ?_
                        rintro e w6 ⟨rfl, rfl⟩
                        go_wp2_with fail
                        refine (resolve_any _ b t ht4 T (HTA.out _ HL.out) T.next).mono ?_
                        rintro e w6 ⟨tt, hh, rfl, hres, rfl⟩
                        obtain rfl := HGH.out _ _ hres
                        clear hres
                        have hhe := fun w h => hide (held_any w b t ht4 T h)
                        have hln := HLN.out
                        have hln2 : (T.held != (n1 : Int)) = false := by simp; omega
                        have hln3 : (T.held != T.held) = false := by simp
                        clear hln
                        go_upto_region 34 with fail
                        go_wp2_with fail
                        refine (hhe _ (HTA.out _ HL.out)).out.mono ?_
                        rintro e w6 ⟨rfl, rfl⟩
                        go_wp2
                        go_roundw
                        case rel => exact ⟨(t : Int) + 1, by omega, by omega, rfl, HL.out⟩
                        case measure => simp [intOf]; omega
            · obtain rfl : tm = 5 := by omega
              go_upto_region 36 with fail
              obtain ⟨_, _, e, -, c0, c1, c2, c3, c4, c5, c6⟩ := HC.out _ HL.out.bel
              cases e
              go_wp2_with fail
              refine (stepP_any _ q G HL.out.pa op HOK.out).mono ?_
              rintro e w9 ⟨rfl, h1, h2⟩
              have HLe := hide ((HL.out.pend h2 h1 (pst_ok op HL.out.gk)).mono (N' := 1 + 112 * ((k + 1 : Nat) : Int)) (by omega))
              clear c0 c1 c2 c3 c4 c5 c6 h1 h2 HL
              go_wp2
              go_roundw
              case rel => exact ⟨k + 1, _, _, _, by omega, by simp, HLe.out⟩
              case measure => simp [intOf]; omega
        · have hkb : (op.kd == 2) = false := by simp [hkd]
          clear hkd
          go_upto_region 36 with fail
          clear c0 c1 c2 c3 c4 c5 c6
          obtain ⟨_, _, e, -, c0, c1, c2, c3, c4, c5, c6⟩ := HC.out _ HL2.out.bel
          cases e
          go_wp2_with fail
          refine (stepP_any _ q G HL2.out.pa op HOK.out).mono ?_
          rintro e w9 ⟨rfl, h1, h2⟩
          have HLe := hide ((HL2.out.pend h2 h1 (pst_ok op HL2.out.gk)).mono (N' := 1 + 112 * ((k + 1 : Nat) : Int)) (by omega))
          clear c0 c1 c2 c3 c4 c5 c6 h1 h2 HL2
          go_wp2
          go_roundw
          case rel => exact ⟨k + 1, _, _, _, by omega, by simp, HLe.out⟩
          case measure => simp [intOf]; omega
      · obtain rfl : k = n := by omega
        have hlti : ¬ (k : Int) < (k : Int) := by omega
        go_wp2
        go_ret
        exact ⟨rfl, HL.out.bel⟩
  · go_enter Try.func10, Try.ntmps10
    go_wp2_with fail
    refine (small_any _ a n cap hn).mono ?_
    rintro e w' ⟨rfl, ew⟩
    rw [ew]
    have hd : decide (n ≤ 65536) = false := by simpa using hsm
    rw [hd]
    clear hd ew w'
    go_wp2
    go_ret
    exact ⟨rfl, Below.refl _ _⟩
end Go.Proofs.Qxb6500777a
