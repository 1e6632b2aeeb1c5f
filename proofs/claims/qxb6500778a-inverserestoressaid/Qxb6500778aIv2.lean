import Derived.Test.Qxb6500778aD2
import Derived.Test.Qxb6500778aIv1
namespace Go.Proofs.Qxb6500778a
open Go.RowKit

set_option linter.unusedSimpArgs false in
set_option maxRecDepth 100000 in
set_option maxHeartbeats 32000000 in
theorem inv_walk (w : World) (a : Option Addr) (n cap : Nat) (f : Nat → Stp) (hn : n ≤ 9223372036854775807) (ho : OA w a n f) :
    Calls Try.prog 6 #[.slice a n cap] w fun e w' => e = .returned (.bool true) ∧ Below w.heap.size w w' := by
  have HO := hide ho
  clear ho
  go_enter Try.func6, Try.ntmps6
  go_wp2_with fail
  refine (small_any _ a n cap f hn HO.out).mono ?_
  rintro e w' ⟨bb, rfl, rfl, hsm⟩
  cases bb
  · go_wp2
    go_ret
    exact ⟨rfl, Below.refl _ _⟩
  have hn6 : n ≤ 65536 := hsm rfl
  clear hsm
  go_wp2_with fail
  refine (newSession_any _).mono ?_
  rintro e w1 ⟨rfl, hex1, hss1⟩
  obtain ⟨s, hs⟩ : ∃ s, w'.heap.size + 1 = s := ⟨_, rfl⟩
  obtain ⟨b, hb⟩ : ∃ b, w'.heap.size = b := ⟨_, rfl⟩
  rw [hs, hb] at hss1
  rw [hs]
  have HS := hide hss1
  have HBL : Hid (Below w'.heap.size w' w1) := hex1.below (Nat.le_refl _) (fun _ _ z => z)
  have hbw : w'.heap.size ≤ b := by omega
  have hsw : w'.heap.size ≤ s := by omega
  clear hss1 hex1 hs hb
  go_wp2_with fail
  go_loopw [4] (fun s4 wr => ∃ (k : Nat) (x : Sn) (vr va : Nat → Value) (sv uv : Value), s4 = .int .i64 k ∧ k ≤ n ∧ Hid (SS wr s b x vr va sv uv) ∧ Hid (LkOk x.N) ∧ Hid (x.st.length ≤ k) ∧ Hid (∀ j, sv.ownBlock = some j → w'.heap.size ≤ j) ∧ Hid (Below w'.heap.size w' wr)) (fun s4 _ => n - (intOf s4).toNat)
  case atStart => exact ⟨0, _, _, _, _, _, rfl, Nat.zero_le _, HS, lk_zero, Nat.le_refl _, fun j hj => (by cases hj), HBL⟩
  case round =>
    clear HS HBL
    obtain ⟨k, x, vr, va, sv, uv, rfl, hk, HS, HLK, HST, HSV, HBL⟩ := hrel
    by_cases hlt : k < n
    · obtain ⟨gb, goff, rfl, hc, hl1, hl2, hsrc⟩ := (HO.out.keep HBL.out) k hlt
      have hki : (k : Int) < (n : Int) := by omega
      have hkb : decide ((k : Int) < (n : Int)) = true := decide_eq_true hki
      generalize f k = F at *
      obtain ⟨⟨kd, pa, ⟨ckd, cdv, chp, cpr, cln, cix, ccl, cpm, cup⟩, dd⟩, da, cp⟩ := F
      simp only [] at hl1 hl2 hsrc
      have c0 := hc 0 _ rfl
      have c1 := hc 1 _ rfl
      have c2 := hc 2 _ rfl
      have c3 := hc 3 _ rfl
      have c4 := hc 4 _ rfl
      have c5 := hc 5 _ rfl
      have c6 := hc 6 _ rfl
      have c7 := hc 7 _ rfl
      have c8 := hc 8 _ rfl
      have c9 := hc 9 _ rfl
      have c10 := hc 10 _ rfl
      have c11 := hc 11 _ rfl
      simp only [Nat.add_zero] at c0 c1 c2 c3 c4 c5 c6 c7 c8 c9 c10 c11
      have HSRC := hide hsrc
      clear hc hsrc
      go_upto_region 8 with fail
      have E1 := hide ((Ex.refl (fun _ => False) wr).alloc (.cells #[.int .i64 kd, .int .i64 pa, .int .i64 ckd, .int .i64 cdv, .int .i64 chp, .int .i64 cpr, .int .i64 cln, .int .i64 cix, .int .i64 ccl, .bool cpm, .bool cup, .slice da dd.length cp] 48))
      have HX5 := hide (fun (j : Nat) u (h : (#[.int .i64 kd, .int .i64 pa, .int .i64 ckd, .int .i64 cdv, .int .i64 chp, .int .i64 cpr, .int .i64 cln, .int .i64 cix, .int .i64 ccl, .bool cpm, .bool cup, .slice da dd.length cp].toList)[j]? = some u) => new_cells wr (#[.int .i64 kd, .int .i64 pa, .int .i64 ckd, .int .i64 cdv, .int .i64 chp, .int .i64 cpr, .int .i64 cln, .int .i64 cix, .int .i64 ccl, .bool cpm, .bool cup, .slice da dd.length cp].toList) 48 j u h)
      obtain ⟨W1, hW1⟩ : ∃ W, W = wr.alloc (.cells #[.int .i64 kd, .int .i64 pa, .int .i64 ckd, .int .i64 cdv, .int .i64 chp, .int .i64 cpr, .int .i64 cln, .int .i64 cix, .int .i64 ccl, .bool cpm, .bool cup, .slice da dd.length cp] 48) := ⟨_, rfl⟩
      rw [← hW1] at E1 ⊢
      have HX : Hid (∀ (j : Nat) u, (#[.int .i64 kd, .int .i64 pa, .int .i64 ckd, .int .i64 cdv, .int .i64 chp, .int .i64 cpr, .int .i64 cln, .int .i64 cix, .int .i64 ccl, .bool cpm, .bool cup, .slice da dd.length cp].toList)[j]? = some u → W1.cell? ⟨wr.heap.size, j, none⟩ = some u) := fun j u h => by
        have := HX5.out j u h
        rw [Addr.add_mid, Nat.zero_add] at this
        rw [hW1]
        exact this
      clear hW1 HX5 c0 c1 c2 c3 c4 c5 c6 c7 c8 c9 c10 c11
      have HS1 := hide (HS.out.new E1.out)
      obtain ⟨r5, hr5⟩ : ∃ r, wr.heap.size = r := ⟨_, rfl⟩
      rw [hr5] at HX ⊢
      have hr5l : r5 < W1.heap.size := World.block_lt_of_cell? _ _ (HX.out 0 _ rfl)
      have hs5 : s < r5 := by have := HS.out.lt; omega
      have hsrc1 : SrcAt W1 da dd := fun i y hy => by
        obtain ⟨g, o, e, hx⟩ := HSRC.out i y hy
        exact ⟨g, o, e, E1.out.cell (fun e => e) hx⟩
      have HOF : Hid (Calls Try.prog 16 #[.pointer (some ⟨s, 0, none⟩), .agg #[.int .i64 kd, .int .i64 pa, .int .i64 ckd, .int .i64 cdv, .int .i64 chp, .int .i64 cpr, .int .i64 cln, .int .i64 cix, .int .i64 ccl, .bool cpm, .bool cup, .slice da dd.length cp]] W1 (OPost W1 sv (kd = 3) (offP x (⟨kd, pa, ⟨ckd, cdv, chp, cpr, cln, cix, ccl, cpm, cup⟩, dd⟩ : Opn)))) := offered_any W1 s b x vr va sv uv (⟨kd, pa, ⟨ckd, cdv, chp, cpr, cln, cix, ccl, cpm, cup⟩, dd⟩ : Opn) da cp HS1.out hl1 hl2 hsrc1
      obtain ⟨oid, oC, ook, hoff⟩ : ∃ q r t, offP x (⟨kd, pa, ⟨ckd, cdv, chp, cpr, cln, cix, ccl, cpm, cup⟩, dd⟩ : Opn) = (q, r, t) := ⟨_, _, _, rfl⟩
      obtain ⟨x', ae, at_, ax, hstp⟩ : ∃ q r t u, stepS x (⟨kd, pa, ⟨ckd, cdv, chp, cpr, cln, cix, ccl, cpm, cup⟩, dd⟩ : Opn) = (q, ⟨r, t, u⟩) := ⟨_, _, _, _, rfl⟩
      have HPL := hide (over_plain x (⟨kd, pa, ⟨ckd, cdv, chp, cpr, cln, cix, ccl, cpm, cup⟩, dd⟩ : Opn))
      have HPN := hide (off_net x (⟨kd, pa, ⟨ckd, cdv, chp, cpr, cln, cix, ccl, cpm, cup⟩, dd⟩ : Opn))
      have HOL := hide (off_len x (⟨kd, pa, ⟨ckd, cdv, chp, cpr, cln, cix, ccl, cpm, cup⟩, dd⟩ : Opn) n (by have := HST.out; omega))
      have HLK' := hide (step_lkS x (⟨kd, pa, ⟨ckd, cdv, chp, cpr, cln, cix, ccl, cpm, cup⟩, dd⟩ : Opn) HS.out.ok HLK.out)
      rw [hoff] at HOF HPL HPN HOL
      rw [hstp] at HPL HPN HLK'
      simp only [] at HPL HPN HLK' HOL
      have HSTP := hide hstp
      clear hoff hstp hsrc1
      have e0 := HX.out 0 _ rfl
      have e1 := HX.out 1 _ rfl
      have e2 := HX.out 2 _ rfl
      have e3 := HX.out 3 _ rfl
      have e4 := HX.out 4 _ rfl
      have e5 := HX.out 5 _ rfl
      have e6 := HX.out 6 _ rfl
      have e7 := HX.out 7 _ rfl
      have e8 := HX.out 8 _ rfl
      have e9 := HX.out 9 _ rfl
      have e10 := HX.out 10 _ rfl
      have e11 := HX.out 11 _ rfl
      go_wp2_with fail
      refine HOF.out.mono ?_
      rintro e w2 ⟨v, rfl, hex2, hown2, hblk⟩
      simp only [] at hown2 ⊢
      obtain ⟨vs, vc, rfl⟩ := own_len hown2
      have E2 := hide (hex2.alloc (.cells #[.int .i64 oid, .slice vs oC.length vc] 52))
      have HOW := hide (hown2.alloc (.cells #[.int .i64 oid, .slice vs oC.length vc] 52))
      have hn0 := new_cells w2 [.int .i64 oid, .slice vs oC.length vc] 52 0 _ rfl
      have hn1 := new_cells w2 [.int .i64 oid, .slice vs oC.length vc] 52 1 _ rfl
      simp only [Addr.add_mid, Nat.zero_add] at hn0 hn1
      have HBK := hide hblk
      have hs2 := hex2.size
      clear hex2 hown2 hblk HOF e0 e1 e2 e3 e4 e5 e6 e7 e8 e9 e10 e11
      go_upto_region 9 with fail
      generalize w2.alloc (.cells #[.int .i64 oid, .slice vs oC.length vc] 52) = W3 at *
      obtain ⟨r6, hr6⟩ : ∃ r, w2.heap.size = r := ⟨_, rfl⟩
      rw [hr6] at hn0 hn1 hs2 ⊢
      have HS3 := hide (HS1.out.new E2.out)
      cases ook
      · have HSQ := HS3
        have hbs := HS3.out.bs
        have hsrcN : SrcAt W3 da dd := fun i y hy => by
          obtain ⟨g, o, e, hx⟩ := HSRC.out i y hy
          exact ⟨g, o, e, (E2.out).cell (fun e => e) (E1.out.cell (fun e => e) hx)⟩
        have HSC := hide (stepS_any W3 s b x vr va sv uv (⟨kd, pa, ⟨ckd, cdv, chp, cpr, cln, cix, ccl, cpm, cup⟩, dd⟩ : Opn) da cp HSQ.out (by have := HST.out; omega) hl1 hl2 hsrcN)
        rw [HSTP.out] at HSC
        have HSC : Hid (Calls Try.prog 10 #[.pointer (some ⟨s, 0, none⟩), .agg #[.int .i64 kd, .int .i64 pa, .int .i64 ckd, .int .i64 cdv, .int .i64 chp, .int .i64 cpr, .int .i64 cln, .int .i64 cix, .int .i64 ccl, .bool cpm, .bool cup, .slice da dd.length cp]] W3 (TPost W3 s b vr va sv uv (fun q => kd = 2 ∧ sv.ownBlock = some q) x' (ansV ae at_ ax))) := HSC
        clear hsrcN
        have e0 := (E2.out).cell (fun e => e) (HX.out 0 _ rfl)
        have e1 := (E2.out).cell (fun e => e) (HX.out 1 _ rfl)
        have e2 := (E2.out).cell (fun e => e) (HX.out 2 _ rfl)
        have e3 := (E2.out).cell (fun e => e) (HX.out 3 _ rfl)
        have e4 := (E2.out).cell (fun e => e) (HX.out 4 _ rfl)
        have e5 := (E2.out).cell (fun e => e) (HX.out 5 _ rfl)
        have e6 := (E2.out).cell (fun e => e) (HX.out 6 _ rfl)
        have e7 := (E2.out).cell (fun e => e) (HX.out 7 _ rfl)
        have e8 := (E2.out).cell (fun e => e) (HX.out 8 _ rfl)
        have e9 := (E2.out).cell (fun e => e) (HX.out 9 _ rfl)
        have e10 := (E2.out).cell (fun e => e) (HX.out 10 _ rfl)
        have e11 := (E2.out).cell (fun e => e) (HX.out 11 _ rfl)
        go_wp2_with fail
        refine HSC.out.mono ?_
        rintro e w5 ⟨rfl, hex5, vr', va', sv', uv', hss5, hf5, ht5, hu5⟩
        have HBE : Hid (Below w'.heap.size w' w5) := by
          refine HBL.out.trans ((((E1.out.trans E2.out).mono (fun _ z => z.elim)).trans hex5).below HBL.out.size (fun q hq z => ?_))
          rcases z with z | z | z
          · omega
          · omega
          · have := HSV.out q z.2; omega
        have HSTL : Hid (x'.st.length ≤ k + 1) := by
          have h1 := step_len x (⟨kd, pa, ⟨ckd, cdv, chp, cpr, cln, cix, ccl, cpm, cup⟩, dd⟩ : Opn)
          rw [HSTP.out] at h1
          have := HST.out
          show _ ≤ _
          simp only [] at h1
          omega
        have HSV6 : Hid (∀ j, sv'.ownBlock = some j → w'.heap.size ≤ j) := fun j hj => by have := (hss5.st.lt j hj).1; omega
        have HS5 := hide hss5
        clear hss5 hex5 hf5 ht5 hu5 HSC
        clear e0 e1 e2 e3 e4 e5 e6 e7 e8 e9 e10 e11
        go_wp2
        go_roundw
        case rel => exact ⟨k + 1, x', vr', va', sv', uv', by go_num, by omega, HS5, HLK', HSTL, HSV6, HBE⟩
        case measure => simp [intOf]; omega
      · have k0 := HS3.out.c0
        go_wp2_with fail
        refine (clone_any W3 b x.N vr va HS3.out.na HS3.out.ok).mono ?_
        rintro e w4 ⟨rfl, hex4, ur, ua, hnb⟩
        obtain ⟨bb, hbb⟩ : ∃ r, W3.heap.size = r := ⟨_, rfl⟩
        rw [hbb] at hnb ⊢
        have hr6b : r6 < bb := by rw [← hbb]; exact World.block_lt_of_cell? _ _ hn0
        have E4 := hide (E2.out.trans hex4)
        have HS4 := hide (HS3.out.new hex4)
        have HNB := hide hnb
        have hm0 := hex4.cell (fun e => e) hn0
        have hm1 := hex4.cell (fun e => e) hn1
        have HOW4 := hide (own_kept HOW.out hex4 (fun _ _ e => e))
        have HINV := hide (fun V (hV : Ex (fun _ => False) w4 V) => inverse_any V b 0 x.N vr va oid (.slice vs oC.length vc) oC (HS4.out.na.new hV) HS4.out.ok (own_kept HOW4.out hV (fun _ _ e => e)) (by have := HOL.out; omega))
        have HRU := hide (fun h => run_undo (N := x.N) (id := oid) (C := oC) HS4.out.ok HLK.out h)
        have HAP : Hid (applyP x.N oid oC = if (runP x.N oid oC).2.2.1 = 0 then (runP x.N oid oC).1 else x.N) := rfl
        have HPA := hide (HPL.out.2 (by first | rfl | trivial))
        have HPM := hide (HPN.out (by first | rfl | trivial))
        rw [HAP.out] at HPM
        clear HAP HPL HPN
        obtain ⟨N2, U, er, at2, hR⟩ : ∃ a b c d, runP x.N oid oC = (a, b, c, d) := ⟨_, _, _, _, rfl⟩
        rw [hR] at HINV HRU HPA HPM
        simp only [] at HINV HRU HPA HPM
        have hP1 : ae = er := HPA.out.1
        have hP2 : at_ = at2 := HPA.out.2
        clear hR HPA
        subst hP1
        subst hP2
        obtain ⟨id', hid'⟩ : ∃ y, (if ae = 0 then oid else 0) = y := ⟨_, rfl⟩
        rw [hid'] at HINV
        have HID := hide hid'
        clear hid'
        have k0 := HS4.out.c0
        clear hn0 hn1 hnb hex4 HOW
        go_upto_region 12 with fail
        go_cut [9, 10, 11] (fun s9 s10 s11 wx => ∃ (r9 : Nat) (iv : Value), s9 = .pointer (some ⟨r9, 0, none⟩) ∧ s10 = .int .i64 ae ∧ s11 = .int .i64 at_ ∧ Hid (Ex (fun _ => False) w4 wx) ∧ Hid (wx.cell? ⟨r9, 0, none⟩ = some (.int .i64 id')) ∧ Hid (wx.cell? ⟨r9, 1, none⟩ = some iv) ∧ Hid (wx.ownsRow w4.heap.size 45 9 iv U.length (flatC U)) ∧ Hid (w4.heap.size ≤ r9))
        case first =>
          have hWl : s < w4.heap.size := HS4.out.lt
          have hbl2 : r6 < w4.heap.size := World.block_lt_of_cell? _ _ hm0
          have HA0 : Hid ((w4.alloc (.cells #[.int .i64 0, .slice none 0 0] 52)).drew.cell? ⟨w4.heap.size, 0, none⟩ = some (.int .i64 0)) := new_cells w4 [.int .i64 0, .slice none 0 0] 52 0 _ rfl
          have HA1 : Hid ((w4.alloc (.cells #[.int .i64 0, .slice none 0 0] 52)).drew.cell? ⟨w4.heap.size, 1, none⟩ = some (.slice none 0 0)) := new_cells w4 [.int .i64 0, .slice none 0 0] 52 1 _ rfl
          have HAF : Hid (∀ j, (w4.alloc (.cells #[.int .i64 0, .slice none 0 0] 52)).drew.frozen? ⟨w4.heap.size, j, none⟩ = false) := fun j => by simp [go_sem]
          have HAL : Hid (w4.heap.size < (w4.alloc (.cells #[.int .i64 0, .slice none 0 0] 52)).drew.heap.size) := by show _ < _; simp [go_sem]
          go_region_law (first
            | (refine step_call rfl 18 #[.pointer (some ⟨b, 0, none⟩), .agg #[.int .i64 oid, .slice vs oC.length vc]] (by simp [go_sem]) (HINV.out _ (by first | exact (Ex.refl _ w4).drew | exact ((Ex.refl _ w4).alloc _).drew | exact ((Ex.refl _ w4).drew).alloc _)) ?_; rintro e wI ⟨iv, rfl, hexI, hownI⟩; obtain ⟨ia, ic, rfl⟩ := own_len hownI; refine ⟨_, rfl, ?_⟩; try (have y0 := hexI.cell (fun e => e) HA0.out; have y1 := hexI.cell (fun e => e) HA1.out; have yf := fun j => (hexI.frozen (q := w4.heap.size) (j := j) (fun e => e) HAL.out).trans (HAF.out j))))
          all_goals first
            | (have HEW := hide ((Ex.of_drew hexI).alloc (.cells #[.int .i64 id', .slice ia U.length ic] 52))
               have hn0 := new_cells wI [.int .i64 id', .slice ia U.length ic] 52 0 _ rfl
               have hn1 := new_cells wI [.int .i64 id', .slice ia U.length ic] 52 1 _ rfl
               have HON := hide (own_low (hownI.alloc (.cells #[.int .i64 id', .slice ia U.length ic] 52)) (B' := w4.heap.size) (Nat.le_refl _))
               have HSZ : Hid (w4.heap.size ≤ wI.heap.size) := hexI.size
               clear hexI hownI
               go_wp2
               go_meet
               case rel => exact ⟨wI.heap.size, .slice ia U.length ic, rfl, rfl, rfl, HEW, hn0, hn1, HON, HSZ⟩)
            | (have HEW := hide (((((Ex.refl (fun _ => False) w4).alloc (.cells #[.int .i64 0, .slice none 0 0] 52)).drew.trans hexI).setNew (p := w4.heap.size) (j := 0) (Nat.le_refl _) (.int .i64 id')).setNew (p := w4.heap.size) (j := 1) (Nat.le_refl _) (.slice ia U.length ic))
               have hn1' : (wI.setCell ⟨w4.heap.size, 0, none⟩ (.int .i64 id')).cell? ⟨w4.heap.size, 1, none⟩ = some (.slice none 0 0) := by rw [set_at _ _ _ _ _ _ y0, if_neg (by omega)]; exact y1
               have hn1 : ((wI.setCell ⟨w4.heap.size, 0, none⟩ (.int .i64 id')).setCell ⟨w4.heap.size, 1, none⟩ (.slice ia U.length ic)).cell? ⟨w4.heap.size, 1, none⟩ = some (.slice ia U.length ic) := World.cell?_setCell_same _ _ _ hn1'
               have hn0 : ((wI.setCell ⟨w4.heap.size, 0, none⟩ (.int .i64 id')).setCell ⟨w4.heap.size, 1, none⟩ (.slice ia U.length ic)).cell? ⟨w4.heap.size, 0, none⟩ = some (.int .i64 id') := by rw [set_at _ _ _ _ _ _ hn1', if_neg (by omega)]; exact World.cell?_setCell_same _ _ _ y0
               have HON := hide (own_low (own_kept hownI (((Ex.refl (fun k => k = w4.heap.size) wI).set (p := w4.heap.size) (j := 0) rfl (.int .i64 id')).set (p := w4.heap.size) (j := 1) rfl (.slice ia U.length ic)) (fun k hk (z : k = w4.heap.size) => by have := (hownI.lt k hk).1; have := HAL.out; omega)) (B' := w4.heap.size) (Nat.le_of_lt HAL.out))
               clear hexI hownI y0 y1 yf
               go_wp2
               go_meet
               case rel => exact ⟨w4.heap.size, .slice ia U.length ic, rfl, rfl, rfl, HEW, hn0, hn1, HON, Nat.le_refl _⟩)
        obtain ⟨r9, iv, rfl, rfl, rfl, HEX, HI0, HI1, HIO, HR9⟩ := hcut
        obtain ⟨ia, ic, rfl⟩ := own_len HIO.out
        clear k0 hm0 hm1 HINV HOW4
        generalize wc = W5 at *
        have HS5 := hide (HS4.out.new HEX.out)
        have HNB5 := hide (HNB.out.new HEX.out)
        have k0 := HS5.out.c0
        go_wp2_with fail
        refine (equal_any _ b bb x.N vr va ur ua HS5.out.na HNB5.out HS5.out.ok).mono ?_
        rintro e w6 ⟨rfl, hex6⟩
        have HSQ := hide (HS5.out.new hex6)
        have HNB6 := hide (HNB5.out.new hex6)
        have E6 := hide (E4.out.trans (HEX.out.trans hex6))
        have HI0 := hide (hex6.cell (fun e => e) HI0.out)
        have HI1 := hide (hex6.cell (fun e => e) HI1.out)
        have HIO := hide (own_kept HIO.out hex6 (fun _ _ e => e))
        have hs45 := HEX.out.size
        have hs56 := hex6.size
        clear k0 hex6
        have hbs := HSQ.out.bs
        have hsrcN : SrcAt w6 da dd := fun i y hy => by
          obtain ⟨g, o, e, hx⟩ := HSRC.out i y hy
          exact ⟨g, o, e, (E6.out).cell (fun e => e) (E1.out.cell (fun e => e) hx)⟩
        have HSC := hide (stepS_any w6 s b x vr va sv uv (⟨kd, pa, ⟨ckd, cdv, chp, cpr, cln, cix, ccl, cpm, cup⟩, dd⟩ : Opn) da cp HSQ.out (by have := HST.out; omega) hl1 hl2 hsrcN)
        rw [HSTP.out] at HSC
        have HSC : Hid (Calls Try.prog 10 #[.pointer (some ⟨s, 0, none⟩), .agg #[.int .i64 kd, .int .i64 pa, .int .i64 ckd, .int .i64 cdv, .int .i64 chp, .int .i64 cpr, .int .i64 cln, .int .i64 cix, .int .i64 ccl, .bool cpm, .bool cup, .slice da dd.length cp]] w6 (TPost w6 s b vr va sv uv (fun q => kd = 2 ∧ sv.ownBlock = some q) x' (ansV ae at_ ax))) := HSC
        clear hsrcN
        have e0 := (E6.out).cell (fun e => e) (HX.out 0 _ rfl)
        have e1 := (E6.out).cell (fun e => e) (HX.out 1 _ rfl)
        have e2 := (E6.out).cell (fun e => e) (HX.out 2 _ rfl)
        have e3 := (E6.out).cell (fun e => e) (HX.out 3 _ rfl)
        have e4 := (E6.out).cell (fun e => e) (HX.out 4 _ rfl)
        have e5 := (E6.out).cell (fun e => e) (HX.out 5 _ rfl)
        have e6 := (E6.out).cell (fun e => e) (HX.out 6 _ rfl)
        have e7 := (E6.out).cell (fun e => e) (HX.out 7 _ rfl)
        have e8 := (E6.out).cell (fun e => e) (HX.out 8 _ rfl)
        have e9 := (E6.out).cell (fun e => e) (HX.out 9 _ rfl)
        have e10 := (E6.out).cell (fun e => e) (HX.out 10 _ rfl)
        have e11 := (E6.out).cell (fun e => e) (HX.out 11 _ rfl)
        go_wp2_with fail
        refine HSC.out.mono ?_
        rintro e w7 ⟨rfl, hex7, vr', va', sv', uv', hss7, hf7, ht7, hu7⟩
        have HBE : Hid (Below w'.heap.size w' w7) := by
          refine HBL.out.trans ((((E1.out.trans E6.out).mono (fun _ z => z.elim)).trans hex7).below HBL.out.size (fun q hq z => ?_))
          rcases z with z | z | z
          · omega
          · omega
          · have := HSV.out q z.2; omega
        have HSTL : Hid (x'.st.length ≤ k + 1) := by
          have h1 := step_len x (⟨kd, pa, ⟨ckd, cdv, chp, cpr, cln, cix, ccl, cpm, cup⟩, dd⟩ : Opn)
          rw [HSTP.out] at h1
          have := HST.out
          show _ ≤ _
          simp only [] at h1
          omega
        have HSV6 : Hid (∀ j, sv'.ownBlock = some j → w'.heap.size ≤ j) := fun j hj => by have := (hss7.st.lt j hj).1; omega
        have hsvl : ∀ q, sv.ownBlock = some q → q < r5 := fun q hq => by rw [← hr5]; exact (HS.out.st.lt q hq).2
        have hNS : ∀ q, r5 ≤ q → ¬ (q = s ∨ q = b ∨ (kd = 2 ∧ sv.ownBlock = some q)) := fun q hq z => by
          rcases z with z | z | z
          · omega
          · omega
          · have := hsvl q z.2; omega
        have hbb4 : bb < w4.heap.size := HNB.out.lt
        have h9 := HR9.out
        have HNB7 := hide (HNB6.out.keep hex7 (fun q hq => hNS q (by have := HNB6.out.foot_ge hq; omega)))
        have HI0 := hide (hex7.cell (hNS r9 (by omega)) HI0.out)
        have HI1 := hide (hex7.cell (hNS r9 (by omega)) HI1.out)
        have HIO := hide (own_kept HIO.out hex7 (fun q hq => hNS q (by have := (HIO.out.lt q hq).1; omega)))
        have HS7 := hide hss7
        have HBK := hide hNS
        clear hss7 hex7 hf7 ht7 hu7 HSC hsvl hNS
        clear e0 e1 e2 e3 e4 e5 e6 e7 e8 e9 e10 e11
        have EA := hide ((Ex.refl (fun _ => False) w7).alloc (.cells #[.int .i64 ae, .int .i64 at_, .string ax] 40))
        have hq0 := new_cells w7 [.int .i64 ae, .int .i64 at_, .string ax] 40 0 _ rfl
        have hq1 := new_cells w7 [.int .i64 ae, .int .i64 at_, .string ax] 40 1 _ rfl
        simp only [Addr.add_mid, Nat.zero_add] at hq0 hq1
        have HB8 : Hid (Below w'.heap.size w' (w7.alloc (.cells #[.int .i64 ae, .int .i64 at_, .string ax] 40))) := HBE.out.alloc HBE.out.size _
        simp only [ansV]
        go_upto_region 16 with fail
        have HS8 := hide (HS7.out.new EA.out)
        have HNB8 := hide (HNB7.out.new EA.out)
        have HIO8 := hide (own_kept HIO.out EA.out (fun _ _ e => e))
        have i0 := EA.out.cell (fun e => e) HI0.out
        have i1 := EA.out.cell (fun e => e) HI1.out
        generalize w7.alloc (.cells #[.int .i64 ae, .int .i64 at_, .string ax] 40) = W8 at *
        obtain ⟨r12, hr12⟩ : ∃ r, w7.heap.size = r := ⟨_, rfl⟩
        rw [hr12] at hq0 hq1 ⊢
        clear HS7 HNB7 HIO HI0 HI1
        by_cases hz : ae = 0
        · have hPN := HPM.out
          rw [if_pos hz] at hPN
          have hid := HID.out
          rw [if_pos hz] at hid
          obtain ⟨u1, u2, u3, u4, u5⟩ := HRU.out hz
          clear HPM HID HRU
          subst hz
          subst hid
          have HCK := hide (check_any W8 _ oid (.slice ia U.length ic) U HIO8.out (by omega))
          rw [u1] at HCK
          simp only [] at HCK
          have hu5 : (runP N2 oid U).2.2.1 = 0 := by rw [u5]
          have hu6 : (runP N2 oid U).2.2.2 = 0 := by rw [u5]
          have HAPN : Hid (applyP N2 oid U = x.N) := by show applyP N2 oid U = x.N; unfold applyP; rw [if_pos hu5]; exact u4
          have HU := hide (And.intro u2 (And.intro hu5 hu6))
          have HN2 := hide hPN
          clear u1 u2 u3 u4 u5 hu5 hu6 hPN
          go_wp2_with fail
          refine HCK.out.mono ?_
          rintro e w9 ⟨rfl, hex9⟩
          have HS9 := hide (HS8.out.new hex9)
          have HNB9 := hide (HNB8.out.new hex9)
          have HIO9 := hide (own_kept HIO8.out hex9 (fun _ _ e => e))
          have i0 := hex9.cell (fun e => e) i0
          have i1 := hex9.cell (fun e => e) i1
          have HB9 : Hid (Below w'.heap.size w' w9) := HB8.out.trans (hex9.below HB8.out.size (fun _ _ z => z))
          have k0 := HS9.out.c0
          clear HCK hex9 hq0 hq1
          go_wp2_with fail
          refine (clone_any w9 b x'.N vr' va' HS9.out.na HS9.out.ok).mono ?_
          rintro e w10 ⟨rfl, hex10, tr, ta, hnc⟩
          obtain ⟨cc, hcc⟩ : ∃ r, w9.heap.size = r := ⟨_, rfl⟩
          rw [hcc] at hnc ⊢
          have HS10 := hide (HS9.out.new hex10)
          have HNB10 := hide (HNB9.out.new hex10)
          have HIO10 := hide (own_kept HIO9.out hex10 (fun _ _ e => e))
          have i0 := hex10.cell (fun e => e) i0
          have i1 := hex10.cell (fun e => e) i1
          have HB10 : Hid (Below w'.heap.size w' w10) := HB9.out.trans (hex10.below HB9.out.size (fun _ _ z => z))
          have HOK2 : Hid (NetOk N2) := by rw [← HN2.out]; exact HS9.out.ok
          have HNC := hide hnc
          rw [HN2.out] at HNC
          have HAC := hide (apply_any w10 cc _ N2 tr ta oid (.slice ia U.length ic) U HNC.out HOK2.out HIO10.out (by have := HU.out.1; omega))
          rw [HAPN.out, HU.out.2.1, HU.out.2.2] at HAC
          have hccl : cc < w10.heap.size := HNC.out.lt
          have hFC : ∀ q, Foot b vr' va' q → q < cc := fun q hq => by rw [← hcc]; exact HS9.out.na.foot_lt hq
          have hsc : s < cc := by rw [← hcc]; exact HS9.out.lt
          have hFT : ∀ q, sv'.ownBlock = some q → q < cc := fun q hq => by rw [← hcc]; exact (HS9.out.st.lt q hq).2
          have hFU : ∀ q, uv'.ownBlock = some q → q < cc := fun q hq => by rw [← hcc]; exact (HS9.out.us.lt q hq).2
          have hFB : ∀ q, Foot bb ur ua q → q < cc := fun q hq => by rw [← hcc]; exact HNB9.out.foot_lt hq
          have HFS := hide (And.intro hFC (And.intro hsc (And.intro hFT (And.intro hFU hFB))))
          have hww : w'.heap.size ≤ cc := by omega
          clear k0 hnc hex10 hFC hsc hFT hFU hFB
          go_wp2_with fail
          refine HAC.out.mono ?_
          rintro e w11 ⟨rfl, hex11, tr', ta', hnd, _⟩
          have HND := hide hnd
          have HS11 := hide (HS10.out.keep hex11 (fun (z : s = cc) => by have := HFS.out.2.1; omega) (fun q hq (z : q = cc) => by have := HFS.out.1 q hq; omega) (fun q hq (z : q = cc) => by have := HFS.out.2.2.1 q hq; omega) (fun q hq (z : q = cc) => by have := HFS.out.2.2.2.1 q hq; omega))
          have HNB11 := hide (HNB10.out.keep hex11 (fun q hq (z : q = cc) => by have := HFS.out.2.2.2.2 q hq; omega))
          have HB11 : Hid (Below w'.heap.size w' w11) := HB10.out.trans (hex11.below HB10.out.size (fun q hq (z : q = cc) => by omega))
          clear hnd hex11 HAC
          go_wp2_with fail
          refine (equal_any _ cc bb x.N tr' ta' ur ua HND.out HNB11.out HS4.out.ok).mono ?_
          rintro e w12 ⟨rfl, hex12⟩
          have HS12 := hide (HS11.out.new hex12)
          have HB12 : Hid (Below w'.heap.size w' w12) := HB11.out.trans (hex12.below HB11.out.size (fun _ _ z => z))
          clear hex12
          go_wp2
          go_roundw
          case rel => exact ⟨k + 1, x', vr', va', sv', uv', by go_num, by omega, HS12, HLK', HSTL, HSV6, HB12⟩
          case measure => simp [intOf]; omega
        · have hzb : (ae == 0) = false := by simpa using hz
          go_wp2
          go_roundw
          case rel => exact ⟨k + 1, x', vr', va', sv', uv', by go_num, by omega, HS8, HLK', HSTL, HSV6, HB8⟩
          case measure => simp [intOf]; omega
    · go_wp2
      go_ret
      exact ⟨rfl, HBL.out⟩
end Go.Proofs.Qxb6500778a
