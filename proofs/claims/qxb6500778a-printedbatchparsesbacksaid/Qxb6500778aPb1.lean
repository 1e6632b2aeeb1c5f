import Derived.Test.Qxb6500778aD2
import Derived.Test.Qxb6500778aPb0
namespace Go.Proofs.Qxb6500778a
open Go.RowKit

set_option linter.unusedSimpArgs false in
set_option maxRecDepth 100000 in
set_option maxHeartbeats 32000000 in
theorem pb_walk (w : World) (a : Option Addr) (n cap : Nat) (f : Nat → Stp) (hn : n ≤ 9223372036854775807) (ho : OA w a n f) :
    Calls Try.prog 4 #[.slice a n cap] w fun e w' => e = .returned (.bool true) ∧ Below w.heap.size w w' := by
  have HO := hide ho
  clear ho
  go_enter Try.func4, Try.ntmps4
  go_wp2_with fail
  refine (small_any _ a n cap f hn HO.out).mono ?_
  rintro e w' ⟨bb, rfl, rfl, hsm⟩
  cases bb
  · go_wp2
    go_ret
    exact ⟨rfl, Below.refl _ _⟩
  have hn6 : n ≤ 65536 := hsm rfl
  clear hsm
  go_wp2_with fail
  refine (newSession_any _).mono ?_
  rintro e w1 ⟨rfl, hex1, hss1⟩
  obtain ⟨s, hs⟩ : ∃ s, w'.heap.size + 1 = s := ⟨_, rfl⟩
  obtain ⟨b, hb⟩ : ∃ b, w'.heap.size = b := ⟨_, rfl⟩
  rw [hs, hb] at hss1
  rw [hs]
  have HS := hide hss1
  have HBL : Hid (Below w'.heap.size w' w1) := hex1.below (Nat.le_refl _) (fun _ _ z => z)
  have hbw : w'.heap.size ≤ b := by omega
  have hsw : w'.heap.size ≤ s := by omega
  clear hss1 hex1 hs hb
  go_wp2_with fail
  go_loopw [4] (fun s4 wr => ∃ (k : Nat) (x : Sn) (vr va : Nat → Value) (sv uv : Value), s4 = .int .i64 k ∧ k ≤ n ∧ Hid (SS wr s b x vr va sv uv) ∧ Hid (LkOk x.N) ∧ Hid (UnOk x) ∧ Hid (x.st.length ≤ k) ∧ Hid (∀ j, sv.ownBlock = some j → w'.heap.size ≤ j) ∧ Hid (Below w'.heap.size w' wr)) (fun s4 _ => n - (intOf s4).toNat)
  case atStart => exact ⟨0, _, _, _, _, _, rfl, Nat.zero_le _, HS, lk_zero, un_zero, Nat.le_refl _, fun j hj => (by cases hj), HBL⟩
  case round =>
    clear HS HBL
    obtain ⟨k, x, vr, va, sv, uv, rfl, hk, HS, HLK, HUN, HST, HSV, HBL⟩ := hrel
    by_cases hlt : k < n
    · obtain ⟨gb, goff, rfl, hc, hl1, hl2, hsrc⟩ := (HO.out.keep HBL.out) k hlt
      have hki : (k : Int) < (n : Int) := by omega
      have hkb : decide ((k : Int) < (n : Int)) = true := decide_eq_true hki
      generalize f k = F at *
      obtain ⟨⟨kd, pa, ⟨ckd, cdv, chp, cpr, cln, cix, ccl, cpm, cup⟩, dd⟩, da, cp⟩ := F
      simp only [] at hl1 hl2 hsrc
      have c0 := hc 0 _ rfl
      have c1 := hc 1 _ rfl
      have c2 := hc 2 _ rfl
      have c3 := hc 3 _ rfl
      have c4 := hc 4 _ rfl
      have c5 := hc 5 _ rfl
      have c6 := hc 6 _ rfl
      have c7 := hc 7 _ rfl
      have c8 := hc 8 _ rfl
      have c9 := hc 9 _ rfl
      have c10 := hc 10 _ rfl
      have c11 := hc 11 _ rfl
      simp only [Nat.add_zero] at c0 c1 c2 c3 c4 c5 c6 c7 c8 c9 c10 c11
      have HSRC := hide hsrc
      clear hc hsrc
      go_upto_region 8 with fail
      have E1 := hide ((Ex.refl (fun _ => False) wr).alloc (.cells #[.int .i64 kd, .int .i64 pa, .int .i64 ckd, .int .i64 cdv, .int .i64 chp, .int .i64 cpr, .int .i64 cln, .int .i64 cix, .int .i64 ccl, .bool cpm, .bool cup, .slice da dd.length cp] 48))
      have HX5 := hide (fun (j : Nat) u (h : (#[.int .i64 kd, .int .i64 pa, .int .i64 ckd, .int .i64 cdv, .int .i64 chp, .int .i64 cpr, .int .i64 cln, .int .i64 cix, .int .i64 ccl, .bool cpm, .bool cup, .slice da dd.length cp].toList)[j]? = some u) => new_cells wr (#[.int .i64 kd, .int .i64 pa, .int .i64 ckd, .int .i64 cdv, .int .i64 chp, .int .i64 cpr, .int .i64 cln, .int .i64 cix, .int .i64 ccl, .bool cpm, .bool cup, .slice da dd.length cp].toList) 48 j u h)
      obtain ⟨W1, hW1⟩ : ∃ W, W = wr.alloc (.cells #[.int .i64 kd, .int .i64 pa, .int .i64 ckd, .int .i64 cdv, .int .i64 chp, .int .i64 cpr, .int .i64 cln, .int .i64 cix, .int .i64 ccl, .bool cpm, .bool cup, .slice da dd.length cp] 48) := ⟨_, rfl⟩
      rw [← hW1] at E1 ⊢
      have HX : Hid (∀ (j : Nat) u, (#[.int .i64 kd, .int .i64 pa, .int .i64 ckd, .int .i64 cdv, .int .i64 chp, .int .i64 cpr, .int .i64 cln, .int .i64 cix, .int .i64 ccl, .bool cpm, .bool cup, .slice da dd.length cp].toList)[j]? = some u → W1.cell? ⟨wr.heap.size, j, none⟩ = some u) := fun j u h => by
        have := HX5.out j u h
        rw [Addr.add_mid, Nat.zero_add] at this
        rw [hW1]
        exact this
      clear hW1 HX5 c0 c1 c2 c3 c4 c5 c6 c7 c8 c9 c10 c11
      have HS1 := hide (HS.out.new E1.out)
      obtain ⟨r5, hr5⟩ : ∃ r, wr.heap.size = r := ⟨_, rfl⟩
      rw [hr5] at HX ⊢
      have hr5l : r5 < W1.heap.size := World.block_lt_of_cell? _ _ (HX.out 0 _ rfl)
      have hs5 : s < r5 := by have := HS.out.lt; omega
      have hsrc1 : SrcAt W1 da dd := fun i y hy => by
        obtain ⟨g, o, e, hx⟩ := HSRC.out i y hy
        exact ⟨g, o, e, E1.out.cell (fun e => e) hx⟩
      obtain ⟨x', ae, at_, ax, hstp⟩ : ∃ q r t u, stepS x (⟨kd, pa, ⟨ckd, cdv, chp, cpr, cln, cix, ccl, cpm, cup⟩, dd⟩ : Opn) = (q, ⟨r, t, u⟩) := ⟨_, _, _, _, rfl⟩
      have HSTP := hide hstp
      have HLK' := hide (step_lkS x (⟨kd, pa, ⟨ckd, cdv, chp, cpr, cln, cix, ccl, cpm, cup⟩, dd⟩ : Opn) HS.out.ok HLK.out)
      have HUN' := hide (step_un x (⟨kd, pa, ⟨ckd, cdv, chp, cpr, cln, cix, ccl, cpm, cup⟩, dd⟩ : Opn) HS.out.ok HLK.out HUN.out)
      rw [hstp] at HLK' HUN'
      simp only [] at HLK' HUN'
      clear hstp
      obtain ⟨pid, pC, pe, pat, hpar⟩ : ∃ q r t u, parseP dd = ⟨q, r, t, u⟩ := ⟨_, _, _, _, rfl⟩
      have HPG := hide (parse_good dd)
      have HPA := hide (parse_any W1 da cp dd hl1 hl2 hsrc1)
      rw [hpar] at HPG HPA
      simp only [] at HPG
      clear hpar hsrc1
      have e11 := HX.out 11 _ rfl
      have hsv := HS1.out.c1
      obtain ⟨ya, yc, hyv⟩ := own_len HS1.out.st
      subst hyv
      go_wp2_with fail
      refine HPA.out.mono ?_
      rintro e w2 ⟨v, rfl, hbl2, hown2⟩
      simp only [] at hown2 ⊢
      obtain ⟨vs, vc, rfl⟩ := own_len hown2
      have hex2 : Ex (fun _ => False) W1 w2 := Ex.of hbl2
      have E2 := hide (hex2.alloc (.cells #[.int .i64 pid, .slice vs pC.length vc] 52))
      have HOW := hide (hown2.alloc (.cells #[.int .i64 pid, .slice vs pC.length vc] 52))
      have hn0 := new_cells w2 [.int .i64 pid, .slice vs pC.length vc] 52 0 _ rfl
      have hn1 := new_cells w2 [.int .i64 pid, .slice vs pC.length vc] 52 1 _ rfl
      have hnf : ∀ j, (w2.alloc (.cells #[.int .i64 pid, .slice vs pC.length vc] 52)).frozen? ⟨w2.heap.size, j, none⟩ = false := fun j => by simp [go_sem]
      simp only [Addr.add_mid, Nat.zero_add] at hn0 hn1
      have hs2 := hex2.size
      clear hex2 hbl2 hown2 HPA e11 hsv
      go_upto_region 9 with fail
      generalize w2.alloc (.cells #[.int .i64 pid, .slice vs pC.length vc] 52) = W3 at *
      obtain ⟨r6, hr6⟩ : ∃ r, w2.heap.size = r := ⟨_, rfl⟩
      rw [hr6] at hn0 hn1 hs2 hnf ⊢
      have hr6l : r6 < W3.heap.size := World.block_lt_of_cell? _ _ hn0
      go_cut [36] (fun s36 wx => s36 = .bool false ∧ Hid (Ex (fun _ => False) W3 wx))
      case first =>
        by_cases hz : pe = 0
        · subst hz
          have HCB := hide (comesBack_any W3 _ pid (.slice vs pC.length vc) pC HOW.out (HPG.out.2 rfl).1 HPG.out.1 (HPG.out.2 rfl).2.1)
          go_wp2_with fail
          refine HCB.out.mono ?_
          rintro e w4 ⟨rfl, hex4⟩
          have HX4 := hide hex4
          clear hex4
          go_wp2
          go_meet
          case rel => exact ⟨rfl, HX4⟩
        · have hzb : (pe == 0) = false := by simpa using hz
          go_wp2
          go_meet
          case rel => exact ⟨rfl, Ex.refl _ _⟩
      obtain ⟨rfl, HE4⟩ := hcut
      generalize wc = W4 at *
      have m0 := HE4.out.cell (fun e => e) hn0
      have m1 := HE4.out.cell (fun e => e) hn1
      have mf := fun j => (HE4.out.frozen (q := r6) (j := j) (fun e => e) hr6l).trans (hnf j)
      have HS4 := hide ((HS1.out.new E2.out).new HE4.out)
      have hsv := HS4.out.c1
      have e1 := HE4.out.cell (fun e => e) (E2.out.cell (fun e => e) (HX.out 1 _ rfl))
      have hr56 : r5 < r6 := by omega
      clear HOW hn0 hn1 hnf
      go_upto_region 11 with fail
      have EW : Hid (Ex (fun _ => False) W1 ((W4.setCell ⟨r6, 0, none⟩ (.int .i64 pa)).setCell ⟨r6, 1, none⟩ (.slice ya x.st.length yc)).drew) := (((E2.out.trans HE4.out).setNew (p := r6) (by omega) _).setNew (p := r6) (by omega) _).drew
      have q1' : (W4.setCell ⟨r6, 0, none⟩ (.int .i64 pa)).cell? ⟨r6, 1, none⟩ = some (.slice vs pC.length vc) := by rw [set_at _ _ _ _ _ _ m0, if_neg (by omega)]; exact m1
      have Q1 : Hid (((W4.setCell ⟨r6, 0, none⟩ (.int .i64 pa)).setCell ⟨r6, 1, none⟩ (.slice ya x.st.length yc)).drew.cell? ⟨r6, 1, none⟩ = some (.slice ya x.st.length yc)) := World.cell?_setCell_same _ _ _ q1'
      have Q0 : Hid (((W4.setCell ⟨r6, 0, none⟩ (.int .i64 pa)).setCell ⟨r6, 1, none⟩ (.slice ya x.st.length yc)).drew.cell? ⟨r6, 0, none⟩ = some (.int .i64 pa)) := by
        show (World.setCell _ _ _).cell? _ = _
        rw [set_at _ _ _ _ _ _ q1', if_neg (by omega)]
        exact World.cell?_setCell_same _ _ _ m0
      clear q1'
      go_region
      generalize ((W4.setCell ⟨r6, 0, none⟩ (.int .i64 pa)).setCell ⟨r6, 1, none⟩ (.slice ya x.st.length yc)).drew = W5 at *
      clear m0 m1 mf hsv e1 HS4
      have HS5 := hide (HS1.out.new EW.out)
      have q0 := Q0.out
      have q1 := Q1.out
      have HCK := hide (check_any W5 _ pa (.slice ya x.st.length yc) x.st HS5.out.st (by have := HST.out; omega))
      have HKO := hide (fun h => check_ok (id := pa) (C := x.st) h)
      obtain ⟨ce, cat, hck⟩ : ∃ p q, checkP pa x.st = (p, q) := ⟨_, _, rfl⟩
      rw [hck] at HCK HKO
      simp only [] at HCK HKO
      clear hck
      go_wp2_with fail
      refine HCK.out.mono ?_
      rintro e w6 ⟨rfl, hex6⟩
      have E6 := hide (EW.out.trans hex6)
      have HS6 := hide (HS5.out.new hex6)
      have q0 := hex6.cell (fun e => e) q0
      have q1 := hex6.cell (fun e => e) q1
      clear HCK hex6
      go_upto_region 13 with fail
      go_cut [55] (fun s55 wx => s55 = .bool false ∧ Hid (Ex (fun _ => False) w6 wx))
      case first =>
        by_cases hz : ce = 0
        · subst hz
          have HCB := hide (comesBack_any w6 _ pa (.slice ya x.st.length yc) x.st HS6.out.st (HKO.out rfl).1 (HKO.out rfl).2.1 (HKO.out rfl).2.2)
          go_wp2_with fail
          refine HCB.out.mono ?_
          rintro e w4 ⟨rfl, hex4⟩
          have HX4 := hide hex4
          clear hex4
          go_wp2
          go_meet
          case rel => exact ⟨rfl, HX4⟩
        · have hzb : (ce == 0) = false := by simpa using hz
          go_wp2
          go_meet
          case rel => exact ⟨rfl, Ex.refl _ _⟩
      obtain ⟨rfl, HE7⟩ := hcut
      generalize wc = W7 at *
      clear q0 q1
      have HSQ := hide (HS6.out.new HE7.out)
      have E7 := hide (E6.out.trans HE7.out)
      have hbs := HSQ.out.bs
      have hsrcN : SrcAt W7 da dd := fun i y hy => by
        obtain ⟨g, o, e, hx⟩ := HSRC.out i y hy
        exact ⟨g, o, e, E7.out.cell (fun e => e) (E1.out.cell (fun e => e) hx)⟩
      have HSC := hide (stepS_any W7 s b x vr va (.slice ya x.st.length yc) uv (⟨kd, pa, ⟨ckd, cdv, chp, cpr, cln, cix, ccl, cpm, cup⟩, dd⟩ : Opn) da cp HSQ.out (by have := HST.out; omega) hl1 hl2 hsrcN)
      rw [HSTP.out] at HSC
      have HSC : Hid (Calls Try.prog 10 #[.pointer (some ⟨s, 0, none⟩), .agg #[.int .i64 kd, .int .i64 pa, .int .i64 ckd, .int .i64 cdv, .int .i64 chp, .int .i64 cpr, .int .i64 cln, .int .i64 cix, .int .i64 ccl, .bool cpm, .bool cup, .slice da dd.length cp]] W7 (TPost W7 s b vr va (.slice ya x.st.length yc) uv (fun q => kd = 2 ∧ (Value.slice ya x.st.length yc).ownBlock = some q) x' (ansV ae at_ ax))) := HSC
      clear hsrcN
      have e0 := E7.out.cell (fun e => e) (HX.out 0 _ rfl)
      have e1 := E7.out.cell (fun e => e) (HX.out 1 _ rfl)
      have e2 := E7.out.cell (fun e => e) (HX.out 2 _ rfl)
      have e3 := E7.out.cell (fun e => e) (HX.out 3 _ rfl)
      have e4 := E7.out.cell (fun e => e) (HX.out 4 _ rfl)
      have e5 := E7.out.cell (fun e => e) (HX.out 5 _ rfl)
      have e6 := E7.out.cell (fun e => e) (HX.out 6 _ rfl)
      have e7 := E7.out.cell (fun e => e) (HX.out 7 _ rfl)
      have e8 := E7.out.cell (fun e => e) (HX.out 8 _ rfl)
      have e9 := E7.out.cell (fun e => e) (HX.out 9 _ rfl)
      have e10 := E7.out.cell (fun e => e) (HX.out 10 _ rfl)
      have e11 := E7.out.cell (fun e => e) (HX.out 11 _ rfl)
      go_wp2_with fail
      refine HSC.out.mono ?_
      rintro e w8 ⟨rfl, hex8, vr', va', sv', uv', hss8, hf8, ht8, hu8⟩
      have HBE : Hid (Below w'.heap.size w' w8) := by
        refine HBL.out.trans ((((E1.out.trans E7.out).mono (fun _ z => z.elim)).trans hex8).below HBL.out.size (fun q hq z => ?_))
        rcases z with z | z | z
        · omega
        · omega
        · have := HSV.out q z.2; omega
      have HSTL : Hid (x'.st.length ≤ k + 1) := by
        have h1 := step_len x (⟨kd, pa, ⟨ckd, cdv, chp, cpr, cln, cix, ccl, cpm, cup⟩, dd⟩ : Opn)
        rw [HSTP.out] at h1
        have := HST.out
        show _ ≤ _
        simp only [] at h1
        omega
      have HSV6 : Hid (∀ j, sv'.ownBlock = some j → w'.heap.size ≤ j) := fun j hj => by have := (hss8.st.lt j hj).1; omega
      have HS8 := hide hss8
      clear hss8 hex8 hf8 ht8 hu8 HSC
      clear e0 e1 e2 e3 e4 e5 e6 e7 e8 e9 e10 e11
      obtain ⟨za, zc, hzv⟩ := own_len HS8.out.us
      subst hzv
      have k4 := HS8.out.c4
      have k3 := HS8.out.c3
      have k2 := HS8.out.c2
      obtain ⟨cu, hcu⟩ : ∃ c, x'.cu = c := ⟨_, rfl⟩
      rw [hcu] at k4
      have HCU := hide hcu
      clear hcu
      cases cu
      · go_wp2
        go_roundw
        case rel => exact ⟨k + 1, x', vr', va', sv', _, by go_num, by omega, HS8, HLK', HUN', HSTL, HSV6, HBE⟩
        case measure => simp [intOf]; omega
      · have HCB := hide (comesBack_any w8 _ x'.uid (.slice za x'.us.length zc) x'.us HS8.out.us (HUN'.out HCU.out).1 HS8.out.ul (HUN'.out HCU.out).2)
        go_wp2_with fail
        refine HCB.out.mono ?_
        rintro e w9 ⟨rfl, hex9⟩
        have HS9 := hide (HS8.out.new hex9)
        have HB9 : Hid (Below w'.heap.size w' w9) := HBE.out.trans (hex9.below HBE.out.size (fun _ _ z => z))
        clear hex9 k4 k3 k2
        go_wp2
        go_roundw
        case rel => exact ⟨k + 1, x', vr', va', sv', _, by go_num, by omega, HS9, HLK', HUN', HSTL, HSV6, HB9⟩
        case measure => simp [intOf]; omega
    · go_wp2
      go_ret
      exact ⟨rfl, HBL.out⟩
end Go.Proofs.Qxb6500778a
