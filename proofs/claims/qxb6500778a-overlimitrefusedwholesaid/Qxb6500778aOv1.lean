import Derived.Test.Qxb6500778aD2
import Derived.Test.Qxb6500778aOv0
namespace Go.Proofs.Qxb6500778a
open Go.RowKit

set_option linter.unusedSimpArgs false in
set_option maxRecDepth 100000 in
set_option maxHeartbeats 32000000 in
theorem over_walk (w : World) (a : Option Addr) (n cap : Nat) (f : Nat → Stp) (hn : n ≤ 9223372036854775807) (ho : OA w a n f) :
    Calls Try.prog 7 #[.slice a n cap] w fun e w' => e = .returned (.bool true) ∧ Below w.heap.size w w' := by
  have HO := hide ho
  clear ho
  go_enter Try.func7, Try.ntmps7
  go_wp2_with fail
  refine (small_any _ a n cap f hn HO.out).mono ?_
  rintro e w' ⟨bb, rfl, rfl, hsm⟩
  cases bb
  · go_wp2
    go_ret
    exact ⟨rfl, Below.refl _ _⟩
  have hn6 : n ≤ 65536 := hsm rfl
  clear hsm
  go_wp2_with fail
  refine (newSession_any _).mono ?_
  rintro e w1 ⟨rfl, hex1, hss1⟩
  obtain ⟨s, hs⟩ : ∃ s, w'.heap.size + 1 = s := ⟨_, rfl⟩
  obtain ⟨b, hb⟩ : ∃ b, w'.heap.size = b := ⟨_, rfl⟩
  rw [hs, hb] at hss1
  rw [hs]
  have HS := hide hss1
  have HBL : Hid (Below w'.heap.size w' w1) := hex1.below (Nat.le_refl _) (fun _ _ z => z)
  have hbw : w'.heap.size ≤ b := by omega
  have hsw : w'.heap.size ≤ s := by omega
  clear hss1 hex1 hs hb
  go_wp2_with fail
  go_loopw [4] (fun s4 wr => ∃ (k : Nat) (x : Sn) (vr va : Nat → Value) (sv uv : Value), s4 = .int .i64 k ∧ k ≤ n ∧ Hid (SS wr s b x vr va sv uv) ∧ Hid (x.st.length ≤ k) ∧ Hid (∀ j, sv.ownBlock = some j → w'.heap.size ≤ j) ∧ Hid (Below w'.heap.size w' wr)) (fun s4 _ => n - (intOf s4).toNat)
  case atStart => exact ⟨0, _, _, _, _, _, rfl, Nat.zero_le _, HS, Nat.le_refl _, fun j hj => (by cases hj), HBL⟩
  case round =>
    clear HS HBL
    obtain ⟨k, x, vr, va, sv, uv, rfl, hk, HS, HST, HSV, HBL⟩ := hrel
    by_cases hlt : k < n
    · obtain ⟨gb, goff, rfl, hc, hl1, hl2, hsrc⟩ := (HO.out.keep HBL.out) k hlt
      have hki : (k : Int) < (n : Int) := by omega
      have hkb : decide ((k : Int) < (n : Int)) = true := decide_eq_true hki
      generalize f k = F at *
      obtain ⟨⟨kd, pa, ⟨ckd, cdv, chp, cpr, cln, cix, ccl, cpm, cup⟩, dd⟩, da, cp⟩ := F
      simp only [] at hl1 hl2 hsrc
      have c0 := hc 0 _ rfl
      have c1 := hc 1 _ rfl
      have c2 := hc 2 _ rfl
      have c3 := hc 3 _ rfl
      have c4 := hc 4 _ rfl
      have c5 := hc 5 _ rfl
      have c6 := hc 6 _ rfl
      have c7 := hc 7 _ rfl
      have c8 := hc 8 _ rfl
      have c9 := hc 9 _ rfl
      have c10 := hc 10 _ rfl
      have c11 := hc 11 _ rfl
      simp only [Nat.add_zero] at c0 c1 c2 c3 c4 c5 c6 c7 c8 c9 c10 c11
      have HSRC := hide hsrc
      clear hc hsrc
      go_upto_region 8 with fail
      have E1 := hide ((Ex.refl (fun _ => False) wr).alloc (.cells #[.int .i64 kd, .int .i64 pa, .int .i64 ckd, .int .i64 cdv, .int .i64 chp, .int .i64 cpr, .int .i64 cln, .int .i64 cix, .int .i64 ccl, .bool cpm, .bool cup, .slice da dd.length cp] 48))
      have HX5 := hide (fun (j : Nat) u (h : (#[.int .i64 kd, .int .i64 pa, .int .i64 ckd, .int .i64 cdv, .int .i64 chp, .int .i64 cpr, .int .i64 cln, .int .i64 cix, .int .i64 ccl, .bool cpm, .bool cup, .slice da dd.length cp].toList)[j]? = some u) => new_cells wr (#[.int .i64 kd, .int .i64 pa, .int .i64 ckd, .int .i64 cdv, .int .i64 chp, .int .i64 cpr, .int .i64 cln, .int .i64 cix, .int .i64 ccl, .bool cpm, .bool cup, .slice da dd.length cp].toList) 48 j u h)
      obtain ⟨W1, hW1⟩ : ∃ W, W = wr.alloc (.cells #[.int .i64 kd, .int .i64 pa, .int .i64 ckd, .int .i64 cdv, .int .i64 chp, .int .i64 cpr, .int .i64 cln, .int .i64 cix, .int .i64 ccl, .bool cpm, .bool cup, .slice da dd.length cp] 48) := ⟨_, rfl⟩
      rw [← hW1] at E1 ⊢
      have HX : Hid (∀ (j : Nat) u, (#[.int .i64 kd, .int .i64 pa, .int .i64 ckd, .int .i64 cdv, .int .i64 chp, .int .i64 cpr, .int .i64 cln, .int .i64 cix, .int .i64 ccl, .bool cpm, .bool cup, .slice da dd.length cp].toList)[j]? = some u → W1.cell? ⟨wr.heap.size, j, none⟩ = some u) := fun j u h => by
        have := HX5.out j u h
        rw [Addr.add_mid, Nat.zero_add] at this
        rw [hW1]
        exact this
      clear hW1 HX5 c0 c1 c2 c3 c4 c5 c6 c7 c8 c9 c10 c11
      have HS1 := hide (HS.out.new E1.out)
      obtain ⟨r5, hr5⟩ : ∃ r, wr.heap.size = r := ⟨_, rfl⟩
      rw [hr5] at HX ⊢
      have hr5l : r5 < W1.heap.size := World.block_lt_of_cell? _ _ (HX.out 0 _ rfl)
      have hs5 : s < r5 := by have := HS.out.lt; omega
      have hsrc1 : SrcAt W1 da dd := fun i y hy => by
        obtain ⟨g, o, e, hx⟩ := HSRC.out i y hy
        exact ⟨g, o, e, E1.out.cell (fun e => e) hx⟩
      have HOF : Hid (Calls Try.prog 16 #[.pointer (some ⟨s, 0, none⟩), .agg #[.int .i64 kd, .int .i64 pa, .int .i64 ckd, .int .i64 cdv, .int .i64 chp, .int .i64 cpr, .int .i64 cln, .int .i64 cix, .int .i64 ccl, .bool cpm, .bool cup, .slice da dd.length cp]] W1 (OPost W1 sv (kd = 3) (offP x (⟨kd, pa, ⟨ckd, cdv, chp, cpr, cln, cix, ccl, cpm, cup⟩, dd⟩ : Opn)))) := offered_any W1 s b x vr va sv uv (⟨kd, pa, ⟨ckd, cdv, chp, cpr, cln, cix, ccl, cpm, cup⟩, dd⟩ : Opn) da cp HS1.out hl1 hl2 hsrc1
      obtain ⟨oid, oC, ook, hoff⟩ : ∃ q r t, offP x (⟨kd, pa, ⟨ckd, cdv, chp, cpr, cln, cix, ccl, cpm, cup⟩, dd⟩ : Opn) = (q, r, t) := ⟨_, _, _, rfl⟩
      obtain ⟨x', ae, at_, ax, hstp⟩ : ∃ q r t u, stepS x (⟨kd, pa, ⟨ckd, cdv, chp, cpr, cln, cix, ccl, cpm, cup⟩, dd⟩ : Opn) = (q, ⟨r, t, u⟩) := ⟨_, _, _, _, rfl⟩
      have HPL := hide (over_plain x (⟨kd, pa, ⟨ckd, cdv, chp, cpr, cln, cix, ccl, cpm, cup⟩, dd⟩ : Opn))
      rw [hoff] at HOF HPL
      rw [hstp] at HPL
      simp only [] at HPL
      have HSTP := hide hstp
      clear hoff hstp hsrc1
      have e0 := HX.out 0 _ rfl
      have e1 := HX.out 1 _ rfl
      have e2 := HX.out 2 _ rfl
      have e3 := HX.out 3 _ rfl
      have e4 := HX.out 4 _ rfl
      have e5 := HX.out 5 _ rfl
      have e6 := HX.out 6 _ rfl
      have e7 := HX.out 7 _ rfl
      have e8 := HX.out 8 _ rfl
      have e9 := HX.out 9 _ rfl
      have e10 := HX.out 10 _ rfl
      have e11 := HX.out 11 _ rfl
      go_wp2_with fail
      refine HOF.out.mono ?_
      rintro e w2 ⟨v, rfl, hex2, hown2, hblk⟩
      simp only [] at hown2 ⊢
      obtain ⟨vs, vc, rfl⟩ := own_len hown2
      have E2 := hide (hex2.alloc (.cells #[.int .i64 oid, .slice vs oC.length vc] 52))
      have HOW := hide (hown2.alloc (.cells #[.int .i64 oid, .slice vs oC.length vc] 52))
      have hn0 := new_cells w2 [.int .i64 oid, .slice vs oC.length vc] 52 0 _ rfl
      have hn1 := new_cells w2 [.int .i64 oid, .slice vs oC.length vc] 52 1 _ rfl
      simp only [Addr.add_mid, Nat.zero_add] at hn0 hn1
      have HBK := hide hblk
      have hs2 := hex2.size
      clear hex2 hown2 hblk HOF e0 e1 e2 e3 e4 e5 e6 e7 e8 e9 e10 e11
      go_upto_region 9 with fail
      generalize w2.alloc (.cells #[.int .i64 oid, .slice vs oC.length vc] 52) = W3 at *
      obtain ⟨r6, hr6⟩ : ∃ r, w2.heap.size = r := ⟨_, rfl⟩
      rw [hr6] at hn0 hn1 hs2 ⊢
      have HS3 := hide (HS1.out.new E2.out)
      have k0 := HS3.out.c0
      go_wp2_with fail
      refine (clone_any W3 b x.N vr va HS3.out.na HS3.out.ok).mono ?_
      rintro e w4 ⟨rfl, hex4, ur, ua, hnb⟩
      obtain ⟨bb, hbb⟩ : ∃ r, W3.heap.size = r := ⟨_, rfl⟩
      rw [hbb] at hnb ⊢
      have hr6b : r6 < bb := by rw [← hbb]; exact World.block_lt_of_cell? _ _ hn0
      have E4 := hide (E2.out.trans hex4)
      have HS4 := hide (HS3.out.new hex4)
      have HNB := hide hnb
      have hm0 := hex4.cell (fun e => e) hn0
      have hm1 := hex4.cell (fun e => e) hn1
      have HOW4 := hide (own_kept HOW.out hex4 (fun _ _ e => e))
      have hsrc4 : SrcAt w4 da dd := fun i y hy => by
        obtain ⟨g, o, e, hx⟩ := HSRC.out i y hy
        exact ⟨g, o, e, E4.out.cell (fun e => e) (E1.out.cell (fun e => e) hx)⟩
      have HSC := hide (stepS_any w4 s b x vr va sv uv (⟨kd, pa, ⟨ckd, cdv, chp, cpr, cln, cix, ccl, cpm, cup⟩, dd⟩ : Opn) da cp HS4.out (by have := HST.out; omega) hl1 hl2 hsrc4)
      rw [HSTP.out] at HSC
      have HSC : Hid (Calls Try.prog 10 #[.pointer (some ⟨s, 0, none⟩), .agg #[.int .i64 kd, .int .i64 pa, .int .i64 ckd, .int .i64 cdv, .int .i64 chp, .int .i64 cpr, .int .i64 cln, .int .i64 cix, .int .i64 ccl, .bool cpm, .bool cup, .slice da dd.length cp]] w4 (TPost w4 s b vr va sv uv (fun q => kd = 2 ∧ sv.ownBlock = some q) x' (ansV ae at_ ax))) := HSC
      have e0 := E4.out.cell (fun e => e) (HX.out 0 _ rfl)
      have e1 := E4.out.cell (fun e => e) (HX.out 1 _ rfl)
      have e2 := E4.out.cell (fun e => e) (HX.out 2 _ rfl)
      have e3 := E4.out.cell (fun e => e) (HX.out 3 _ rfl)
      have e4 := E4.out.cell (fun e => e) (HX.out 4 _ rfl)
      have e5 := E4.out.cell (fun e => e) (HX.out 5 _ rfl)
      have e6 := E4.out.cell (fun e => e) (HX.out 6 _ rfl)
      have e7 := E4.out.cell (fun e => e) (HX.out 7 _ rfl)
      have e8 := E4.out.cell (fun e => e) (HX.out 8 _ rfl)
      have e9 := E4.out.cell (fun e => e) (HX.out 9 _ rfl)
      have e10 := E4.out.cell (fun e => e) (HX.out 10 _ rfl)
      have e11 := E4.out.cell (fun e => e) (HX.out 11 _ rfl)
      have HGL : Hid (∀ q, (Value.slice vs oC.length vc).ownBlock = some q → q < bb) := fun q hq => by rw [← hbb]; exact (HOW.out.lt q hq).2
      clear k0 hn0 hn1 hex4 hnb hsrc4 HOW
      go_wp2_with fail
      refine HSC.out.mono ?_
      rintro e w5 ⟨rfl, hex5, vr', va', sv', uv', hss5, hf5, ht5, hu5⟩
      have HFT := hide hf5
      have HTT := hide ht5
      have HUT := hide hu5
      clear hf5 ht5 hu5
      have HS5 := hide hss5
      have hbs := HS4.out.bs
      have hsvl : ∀ q, sv.ownBlock = some q → q < r5 := fun q hq => by rw [← hr5]; exact (HS.out.st.lt q hq).2
      have hNS : ∀ q, r5 ≤ q → ¬ (q = s ∨ q = b ∨ (kd = 2 ∧ sv.ownBlock = some q)) := fun q hq z => by
        rcases z with z | z | z
        · omega
        · omega
        · have := hsvl q z.2; omega
      have hrr : r5 ≤ r6 := by omega
      have HNB5 := hide (HNB.out.keep hex5 (fun q hq => hNS q (by have := HNB.out.foot_ge hq; omega)))
      have p0 := hex5.cell (hNS r6 hrr) hm0
      have p1 := hex5.cell (hNS r6 hrr) hm1
      have HOW5 := hide (own_kept HOW4.out hex5 (fun q hq z => by
        rcases HBK.out q hq with y | y
        · rcases z with z | z | z
          · have := (HS.out.st.lt q y.2).1; omega
          · exact HS.out.tf q y.2 (.inl z)
          · have := z.1; have := y.1; omega
        · exact hNS q (by omega) z))
      have HBE : Hid (Below w'.heap.size w' w5) := by
        refine HBL.out.trans ((((E1.out.trans E4.out).mono (fun _ z => z.elim)).trans hex5).below HBL.out.size (fun q hq z => ?_))
        rcases z with z | z | z
        · omega
        · omega
        · have := HSV.out q z.2; omega
      have HSTL : Hid (x'.st.length ≤ k + 1) := by
        have h1 := step_len x (⟨kd, pa, ⟨ckd, cdv, chp, cpr, cln, cix, ccl, cpm, cup⟩, dd⟩ : Opn)
        rw [HSTP.out] at h1
        have := HST.out
        show _ ≤ _
        simp only [] at h1
        omega
      have EA := hide ((Ex.refl (fun _ => False) w5).alloc (.cells #[.int .i64 ae, .int .i64 at_, .string ax] 40))
      have hq0 := new_cells w5 [.int .i64 ae, .int .i64 at_, .string ax] 40 0 _ rfl
      have hq1 := new_cells w5 [.int .i64 ae, .int .i64 at_, .string ax] 40 1 _ rfl
      simp only [Addr.add_mid, Nat.zero_add] at hq0 hq1
      have HBE6 : Hid (Below w'.heap.size w' (w5.alloc (.cells #[.int .i64 ae, .int .i64 at_, .string ax] 40))) := HBE.out.alloc HBE.out.size _
      have HS45 : Hid (w4.heap.size ≤ w5.heap.size) := hex5.size
      clear hss5 hex5 hm0 hm1 HSC e0 e1 e2 e3 e4 e5 e6 e7 e8 e9 e10 e11
      simp only [ansV]
      go_upto_region 11 with fail
      have HS6 := hide (HS5.out.new EA.out)
      have HNB6 := hide (HNB5.out.new EA.out)
      have HOW6 := hide (own_kept HOW5.out EA.out (fun _ _ e => e))
      have p0 := EA.out.cell (fun e => e) p0
      have p1 := EA.out.cell (fun e => e) p1
      generalize w5.alloc (.cells #[.int .i64 ae, .int .i64 at_, .string ax] 40) = W6 at *
      obtain ⟨r9, hr9⟩ : ∃ r, w5.heap.size = r := ⟨_, rfl⟩
      have HP5 : Hid (w4.heap.size ≤ r9) := by rw [← hr9]; exact HS45.out
      rw [hr9] at hq0 hq1 ⊢
      have HP0 := hide p0
      have HP1 := hide p1
      have HQ0 := hide hq0
      have HQ1 := hide hq1
      have HSV6 : Hid (∀ j, sv'.ownBlock = some j → w'.heap.size ≤ j) := fun j hj => by have := (HS6.out.st.lt j hj).1; omega
      clear p0 p1 hq0 hq1 EA HS5 HNB5 HOW5 HBE
      go_wp2_with fail
      go_loopw [10] (fun s10 wq => ∃ (d : Nat), s10 = .int .i64 d ∧ d ≤ 16 ∧ Hid (Ex (fun _ => False) W6 wq)) (fun s10 _ => 16 - (intOf s10).toNat)
      case atStart => exact ⟨0, rfl, Nat.zero_le _, Ex.refl _ _⟩
      case round =>
        obtain ⟨d, rfl, hd16, HEQ⟩ := hrel
        by_cases hd : d < 16
        · have hdb : decide ((d : Int) < 16) = true := decide_eq_true (by omega)
          have hdi : (d : Int) < 16 := by omega
          have HSQ := hide (HS6.out.new HEQ.out)
          have k0 := HSQ.out.c0
          have hcap := (HSQ.out.ok d hd).cap
          go_wp2_with fail
          refine (rules_any _ b x'.N vr' va' HSQ.out.na d hd (by omega) (by omega)).mono ?_
          rintro e w8 ⟨rfl, mq, rfl⟩
          have hgt : decide ((64 : Int) < (((x'.N d).rt.length + (x'.N d).ac.length : Nat) : Int)) = false := decide_eq_false (by omega)
          generalize ((x'.N d).rt.length + (x'.N d).ac.length : Nat) = tot at *
          have HEQ2 := hide (HEQ.out.drewN mq)
          clear k0 HSQ
          go_wp2
          go_roundw
          case rel => exact ⟨d + 1, by go_num, by omega, HEQ2⟩
          case measure => simp [intOf]; omega
        · obtain rfl : d = 16 := by omega
          have HSQ := hide (HS6.out.new HEQ.out)
          have HBQ : Hid (Below w'.heap.size w' _) := HBE6.out.trans (HEQ.out.below HBE6.out.size (fun _ _ z => z))
          have q0 := HEQ.out.cell (fun e => e) HQ0.out
          have q1 := HEQ.out.cell (fun e => e) HQ1.out
          by_cases hz : ae = 0
          · subst hz
            go_wp2
            go_roundw
            case rel => exact ⟨k + 1, x', vr', va', sv', uv', by go_num, by omega, HSQ, HSTL, HSV6, HBQ⟩
            case measure => simp [intOf]; omega
          · have hzb : (ae == 0) = false := by simpa using hz
            have hNN := HPL.out.1 hz
            have k0 := HSQ.out.c0
            have HNQ := hide (HNB6.out.new HEQ.out)
            have HNS := hide HSQ.out.na
            rw [hNN] at HNS
            go_wp2_with fail
            refine (equal_any _ b bb x.N vr' va' ur ua HNS.out HNQ.out HS4.out.ok).mono ?_
            rintro e w8 ⟨rfl, hex8⟩
            have HEQ8 := hide (HEQ.out.trans hex8)
            have HS8 := hide (HSQ.out.new hex8)
            have HB8 : Hid (Below w'.heap.size w' w8) := HBQ.out.trans (hex8.below HBQ.out.size (fun _ _ z => z))
            have q0 := hex8.cell (fun e => e) q0
            have q1 := hex8.cell (fun e => e) q1
            clear hex8 k0
            have p0 := HEQ8.out.cell (fun e => e) HP0.out
            have p1 := HEQ8.out.cell (fun e => e) HP1.out
            cases ook
            · go_wp2
              go_roundw
              case rel => exact ⟨k + 1, x', vr', va', sv', uv', by go_num, by omega, HS8, HSTL, HSV6, HB8⟩
              case measure => simp [intOf]; omega
            · by_cases h8 : ae = 8
              · subst h8
                obtain ⟨hr7, hat⟩ := HPL.out.2 rfl
                have hr8 := hr7.symm
                clear hr7
                obtain ⟨j, c, hj, hj2, hj3, hgc, hkk, h64⟩ := run_eight HS4.out.ok hr8
                rw [hj2] at hat
                subst hat
                have hjl := (List.getElem?_eq_some_iff.1 hj).1
                have HO8 := hide (own_kept HOW6.out HEQ8.out (fun _ _ e => e))
                obtain ⟨g, vc2, hv⟩ := own_some HO8.out (by omega)
                injection hv with hv1 hv2 hv3
                subst hv1
                have hvc := own_cap HO8.out
                have hjc : (j : Int) ≤ (vc : Int) := by omega
                have HN8 := hide (HNB6.out.new HEQ8.out)
                have HCUT := hide (own_cut HO8.out (i := j) (by omega))
                rw [flatC, fm_take Chg.vals 9 ch_len] at HCUT
                have htl : (oC.take j).length = j := by rw [List.length_take]; omega
                have hj128 : (oC.take j).length ≤ 128 := (check_ok (run_check hj3)).2.1
                rw [htl] at hj128
                have HCL := hide (apply_any w8.drew bb 0 x.N ur ua oid (.slice (some ⟨g, 0, none⟩) j vc) (oC.take j) (HN8.out.new (Ex.refl _ _).drew) HS4.out.ok (by rw [htl]; exact own_kept HCUT.out (Ex.refl (fun _ => False) _).drew (fun _ _ e => e)) (by omega))
                have hap : applyP x.N oid (oC.take j) = (runP x.N oid (oC.take j)).1 := by unfold applyP; rw [if_pos hj3]
                have HOKN : Hid (NetOk (runP x.N oid (oC.take j)).1) := runP_ok HS4.out.ok
                rw [hap, hj3, (runP_len hj3).2] at HCL
                obtain ⟨N9, hN9⟩ : ∃ N9, (runP x.N oid (oC.take j)).1 = N9 := ⟨_, rfl⟩
                rw [hN9] at HCL HOKN h64
                have hr65 : r6 < bb := hr6b
                have hr9b : bb < r9 := by have := HNB.out.lt; have h5 := HP5.out; omega
                clear hap hN9 hv2 hv3 hj2 hj3 hr8 HCUT
                go_upto_region 20 with fail
                refine wp_region_held_drew (S := fun w' => w'.cell? ⟨r6, 0, none⟩ = some (.int .i64 oid) ∧ w'.cell? ⟨r6, 1, none⟩ = some (.slice (some ⟨g, 0, none⟩) oC.length vc) ∧ w'.cell? ⟨r9, 1, none⟩ = some (.int .i64 j)) (by kernel_rfl) (And.intro p0 (And.intro p1 q1)) (fun hHeld => ?_)
                refine wpAnyH_take (i := 0) (v := ?_) rfl (by kernel_rfl) (by kernel_rfl) (by kernel_rfl) (fun _ _ _ h => h) (Or.inl ⟨by rfl, ?_⟩) (by assumption) ?_
                rotate_left
                · (intro w hSw; (try dsimp only at hSw); go_simp; try (with_reducible rfl))
                try simp only [Act.put, List.getElem_toArray, List.getElem_cons_zero, List.getElem_cons_succ, List.setIfInBounds_toArray, List.set_cons_zero, List.set_cons_succ]
                refine wpAnyH_take (i := 1) (v := ?_) rfl (by kernel_rfl) (by kernel_rfl) (by kernel_rfl) (fun _ _ _ h => h) (Or.inl ⟨by rfl, ?_⟩) (by assumption) ?_
                rotate_left
                · (intro w hSw; (try dsimp only at hSw); go_simp; try (with_reducible rfl))
                try simp only [Act.put, List.getElem_toArray, List.getElem_cons_zero, List.getElem_cons_succ, List.setIfInBounds_toArray, List.set_cons_zero, List.set_cons_succ]
                refine wpAnyH_take (i := 2) (v := ?_) rfl (by kernel_rfl) (by kernel_rfl) (by kernel_rfl) (fun _ _ _ h => h) (Or.inl ⟨by rfl, ?_⟩) (by assumption) ?_
                rotate_left
                · (intro w hSw; (try dsimp only at hSw); go_simp; try (with_reducible rfl))
                try simp only [Act.put, List.getElem_toArray, List.getElem_cons_zero, List.getElem_cons_succ, List.setIfInBounds_toArray, List.set_cons_zero, List.set_cons_succ]
                refine wpAnyH_take (i := 3) (v := ?_) rfl (by kernel_rfl) (by kernel_rfl) (by kernel_rfl) (fun _ _ _ h => h) (Or.inl ⟨by rfl, ?_⟩) (by assumption) ?_
                rotate_left
                · (intro w hSw; (try dsimp only at hSw); go_simp; try (with_reducible rfl))
                try simp only [Act.put, List.getElem_toArray, List.getElem_cons_zero, List.getElem_cons_succ, List.setIfInBounds_toArray, List.set_cons_zero, List.set_cons_succ]
                refine wpAnyH_take (i := 4) (v := ?_) rfl (by kernel_rfl) (by kernel_rfl) (by kernel_rfl) (fun _ _ _ h => h) (Or.inl ⟨by rfl, ?_⟩) (by assumption) ?_
                rotate_left
                · (intro w hSw; (try dsimp only at hSw); go_simp; try (with_reducible rfl))
                try simp only [Act.put, List.getElem_toArray, List.getElem_cons_zero, List.getElem_cons_succ, List.setIfInBounds_toArray, List.set_cons_zero, List.set_cons_succ]
                refine wpAnyH_take (i := 5) (v := ?_) rfl (by kernel_rfl) (by kernel_rfl) (by kernel_rfl) (fun _ _ _ h => h) (Or.inl ⟨by rfl, ?_⟩) (by assumption) ?_
                rotate_left
                · (intro w hSw; (try dsimp only at hSw); go_simp; try (with_reducible rfl))
                try simp only [Act.put, List.getElem_toArray, List.getElem_cons_zero, List.getElem_cons_succ, List.setIfInBounds_toArray, List.set_cons_zero, List.set_cons_succ]
                refine wpAnyH_take (i := 6) (v := ?_) rfl (by kernel_rfl) (by kernel_rfl) (by kernel_rfl) (fun _ _ _ h => h) (Or.inl ⟨by rfl, ?_⟩) (by assumption) ?_
                rotate_left
                · (intro w hSw; (try dsimp only at hSw); go_simp; try (with_reducible rfl))
                try simp only [Act.put, List.getElem_toArray, List.getElem_cons_zero, List.getElem_cons_succ, List.setIfInBounds_toArray, List.set_cons_zero, List.set_cons_succ]
                refine wpAnyH_take (i := 7) (v := ?_) rfl (by kernel_rfl) (by kernel_rfl) (by kernel_rfl) (fun _ _ _ h => h) (Or.inl ⟨by rfl, ?_⟩) (by assumption) ?_
                rotate_left
                · (intro w hSw; (try dsimp only at hSw); go_simp; try (with_reducible rfl))
                try simp only [Act.put, List.getElem_toArray, List.getElem_cons_zero, List.getElem_cons_succ, List.setIfInBounds_toArray, List.set_cons_zero, List.set_cons_succ]
                refine wpAnyH_take (i := 8) (v := ?_) rfl (by kernel_rfl) (by kernel_rfl) (by kernel_rfl) (fun _ _ _ h => h) (Or.inl ⟨by rfl, ?_⟩) (by assumption) ?_
                rotate_left
                · (intro w hSw; (try dsimp only at hSw); go_simp; try (with_reducible rfl))
                try simp only [Act.put, List.getElem_toArray, List.getElem_cons_zero, List.getElem_cons_succ, List.setIfInBounds_toArray, List.set_cons_zero, List.set_cons_succ]
                refine wpAnyH_ready (rs := [9]) (by kernel_rfl) (by simp) ?_
                refine (AllReadyH.cons rfl (fun K hK => ?_) AllReadyH.nil)
                · refine step_call rfl 20 #[.pointer (some ⟨bb, 0, none⟩), .agg #[.int .i64 oid, .slice (some ⟨g, 0, none⟩) j vc]] (by simp [go_sem]) HCL.out ?_
                  rintro e w9 ⟨rfl, hex9, ur', ua', hna9, hf9⟩
                  refine ⟨_, rfl, ?_⟩
                  refine hK.out _ _ ?_ (fun hHeld => ?_)
                  · first | exact hHeld | exact ⟨hex9.cell (by omega) hHeld.1, hex9.cell (by omega) hHeld.2.1, hex9.cell (by omega) hHeld.2.2⟩
                  clear hK K
                  try simp only [Act.put, List.getElem_toArray, List.getElem_cons_zero, List.getElem_cons_succ, List.setIfInBounds_toArray, List.set_cons_zero, List.set_cons_succ]
                  refine wpAnyH_take (i := 10) (v := ?_) rfl (by kernel_rfl) (by kernel_rfl) (by kernel_rfl) (fun _ _ _ h => h) (Or.inl ⟨by rfl, ?_⟩) (by assumption) ?_
                  rotate_left
                  · (intro w hSw; (try dsimp only at hSw); go_simp; try (with_reducible rfl))
                  try simp only [Act.put, List.getElem_toArray, List.getElem_cons_zero, List.getElem_cons_succ, List.setIfInBounds_toArray, List.set_cons_zero, List.set_cons_succ]
                  refine wpAnyH_take (i := 11) (v := ?_) rfl (by kernel_rfl) (by kernel_rfl) (by kernel_rfl) (fun _ _ _ h => h) (Or.inl ⟨by rfl, ?_⟩) (by assumption) ?_
                  rotate_left
                  · (intro w hSw; (try dsimp only at hSw); go_simp; try (with_reducible rfl))
                  try simp only [Act.put, List.getElem_toArray, List.getElem_cons_zero, List.getElem_cons_succ, List.setIfInBounds_toArray, List.set_cons_zero, List.set_cons_succ]
                  refine wpAnyH_take (i := 12) (v := ?_) rfl (by kernel_rfl) (by kernel_rfl) (by kernel_rfl) (fun _ _ _ h => h) (Or.inl ⟨by rfl, ?_⟩) (by assumption) ?_
                  rotate_left
                  · (intro w hSw; (try dsimp only at hSw); go_simp; try (with_reducible rfl))
                  try simp only [Act.put, List.getElem_toArray, List.getElem_cons_zero, List.getElem_cons_succ, List.setIfInBounds_toArray, List.set_cons_zero, List.set_cons_succ]
                  refine wpAnyH_take (i := 13) (v := ?_) rfl (by kernel_rfl) (by kernel_rfl) (by kernel_rfl) (fun _ _ _ h => h) (Or.inl ⟨by rfl, ?_⟩) (by assumption) ?_
                  rotate_left
                  · (intro w hSw; (try dsimp only at hSw); go_simp; try (with_reducible rfl))
                  try simp only [Act.put, List.getElem_toArray, List.getElem_cons_zero, List.getElem_cons_succ, List.setIfInBounds_toArray, List.set_cons_zero, List.set_cons_succ]
                  refine wpAnyH_take (i := 14) (v := ?_) rfl (by kernel_rfl) (by kernel_rfl) (by kernel_rfl) (fun _ _ _ h => h) (Or.inl ⟨by rfl, ?_⟩) (by assumption) ?_
                  rotate_left
                  · (intro w hSw; (try dsimp only at hSw); go_simp; try (with_reducible rfl))
                  try simp only [Act.put, List.getElem_toArray, List.getElem_cons_zero, List.getElem_cons_succ, List.setIfInBounds_toArray, List.set_cons_zero, List.set_cons_succ]
                  refine wpAnyH_done (by kernel_rfl) ?_ _
                  have hx9 := Ex.of_drew hex9
                  have hr6c : r5 < bb := by omega
                  have HB9 : Hid (Below w'.heap.size w' w9) := HB8.out.trans (hx9.below HB8.out.size (fun q hq (z : q = bb) => by omega))
                  have hw4 : bb < w4.heap.size := HNB.out.lt
                  have HS9 := hide (HS8.out.keep hx9 (fun (z : s = bb) => by omega) (fun q hq (z : q = bb) => by
                    rcases HFT.out q hq with y | y
                    · have := HS.out.na.foot_lt y; omega
                    · omega) (fun q hq (z : q = bb) => by
                    rcases HTT.out q hq with y | y
                    · have := hsvl q y; omega
                    · omega) (fun q hq (z : q = bb) => by
                    rcases HUT.out q hq with y | y
                    · have := (HS.out.us.lt q y).2; omega
                    · omega))
                  have hgl : g < bb := HGL.out g rfl
                  have HO9 := hide (own_kept HO8.out hx9 (fun q hq (z : q = bb) => by injection hq with hq; have : g = q := hq; omega))
                  have HCO := hide (co_of HO9.out rfl hj)
                  have u0 := HCO.out.c0
                  have u1 := HCO.out.c1
                  have u2 := HCO.out.c2
                  have u3 := HCO.out.c3
                  have u4 := HCO.out.c4
                  have u5 := HCO.out.c5
                  have u6 := HCO.out.c6
                  have u7 := HCO.out.c7
                  have u8 := HCO.out.c8
                  have s0 := hx9.cell (q := r6) (by omega) p0
                  have s1 := hx9.cell (q := r6) (by omega) p1
                  have t1 := hx9.cell (q := r9) (by omega) q1
                  have HN9 := hide hna9
                  have HOK9 : Hid (NetOk N9) := HOKN.out
                  obtain ⟨ykd, ydv, yhp, ypr, yln, yix, ycl, ypm, yup⟩ := c
                  obtain ⟨dn, hdn⟩ : ∃ dn : Nat, ydv = dn := ⟨ydv.toNat, by have := hgc.1; simp only [] at this; omega⟩
                  subst hdn
                  have hdn : dn < 16 := by have := hgc.1; simp only [] at this; omega
                  have hdni : (dn : Int) < 16 := by omega
                  simp only [Int.toNat_natCast] at h64 hkk u0 u1 u2 u3 u4 u5 u6 u7 u8
                  have hji : (j : Int) < (oC.length : Int) := by have := (List.getElem?_eq_some_iff.1 hj).1; omega
                  clear hHeld hex9 hna9 hf9 HCL p0 p1 q0 q1
                  go_upto_region 22 with fail
                  have EX10 := hide ((Ex.refl (fun _ => False) w9).alloc (.cells #[.int .i64 ykd, .int .i64 (dn : Int), .int .i64 yhp, .int .i64 ypr, .int .i64 yln, .int .i64 yix, .int .i64 ycl, .bool ypm, .bool yup] 45))
                  have v0 := new_cells w9 [.int .i64 ykd, .int .i64 (dn : Int), .int .i64 yhp, .int .i64 ypr, .int .i64 yln, .int .i64 yix, .int .i64 ycl, .bool ypm, .bool yup] 45 0 _ rfl
                  have v1 := new_cells w9 [.int .i64 ykd, .int .i64 (dn : Int), .int .i64 yhp, .int .i64 ypr, .int .i64 yln, .int .i64 yix, .int .i64 ycl, .bool ypm, .bool yup] 45 1 _ rfl
                  simp only [Addr.add_mid, Nat.zero_add] at v0 v1
                  have HN10 := hide (HN9.out.new EX10.out)
                  have HS10 := hide (HS9.out.new EX10.out)
                  have HB10 : Hid (Below w'.heap.size w' (w9.alloc (.cells #[.int .i64 ykd, .int .i64 (dn : Int), .int .i64 yhp, .int .i64 ypr, .int .i64 yln, .int .i64 yix, .int .i64 ycl, .bool ypm, .bool yup] 45))) := HB9.out.trans (EX10.out.below HB9.out.size (fun _ _ z => z))
                  generalize w9.alloc (.cells #[.int .i64 ykd, .int .i64 (dn : Int), .int .i64 yhp, .int .i64 ypr, .int .i64 yln, .int .i64 yix, .int .i64 ycl, .bool ypm, .bool yup] 45) = W10 at *
                  obtain ⟨r13, hr13⟩ : ∃ r, w9.heap.size = r := ⟨_, rfl⟩
                  rw [hr13] at v0 v1 ⊢
                  clear u0 u1 u2 u3 u4 u5 u6 u7 u8 s0 s1 t1 hr13
                  have HRU : Hid (∀ n, Calls Try.prog 21 #[.pointer (some ⟨bb, dn * 4, none⟩)] (W10.drewN n) fun e w'' => e = .returned (.int .i64 64) ∧ ∃ m, w'' = W10.drewN m) := fun n => by
                    have hcap := (HOK9.out dn hdn).cap
                    have := Calls.quiet_of (rules_any (W10.drewN n) bb N9 ur' ua' (HN10.out.new ((Ex.refl (fun _ => False) W10).drewN n)) dn hdn (by omega) (by omega))
                    rw [h64] at this
                    exact this
                  clear h64
                  have hFIN : ∀ (nq : Nat), Hid (SS (W10.drewN nq) s b x' vr' va' sv' uv') ∧ Hid (Below w'.heap.size w' (W10.drewN nq)) := fun nq => ⟨HS10.out.new ((Ex.refl (fun _ => False) W10).drewN nq), HB10.out.trans (((Ex.refl (fun _ => False) W10).drewN nq).below HB10.out.size (fun _ _ z => z))⟩
                  have HFIN := hide hFIN
                  clear hFIN
                  rcases hkk with z | z
                  · subst z
                    go_upto_region 23 with fail
                    go_quiet (first | (go_at_call 21; refine HRU.out _))
                    obtain ⟨HSF, HBF⟩ := HFIN.out nq
                    go_wp2
                    go_roundw
                    case rel => exact ⟨k + 1, x', vr', va', sv', uv', by go_num, by omega, HSF, HSTL, HSV6, HBF⟩
                    case measure => simp [intOf]; omega
                  · subst z
                    go_upto_region 23 with fail
                    go_quiet (first | (go_at_call 21; refine HRU.out _))
                    obtain ⟨HSF, HBF⟩ := HFIN.out nq
                    go_wp2
                    go_roundw
                    case rel => exact ⟨k + 1, x', vr', va', sv', uv', by go_num, by omega, HSF, HSTL, HSV6, HBF⟩
                    case measure => simp [intOf]; omega
              · have h8b : (ae == 8) = false := by simpa using h8
                go_wp2
                go_roundw
                case rel => exact ⟨k + 1, x', vr', va', sv', uv', by go_num, by omega, HS8, HSTL, HSV6, HB8⟩
                case measure => simp [intOf]; omega
    · go_wp2
      go_ret
      exact ⟨rfl, HBL.out⟩
end Go.Proofs.Qxb6500778a
