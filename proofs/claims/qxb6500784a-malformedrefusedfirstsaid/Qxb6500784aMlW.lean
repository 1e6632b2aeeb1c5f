import Derived.Test.Qxb6500784aLh
import Derived.Test.Qxb6500784aSp3
namespace Go.Proofs.Qxb6500784a
open Go.RowKit

attribute [-simp] Try.isAgg95 Try.sizeOf95 Try.typeInfo95 Try.isAgg70 Try.sizeOf70 Try.typeInfo70 Try.isAgg65 Try.sizeOf65 Try.typeInfo65 Try.isAgg56 Try.sizeOf56 Try.typeInfo56
attribute [local irreducible] rootP shaP
set_option linter.unusedSimpArgs false in
set_option maxRecDepth 100000 in
set_option maxHeartbeats 8000000 in
theorem malformed_walk (w : World) (a : Option Addr) (n cap : Nat) (O : Nat → OpR) (hn : n ≤ 9223372036854775807) (ho : OpsAt4 w a n O) :
    Calls Try.prog 5 #[.slice a n cap] w fun e w' => e = .returned (.bool true) ∧ Below w.heap.size w w' := by
  have HO := hide ho.1.1.1
  have HO4 := hide ho.2
  clear ho
  go_enter Try.func5, Try.ntmps5
  go_wp2_with fail
  refine (small_n _ a n cap O hn HO.out).mono ?_
  rintro e w ⟨bb, ⟨rfl, rfl⟩, hsmall⟩
  cases bb
  · go_wp2
    go_ret
    exact ⟨rfl, Below.refl _ _⟩
  have HSM := hide (hsmall rfl)
  clear hsmall
  go_upto_region 4 with (go_at_call 19; refine (newPairL_any _).mono ?_; rintro e w1 ⟨rfl, S0, hp, hb, hg⟩; have HH0 : Hid (HL w w.heap.size 0 pr0 S0 w1) := (⟨iv0, hp, hb, hg⟩ : HL w w.heap.size 0 pr0 S0 w1); clear hp hb hg; simp only [])
  obtain ⟨b, hb⟩ : ∃ b, w.heap.size = b := ⟨_, rfl⟩
  have HBb : Hid (w.heap.size ≤ b) := by rw [← hb]; exact Nat.le_refl _
  simp only [hb] at HH0 ⊢
  clear hb
  go_wp2
  go_loopw [18] (fun s20 wr => ∃ (k : Nat) (P : Pr) (S : List Nat), k ≤ n ∧ s20 = .int .i64 k ∧ HL w b k P S wr) (fun s20 _ => n - (intOf s20).toNat)
  case atStart => exact ⟨0, pr0, S0, Nat.zero_le _, rfl, HH0.out⟩
  case round =>
    clear HH0
    obtain ⟨k, P, S, hk, rfl, hh⟩ := hrel
    have HH := hide hh
    clear hh
    by_cases hlt : k < n
    · have d1 : decide ((k : Int) < (n : Int)) = true := by simp; omega
      have hki : (k : Int) < (n : Int) := by omega
      obtain ⟨lb, off, ha, hc, hop⟩ := (HO.out.below HH.out.be) k hlt
      subst ha
      obtain ⟨⟨kd, ch, pt, gs, ac, tk, am, hv, hr1, hr2, hr3, hr4, hr5⟩⟩ := (HO4.out k hlt).1
      have HRR := hide (And.intro hr1 (And.intro hr2 (And.intro hr3 (And.intro hr4 hr5))))
      have HVV := hide (HO4.out k hlt).2
      have HLN := hide hop.ln
      have HLG : Hid (LegsAt w (O k).la (O k).ln (O k).L) := by
        obtain ⟨_, _, _, _, h5⟩ := HO.out k hlt
        exact h5.legs
      have o0 : wr.cell? ⟨lb, off + k * 8, none⟩ = some (.int .i64 kd) := by have := hc 0 (by omega); rw [hv 0 (by omega)] at this; exact this
      have o1 : wr.cell? ⟨lb, off + k * 8 + 1, none⟩ = some (.slice (O k).la (O k).ln (O k).lc) := by have := hc 1 (by omega); rw [hv 1 (by omega)] at this; exact this
      have o2 : wr.cell? ⟨lb, off + k * 8 + 2, none⟩ = some (.int .u8 ch) := by have := hc 2 (by omega); rw [hv 2 (by omega)] at this; exact this
      have o3 : wr.cell? ⟨lb, off + k * 8 + 3, none⟩ = some (.int .i64 pt) := by have := hc 3 (by omega); rw [hv 3 (by omega)] at this; exact this
      have o4 : wr.cell? ⟨lb, off + k * 8 + 4, none⟩ = some (.int .u64 gs) := by have := hc 4 (by omega); rw [hv 4 (by omega)] at this; exact this
      have o5 : wr.cell? ⟨lb, off + k * 8 + 5, none⟩ = some (.int .u8 ac) := by have := hc 5 (by omega); rw [hv 5 (by omega)] at this; exact this
      have o6 : wr.cell? ⟨lb, off + k * 8 + 6, none⟩ = some (.int .u8 tk) := by have := hc 6 (by omega); rw [hv 6 (by omega)] at this; exact this
      have o7 : wr.cell? ⟨lb, off + k * 8 + 7, none⟩ = some (.int .u64 am) := by have := hc 7 (by omega); rw [hv 7 (by omega)] at this; exact this
      clear hc hop hv hr1 hr2 hr3 hr4 hr5
      generalize (O k).la = la at *
      generalize (O k).ln = ln at *
      generalize (O k).lc = lc at *
      generalize (O k).L = L at *
      have HBE := hide (be1 wr (.cells #[.int .i64 kd, .slice la ln lc, .int .u8 ch, .int .i64 pt, .int .u64 gs, .int .u8 ac, .int .u8 tk, .int .u64 am] 33))
      have HN := hide (newR wr [.int .i64 kd, .slice la ln lc, .int .u8 ch, .int .i64 pt, .int .u64 gs, .int .u8 ac, .int .u8 tk, .int .u64 am] 33)
      go_upto_region 7 with fail
      obtain ⟨D, hD⟩ : ∃ D, wr.heap.size = D := ⟨_, rfl⟩
      have HSZ : Hid ((wr.alloc (.cells #[.int .i64 kd, .slice la ln lc, .int .u8 ch, .int .i64 pt, .int .u64 gs, .int .u8 ac, .int .u8 tk, .int .u64 am] 33)).heap.size = D + 1) := by show _ = _; rw [← hD]; simp
      have HDD : Hid (b < D ∧ ∀ j, j ∈ S → j < D) := by rw [← hD]; exact ⟨HH.out.pp.bl, fun j hj => HH.out.pp.lt hj⟩
      have HH2 := hide (HH.out.below HBE.out)
      rw [hD] at HN ⊢
      clear hD o0 o1 o2 o3 o4 o5 o6 o7 HH
      generalize wr.alloc (.cells #[.int .i64 kd, .slice la ln lc, .int .u8 ch, .int .i64 pt, .int .u64 gs, .int .u8 ac, .int .u8 tk, .int .u64 am] 33) = w2 at *
      clear HBE
      have HZK : Hid (9 * k ≤ 800000000000) := by show 9 * k ≤ _; have := HSM.out; omega
      have HST : Hid (∀ (S : List Nat) (x : World), HL w b k P S x → Calls Try.prog 22 #[.pointer (some ⟨b, 0, none⟩), .agg #[.int .i64 kd, .slice la ln lc, .int .u8 ch, .int .i64 pt, .int .u64 gs, .int .u8 ac, .int .u8 tk, .int .u64 am]] x fun e w' => ∃ v, StPost x b S (stepS P kd ln L (fun q => txOf (L q)) ch pt gs ac tk am) (stepAn P kd ln L (fun q => txOf (L q)) ch pt gs ac tk am v) e w') := fun S x hx =>
        step_any x w b P S hx.pp (hx.iv.psm HZK.out) hx.be HBb.out hx.ge hx.iv.gi.oa hx.iv.gi.ob kd la ln lc L (fun q => txOf (L q)) HLN.out HLG.out (fun _ => HVV.out) (9 * k) hx.iv.bd HZK.out ch pt gs ac tk am HRR.out.1 HRR.out.2.1 HRR.out.2.2.1 HRR.out.2.2.2.1 HRR.out.2.2.2.2
      have HIN : Hid (Iv (9 * (k + 1)) (stepS P kd ln L (fun q => txOf (L q)) ch pt gs ac tk am)) := iv_step HH2.out.iv (fun q hq => (HVV.out q hq).k) HRR.out.2.1
      have p0 : w2.cell? ⟨D, 0, none⟩ = some (.int .i64 kd) := by have := HN.out 0 _ rfl; rwa [Nat.zero_add] at this
      have p1 : w2.cell? ⟨D, 1, none⟩ = some (.slice la ln lc) := by have := HN.out 1 _ rfl; rwa [Nat.zero_add] at this
      have p2 : w2.cell? ⟨D, 2, none⟩ = some (.int .u8 ch) := by have := HN.out 2 _ rfl; rwa [Nat.zero_add] at this
      have p3 : w2.cell? ⟨D, 3, none⟩ = some (.int .i64 pt) := by have := HN.out 3 _ rfl; rwa [Nat.zero_add] at this
      have p4 : w2.cell? ⟨D, 4, none⟩ = some (.int .u64 gs) := by have := HN.out 4 _ rfl; rwa [Nat.zero_add] at this
      have p5 : w2.cell? ⟨D, 5, none⟩ = some (.int .u8 ac) := by have := HN.out 5 _ rfl; rwa [Nat.zero_add] at this
      have p6 : w2.cell? ⟨D, 6, none⟩ = some (.int .u8 tk) := by have := HN.out 6 _ rfl; rwa [Nat.zero_add] at this
      have p7 : w2.cell? ⟨D, 7, none⟩ = some (.int .u64 am) := by have := HN.out 7 _ rfl; rwa [Nat.zero_add] at this
      generalize stepS P kd ln L (fun q => txOf (L q)) ch pt gs ac tk am = P2 at *
      generalize stepAn P kd ln L (fun q => txOf (L q)) ch pt gs ac tk am = AN at *
      go_upto_region 8 with (go_at_call 22; refine (HST.out S w2 HH2.out).mono ?_; rintro e y3 ⟨v, vo, vr, vs, C, S3, rfl, hrl, hok, hmo, hk3, hp3, hC3⟩; have HK3 := hide hk3; have HP3 := hide hp3; clear hrl hok hmo hk3 hp3 hC3; simp only [])
      have HH5 := hide (HH2.out.link HBb.out HK3.out HP3.out HIN.out)
      have HN3 := hide (range_ex HN.out (by have := HSZ.out; omega) HK3.out.1 (fun e => by
        rcases e with z | z
        · have := HDD.out.1; omega
        · have := HDD.out.2 _ z; omega))
      have HS3 : Hid (D < y3.heap.size) := by have := HSZ.out; have := HK3.out.1.size; show D < _; omega
      have HZ2 : Hid (9 * (k + 1) ≤ 800000000000) := by show 9 * (k + 1) ≤ _; have := HSM.out; omega
      have HPS : Hid (PSm P2) := HH5.out.iv.psm HZ2.out
      generalize (AN v).vals vo vr vs = AV at *
      clear HK3 HP3 HST HIN HH2 HN HSZ HDD HZK p0 p1 p2 p3 p4 p5 p6 p7
      go_wp2
      go_loopw [6] (fun s6 wx => ∃ q : Nat, 1 ≤ q ∧ q ≤ 10 ∧ s6 = .int .i64 q ∧ Below y3.heap.size y3 wx) (fun s6 _ => 10 - (intOf s6).toNat)
      case atStart => exact ⟨1, by omega, by omega, rfl, Below.refl _ _⟩
      case round =>
        obtain ⟨q, hq1, hq10, rfl, hbx⟩ := hrel
        have HBX := hide hbx
        clear hbx
        by_cases hq9 : q ≤ 9
        · have d9 : decide ((q : Int) ≤ 9) = true := by simp; omega
          have HX := hide (HH5.out.below HBX.out)
          have p1 : wr.cell? ⟨D, 1, none⟩ = some (.slice la ln lc) := cellKeep HBX.out (by have := HN3.out 1 _ rfl; rwa [Nat.zero_add] at this)
          go_upto_region 12 with (first | (go_at_call 27; refine (wellFormed_any wr la ln lc L HLN.out (HLG.out.below HX.out.be) (fun q hq => ⟨(HVV.out q hq).l, (HVV.out q hq).o⟩)).mono ?_; rintro e x1 ⟨s, m, R, rfl, hb1, ho1, hm7, hl1, hw1⟩; obtain ⟨g, cap, rfl⟩ := own_some ho1 (by omega); have HX1 := hide (HX.out.below hb1); have HB1 := hide (lec HBX.out hb1); have HSI : Hid (SpI wr.heap.size x1 g m cap R) := (⟨ho1, hm7, hl1, hw1, hb1.size⟩ : SpI wr.heap.size x1 g m cap R); have HBR := hide hb1; clear hb1 ho1 hm7 hl1 hw1; simp only []) | (go_at_call 26; refine (spoil_any wr.heap.size x1 g m cap R HSI.out q hq1 hq9).mono ?_; rintro e x2 ⟨sa, sn, sc, L2, cd, rfl, hcd, hn9, hlg, hor, hbe⟩; have HX2 := hide (HX.out.below (HBR.out.trans hbe)); have HB2 := hide (lec HBX.out (HBR.out.trans hbe)); have HLG2 := hide hlg; have HOR := hide hor; have HCD := hide hcd; have HN9 := hide hn9; clear hlg hor hbe hcd hn9; simp only []))
          have HBn := hide (be1 x2 (.cells #[.slice sa sn sc] 27))
          have HX3 := hide (HX2.out.below HBn.out)
          have HB3 := hide (lec HB2.out HBn.out)
          have HLG3 := hide (HLG2.out.below HBn.out)
          have HNb := hide (newR x2 [.slice sa sn sc] 27)
          obtain ⟨E, hE⟩ : ∃ E, x2.heap.size = E := ⟨_, rfl⟩
          have HSE : Hid ((x2.alloc (.cells #[.slice sa sn sc] 27)).heap.size = E + 1) := by show _ = _; simp [hE]
          rw [hE] at HNb ⊢
          generalize x2.alloc (.cells #[.slice sa sn sc] 27) = x3 at *
          clear hE HBn HLG2 HX2 HB2 HX1 HB1 HSI HBR p1
          go_wp2_with (go_at_call 20; refine (worldNew x3 b P2 S3 HX3.out.pp HPS.out).mono ?_; rintro e y1 ⟨F1, S1, rfl, hl1, ho1, hb1, hs1, hp1⟩; have HF1l := hide hl1; have HF11 := hide ho1; have HB1 := hide hb1; have HP1 := hide hp1; clear hl1 ho1 hb1 hs1 hp1; simp only [])
          simp only [Try.sizeOf56, Result.andThen, HF1l.out, ↓reduceIte, stNew y1 56 Try.zeroCells56 F1 667 Try.sz56 Try.zs56 HF1l.out HF11.out]
          rw [Oper.upon_skip]
          simp only [Act.put]
          have HB4 := hide (lec HB1.out (be1 y1 (.cells F1.toArray 56)))
          have HX4 := hide (HX3.out.below HB4.out)
          have HB5 := hide (lec HB3.out HB4.out)
          have HLG4 := hide (HLG3.out.below HB4.out)
          have HNc := hide (range_below HNb.out (by have := HSE.out; omega) HB4.out)
          obtain ⟨A1, hA1⟩ : ∃ A, y1.heap.size = A := ⟨_, rfl⟩
          rw [hA1] at HP1 ⊢
          generalize y1.alloc (.cells F1.toArray 56) = y2 at *
          clear hA1 HF1l HF11 HB1
          have b0 : y2.cell? ⟨E, 0, none⟩ = some (.slice sa sn sc) := by have := HNc.out 0 _ rfl; rwa [Nat.zero_add] at this
          have HIB := hide (include_bad y2 b sa sn sc L2 (by have := HN9.out; omega) HLG4.out (by rw [HOR.out]; exact HCD.out))
          rw [HOR.out] at HIB
          have HF2l : Hid (((refR cd (-1)).vals nilS nilS nilS).length = 70) := Rs.len (refR_ok _ _) _ _ _
          have HF2o : Hid (∀ u ∈ (refR cd (-1)).vals nilS nilS nilS, u.oneCell' = true) := Rs.one _ rfl rfl rfl
          have HF2v : Hid (((refR cd (-1)).vals nilS nilS nilS)[0]? = some (.int .i64 cd) ∧ ((refR cd (-1)).vals nilS nilS nilS)[1]? = some (.int .i64 (-1)) ∧ ((refR cd (-1)).vals nilS nilS nilS)[2]? = some nilS) := ⟨rfl, rfl, rfl⟩
          generalize (refR cd (-1)).vals nilS nilS nilS = F2 at *
          go_wp2_with (go_at_call 28; refine HIB.out.mono ?_; rintro e y3' ⟨rfl, hb⟩; have HB6 := hide hb; clear hb; simp only [])
          simp only [Try.sizeOf65, Result.andThen, HF2l.out, ↓reduceIte, stNew y3' 65 Try.zeroCells65 F2 70 Try.sz65 Try.zs65 HF2l.out HF2o.out]
          rw [Oper.upon_skip]
          simp only [Act.put]
          have HB7 := hide (lec HB6.out (be1 y3' (.cells F2.toArray 65)))
          have HX5 := hide (HX4.out.below HB7.out)
          have HB8 := hide (lec HB5.out HB7.out)
          have HP2 := hide (HP1.out.below HB7.out)
          have HRF := hide (newR y3' F2 65)
          obtain ⟨A2, hA2⟩ : ∃ A, y3'.heap.size = A := ⟨_, rfl⟩
          have HZA : Hid (A2 < (y3'.alloc (.cells F2.toArray 65)).heap.size) := by show _ < _; simp [hA2]
          rw [hA2] at HRF ⊢
          generalize y3'.alloc (.cells F2.toArray 65) = y4 at *
          clear hA2 HB6 HF2l HF2o HIB b0 HNc HNb HLG3 HLG4
          go_wp2_with (go_at_call 20; refine (worldNew y4 b P2 S3 HX5.out.pp HPS.out).mono ?_; rintro e y5 ⟨F3, S5, rfl, hl1, ho1, hb1, hs1, hp1⟩; have HF3l := hide hl1; have HF31 := hide ho1; have HB9 := hide hb1; have HP5 := hide hp1; clear hl1 ho1 hb1 hs1 hp1; simp only [])
          simp only [Try.sizeOf56, Result.andThen, HF3l.out, ↓reduceIte, stNew y5 56 Try.zeroCells56 F3 667 Try.sz56 Try.zs56 HF3l.out HF31.out]
          rw [Oper.upon_skip]
          simp only [Act.put]
          have HB10 := hide (lec HB9.out (be1 y5 (.cells F3.toArray 56)))
          have HB11 := hide (lec HB8.out HB10.out)
          have HRG := hide (range_below HRF.out HZA.out HB10.out)
          obtain ⟨A3, hA3⟩ : ∃ A, y5.heap.size = A := ⟨_, rfl⟩
          rw [hA3] at HP5 ⊢
          generalize y5.alloc (.cells F3.toArray 56) = y6 at *
          clear hA3 HF3l HF31 HB9
          have HSA : Hid (Calls Try.prog 23 #[.pointer (some ⟨A1, 0, none⟩), .pointer (some ⟨A3, 0, none⟩)] y6 fun e w' => e = .returned (.bool true) ∧ Below y6.heap.size y6 w') := sameP_any y6 A1 A3 P2 S1 S5 (HP2.out.below HB10.out) HP5.out HPS.out
          have c0 : y6.cell? ⟨A2, 0, none⟩ = some (.int .i64 cd) := by have := HRG.out 0 _ HF2v.out.1; rwa [Nat.zero_add] at this
          have c1 : y6.cell? ⟨A2, 1, none⟩ = some (.int .i64 (-1)) := by have := HRG.out 1 _ HF2v.out.2.1; rwa [Nat.zero_add] at this
          have c2 : y6.cell? ⟨A2, 2, none⟩ = some nilS := by have := HRG.out 2 _ HF2v.out.2.2; rwa [Nat.zero_add] at this
          clear HP1 HP2 HP5 HX3 HX4 HX5 HB3 HB4 HB5 HB7 HB8 HB10 HRF HRG HF2v HZA HX
          go_wp2_with (go_at_call 23; refine HSA.out.mono ?_; rintro e z9 ⟨rfl, hbe⟩; have HB12 := hide (lec HB11.out hbe); clear hbe; simp only [])
          go_roundw
          case rel => exact ⟨q + 1, by omega, by omega, by go_num, HB12.out⟩
          case measure => simp [intOf]; omega
        · obtain rfl : q = 10 := by omega
          have HX := hide (HH5.out.below HBX.out)
          go_wp2
          go_roundw
          case rel => exact ⟨k + 1, P2, S3, by omega, by go_num, HX.out⟩
          case measure => simp [intOf]; omega
    · obtain rfl : k = n := by omega
      have d1 : decide ((k : Int) < (k : Int)) = false := by simp
      have HBX := hide HH.out.be
      go_wp2
      go_ret
      exact ⟨rfl, HBX.out⟩
end Go.Proofs.Qxb6500784a
