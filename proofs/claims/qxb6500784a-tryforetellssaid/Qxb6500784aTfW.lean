import Derived.Test.Qxb6500784aLh
import Derived.Test.Qxb6500784aSz
namespace Go.Proofs.Qxb6500784a
open Go.RowKit

attribute [-simp] Try.isAgg95 Try.sizeOf95 Try.typeInfo95 Try.isAgg70 Try.sizeOf70 Try.typeInfo70 Try.isAgg65 Try.sizeOf65 Try.typeInfo65 Try.isAgg56 Try.sizeOf56 Try.typeInfo56
attribute [local irreducible] rootP shaP
set_option linter.unusedSimpArgs false in
set_option maxRecDepth 100000 in
set_option maxHeartbeats 8000000 in
theorem tryForetells_walk (w : World) (a : Option Addr) (n cap : Nat) (O : Nat → OpR) (hn : n ≤ 9223372036854775807) (ho : OpsAt4 w a n O) :
    Calls Try.prog 8 #[.slice a n cap] w fun e w' => e = .returned (.bool true) ∧ Below w.heap.size w w' := by
  have HO := hide ho.1.1.1
  have HO4 := hide ho.2
  clear ho
  go_enter Try.func8, Try.ntmps8
  go_wp2_with fail
  refine (small_n _ a n cap O hn HO.out).mono ?_
  rintro e w ⟨bb, ⟨rfl, rfl⟩, hsmall⟩
  cases bb
  · go_wp2
    go_ret
    exact ⟨rfl, Below.refl _ _⟩
  have HSM := hide (hsmall rfl)
  clear hsmall
  go_upto_region 4 with (go_at_call 19; refine (newPairL_any _).mono ?_; rintro e w1 ⟨rfl, S0, hp, hb, hg⟩; have HH0 : Hid (HL w w.heap.size 0 pr0 S0 w1) := (⟨iv0, hp, hb, hg⟩ : HL w w.heap.size 0 pr0 S0 w1); clear hp hb hg; simp only [])
  obtain ⟨b, hb⟩ : ∃ b, w.heap.size = b := ⟨_, rfl⟩
  have HBb : Hid (w.heap.size ≤ b) := by rw [← hb]; exact Nat.le_refl _
  simp only [hb] at HH0 ⊢
  clear hb
  go_wp2
  go_loopw [16] (fun s20 wr => ∃ (k : Nat) (P : Pr) (S : List Nat), k ≤ n ∧ s20 = .int .i64 k ∧ HL w b k P S wr) (fun s20 _ => n - (intOf s20).toNat)
  case atStart => exact ⟨0, pr0, S0, Nat.zero_le _, rfl, HH0.out⟩
  case round =>
    clear HH0
    obtain ⟨k, P, S, hk, rfl, hh⟩ := hrel
    have HH := hide hh
    clear hh
    by_cases hlt : k < n
    · have d1 : decide ((k : Int) < (n : Int)) = true := by simp; omega
      have hki : (k : Int) < (n : Int) := by omega
      obtain ⟨lb, off, ha, hc, hop⟩ := (HO.out.below HH.out.be) k hlt
      subst ha
      obtain ⟨⟨kd, ch, pt, gs, ac, tk, am, hv, hr1, hr2, hr3, hr4, hr5⟩⟩ := (HO4.out k hlt).1
      have HRR := hide (And.intro hr1 (And.intro hr2 (And.intro hr3 (And.intro hr4 hr5))))
      have HVV := hide (HO4.out k hlt).2
      have HLN := hide hop.ln
      have HLG : Hid (LegsAt w (O k).la (O k).ln (O k).L) := by
        obtain ⟨_, _, _, _, h5⟩ := HO.out k hlt
        exact h5.legs
      have o0 : wr.cell? ⟨lb, off + k * 8, none⟩ = some (.int .i64 kd) := by have := hc 0 (by omega); rw [hv 0 (by omega)] at this; exact this
      have o1 : wr.cell? ⟨lb, off + k * 8 + 1, none⟩ = some (.slice (O k).la (O k).ln (O k).lc) := by have := hc 1 (by omega); rw [hv 1 (by omega)] at this; exact this
      have o2 : wr.cell? ⟨lb, off + k * 8 + 2, none⟩ = some (.int .u8 ch) := by have := hc 2 (by omega); rw [hv 2 (by omega)] at this; exact this
      have o3 : wr.cell? ⟨lb, off + k * 8 + 3, none⟩ = some (.int .i64 pt) := by have := hc 3 (by omega); rw [hv 3 (by omega)] at this; exact this
      have o4 : wr.cell? ⟨lb, off + k * 8 + 4, none⟩ = some (.int .u64 gs) := by have := hc 4 (by omega); rw [hv 4 (by omega)] at this; exact this
      have o5 : wr.cell? ⟨lb, off + k * 8 + 5, none⟩ = some (.int .u8 ac) := by have := hc 5 (by omega); rw [hv 5 (by omega)] at this; exact this
      have o6 : wr.cell? ⟨lb, off + k * 8 + 6, none⟩ = some (.int .u8 tk) := by have := hc 6 (by omega); rw [hv 6 (by omega)] at this; exact this
      have o7 : wr.cell? ⟨lb, off + k * 8 + 7, none⟩ = some (.int .u64 am) := by have := hc 7 (by omega); rw [hv 7 (by omega)] at this; exact this
      clear hc hop hv hr1 hr2 hr3 hr4 hr5
      generalize (O k).la = la at *
      generalize (O k).ln = ln at *
      generalize (O k).lc = lc at *
      generalize (O k).L = L at *
      have HBE := hide (be1 wr (.cells #[.int .i64 kd, .slice la ln lc, .int .u8 ch, .int .i64 pt, .int .u64 gs, .int .u8 ac, .int .u8 tk, .int .u64 am] 33))
      have HN := hide (newR wr [.int .i64 kd, .slice la ln lc, .int .u8 ch, .int .i64 pt, .int .u64 gs, .int .u8 ac, .int .u8 tk, .int .u64 am] 33)
      go_upto_region 7 with fail
      obtain ⟨D, hD⟩ : ∃ D, wr.heap.size = D := ⟨_, rfl⟩
      have HSZ : Hid ((wr.alloc (.cells #[.int .i64 kd, .slice la ln lc, .int .u8 ch, .int .i64 pt, .int .u64 gs, .int .u8 ac, .int .u8 tk, .int .u64 am] 33)).heap.size = D + 1) := by show _ = _; rw [← hD]; simp
      have HDD : Hid (b < D ∧ ∀ j, j ∈ S → j < D) := by rw [← hD]; exact ⟨HH.out.pp.bl, fun j hj => HH.out.pp.lt hj⟩
      have HH2 := hide (HH.out.below HBE.out)
      rw [hD] at HN ⊢
      clear hD o0 o1 o2 o3 o4 o5 o6 o7 HH
      generalize wr.alloc (.cells #[.int .i64 kd, .slice la ln lc, .int .u8 ch, .int .i64 pt, .int .u64 gs, .int .u8 ac, .int .u8 tk, .int .u64 am] 33) = w2 at *
      clear HBE
      have HZK : Hid (9 * k ≤ 800000000000) := by show 9 * k ≤ _; have := HSM.out; omega
      have HST : Hid (∀ (S : List Nat) (x : World), HL w b k P S x → Calls Try.prog 22 #[.pointer (some ⟨b, 0, none⟩), .agg #[.int .i64 kd, .slice la ln lc, .int .u8 ch, .int .i64 pt, .int .u64 gs, .int .u8 ac, .int .u8 tk, .int .u64 am]] x fun e w' => ∃ v, StPost x b S (stepS P kd ln L (fun q => txOf (L q)) ch pt gs ac tk am) (stepAn P kd ln L (fun q => txOf (L q)) ch pt gs ac tk am v) e w') := fun S x hx =>
        step_any x w b P S hx.pp (hx.iv.psm HZK.out) hx.be HBb.out hx.ge hx.iv.gi.oa hx.iv.gi.ob kd la ln lc L (fun q => txOf (L q)) HLN.out HLG.out (fun _ => HVV.out) (9 * k) hx.iv.bd HZK.out ch pt gs ac tk am HRR.out.1 HRR.out.2.1 HRR.out.2.2.1 HRR.out.2.2.2.1 HRR.out.2.2.2.2
      have HIN : Hid (Iv (9 * (k + 1)) (stepS P kd ln L (fun q => txOf (L q)) ch pt gs ac tk am)) := iv_step HH2.out.iv (fun q hq => (HVV.out q hq).k) HRR.out.2.1
      have p0 : w2.cell? ⟨D, 0, none⟩ = some (.int .i64 kd) := by have := HN.out 0 _ rfl; rwa [Nat.zero_add] at this
      have p1 : w2.cell? ⟨D, 1, none⟩ = some (.slice la ln lc) := by have := HN.out 1 _ rfl; rwa [Nat.zero_add] at this
      have p2 : w2.cell? ⟨D, 2, none⟩ = some (.int .u8 ch) := by have := HN.out 2 _ rfl; rwa [Nat.zero_add] at this
      have p3 : w2.cell? ⟨D, 3, none⟩ = some (.int .i64 pt) := by have := HN.out 3 _ rfl; rwa [Nat.zero_add] at this
      have p4 : w2.cell? ⟨D, 4, none⟩ = some (.int .u64 gs) := by have := HN.out 4 _ rfl; rwa [Nat.zero_add] at this
      have p5 : w2.cell? ⟨D, 5, none⟩ = some (.int .u8 ac) := by have := HN.out 5 _ rfl; rwa [Nat.zero_add] at this
      have p6 : w2.cell? ⟨D, 6, none⟩ = some (.int .u8 tk) := by have := HN.out 6 _ rfl; rwa [Nat.zero_add] at this
      have p7 : w2.cell? ⟨D, 7, none⟩ = some (.int .u64 am) := by have := HN.out 7 _ rfl; rwa [Nat.zero_add] at this
      have HTR : Hid (∀ (x : World), HL w b k P S x → Calls Try.prog 34 #[.pointer (some ⟨b, 0, none⟩), .agg #[.slice la ln lc]] x fun e w' => ∃ v, SimPost x b S P (simR P ln L (fun q => txOf (L q)) v) e w') := fun x hx => by
        have := try_any x w b P S hx.pp (hx.iv.psm HZK.out) hx.be HBb.out hx.ge la ln lc L (fun q => txOf (L q)) HLN.out HLG.out (fun _ => HVV.out) (9 * k) hx.iv.bd HZK.out
        rw [simS_false] at this
        exact this
      have HRE : Hid (∀ v v', (kd = 1 ∨ kd = 2) → RsE (simR P ln L (fun q => txOf (L q)) v) (stepAn P kd ln L (fun q => txOf (L q)) ch pt gs ac tk am v').r) := fun v v' hh => by
        have e : stepAn P kd ln L (fun q => txOf (L q)) ch pt gs ac tk am v' = ⟨(simR P ln L (fun q => txOf (L q)) v').code, simR P ln L (fun q => txOf (L q)) v', msg0⟩ := if_pos hh
        rw [e]
        exact simR_E _ _ _ _ _ _
      generalize stepS P kd ln L (fun q => txOf (L q)) ch pt gs ac tk am = P2 at *
      generalize stepAn P kd ln L (fun q => txOf (L q)) ch pt gs ac tk am = AN at *
      generalize simR P ln L (fun q => txOf (L q)) = RR at *
      go_wp2_with (go_at_call 20; refine (worldNew w2 b P S HH2.out.pp (HH2.out.iv.psm HZK.out)).mono ?_; rintro e y1 ⟨F1, S1, rfl, hl1, ho1, hb1, hs1, hp1⟩; have HF1l := hide hl1; have HF11 := hide ho1; have HB1 := hide hb1; have HS1 := hide hs1; have HP1 := hide hp1; clear hl1 ho1 hb1 hs1 hp1; simp only [])
      simp only [Try.sizeOf56, Result.andThen, HF1l.out, ↓reduceIte, stNew y1 56 Try.zeroCells56 F1 667 Try.sz56 Try.zs56 HF1l.out HF11.out]
      rw [Oper.upon_skip]
      simp only [Act.put]
      have HB2 := hide (lec HB1.out (be1 y1 (.cells F1.toArray 56)))
      have HH3 := hide (HH2.out.below HB2.out)
      have HN1 := hide (range_below HN.out (by have := HSZ.out; omega) HB2.out)
      obtain ⟨A1, hA1⟩ : ∃ A, y1.heap.size = A := ⟨_, rfl⟩
      have HZ1 : Hid (D < A1 ∧ A1 < (y1.alloc (.cells F1.toArray 56)).heap.size) := ⟨by have := HSZ.out; have := HB1.out.size; omega, by simp [hA1]⟩
      have HX1 : Hid (∀ j, j = A1 ∨ j ∈ S1 → ¬ (j = b ∨ j ∈ S)) := fun j hj hh => by
        have hjw : D + 1 ≤ j := by
          rcases hj with rfl | hj
          · have := HZ1.out.1; omega
          · have := (HS1.out j hj).1; have := HSZ.out; omega
        rcases hh with rfl | hh
        · have := HDD.out.1; omega
        · have := HDD.out.2 j hh; omega
      rw [hA1] at HP1 ⊢
      generalize y1.alloc (.cells F1.toArray 56) = y2 at *
      clear hA1 HF1l HF11 HB1 HS1
      clear p0 p1 p2 p3 p4 p5 p6 p7
      have p0 : y2.cell? ⟨D, 0, none⟩ = some (.int .i64 kd) := by have := HN1.out 0 _ rfl; rwa [Nat.zero_add] at this
      have p1 : y2.cell? ⟨D, 1, none⟩ = some (.slice la ln lc) := by have := HN1.out 1 _ rfl; rwa [Nat.zero_add] at this
      have p2 : y2.cell? ⟨D, 2, none⟩ = some (.int .u8 ch) := by have := HN1.out 2 _ rfl; rwa [Nat.zero_add] at this
      have p3 : y2.cell? ⟨D, 3, none⟩ = some (.int .i64 pt) := by have := HN1.out 3 _ rfl; rwa [Nat.zero_add] at this
      have p4 : y2.cell? ⟨D, 4, none⟩ = some (.int .u64 gs) := by have := HN1.out 4 _ rfl; rwa [Nat.zero_add] at this
      have p5 : y2.cell? ⟨D, 5, none⟩ = some (.int .u8 ac) := by have := HN1.out 5 _ rfl; rwa [Nat.zero_add] at this
      have p6 : y2.cell? ⟨D, 6, none⟩ = some (.int .u8 tk) := by have := HN1.out 6 _ rfl; rwa [Nat.zero_add] at this
      have p7 : y2.cell? ⟨D, 7, none⟩ = some (.int .u64 am) := by have := HN1.out 7 _ rfl; rwa [Nat.zero_add] at this
      go_wp2_with (go_at_call 34; refine (HTR.out y2 HH3.out).mono ?_; rintro e y3 ⟨v, vo, vr, vs, C, S3, rfl, hrl, hok, hk3, hp3, hC3⟩; have HRL := hide hrl; have HOK := hide hok; have HK3 := hide hk3; have HP3 := hide hp3; have HC3 := hide hC3; clear hrl hok hk3 hp3 hC3; simp only [])
      have HF2o : Hid (∀ u ∈ (RR v).vals vo vr vs, u.oneCell' = true) := by
        obtain ⟨_, _, e1⟩ := own_form HRL.out.o
        obtain ⟨_, _, e2⟩ := own_form HRL.out.q
        obtain ⟨_, _, e3⟩ := own_form HRL.out.s
        exact Rs.one _ (by rw [e1]; rfl) (by rw [e2]; rfl) (by rw [e3]; rfl)
      have HF2l : Hid (((RR v).vals vo vr vs).length = 70) := Rs.len HOK.out _ _ _
      obtain ⟨F2, hF2⟩ : ∃ F, (RR v).vals vo vr vs = F := ⟨_, rfl⟩
      simp only [hF2] at HF2o HF2l ⊢
      simp only [Try.sizeOf65, Result.andThen, HF2l.out, ↓reduceIte, stNew y3 65 Try.zeroCells65 F2 70 Try.sz65 Try.zs65 HF2l.out HF2o.out]
      rw [Oper.upon_skip]
      simp only [Act.put]
      have HB4 := hide (be1 y3 (.cells F2.toArray 65))
      have HH4 := hide ((HH3.out.link0 HBb.out HK3.out HP3.out).below HB4.out)
      have HN2 := hide (range_below (range_ex HN1.out (by have := HZ1.out; omega) HK3.out.1 (fun e => by
        rcases e with z | z
        · have := HDD.out.1; omega
        · have := HDD.out.2 _ z; omega)) (Nat.lt_of_lt_of_le (show D < y2.heap.size by have := HZ1.out; omega) HK3.out.1.size) HB4.out)
      have HP1b := hide ((HP1.out.ex HK3.out.1 (HX1.out A1 (.inl rfl)) (fun j hj => HX1.out j (.inr hj))).below HB4.out)
      have HRL4 := hide (HRL.out.keep (Ex.of (S := fun _ => False) HB4.out) (fun _ _ e => e))
      have HRF := hide (newR y3 F2 65)
      obtain ⟨A2, hA2⟩ : ∃ A, y3.heap.size = A := ⟨_, rfl⟩
      have HZ2 : Hid (D < A2 ∧ A2 < (y3.alloc (.cells F2.toArray 65)).heap.size) := ⟨by have := HZ1.out; have := HK3.out.1.size; omega, by simp [hA2]⟩
      have HX2 : Hid (∀ j, j = A2 ∨ j ∈ C → ¬ (j = b ∨ j ∈ S3)) := fun j hj hh => by
        rcases hj with rfl | hj
        · rcases hh with z | z
          · have := HDD.out.1; have := HZ2.out; omega
          · have := HP3.out.lt z; omega
        · rcases hh with z | z
          · have := (HC3.out j hj).1; have := HDD.out.1; have := HZ1.out; omega
          · exact (HC3.out j hj).2 z
      have HDb : Hid (b < D ∧ ∀ j, j ∈ S3 → j ≠ D) := ⟨HDD.out.1, fun j hj e => by
        rcases HK3.out.2 j hj with z | z
        · have := HDD.out.2 j z; omega
        · have := HZ1.out; omega⟩
      rw [hA2] at HRF ⊢
      generalize y3.alloc (.cells F2.toArray 65) = y4 at *
      clear hA2 HB4 HK3 HP3 HC3 HRL HN1 HH3 HP1 HX1
      clear p0 p1 p2 p3 p4 p5 p6 p7
      have p0 : y4.cell? ⟨D, 0, none⟩ = some (.int .i64 kd) := by have := HN2.out 0 _ rfl; rwa [Nat.zero_add] at this
      have p1 : y4.cell? ⟨D, 1, none⟩ = some (.slice la ln lc) := by have := HN2.out 1 _ rfl; rwa [Nat.zero_add] at this
      have p2 : y4.cell? ⟨D, 2, none⟩ = some (.int .u8 ch) := by have := HN2.out 2 _ rfl; rwa [Nat.zero_add] at this
      have p3 : y4.cell? ⟨D, 3, none⟩ = some (.int .i64 pt) := by have := HN2.out 3 _ rfl; rwa [Nat.zero_add] at this
      have p4 : y4.cell? ⟨D, 4, none⟩ = some (.int .u64 gs) := by have := HN2.out 4 _ rfl; rwa [Nat.zero_add] at this
      have p5 : y4.cell? ⟨D, 5, none⟩ = some (.int .u8 ac) := by have := HN2.out 5 _ rfl; rwa [Nat.zero_add] at this
      have p6 : y4.cell? ⟨D, 6, none⟩ = some (.int .u8 tk) := by have := HN2.out 6 _ rfl; rwa [Nat.zero_add] at this
      have p7 : y4.cell? ⟨D, 7, none⟩ = some (.int .u64 am) := by have := HN2.out 7 _ rfl; rwa [Nat.zero_add] at this
      go_wp2_with (go_at_call 20; refine (worldNew y4 b P S3 HH4.out.pp (HH4.out.iv.psm HZK.out)).mono ?_; rintro e y5 ⟨F3, S5, rfl, hl1, ho1, hb1, hs1, hp1⟩; have HF3l := hide hl1; have HF31 := hide ho1; have HB5 := hide hb1; have HP5 := hide hp1; clear hl1 ho1 hb1 hs1 hp1; simp only [])
      simp only [Try.sizeOf56, Result.andThen, HF3l.out, ↓reduceIte, stNew y5 56 Try.zeroCells56 F3 667 Try.sz56 Try.zs56 HF3l.out HF31.out]
      rw [Oper.upon_skip]
      simp only [Act.put]
      have HB6 := hide (lec HB5.out (be1 y5 (.cells F3.toArray 56)))
      obtain ⟨A3, hA3⟩ : ∃ A, y5.heap.size = A := ⟨_, rfl⟩
      rw [hA3] at HP5 ⊢
      generalize y5.alloc (.cells F3.toArray 56) = y6 at *
      clear hA3 HF3l HF31 HB5
      have HSA : Hid (Calls Try.prog 23 #[.pointer (some ⟨A1, 0, none⟩), .pointer (some ⟨A3, 0, none⟩)] y6 fun e w' => e = .returned (.bool true) ∧ Below y6.heap.size y6 w') := sameP_any y6 A1 A3 P S1 S5 (HP1b.out.below HB6.out) HP5.out (HH4.out.iv.psm HZK.out)
      clear HP1b HP5
      clear p0 p1 p2 p3 p4 p5 p6 p7
      go_upto_region 12 with (go_at_call 23; refine HSA.out.mono ?_; rintro e y7 ⟨rfl, hbe⟩; have HB7 := hide (lec HB6.out hbe); clear hbe; simp only [])
      have HH7 := hide (HH4.out.below HB7.out)
      have HN3 := hide (range_below HN2.out (by have := HZ2.out; omega) HB7.out)
      have HRF7 := hide (range_below HRF.out HZ2.out.2 HB7.out)
      have HRL7 := hide (HRL4.out.keep (Ex.of (S := fun _ => False) HB7.out) (fun _ _ e => e))
      have HZ7 : Hid (D < A2 ∧ A2 < y7.heap.size) := ⟨HZ2.out.1, Nat.lt_of_lt_of_le HZ2.out.2 HB7.out.size⟩
      clear HB6 HB7 HSA HRL4 HRF HZ2 HH4 HN2
      have p0 : y7.cell? ⟨D, 0, none⟩ = some (.int .i64 kd) := by have := HN3.out 0 _ rfl; rwa [Nat.zero_add] at this
      have p1 : y7.cell? ⟨D, 1, none⟩ = some (.slice la ln lc) := by have := HN3.out 1 _ rfl; rwa [Nat.zero_add] at this
      have p2 : y7.cell? ⟨D, 2, none⟩ = some (.int .u8 ch) := by have := HN3.out 2 _ rfl; rwa [Nat.zero_add] at this
      have p3 : y7.cell? ⟨D, 3, none⟩ = some (.int .i64 pt) := by have := HN3.out 3 _ rfl; rwa [Nat.zero_add] at this
      have p4 : y7.cell? ⟨D, 4, none⟩ = some (.int .u64 gs) := by have := HN3.out 4 _ rfl; rwa [Nat.zero_add] at this
      have p5 : y7.cell? ⟨D, 5, none⟩ = some (.int .u8 ac) := by have := HN3.out 5 _ rfl; rwa [Nat.zero_add] at this
      have p6 : y7.cell? ⟨D, 6, none⟩ = some (.int .u8 tk) := by have := HN3.out 6 _ rfl; rwa [Nat.zero_add] at this
      have p7 : y7.cell? ⟨D, 7, none⟩ = some (.int .u64 am) := by have := HN3.out 7 _ rfl; rwa [Nat.zero_add] at this
      go_wp2_with (go_at_call 22; refine (HST.out S3 y7 HH7.out).mono ?_; rintro e y8 ⟨v', vo', vr', vs', C', S8, rfl, hrl, hok, hmo, hk8, hp8, hC8⟩; have HRL8 := hide hrl; have HOK8 := hide hok; have HMO8 := hide hmo; have HK8 := hide hk8; have HP8 := hide hp8; clear hrl hok hmo hk8 hp8 hC8; simp only [])
      have HH8 := hide (HH7.out.link HBb.out HK8.out HP8.out HIN.out)
      have HN4 := hide (range_ex HN3.out (by have := HZ7.out; omega) HK8.out.1 (fun e => by
        rcases e with z | z
        · have := HDb.out.1; omega
        · exact HDb.out.2 _ z rfl))
      have HRF8 := hide (range_ex HRF7.out HZ7.out.2 HK8.out.1 (HX2.out A2 (.inl rfl)))
      have HRL2 := hide (HRL7.out.keep HK8.out.1 (fun j hj => HX2.out j (.inr hj)))
      have HZ8 : Hid (D < A2 ∧ A2 < y8.heap.size) := ⟨HZ7.out.1, Nat.lt_of_lt_of_le HZ7.out.2 HK8.out.1.size⟩
      obtain ⟨F, hF⟩ : ∃ F, (AN v').vals vo' vr' vs' = F := ⟨_, rfl⟩
      have HFl : Hid (F.length = 112) := by rw [← hF]; exact An.len HOK8.out HMO8.out _ _ _
      have HF1 : Hid (∀ u ∈ F, u.oneCell' = true) := by
        rw [← hF]
        obtain ⟨_, _, e1⟩ := own_form HRL8.out.o
        obtain ⟨_, _, e2⟩ := own_form HRL8.out.q
        obtain ⟨_, _, e3⟩ := own_form HRL8.out.s
        exact An.one _ (by rw [e1]; rfl) (by rw [e2]; rfl) (by rw [e3]; rfl)
      simp only [hF]
      simp only [Try.sizeOf70, Result.andThen, HFl.out, ↓reduceIte, stNew y8 70 Try.zeroCells70 F 112 Try.sz70 Try.zs70 HFl.out HF1.out]
      rw [Oper.upon_skip]
      simp only [Act.put]
      have HB9 := hide (be1 y8 (.cells F.toArray 70))
      have HRA := hide (newR y8 F 70)
      obtain ⟨A4, hA4⟩ : ∃ A, y8.heap.size = A := ⟨_, rfl⟩
      rw [hA4] at HRA ⊢
      have HH9 := hide (HH8.out.below HB9.out)
      have HN5 := hide (range_below HN4.out (by have := HZ8.out; omega) HB9.out)
      have HRF9 := hide (range_below HRF8.out HZ8.out.2 HB9.out)
      have HRL9 := hide (HRL2.out.keep (Ex.of (S := fun _ => False) HB9.out) (fun _ _ e => e))
      have HRL10 := hide (HRL8.out.keep (Ex.of (S := fun _ => False) HB9.out) (fun _ _ e => e))
      generalize y8.alloc (.cells F.toArray 70) = y9 at *
      clear hA4 HB9 HRL2 HRF8 HN4 HH8 HRL8 HK8 HP8 HZ7 HZ8 HRL7 HRF7 HN3 HH7
      have HRB : Hid (y9.rangeAt A4 1 ((AN v').r.vals vo' vr' vs')) := by
        have h0 := HRA.out
        rw [← hF] at h0
        have h1 := (range_app (A := [.int .i64 (AN v').code]) (B := (AN v').r.vals vo' vr' vs' ++ msv (AN v').m) h0).2
        exact (range_app h1).1
      have HGl : Hid (((AN v').r.vals vo' vr' vs').length = 70) := Rs.len HOK8.out _ _ _
      have HSR : Hid ((kd = 1 ∨ kd = 2) → Calls Try.prog 35 #[.agg F2.toArray, .agg ((AN v').r.vals vo' vr' vs').toArray] y9 fun e w' => e = .returned (.bool true) ∧ Below y9.heap.size y9 w') := fun hh => by
        rw [← hF2]
        exact sameR_any y9 (RR v) (AN v').r vo vr vs vo' vr' vs' C C' HRL9.out HRL10.out (HRE.out v v' hh) HOK.out
      clear hF hF2 HRE HRL9 HRL10 HOK HOK8 HMO8 HST HTR HIN
      generalize (AN v').r.vals vo' vr' vs' = G at *
      have p0 : y9.cell? ⟨D, 0, none⟩ = some (.int .i64 kd) := by have := HN5.out 0 _ rfl; rwa [Nat.zero_add] at this
      by_cases hin : kd = 1 ∨ kd = 2
      · have HS9 := hide (HSR.out hin)
        clear HSR
        rcases hin with rfl | rfl
        all_goals
          go_wp2_with fail
          simp only [Try.isAgg65, Try.sizeOf65, Result.andThen, ↓reduceIte, ldC y9 A2 0 F2 70 HF2l.out HRF9.out]
          rw [Oper.upon_value]
          go_wp2_with fail
          simp only [Try.sizeOf65, Result.andThen, show ((70 : Nat) = 0) = False from by simp, ↓reduceIte]
          rw [Oper.upon_value]
          go_wp2_with fail
          simp only [Try.isAgg65, Try.sizeOf65, Result.andThen, ↓reduceIte, ldC y9 A4 1 G 70 HGl.out HRB.out]
          rw [Oper.upon_value]
          go_wp2_with (go_at_call 35; refine HS9.out.mono ?_; rintro e z9 ⟨rfl, hbe⟩; have HH10 := hide (HH9.out.below hbe); clear hbe; simp only [])
          go_roundw
          case rel => exact ⟨k + 1, P2, S8, by omega, by go_num, HH10.out⟩
          case measure => simp [intOf]; omega
      · have e1 : (kd == 1) = false := by simp; exact fun e => hin (.inl e)
        have e2 : (kd == 2) = false := by simp; exact fun e => hin (.inr e)
        clear hin HSR
        go_wp2
        go_roundw
        case rel => exact ⟨k + 1, P2, S8, by omega, by go_num, HH9.out⟩
        case measure => simp [intOf]; omega
    · obtain rfl : k = n := by omega
      have d1 : decide ((k : Int) < (k : Int)) = false := by simp
      have HBX := hide HH.out.be
      go_wp2
      go_ret
      exact ⟨rfl, HBX.out⟩
end Go.Proofs.Qxb6500784a
