import Derived.Test.Qxb6500775aLoss2
namespace Go.Proofs.Qxb6500775a
open Go.RowKit

/-- The gain of j - 49 decibels. -/
def gainP (j : Nat) : Nat :=
  if (j + 1) / 10 < 5 then dm ((j + 1) % 10) * 65536 / 1000000000000000 / 10 ^ (5 - (j + 1) / 10)
  else dm ((j + 1) % 10) * 65536 * 10 ^ ((j + 1) / 10 - 5) / 1000000000000000
def GainTo (Z : Nat → Int) (k : Nat) : Prop := LossTo Z 131 ∧ ∀ j, j < k → Z (131 + j) = (gainP j : Nat)
theorem GainTo.step {Z : Nat → Int} {k : Nat} {v : Int} (h : GainTo Z k) (hv : v = (gainP k : Nat)) : GainTo (upd Z (131 + k) v) (k + 1) := by
  refine ⟨fun j hj => ?_, fun j hj => ?_⟩
  · rw [upd_other _ _ (by omega)]; exact h.1 j hj
  · by_cases e : j = k
    · subst e; rw [upd_same, hv]
    · rw [upd_other _ _ (by omega)]; exact h.2 j (by omega)
theorem v128_parts (x : Int) : v128 (x / 18446744073709551616) (x % 18446744073709551616) = x := by unfold v128; omega
theorem MZ.ne {w : World} {b o : Nat} {X Y Z : Nat → Int} (h : MZ w b X Y Z) (ho : w.heap.size ≤ o) : b ≠ o := by
  have := World.block_lt_of_cell? _ _ (h.zz 0 (by omega))
  simp at this
  omega
theorem MZ.lt {w : World} {b : Nat} {X Y Z : Nat → Int} (h : MZ w b X Y Z) : b ≤ w.heap.size := Nat.le_of_lt (World.block_lt_of_cell? _ _ (h.zz 0 (by omega)))
theorem MZ.zzg {w : World} {b : Nat} {X Y Z : Nat → Int} (h : MZ w b X Y Z) (j : Nat) (hj : j < 95) : w.cell? ⟨b, 8323 + j, none⟩ = some (.int .i64 (Z (131 + j))) := by
  have := h.zz (131 + j) (by omega)
  rwa [show 8192 + (131 + j) = 8323 + j by omega] at this
theorem MZ.setG {w : World} {b t : Nat} {X Y Z : Nat → Int} {v : Int} (h : MZ w b X Y Z) (ht : t < 95) : MZ (w.setCell ⟨b, 8323 + t, none⟩ (.int .i64 v)) b X Y (upd Z (131 + t) v) := by
  have := h.set (t := 131 + t) (v := v) (by omega)
  rwa [show 8192 + (131 + t) = 8323 + t by omega] at this
theorem MZ.other {w : World} {b o j : Nat} {X Y Z : Nat → Int} {v : Value} (h : MZ w b X Y Z) (hne : b ≠ o) : MZ (w.setCell ⟨o, j, none⟩ v) b X Y Z :=
  ⟨⟨fun s hs => by rw [World.cell?_setCell_other _ _ _ _ (by simp <;> omega)]; exact h.mt.x s hs, fun s hs => by rw [World.cell?_setCell_other _ _ _ _ (by simp <;> omega)]; exact h.mt.y s hs, fun s hs => by obtain ⟨u, hu⟩ := h.mt.z s hs; exact ⟨u, by rw [World.cell?_setCell_other _ _ _ _ (by simp <;> omega)]; exact hu⟩, fun s => by simpa [go_sem] using h.mt.fr s⟩, fun s hs => by rw [World.cell?_setCell_other _ _ _ _ (by simp <;> omega)]; exact h.zz s hs⟩
theorem UB.set1 {w : World} {R : Nat} {h l b : Int} (k : UB w R h l) : UB (w.setCell ⟨R, 1, none⟩ (.int .u64 b)) R h b := by
  have c0 := k.c0
  have c1 := k.c1
  have fr := k.fr
  exact ⟨by simp [go_sem, c0], by simp [go_sem, c1], fun j => by simp [go_sem, fr]⟩
set_option maxRecDepth 100000 in
set_option maxHeartbeats 8000000 in
theorem fillGain_any (w : World) (b : Nat) (X Y Z : Nat → Int) (h : MZ w b X Y Z) (hz : LossTo Z 131) :
    Calls Try.prog 63 #[.pointer (some ⟨b, 0, none⟩)] w fun e w' => e = .returned (.tuple #[]) ∧ ∃ Z', MZ w' b X Y Z' ∧ GainTo Z' 95 ∧ Below b w w' := by
  have HM := hide h
  have HZ := hide hz
  clear h hz
  go_enter Try.func63, Try.ntmps63
  go_wp2
  go_loopw [2] (fun s wr => ∃ (k : Nat) (a : Int) (Z' : Nat → Int), k ≤ 95 ∧ a = (k : Int) - 49 ∧ s = .int .i64 a ∧ MZ wr b X Y Z' ∧ GainTo Z' k ∧ Below b w wr) (fun s _ => (46 - intOf s).toNat)
  case atStart => exact ⟨0, -49, Z, by omega, rfl, rfl, HM.out, ⟨HZ.out, fun j hj => by omega⟩, Below.refl _ _⟩
  case round =>
    clear HM HZ
    obtain ⟨k, a, Z', hk, ha, rfl, hm, hl, hbel⟩ := hrel
    have HM := hide hm
    have HL := hide hl
    have HB := hide hbel
    clear hm hl hbel
    by_cases hk1 : k < 95
    · have a1 : -49 ≤ a := by omega
      have a2 : a ≤ 45 := by omega
      obtain ⟨e, he⟩ : ∃ e, e = (k + 1) / 10 := ⟨_, rfl⟩
      obtain ⟨r, hr⟩ : ∃ r, r = (k + 1) % 10 := ⟨_, rfl⟩
      have r10 : r < 10 := by omega
      obtain ⟨dec, hdec⟩ : ∃ dec, dec = a / 10 := ⟨_, rfl⟩
      have hd2 : dec = (e : Int) - 5 := by omega
      have hd3 : a - 10 * dec = (r : Int) := by omega
      have d1 : -5 ≤ dec := by omega
      have d2 : dec ≤ 4 := by omega
      have HE := hide he
      have HR := hide hr
      have HD := hide hd2
      have HA := hide ha
      have HDEC := hide hdec
      clear he hr hd2 ha hdec
      go_upto_region 3 with fail
      go_wp2_with fail
      refine (floorDiv10_any _ a (by omega) (by omega)).mono ?_
      rintro x w' ⟨rfl, rfl⟩
      rw [← HDEC.out]
      go_wp2_with fail
      refine (dm_any _ r r10).mono ?_
      rintro x w' ⟨rfl, rfl⟩
      clear hd3
      have hdm := dm_lt r
      obtain ⟨D, hD⟩ : ∃ D, D = dm r := ⟨_, rfl⟩
      rw [← hD] at hdm ⊢
      have HDm := hide hD
      clear hD
      go_wp2_with fail
      refine (mulU64_any _ (D : Nat) 65536 ⟨by omega, by omega⟩ ⟨by omega, by omega⟩).mono ?_
      rintro x w1 ⟨rfl, hb1⟩
      obtain ⟨hi, hhi⟩ : ∃ z, z = (D : Int) * 65536 / 18446744073709551616 := ⟨_, rfl⟩
      obtain ⟨lo, hlo⟩ : ∃ z, z = (D : Int) * 65536 % 18446744073709551616 := ⟨_, rfl⟩
      rw [← hhi, ← hlo]
      have hvv : v128 hi lo = (D : Int) * 65536 := by rw [hhi, hlo]; exact v128_parts _
      have whi : Word hi := ⟨by omega, by omega⟩
      have wlo : Word lo := ⟨by omega, by omega⟩
      have HV := hide hvv
      have HM1 := hide (HM.out.below hb1)
      have HB1 : Hid (Below b w w1) := HB.out.trans (hb1.mono HM.out.lt)
      clear hb1 hhi hlo hvv HM HB
      go_upto_region 5 with fail
      have HM2 := hide (HM1.out.below (belA w1 (.cells #[.int .u64 hi, .int .u64 lo] 108)))
      have HB2 : Hid (Below b w (w1.alloc (.cells #[.int .u64 hi, .int .u64 lo] 108))) := HB1.out.trans ((belA _ _).mono HM1.out.lt)
      have HU := hide (UB.new w1 hi lo)
      have hbo := HM1.out.ne (Nat.le_refl _)
      have hob := Ne.symm hbo
      have hble := HM1.out.lt
      clear HM1 HB1
      generalize w1.alloc (.cells #[.int .u64 hi, .int .u64 lo] 108) = w2 at *
      generalize w1.heap.size = o at *
      rcases Int.lt_trichotomy dec 0 with hdl | hdl | hdl
      · obtain ⟨n, hn⟩ : ∃ n : Nat, -dec = (n : Int) := ⟨(-dec).toNat, by omega⟩
        have hn5 : 1 ≤ n ∧ n ≤ 5 := by omega
        have hen : e = 5 - n ∧ e < 5 := by have := HD.out; omega
        have HEN := hide hen
        have HNn := hide hn
        clear hen hn
        have HRAW : Hid (D * 65536 ≤ 5242880000000000000000000) := by show _ ≤ _; omega
        clear r10
        have u0 := HU.out.c0
        have u1 := HU.out.c1
        go_upto_region 7 with fail
        go_wp2_with fail
        refine (divU128_any _ hi lo 1000000000000000 whi wlo (by omega) (by omega)).mono ?_
        rintro x w4 ⟨hb4, qh, ql, rr, rfl, hq1, hq2, ⟨qh0, qh1⟩, ⟨ql0, ql1⟩⟩
        obtain ⟨Q, hQ⟩ : ∃ Q : Nat, Q = D * 65536 / 1000000000000000 := ⟨_, rfl⟩
        have hQ8 : Q ≤ 9000000000 := by have := HRAW.out; rw [hQ]; clear hq1 hq2 hQ; omega
        have hqq : v128 qh ql = (Q : Int) := by rw [hq1, HV.out, hQ]; simp
        have hqh : qh = 0 := by unfold v128 at hqq; omega
        have hql : ql = (Q : Int) := by unfold v128 at hqq; omega
        subst hqh hql
        have HQ := hide hQ
        have HM4 := hide (HM2.out.below hb4)
        have HB4 : Hid (Below b w w4) := HB2.out.trans (hb4.mono HM2.out.lt)
        clear hq1 hq2 hqq hb4 HM2 HB2 hQ u0 u1
        go_upto_region 8 with fail
        have HM5 := hide (HM4.out.below (belA w4 (.cells #[.int .u64 0, .int .u64 (Q : Nat)] 108)))
        have HB5 : Hid (Below b w (w4.alloc (.cells #[.int .u64 0, .int .u64 (Q : Nat)] 108))) := HB4.out.trans ((belA _ _).mono HM4.out.lt)
        have HU5 := hide (UB.new w4 0 (Q : Nat))
        have hbo2 := HM4.out.ne (Nat.le_refl _)
        have hob2 := Ne.symm hbo2
        have hble2 := HM4.out.lt
        clear HM4 HB4
        generalize w4.alloc (.cells #[.int .u64 0, .int .u64 (Q : Nat)] 108) = w5 at *
        generalize w4.heap.size = o2 at *
        go_upto_region 9 with fail
        obtain ⟨T, hT⟩ : ∃ T, T = 10 ^ n := ⟨_, rfl⟩
        have hT1 : 1 ≤ T := by rw [hT]; exact Nat.one_le_pow _ _ (by omega)
        have wg' : ∀ G : Nat, G ≤ 9000000000 → IntKind.u64.wrap (G : Int) = (G : Int) := fun G h => IntWalk.u64_in _ (by omega)
        have wn : IntKind.i64.wrap (n : Int) = (n : Int) := IntWalk.i64_in _ (by omega)
        have hT0 : ¬ T = 0 := by omega
        have hT0' : ¬ (T : Int) = 0 := by omega
        have hpw : ∀ w, Hid (Calls Try.prog 104 #[.int .i64 n] w fun e w' => e = .returned (.int .u64 (T : Nat)) ∧ w' = w) := fun w => by rw [hT]; exact pow10_any w n (by omega)
        obtain ⟨G, hGd⟩ : ∃ G, G = Q / T := ⟨_, rfl⟩
        have hG9 : G ≤ 9000000000 := by rw [hGd]; exact Nat.le_trans (Nat.div_le_self _ _) hQ8
        have g1 : (Q : Int) / (T : Int) = (G : Int) := by rw [hGd]; simp
        have hG : (G : Int) = (gainP k : Nat) := by
          unfold gainP
          rw [if_pos (by rw [← HE.out]; exact HEN.out.2), hGd, HQ.out, hT, HDm.out, HR.out, ← HE.out, HEN.out.1]
          congr 4
          omega
        have HGG := hide hG
        have wg := wg' G hG9
        clear wg'
        clear hT hGd hG
        have hn := HNn.out
        have x0 := HU5.out.drew.c0
        have x1 := HU5.out.drew.c1
        have xf := HU5.out.drew.fr
        go_region_law (first
          | (refine step_call rfl 104 #[.int .i64 n] ?_ (hpw _).out ?_; (focus (simp [go_sem]; done)); rintro e w3 ⟨rfl, rfl⟩; refine ⟨_, rfl, ?_⟩))
        all_goals
          have HU6 := hide (HU5.out.set1 (b := (G : Int))).drew
          have HM6 := hide (HM5.out.other (j := 1) (v := .int .u64 (G : Int)) hbo2).drew
          have HB6 : Hid (Below b w (w5.setCell ⟨o2, 1, none⟩ (.int .u64 (G : Int))).drew) := (HB5.out.setCell (by simp; omega) _).drew
          clear x0 x1 xf HU5 HM5 HB5
          generalize (w5.setCell ⟨o2, 1, none⟩ (.int .u64 (G : Int))).drew = w6 at *
          have hG := HGG.out
          go_upto_region 10 with fail
          have v0 := HU6.out.drew.c0
          have v1 := HU6.out.drew.c1
          have cz := HM6.out.drew.zzg k hk1
          have fr := HM6.out.drew.mt.fr
          have e49 : a + 49 = (k : Int) := by rw [HA.out]; omega
          have e49' : a - -49 = (k : Int) := by rw [HA.out]; omega
          have ww1 : IntKind.i64.wrap (G : Int) = (G : Int) := IntWalk.i64_in _ (by omega)
          have ww2 : IntKind.i64.wrap (k : Int) = (k : Int) := IntWalk.i64_in _ (by omega)
          have k95 : (k : Int) < 95 := by omega
          have HM7 := hide (HM6.out.drew.setG (t := k) (v := (G : Int)) (by omega))
          have HL7 := hide (HL.out.step hG)
          have HB7 := hide (HB6.out.drew.setCell (p := ⟨b, 8323 + k, none⟩) (Nat.le_refl _) (.int .i64 (G : Int)))
          have HA1 : Hid (a + 1 = ((k + 1 : Nat) : Int) - 49) := by have := HA.out; show _ = _; omega
          clear hG
          go_region
          all_goals
            go_wp2
            go_roundw
            case rel => exact ⟨k + 1, a + 1, _, by omega, HA1.out, rfl, HM7.out, HL7.out, HB7.out⟩
            case measure => simp [intOf]; omega
      · subst hdl
        have hen : e = 5 := by have := HD.out; omega
        have HEN := hide hen
        clear hen
        have HRAW : Hid (D * 65536 ≤ 5242880000000000000000000) := by show _ ≤ _; omega
        clear r10
        have u0 := HU.out.c0
        have u1 := HU.out.c1
        go_upto_region 7 with fail
        go_wp2_with fail
        refine (divU128_any _ hi lo 1000000000000000 whi wlo (by omega) (by omega)).mono ?_
        rintro x w4 ⟨hb4, qh, ql, rr, rfl, hq1, hq2, ⟨qh0, qh1⟩, ⟨ql0, ql1⟩⟩
        obtain ⟨Q, hQ⟩ : ∃ Q : Nat, Q = D * 65536 / 1000000000000000 := ⟨_, rfl⟩
        have hQ8 : Q ≤ 9000000000 := by have := HRAW.out; rw [hQ]; clear hq1 hq2 hQ; omega
        have hqq : v128 qh ql = (Q : Int) := by rw [hq1, HV.out, hQ]; simp
        have hqh : qh = 0 := by unfold v128 at hqq; omega
        have hql : ql = (Q : Int) := by unfold v128 at hqq; omega
        subst hqh hql
        have HQ := hide hQ
        have HM4 := hide (HM2.out.below hb4)
        have HB4 : Hid (Below b w w4) := HB2.out.trans (hb4.mono HM2.out.lt)
        clear hq1 hq2 hqq hb4 HM2 HB2 hQ u0 u1
        go_upto_region 8 with fail
        have HM5 := hide (HM4.out.below (belA w4 (.cells #[.int .u64 0, .int .u64 (Q : Nat)] 108)))
        have HB5 : Hid (Below b w (w4.alloc (.cells #[.int .u64 0, .int .u64 (Q : Nat)] 108))) := HB4.out.trans ((belA _ _).mono HM4.out.lt)
        have HU5 := hide (UB.new w4 0 (Q : Nat))
        have hbo2 := HM4.out.ne (Nat.le_refl _)
        have hob2 := Ne.symm hbo2
        have hble2 := HM4.out.lt
        clear HM4 HB4
        generalize w4.alloc (.cells #[.int .u64 0, .int .u64 (Q : Nat)] 108) = w5 at *
        generalize w4.heap.size = o2 at *
        obtain ⟨G, hGd⟩ : ∃ G, G = Q := ⟨_, rfl⟩
        subst hGd
        have hG : (G : Int) = (gainP k : Nat) := by
          unfold gainP
          rw [if_neg (by rw [← HE.out, HEN.out]; omega), HQ.out, HDm.out, HR.out, ← HE.out, HEN.out]
          simp
        have HU6 := HU5
        have HM6 := HM5
        have HB6 := HB5
        clear HU5 HM5 HB5
        generalize w5 = w6 at *
        go_upto_region 10 with fail
        have v0 := HU6.out.drew.c0
        have v1 := HU6.out.drew.c1
        have cz := HM6.out.drew.zzg k hk1
        have fr := HM6.out.drew.mt.fr
        have e49 : a + 49 = (k : Int) := by rw [HA.out]; omega
        have e49' : a - -49 = (k : Int) := by rw [HA.out]; omega
        have ww1 : IntKind.i64.wrap (G : Int) = (G : Int) := IntWalk.i64_in _ (by omega)
        have ww2 : IntKind.i64.wrap (k : Int) = (k : Int) := IntWalk.i64_in _ (by omega)
        have k95 : (k : Int) < 95 := by omega
        have HM7 := hide (HM6.out.drew.setG (t := k) (v := (G : Int)) (by omega))
        have HL7 := hide (HL.out.step hG)
        have HB7 := hide (HB6.out.drew.setCell (p := ⟨b, 8323 + k, none⟩) (Nat.le_refl _) (.int .i64 (G : Int)))
        have HA1 : Hid (a + 1 = ((k + 1 : Nat) : Int) - 49) := by have := HA.out; show _ = _; omega
        clear hG
        go_region
        all_goals
          go_wp2
          go_roundw
          case rel => exact ⟨k + 1, a + 1, _, by omega, HA1.out, rfl, HM7.out, HL7.out, HB7.out⟩
          case measure => simp [intOf]; omega
      · obtain ⟨n, hn⟩ : ∃ n : Nat, dec = (n : Int) := ⟨dec.toNat, by omega⟩
        have hn5 : 1 ≤ n ∧ n ≤ 4 := by omega
        have hen : e = 5 + n := by have := HD.out; omega
        have HEN := hide hen
        have HNn := hide hn
        clear hen hn
        go_upto_region 6 with fail
        have hn := HNn.out
        obtain ⟨T, hT⟩ : ∃ T, T = 10 ^ n := ⟨_, rfl⟩
        have hT1 : 1 ≤ T := by rw [hT]; exact Nat.one_le_pow _ _ (by omega)
        have hT2 : T ≤ 10 ^ 4 := by rw [hT]; exact Nat.pow_le_pow_right (by omega) (by omega)
        have hpw : ∀ w, Hid (Calls Try.prog 104 #[.int .i64 dec] w fun e w' => e = .returned (.int .u64 (T : Nat)) ∧ w' = w) := fun w => by rw [hT, hn]; exact pow10_any w n (by omega)
        have hDT : D * 65536 * T ≤ 8000000000000000 * 65536 * 10 ^ 4 := Nat.mul_le_mul (Nat.mul_le_mul_right _ (by omega)) hT2
        have hDTi : ((D * 65536 * T : Nat) : Int) = (D : Int) * 65536 * (T : Int) := by simp
        have hmul : ∀ w, Hid (Calls Try.prog 103 #[.agg #[.int .u64 hi, .int .u64 lo], .int .u64 (T : Nat)] w fun e w' => ∃ a b, e = .returned (.agg #[.int .u64 a, .int .u64 b]) ∧ v128 a b = ((D * 65536 * T : Nat) : Int) ∧ Word a ∧ Word b ∧ Below w.heap.size w w') := fun w => by
          have := mulWord_any w hi lo (T : Nat) whi wlo ⟨by omega, by omega⟩ (by rw [HV.out, ← hDTi]; omega)
          rw [HV.out, ← hDTi] at this
          exact this
        have HT := hide hT
        clear hT hDTi hn
        have x0 := HU.out.drew.c0
        have x1 := HU.out.drew.c1
        have xf := HU.out.drew.fr
        go_region_law (first
          | (refine step_call rfl 104 #[.int .i64 dec] ?_ (hpw _).out ?_; (focus (simp [go_sem]; done)); rintro e w3 ⟨rfl, rfl⟩; refine ⟨_, rfl, ?_⟩)
          | (refine step_call rfl 103 #[.agg #[.int .u64 hi, .int .u64 lo], .int .u64 (T : Nat)] ?_ (hmul _).out ?_; (focus (simp [go_sem]; done)); rintro e w3 ⟨h2, l2, rfl, hv3, wh2, wl2, hb3⟩; refine ⟨_, rfl, ?_⟩; have HV3 := hide hv3; have HU3 := hide (HU.out.below (of_drew hb3)); have HM3 := hide (HM2.out.below (of_drew hb3)); have HB3 : Hid (Below b w w3) := HB2.out.trans ((of_drew hb3).mono HM2.out.lt); clear hb3 hv3; have y0 := HU3.out.c0; have y1 := HU3.out.c1; have yf := HU3.out.fr))
        all_goals
          have HU4 := hide (HU3.out.set (a := h2) (b := l2))
          have HM4' := hide ((HM3.out.other (j := 0) (v := .int .u64 h2) hbo).other (j := 1) (v := .int .u64 l2) hbo)
          have HB4' : Hid (Below b w ((w3.setCell ⟨o, 0, none⟩ (.int .u64 h2)).setCell ⟨o, 1, none⟩ (.int .u64 l2))) := (HB3.out.setCell (by simp; omega) _).setCell (by simp; omega) _
          generalize (w3.setCell ⟨o, 0, none⟩ (.int .u64 h2)).setCell ⟨o, 1, none⟩ (.int .u64 l2) = w2' at *
          clear x0 x1 xf y0 y1 yf HU3 HM3 HB3 HU HM2 HB2 HV hpw hmul
          have HRAW : Hid ((D * 65536 * T) ≤ 5242880000000000000000000) := by show _ ≤ _; omega
          clear hDT hT2 hT1
          have u0 := HU4.out.c0
          have u1 := HU4.out.c1
          go_upto_region 7 with fail
          go_wp2_with fail
          refine (divU128_any _ h2 l2 1000000000000000 wh2 wl2 (by omega) (by omega)).mono ?_
          rintro x w4 ⟨hb4, qh, ql, rr, rfl, hq1, hq2, ⟨qh0, qh1⟩, ⟨ql0, ql1⟩⟩
          obtain ⟨Q, hQ⟩ : ∃ Q : Nat, Q = (D * 65536 * T) / 1000000000000000 := ⟨_, rfl⟩
          have hQ8 : Q ≤ 9000000000 := by have := HRAW.out; rw [hQ]; clear hq1 hq2 hQ; omega
          have hqq : v128 qh ql = (Q : Int) := by rw [hq1, HV3.out, hQ]; simp
          have hqh : qh = 0 := by unfold v128 at hqq; omega
          have hql : ql = (Q : Int) := by unfold v128 at hqq; omega
          subst hqh hql
          have HQ := hide hQ
          have HM4 := hide (HM4'.out.below hb4)
          have HB4 : Hid (Below b w w4) := HB4'.out.trans (hb4.mono HM4'.out.lt)
          clear hq1 hq2 hqq hb4 HM4' HB4' hQ u0 u1
          go_upto_region 8 with fail
          have HM5 := hide (HM4.out.below (belA w4 (.cells #[.int .u64 0, .int .u64 (Q : Nat)] 108)))
          have HB5 : Hid (Below b w (w4.alloc (.cells #[.int .u64 0, .int .u64 (Q : Nat)] 108))) := HB4.out.trans ((belA _ _).mono HM4.out.lt)
          have HU5 := hide (UB.new w4 0 (Q : Nat))
          have hbo2 := HM4.out.ne (Nat.le_refl _)
          have hob2 := Ne.symm hbo2
          have hble2 := HM4.out.lt
          clear HM4 HB4
          generalize w4.alloc (.cells #[.int .u64 0, .int .u64 (Q : Nat)] 108) = w5 at *
          generalize w4.heap.size = o2 at *
          obtain ⟨G, hGd⟩ : ∃ G, G = Q := ⟨_, rfl⟩
          subst hGd
          have hG : (G : Int) = (gainP k : Nat) := by
            unfold gainP
            rw [if_neg (by rw [← HE.out, HEN.out]; omega), HQ.out, HT.out, HDm.out, HR.out, ← HE.out, HEN.out]
            congr 4
            omega
          have hG' := hG
          have HU6 := HU5
          have HM6 := HM5
          have HB6 := HB5
          clear HU5 HM5 HB5
          generalize w5 = w6 at *
          have hd0 : ¬ dec < 0 := by omega
          have hd0' : decide (dec < 0) = false := decide_eq_false hd0
          clear hdl hG
          have HGG : Hid ((G : Int) = (gainP k : Nat)) := hG'
          clear hG'
          go_upto_region 10 with fail
          have hG := HGG.out
          have v0 := HU6.out.drew.c0
          have v1 := HU6.out.drew.c1
          have cz := HM6.out.drew.zzg k hk1
          have fr := HM6.out.drew.mt.fr
          have e49 : a + 49 = (k : Int) := by rw [HA.out]; omega
          have e49' : a - -49 = (k : Int) := by rw [HA.out]; omega
          have ww1 : IntKind.i64.wrap (G : Int) = (G : Int) := IntWalk.i64_in _ (by omega)
          have ww2 : IntKind.i64.wrap (k : Int) = (k : Int) := IntWalk.i64_in _ (by omega)
          have k95 : (k : Int) < 95 := by omega
          have HM7 := hide (HM6.out.drew.setG (t := k) (v := (G : Int)) (by omega))
          have HL7 := hide (HL.out.step hG)
          have HB7 := hide (HB6.out.drew.setCell (p := ⟨b, 8323 + k, none⟩) (Nat.le_refl _) (.int .i64 (G : Int)))
          have HA1 : Hid (a + 1 = ((k + 1 : Nat) : Int) - 49) := by have := HA.out; show _ = _; omega
          clear hG
          go_region
          all_goals
            go_wp2
            go_roundw
            case rel => exact ⟨k + 1, a + 1, _, by omega, HA1.out, rfl, HM7.out, HL7.out, HB7.out⟩
            case measure => simp [intOf]; omega
    · have hke : k = 95 := by omega
      subst hke
      subst ha
      go_wp2
      go_end0
      exact ⟨rfl, Z', HM.out, HL.out, HB.out⟩
end Go.Proofs.Qxb6500775a
