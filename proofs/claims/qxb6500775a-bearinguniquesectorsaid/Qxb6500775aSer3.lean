import Derived.Test.Qxb6500775aSer2
namespace Go.Proofs.Qxb6500775a
open Go.RowKit

theorem sgn_posS {z : Int} (h : 0 < z) : sgn z = 1 := by unfold sgn; rw [if_neg (by omega)]; split <;> omega
theorem VarI.alS {N : Nat} {w : World} {p : Nat} {z : Int} (h : VarI N w p z) (o : Obj) : VarI N (w.alloc o) p z := h.below ((Below.refl _ _).alloc (Nat.le_refl _) o)
theorem SR.fresh {w w3 : World} {NF NQ : Nat} {F sq : Int} {sF sT s3 : Bool} {aF aT a3 : Option Addr} {nF cF nT cT n3 c3 : Nat} (iF : IsI NF w sF aF nF cF F)
    (hb : Below (((w.alloc (.cells #[.bool sF, .slice aF nF cF] 26)).alloc (.cells #[.bool sT, .slice aT nT cT] 26)).alloc (.cells #[.bool false, .slice none 0 0] 26)).heap.size (((w.alloc (.cells #[.bool sF, .slice aF nF cF] 26)).alloc (.cells #[.bool sT, .slice aT nT cT] 26)).alloc (.cells #[.bool false, .slice none 0 0] 26)) w3) (iq : IsI NQ w3 s3 a3 n3 c3 sq) :
    SR w (((w3.alloc (.cells #[.bool s3, .slice a3 n3 c3] 26)).alloc (.cells #[.bool sF, .slice aF nF cF] 26)).alloc (.cells #[.bool sF, .slice aF nF cF] 26)) (w.heap.size + 1 + 1) w3.heap.size (w3.heap.size + 1) (w3.heap.size + 1 + 1) NQ NF NF sq F F := by
  have hb0 : Below w.heap.size w (((w.alloc (.cells #[.bool sF, .slice aF nF cF] 26)).alloc (.cells #[.bool sT, .slice aT nT cT] 26)).alloc (.cells #[.bool false, .slice none 0 0] 26)) := (((Below.refl _ _).alloc (Nat.le_refl _) _).alloc (by simp) _).alloc (by simp; omega) _
  have hs := hb.size
  simp at hs
  have hq3 : Below w3.heap.size w3 (((w3.alloc (.cells #[.bool s3, .slice a3 n3 c3] 26)).alloc (.cells #[.bool sF, .slice aF nF cF] 26)).alloc (.cells #[.bool sF, .slice aF nF cF] 26)) := (((Below.refl _ _).alloc (Nat.le_refl _) _).alloc (by simp) _).alloc (by simp; omega) _
  have iF3 := (iF.below hb0).below hb
  have v1 := varNew iq
  have v2 := varNew (iF3.al (.cells #[.bool s3, .slice a3 n3 c3] 26))
  have v3 := varNew ((iF3.al (.cells #[.bool s3, .slice a3 n3 c3] 26)).al (.cells #[.bool sF, .slice aF nF cF] 26))
  refine ⟨cellKeep hq3 (cellKeep hb (by simp [go_sem])), cellKeep hq3 (cellKeep hb (by simp [go_sem])), fun j => ?_, VarI.alS (VarI.alS v1 _) _, by simpa using VarI.alS v2 _, fun j => by simp [go_sem], by simpa using v3, fun j => by simp [go_sem], lec (lec hb0 hb) hq3, by omega, by omega, by omega, by omega, by omega, by omega, by omega, by omega⟩
  have e1 := batf hb (b := w.heap.size + 1 + 1) j (by simp)
  have e2 : (((w.alloc (.cells #[.bool sF, .slice aF nF cF] 26)).alloc (.cells #[.bool sT, .slice aT nT cT] 26)).alloc (.cells #[.bool false, .slice none 0 0] 26)).frozen? ⟨w.heap.size + 1 + 1, j, none⟩ = false := by simp [go_sem]
  rw [e2] at e1
  exact (hq3.frozen (p := ⟨w.heap.size + 1 + 1, j, none⟩) (by show w.heap.size + 1 + 1 < w3.heap.size; omega)).trans e1
set_option maxRecDepth 100000 in
set_option maxHeartbeats 4000000 in
/-- fixmathm.series. -/
theorem series_any (w : World) (sF sT : Bool) (aF aT : Option Addr) (nF cF nT cT : Nat) (F T a0 S : Int) (hT : 0 ≤ T) (hF : 0 ≤ F) (iF : IsI 130 w sF aF nF cF F) (iT : IsI 5 w sT aT nT cT T)
    (ha : 1 ≤ a0 ∧ a0 ≤ 2) (hS : serP 60 (T * T / 18446744073709551616) F F true a0 = some S) :
    Calls Try.prog 65 #[.agg #[.bool sF, .slice aF nF cF], .agg #[.bool sT, .slice aT nT cT], .int .u32 a0] w (RetI 2000 w S) := by
  have IT := hide (iT.below ((((Below.refl w.heap.size w).alloc (Nat.le_refl _) (.cells #[.bool sF, .slice aF nF cF] 26)).alloc (by simp) (.cells #[.bool sT, .slice aT nT cT] 26)).alloc (by simp; omega) (.cells #[.bool false, .slice none 0 0] 26)))
  have IF := hide iF
  have hTT : 0 ≤ T * T := Int.mul_nonneg hT hT
  obtain ⟨TT, hTTe⟩ : ∃ x, T * T = x := ⟨_, rfl⟩
  obtain ⟨sq, hsq⟩ : ∃ x, TT / 18446744073709551616 = x := ⟨_, rfl⟩
  rw [hTTe] at hTT hS
  rw [hsq] at hS
  have hsq0 : 0 ≤ sq := by omega
  have HS := hide hS
  have HTT := hide (And.intro hTTe hsq)
  clear hS hTTe hsq iF iT
  go_enter Try.func65, Try.ntmps65
  go_wp2_with fail
  refine (Mul_any _ sT sT aT aT nT nT cT cT 5 5 T T (by omega) IT.out IT.out).mono ?_
  rintro e w2 ⟨s2, a2, n2, c2, rfl, i2, b2⟩
  rw [HTT.out.1] at i2
  have I2 := hide i2
  have B2 := hide b2
  clear i2 b2
  go_wp2_with fail
  refine (halve64 _ s2 a2 n2 c2 (5 + 5) TT (by omega) hTT I2.out).mono ?_
  rintro e w3 ⟨s3, a3, n3, c3, rfl, i3, b3⟩
  rw [HTT.out.2] at i3
  have HR := hide (SR.fresh IF.out (lec B2.out b3) i3)
  have hb3 := lec B2.out b3
  have y0 : (w3.alloc (.cells #[.bool s3, .slice a3 n3 c3] 26)).cell? ⟨w.heap.size, 0, none⟩ = some (.bool sF) := cellAl _ (cellKeep hb3 (by simp [go_sem]))
  have y1 : (w3.alloc (.cells #[.bool s3, .slice a3 n3 c3] 26)).cell? ⟨w.heap.size, 1, none⟩ = some (.slice aF nF cF) := cellAl _ (cellKeep hb3 (by simp [go_sem]))
  have z0 := cellAl (.cells #[.bool sF, .slice aF nF cF] 26) y0
  have z1 := cellAl (.cells #[.bool sF, .slice aF nF cF] 26) y1
  clear i3 b3 hb3 I2 B2 IT IF
  go_upto_region 4 with fail
  generalize ((w3.alloc (.cells #[.bool s3, .slice a3 n3 c3] 26)).alloc (.cells #[.bool sF, .slice aF nF cF] 26)).alloc (.cells #[.bool sF, .slice aF nF cF] 26) = W at *
  clear y0 y1 z0 z1
  obtain ⟨pt, hpt⟩ : ∃ p, w3.heap.size + 1 + 1 = p := ⟨_, rfl⟩
  rw [hpt] at HR ⊢
  clear hpt
  obtain ⟨ps, hps⟩ : ∃ p, w3.heap.size + 1 = p := ⟨_, rfl⟩
  rw [hps] at HR ⊢
  clear hps
  generalize w3.heap.size = pq at *
  obtain ⟨pr, hpr⟩ : ∃ p, w.heap.size + 1 + 1 = p := ⟨_, rfl⟩
  rw [hpr] at HR ⊢
  clear hpr
  go_wp2
  go_loopw [2, 10] (fun av mv wr => ∃ (k f : Nat) (sum term a : Int) (m : Bool), k + f = 60 ∧ av = .int .u32 a ∧ mv = .bool m ∧ a = a0 + 2 * (k : Int) ∧ 0 ≤ term ∧ Hid (serP f sq sum term m a = some S) ∧ SR w wr pr pq ps pt 10 (130 + 20 * k) (130 + 20 * k) sq sum term) (fun av _ _ => (200 - intOf av).toNat)
  case atStart => exact ⟨0, 60, F, F, a0, true, by omega, rfl, rfl, by omega, hF, HS, HR.out⟩
  case round =>
    clear HS HR HTT
    obtain ⟨k, f, sum, term, a, m, hkf, rfl, rfl, hak, hterm, HS, hsr⟩ := hrel
    have HR := hide hsr
    clear hsr
    obtain ⟨st, at', nt, ct, t0, t1, it⟩ := HR.out.t
    have IT := hide it
    clear it
    have hsg := fun w h => hide (Sign_any w st at' nt ct (130 + 20 * k) term h)
    by_cases hz : term = 0
    · subst hz
      rw [show sgn 0 = 0 from rfl] at hsg
      have hS : sum = S := by
        have := HS.out
        cases f with
        | zero => simp [serP] at this
        | succ f => simpa [serP] using this
      subst hS
      go_wp2_with fail
      refine (hsg _ IT.out).out.mono ?_
      rintro e w2 ⟨rfl, b2⟩
      have HR2 := hide (HR.out.below b2)
      clear b2 HR IT t0 t1 hsg HS
      obtain ⟨ss, as', ns, cs, s0, s1, is'⟩ := HR2.out.s
      have r0 := HR2.out.r0
      have r1 := HR2.out.r1
      have rf := HR2.out.rf
      have HV := hide (isi_set2 (u := .bool ss) (v := .slice as' ns cs) is' r0 r1)
      clear is'
      go_wp2
      exact bodyPost_ret (v := .agg #[.bool ss, .slice as' ns cs]) (by simp [results, Try.results65, go_sem, r0, r1]) rfl ⟨ss, as', ns, cs, rfl, HV.out.mono (by omega), belSet2 HR2.out.bel HR2.out.hr⟩
    · obtain ⟨f, rfl⟩ : ∃ f', f = f' + 1 := by
        have := HS.out
        cases f with
        | zero => simp [serP] at this
        | succ f => exact ⟨f, rfl⟩
      have hS := HS.out
      rw [serP, if_neg hz] at hS
      have hsne : (sgn term != 0) = true := by rw [sgn_posS (by omega)]; rfl
      have hm0 : 0 ≤ term * sq := Int.mul_nonneg hterm hsq0
      obtain ⟨x1, hx1⟩ : ∃ x, term * sq = x := ⟨_, rfl⟩
      obtain ⟨x2, hx2⟩ : ∃ x, x1 / 18446744073709551616 = x := ⟨_, rfl⟩
      have ha1 : 1 ≤ a ∧ a ≤ 122 := by omega
      obtain ⟨d, hd⟩ : ∃ d, a * (a + 1) = d := ⟨_, rfl⟩
      have hd1 : 1 ≤ d ∧ d ≤ 15006 := by
        have h1 := Int.mul_le_mul (show (1 : Int) ≤ a by omega) (show (1 : Int) ≤ a + 1 by omega) (by omega) (by omega)
        have h2 := Int.mul_le_mul (show a ≤ 122 by omega) (show a + 1 ≤ 123 by omega) (by omega) (by omega)
        omega
      obtain ⟨x3, hx3⟩ : ∃ x, x2 / d = x := ⟨_, rfl⟩
      rw [hx1, hx2, hd, hx3] at hS
      rw [hx1] at hm0
      have h20 : 0 ≤ x2 := by omega
      have h30 : 0 ≤ x3 := by rw [← hx3]; exact Int.ediv_nonneg h20 (by omega)
      have HS2 := hide hS
      have HX := hide (And.intro hx1 (And.intro hx2 hx3))
      have haw : IntKind.u32.wrap (a + 1) = a + 1 := by rw [IntKind.wrap_u32]; omega
      have hdw : IntKind.u32.wrap d = d := by rw [IntKind.wrap_u32]; omega
      have haw2 : IntKind.u32.wrap (a + 2) = a + 2 := by rw [IntKind.wrap_u32]; omega
      have ham : (a + 1) % 4294967296 = a + 1 := by omega
      have hdm : d % 4294967296 = d := by omega
      have ham2 : (a + 2) % 4294967296 = a + 2 := by omega
      have HAK := hide hak
      clear hak
      clear hS HS hx1 hx2 hx3
      obtain ⟨sq', aq, nq, cq, q0, q1, iq⟩ := HR.out.q
      have IQ := hide iq
      clear iq
      have hsz := sgn_posS (z := term) (by omega)
      rw [hsz] at hsg
      clear hsz hsne
      go_wp2_with fail
      refine (hsg _ IT.out).out.mono ?_
      rintro e w2 ⟨rfl, b2⟩
      have HR2 := hide (HR.out.below b2)
      have IT2 := hide (IT.out.below b2)
      have IQ2 := hide (IQ.out.below b2)
      have t0' := cellKeep b2 t0
      have t1' := cellKeep b2 t1
      have q0' := cellKeep b2 q0
      have q1' := cellKeep b2 q1
      clear b2 HR IT IQ t0 t1 q0 q1 hsg
      go_wp2_with fail
      refine (Mul_any _ st sq' at' aq nt nq ct cq (130 + 20 * k) 10 term sq (by omega) IT2.out IQ2.out).mono ?_
      rintro e w3 ⟨s3, a3, n3, c3, rfl, i3, b3⟩
      rw [HX.out.1] at i3
      have I3 := hide i3
      have HR3 := hide (HR2.out.below b3)
      clear i3 b3 HR2 IT2 IQ2 t0' t1' q0' q1'
      go_wp2_with fail
      refine (halve64 _ s3 a3 n3 c3 (130 + 20 * k + 10) x1 (by omega) hm0 I3.out).mono ?_
      rintro e w4 ⟨s4, a4, n4, c4, rfl, i4, b4⟩
      rw [HX.out.2.1] at i4
      have I4 := hide i4
      have HR4 := hide (HR3.out.below b4)
      clear i4 b4 HR3 I3
      go_wp2_with fail
      refine (divDigit_any _ s4 a4 n4 c4 (130 + 20 * k + 10) x2 d (by omega) h20 hd1.1 (by omega) I4.out).mono ?_
      rintro e w5 ⟨s5, a5, n5, c5, rfl, i5, b5⟩
      rw [HX.out.2.2] at i5
      have HR5' := hide (HR4.out.below b5)
      have HR5 := hide (HR5'.out.setT i5)
      obtain ⟨_, _, _, _, u0, u1, _⟩ := HR5'.out.t
      have uf := HR5'.out.tf
      clear i5 b5 HR4 I4 HX HR5'
      go_upto_region 7 with fail
      generalize (w5.setCell ⟨pt, 0, none⟩ (.bool s5)).setCell ⟨pt, 1, none⟩ (.slice a5 n5 c5) = W5 at *
      clear u0 u1 uf
      obtain ⟨st, at', nt, ct, t0, t1, it⟩ := HR5.out.t
      obtain ⟨ss, as', ns, cs, s0, s1, is'⟩ := HR5.out.s
      have IT := hide it
      have IS := hide is'
      clear it is'
      cases m
      · go_wp2_with fail
        refine (Add_any _ ss st as' at' ns nt cs ct (130 + 20 * k) (130 + 20 * k + 10) (130 + 20 * k + 10) sum x3 (by omega) (by omega) (by omega) IS.out IT.out).mono ?_
        rintro e w6 ⟨s6, a6, n6, c6, rfl, i6, b6⟩
        have HR6' := hide (HR5.out.below b6)
        have HR6 := hide ((HR6'.out.setS i6).mono (NS' := 130 + 20 * (k + 1)) (NT' := 130 + 20 * (k + 1)) (by omega) (by omega))
        obtain ⟨_, _, _, _, u0, u1, _⟩ := HR6'.out.s
        have uf := HR6'.out.sf
        clear i6 b6 HR5 IT IS t0 t1 s0 s1 HR6'
        go_wp2
        go_roundw
        case rel => exact ⟨k + 1, f, _, _, _, true, by omega, rfl, rfl, by have := HAK.out; omega, h30, by simpa using HS2, HR6.out⟩
        case measure => simp [intOf]; omega
      · go_wp2_with fail
        refine (Sub_any _ ss st as' at' ns nt cs ct (130 + 20 * k) (130 + 20 * k + 10) (130 + 20 * k + 10) sum x3 (by omega) (by omega) (by omega) IS.out IT.out).mono ?_
        rintro e w6 ⟨s6, a6, n6, c6, rfl, i6, b6⟩
        have HR6' := hide (HR5.out.below b6)
        have HR6 := hide ((HR6'.out.setS i6).mono (NS' := 130 + 20 * (k + 1)) (NT' := 130 + 20 * (k + 1)) (by omega) (by omega))
        obtain ⟨_, _, _, _, u0, u1, _⟩ := HR6'.out.s
        have uf := HR6'.out.sf
        clear i6 b6 HR5 IT IS t0 t1 s0 s1 HR6'
        go_wp2
        go_roundw
        case rel => exact ⟨k + 1, f, _, _, _, false, by omega, rfl, rfl, by have := HAK.out; omega, h30, by simpa using HS2, HR6.out⟩
        case measure => simp [intOf]; omega
end Go.Proofs.Qxb6500775a
