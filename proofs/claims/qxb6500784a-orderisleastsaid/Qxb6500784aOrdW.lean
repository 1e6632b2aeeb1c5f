import Derived.Test.Qxb6500784aLeastW
import Derived.Test.Qxb6500784aData2
namespace Go.Proofs.Qxb6500784a
open Go.RowKit

set_option maxRecDepth 100000 in
set_option maxHeartbeats 4000000 in
theorem least_walk (w : World) (a : Option Addr) (n cap : Nat) (O : Nat → OpR) (hn : n ≤ 9223372036854775807) (ho : OpsAt3 w a n O) :
    Calls Try.prog 3 #[.slice a n cap] w fun e w' => e = .returned (.bool true) ∧ Below w.heap.size w w' := by
  have HO := hide ho.1.1
  have HI := hide ho.1.2
  have HOne := hide ho.2
  clear ho
  go_enter Try.func3, Try.ntmps3
  go_wp2_with fail
  refine (small_any _ a n cap O hn HO.out).mono ?_
  rintro e w' ⟨bb, rfl, rfl⟩
  cases bb
  · go_wp2
    go_ret
    exact ⟨rfl, Below.refl _ _⟩
  go_wp2
  go_loopw [15] (fun i wr => ∃ k : Nat, k ≤ n ∧ i = .int .i64 k ∧ Below w'.heap.size w' wr) (fun i _ => n - (intOf i).toNat)
  case atStart => exact ⟨0, Nat.zero_le _, rfl, Below.refl _ _⟩
  case round =>
    obtain ⟨k, hk, rfl, hbel⟩ := hrel
    have HBw := hide hbel
    clear hbel
    by_cases hlt : k < n
    · obtain ⟨b, off, rfl, hc, hop⟩ := (HO.out.below HBw.out) k hlt
      have o0 : wr.cell? ⟨b, off + k * 8, none⟩ = some ((O k).v 0) := by simpa using hc 0 (by omega)
      have o1 := hc 1 (by omega)
      rw [hop.v1] at o1
      have o2 := hc 2 (by omega)
      have o3 := hc 3 (by omega)
      have o4 := hc 4 (by omega)
      have o5 := hc 5 (by omega)
      have o6 := hc 6 (by omega)
      have o7 := hc 7 (by omega)
      obtain ⟨k0, x0, e0⟩ := HI.out k hlt 0 (by omega) (by omega)
      rw [e0] at o0
      clear e0
      obtain ⟨k2, x2, e2⟩ := HI.out k hlt 2 (by omega) (by omega)
      rw [e2] at o2
      clear e2
      obtain ⟨k3, x3, e3⟩ := HI.out k hlt 3 (by omega) (by omega)
      rw [e3] at o3
      clear e3
      obtain ⟨k4, x4, e4⟩ := HI.out k hlt 4 (by omega) (by omega)
      rw [e4] at o4
      clear e4
      obtain ⟨k5, x5, e5⟩ := HI.out k hlt 5 (by omega) (by omega)
      rw [e5] at o5
      clear e5
      obtain ⟨k6, x6, e6⟩ := HI.out k hlt 6 (by omega) (by omega)
      rw [e6] at o6
      clear e6
      obtain ⟨k7, x7, e7⟩ := HI.out k hlt 7 (by omega) (by omega)
      rw [e7] at o7
      clear e7
      have hln := hop.ln
      have HLg := hide hop.legs
      have H1 := hide (HOne.out k hlt)
      clear hc hop
      generalize (O k).la = la at *
      generalize (O k).ln = ln at *
      generalize (O k).lc = lc at *
      generalize (O k).L = L at *
      go_upto_region 6 with fail
      obtain ⟨W3, hW3⟩ : ∃ W3, W3 = wr.alloc (.cells #[.int k0 x0, .slice la ln lc, .int k2 x2, .int k3 x3, .int k4 x4, .int k5 x5, .int k6 x6, .int k7 x7] 33) := ⟨_, rfl⟩
      have cb : W3.cell? ⟨wr.heap.size, 1, none⟩ = some (.slice la ln lc) := by rw [hW3]; simp [go_sem]
      have hb3 : Below wr.heap.size wr W3 := by rw [hW3]; exact (Below.refl _ _).alloc (Nat.le_refl _) _
      have HL3 := hide (HLg.out.below hb3)
      have HB3 : Hid (Below w'.heap.size w' W3) := HBw.out.trans (hb3.mono HBw.out.size)
      have hP : wr.heap.size < W3.heap.size := World.block_lt_of_cell? _ _ cb
      rw [← hW3]
      clear hW3 hb3 HLg HBw o0 o1 o2 o3 o4 o5 o6 o7
      generalize wr.heap.size = P at *
      go_wp2_with fail
      refine (order_any _ la ln lc L hln HL3.out).mono ?_
      rintro e w4 ⟨v, rfl, hb4, hv0, hv1⟩
      have HV0 := hide hv0
      have HV1 := hide hv1
      have HL4 := hide (HL3.out.below hb4)
      have HB4 : Hid (Below w'.heap.size w' w4) := HB3.out.trans (hb4.mono HB3.out.size)
      have cb4 := cellKeep hb4 cb
      clear hv0 hv1 hb4 cb HB3 HL3
      go_wp2_with fail
      refine (validate_any _ la ln lc L hln HL4.out).mono ?_
      rintro e w5 ⟨rfl, hb5⟩
      have HL5 := hide (HL4.out.below hb5)
      have HB5 : Hid (Below w'.heap.size w' w5) := HB4.out.trans (hb5.mono HB4.out.size)
      have cb5 := cellKeep hb5 cb4
      have HB45 := hide hb5
      clear hb5 cb4 HB4 HL4
      go_wp2_with fail
      refine (malformed_any _ la ln lc L hln HL5.out H1.out).mono ?_
      rintro e w6 ⟨rfl, hb6⟩
      have HL6 := hide (HL5.out.below hb6)
      have HB6 : Hid (Below w'.heap.size w' w6) := HB5.out.trans (hb6.mono HB5.out.size)
      have cb6 := cellKeep hb6 cb5
      have HB46 : Hid (Below w4.heap.size w4 w6) := HB45.out.trans (hb6.mono HB45.out.size)
      clear hb6 cb5 HB5 HL5 HB45
      by_cases hz : bCode ln L = 0
      · by_cases hs : stuckP ln (needM ln L) = 0
        · obtain ⟨hsr, hlen, hmem, hfit⟩ := least_ok hz hs
          obtain ⟨h0, h8⟩ := bCode_zero hz
          have hoc := ordCode_ok hz hs
          obtain ⟨ao, cp, rfl, hpm⟩ := owns_perm (HV1.out hoc)
          rw [hoc, hz]
          have HSR := hide hsr
          have HLen := hide hlen
          have hl8 : (sortP ln (needM ln L)).1.length ≤ 8 := by omega
          have HMem := hide hmem
          have HFit := hide hfit
          have HP6 := hide (hpm.below HB46.out)
          clear hsr hmem hfit hpm hlen HV0 HV1 hz hs hoc HB46
          generalize (sortP ln (needM ln L)).1 = V at *
          go_wp2_with fail
          refine (least_any _ la ln lc L h8 HL6.out).mono ?_
          rintro e w7 ⟨hb7, hres⟩
          have HB7 : Hid (Below w'.heap.size w' w7) := HB6.out.trans (hb7.mono HB6.out.size)
          have HL7 := hide (HL6.out.below hb7)
          have HP7 := hide (HP6.out.below hb7)
          have cb7 := cellKeep hb7 cb6
          clear hb7 cb6 HB6 HL6 HP6
          rcases hres with ⟨r, ao2, cp2, hr, rfl, hp2⟩ | ⟨hr, v2, rfl⟩
          · have hrV : r = V := by
              have := HSR.out
              rw [hr] at this
              injection this
            subst hrV
            have HQ7 := hide hp2
            clear hp2 hr
            go_wp2_with fail
            refine (same_any _ ao ao2 cp cp2 r hl8 HP7.out HQ7.out).mono ?_
            rintro e w8 ⟨rfl, hb8⟩
            have HB8 : Hid (Below w'.heap.size w' w8) := HB7.out.trans (hb8.mono HB7.out.size)
            have HL8 := hide (HL7.out.below hb8)
            have HP8 := hide (HP7.out.below hb8)
            have cb8 := cellKeep hb8 cb7
            clear hb8 cb7 HB7 HL7 HP7 HQ7
            go_wp2_with fail
            refine (fits_any _ la ln lc L ao cp r (Nat.le_succ_of_le hl8) HMem.out HL8.out HP8.out).mono ?_
            rintro e w9 ⟨rfl, hb9⟩
            have HB9 : Hid (Below w'.heap.size w' w9) := HB8.out.trans (hb9.mono HB8.out.size)
            clear hb9 cb8
            rw [HFit.out]
            go_wp2
            go_roundw
            case rel => exact ⟨k + 1, by omega, by go_num, HB9.out⟩
            case measure => simp [intOf]; omega
          · rw [HSR.out] at hr; cases hr
        · have hsr := least_none hz hs
          obtain ⟨h0, h8⟩ := bCode_zero hz
          have hoc := ordCode_cyc hz hs
          have hv := HV0.out (by rw [hoc]; decide)
          subst hv
          rw [hoc, hz]
          have HSR := hide hsr
          clear hsr HV0 HV1 hz hs hoc HB46
          go_wp2_with fail
          refine (least_any _ la ln lc L h8 HL6.out).mono ?_
          rintro e w7 ⟨hb7, hres⟩
          have HB7 : Hid (Below w'.heap.size w' w7) := HB6.out.trans (hb7.mono HB6.out.size)
          clear hb7 cb6
          rcases hres with ⟨r, ao2, cp2, hr, rfl, hp2⟩ | ⟨hr, v2, rfl⟩
          · rw [HSR.out] at hr; cases hr
          · clear hr
            go_wp2
            go_roundw
            case rel => exact ⟨k + 1, by omega, by go_num, HB7.out⟩
            case measure => simp [intOf]; omega
      · have hoc := ordCode_bad hz
        have hv := HV0.out (by rw [hoc]; exact hz)
        subst hv
        rw [hoc]
        clear HV0 HV1 hoc HB46
        generalize bCode ln L = cd at *
        go_wp2
        go_roundw
        case rel => exact ⟨k + 1, by omega, by go_num, HB6.out⟩
        case measure => simp [intOf]; omega
    · go_wp2
      go_ret
      exact ⟨rfl, HBw.out⟩
end Go.Proofs.Qxb6500784a
