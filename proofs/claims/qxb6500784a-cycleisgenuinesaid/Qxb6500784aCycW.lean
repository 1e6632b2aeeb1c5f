import Derived.Test.Qxb6500784aFind
import Derived.Test.Qxb6500784aSmall
import Derived.Test.Qxb6500784aData2
namespace Go.Proofs.Qxb6500784a
open Go.RowKit

theorem cyc_need {n : Nat} {L : Nat → Leg} {X len : Nat} {C : Nat → Nat} (hb : NeedBits n L (needM n L)) (hc : Cyc (needM n L) X len C) {k : Nat} (hk : k < len) :
    C k < n ∧ C ((k + 1) % len) < n ∧ ∃ q, q < (L (C k)).nn ∧ (L (C k)).nd q = (L (C ((k + 1) % len))).id :=
  (hb _ _).1 (hc.need k hk)
theorem needs_any' (w : World) (a : Option Addr) (n cap i j : Nat) (ci cj : Int) (ei : ci = (i : Int)) (ej : cj = (j : Int)) (L : Nat → Leg) (hL : LegsAt w a n L) (hi : i < n) (hj : j < n) (hx : ∃ k, k < (L i).nn ∧ (L i).nd k = (L j).id) :
    Calls Try.prog 33 #[.agg #[.slice a n cap], .int .i64 ci, .int .i64 cj] w fun e w' => e = .returned (.bool true) ∧ Below w.heap.size w w' := by
  subst ei ej
  exact needs_any w a n cap i j L hL hi hj hx
theorem of_drew {B : Nat} {W w1 : World} (hb : Below B W.drew w1) : Below B W w1 := ⟨hb.os, hb.tape, hb.output, hb.size, hb.block⟩
set_option maxRecDepth 100000 in
set_option maxHeartbeats 4000000 in
theorem cycle_walk (w : World) (a : Option Addr) (n cap : Nat) (O : Nat → OpR) (hn : n ≤ 9223372036854775807) (ho : OpsAt2 w a n O) :
    Calls Try.prog 7 #[.slice a n cap] w fun e w' => e = .returned (.bool true) ∧ Below w.heap.size w w' := by
  have HO := hide ho.1
  have HI := hide ho.2
  clear ho
  go_enter Try.func7, Try.ntmps7
  go_wp2_with fail
  refine (small_any _ a n cap O hn HO.out).mono ?_
  rintro e w' ⟨bb, rfl, rfl⟩
  cases bb
  · go_wp2
    go_ret
    exact ⟨rfl, Below.refl _ _⟩
  go_wp2
  go_loopw [18] (fun i wr => ∃ k : Nat, k ≤ n ∧ i = .int .i64 k ∧ Below w'.heap.size w' wr) (fun i _ => n - (intOf i).toNat)
  case atStart => exact ⟨0, Nat.zero_le _, rfl, Below.refl _ _⟩
  case round =>
    obtain ⟨k, hk, rfl, hbel⟩ := hrel
    have HBw := hide hbel
    clear hbel
    by_cases hlt : k < n
    · obtain ⟨b, off, rfl, hc, hop⟩ := (HO.out.below HBw.out) k hlt
      have o0 : wr.cell? ⟨b, off + k * 8, none⟩ = some ((O k).v 0) := by simpa using hc 0 (by omega)
      have o1 := hc 1 (by omega)
      rw [hop.v1] at o1
      have o2 := hc 2 (by omega)
      have o3 := hc 3 (by omega)
      have o4 := hc 4 (by omega)
      have o5 := hc 5 (by omega)
      have o6 := hc 6 (by omega)
      have o7 := hc 7 (by omega)
      obtain ⟨k0, x0, e0⟩ := HI.out k hlt 0 (by omega) (by omega)
      rw [e0] at o0
      clear e0
      obtain ⟨k2, x2, e2⟩ := HI.out k hlt 2 (by omega) (by omega)
      rw [e2] at o2
      clear e2
      obtain ⟨k3, x3, e3⟩ := HI.out k hlt 3 (by omega) (by omega)
      rw [e3] at o3
      clear e3
      obtain ⟨k4, x4, e4⟩ := HI.out k hlt 4 (by omega) (by omega)
      rw [e4] at o4
      clear e4
      obtain ⟨k5, x5, e5⟩ := HI.out k hlt 5 (by omega) (by omega)
      rw [e5] at o5
      clear e5
      obtain ⟨k6, x6, e6⟩ := HI.out k hlt 6 (by omega) (by omega)
      rw [e6] at o6
      clear e6
      obtain ⟨k7, x7, e7⟩ := HI.out k hlt 7 (by omega) (by omega)
      rw [e7] at o7
      clear e7
      have hln := hop.ln
      have HLg := hide hop.legs
      clear hc hop
      generalize (O k).la = la at *
      generalize (O k).ln = ln at *
      generalize (O k).lc = lc at *
      generalize (O k).L = L at *
      go_upto_region 6 with fail
      obtain ⟨W3, hW3⟩ : ∃ W3, W3 = wr.alloc (.cells #[.int k0 x0, .slice la ln lc, .int k2 x2, .int k3 x3, .int k4 x4, .int k5 x5, .int k6 x6, .int k7 x7] 33) := ⟨_, rfl⟩
      have cb : W3.cell? ⟨wr.heap.size, 1, none⟩ = some (.slice la ln lc) := by rw [hW3]; simp [go_sem]
      have hb3 : Below wr.heap.size wr W3 := by rw [hW3]; exact (Below.refl _ _).alloc (Nat.le_refl _) _
      have HL3 := hide (HLg.out.below hb3)
      have HB3 : Hid (Below w'.heap.size w' W3) := HBw.out.trans (hb3.mono HBw.out.size)
      have hP : wr.heap.size < W3.heap.size := World.block_lt_of_cell? _ _ cb
      rw [← hW3]
      clear hW3 hb3 HLg HBw o0 o1 o2 o3 o4 o5 o6 o7
      generalize wr.heap.size = P at *
      go_wp2_with fail
      refine (find_any _ la ln lc L hln HL3.out).mono ?_
      rintro e w4 ⟨v, rfl, hb4, hv0, hv1⟩
      have HV0 := hide hv0
      have HV1 := hide hv1
      have HL4 := hide (HL3.out.below hb4)
      have HB4 : Hid (Below w'.heap.size w' w4) := HB3.out.trans (hb4.mono HB3.out.size)
      have cb4 := cellKeep hb4 cb
      have hP4 : P < w4.heap.size := World.block_lt_of_cell? _ _ cb4
      clear hv0 hv1 hb4 cb HB3 HL3
      go_wp2_with fail
      refine (order_any _ la ln lc L hln HL4.out).mono ?_
      rintro e w5 ⟨vo, rfl, hb5, -, -⟩
      have HL5 := hide (HL4.out.below hb5)
      have HB5 : Hid (Below w'.heap.size w' w5) := HB4.out.trans (hb5.mono HB4.out.size)
      have cb5 := cellKeep hb5 cb4
      have HB45 := hide hb5
      clear hb5 cb4 HB4 HL4
      by_cases h67 : ordCode ln L = 67
      · obtain ⟨h8, hnb, b2, off2, len, cp, C, rfl, hlcp, hcyc, hcell⟩ := HV1.out h67
        have HCell : Hid (∀ j, j < len → w5.cell? ⟨b2, off2 + j, none⟩ = some (.int .i64 (C j : Nat))) := fun j hj => cellKeep HB45.out (hcell j hj)
        have HCy := hide hcyc
        have HNB := hide hnb
        have hpos := hcyc.pos
        have hle := hcyc.le
        rw [h67]
        clear HV0 HV1 h67 hnb hcyc hcell HB45 hP4
        go_wp2
        have e0 : ((len : Int) == 0) = false := by simp; omega
        try rw [e0]
        clear e0
        go_loopw [47] (fun s wx => ∃ q : Nat, q ≤ len ∧ s = .int .i64 q ∧ Below w5.heap.size w5 wx) (fun i _ => len - (intOf i).toNat)
        case atStart => exact ⟨0, Nat.zero_le _, rfl, Below.refl _ _⟩
        case round =>
          obtain ⟨q, hq, rfl, hbel⟩ := hrel
          have HBx := hide hbel
          clear hbel
          by_cases hql : q < len
          · have c1 := cellKeep HBx.out (HCell.out q hql)
            have cbx := cellKeep HBx.out cb5
            obtain ⟨hC1, hC2, hC3⟩ := cyc_need HNB.out HCy.out hql
            obtain ⟨j2, hj2⟩ : ∃ j2, j2 = (q + 1) % len := ⟨_, rfl⟩
            rw [← hj2] at hC2 hC3
            have hjl : j2 < len := by rw [hj2]; exact Nat.mod_lt _ hpos
            have c2 := cellKeep HBx.out (HCell.out j2 hjl)
            have hr : Int.tmod ((q : Int) + 1) (len : Int) = (j2 : Int) := by rw [hj2, Int.tmod_eq_emod_of_nonneg (by omega)]; simp
            have HC3 := hide hC3
            clear hC3 hj2
            have hr2 : ((q : Int) + 1) % (len : Int) = (j2 : Int) := by rw [← hr, Int.tmod_eq_emod_of_nonneg (by omega)]
            have hw1 : IntKind.i64.wrap ((q : Int) + 1) = (q : Int) + 1 := IntWalk.i64_in _ (by omega)
            have hb0 : (0 : Int) ≤ (j2 : Int) := by omega
            have hb1 : (j2 : Int) < (len : Int) := by omega
            have hl0 : len ≠ 0 := by omega
            have hl1 : ((len : Int) == 0) = false := by simp; omega
            obtain ⟨cq, hcq⟩ : ∃ x : Int, x = (C q : Nat) := ⟨_, rfl⟩
            obtain ⟨cj, hcj⟩ : ∃ x : Int, x = (C j2 : Nat) := ⟨_, rfl⟩
            rw [← hcq] at c1
            rw [← hcj] at c2
            have g1 : decide (cq < 0) = false := decide_eq_false (by omega)
            have g2 : decide ((ln : Int) ≤ cq) = false := decide_eq_false (by omega)
            have HCQ := hide hcq
            have HCJ := hide hcj
            clear hcq hcj
            go_upto_region 18 with fail
            go_region_held3 (fun w' => w'.cell? ⟨P, 1, none⟩ = some (.slice la ln lc) ∧ w'.cell? ⟨b2, off2 + j2, none⟩ = some (.int .i64 cj)) (simp [*, go_sem])
              (first | (go_at_call 33; refine (needs_any' _ la ln lc (C q) (C j2) cq cj HCQ.out HCJ.out L (HL5.out.below HBx.out.drew) hC1 hC2 HC3.out).mono ?_; rintro e w6 ⟨rfl, hb6⟩; have c6 := cellKeep (of_drew hb6) c2; have d6 := cellKeep (of_drew hb6) cbx))
            rename_i hHeld
            have HB6 : Hid (Below w5.heap.size w5 w6) := HBx.out.trans ((of_drew hb6).mono HBx.out.size)
            clear hb6 c6 d6 hr hr2 hw1 hb0 hb1 hl0 hl1 c1 c2 g1 g2 HCJ HC3 hjl hC2 cbx hHeld
            go_wp2
            go_loop [81] (fun s => ∃ t : Nat, t ≤ q ∧ s = .int .i64 t) (fun s => q - (intOf s).toNat)
            case atStart => exact ⟨0, Nat.zero_le _, rfl⟩
            case round =>
              obtain ⟨t, ht, rfl⟩ := hrel
              by_cases htq : t < q
              · have c1 := cellKeep HB6.out (HCell.out t (by omega))
                obtain ⟨ct, hct⟩ : ∃ x : Int, x = (C t : Nat) := ⟨_, rfl⟩
                rw [← hct] at c1
                have hne : ¬ ct = cq := by
                  rw [hct, HCQ.out]
                  have := HCy.out.ne q t htq hql
                  omega
                clear hct
                go_wp2
                go_round
                case rel => exact ⟨t + 1, by omega, by go_num⟩
                case measure => simp [intOf]; omega
              · go_wp2
                go_roundw
                case rel => exact ⟨q + 1, by omega, by go_num, HB6.out⟩
                case measure => simp [intOf]; omega
          · go_wp2
            go_roundw
            case rel => exact ⟨k + 1, by omega, by go_num, HB5.out.trans (HBx.out.mono HB5.out.size)⟩
            case measure => simp [intOf]; omega
      · have hv := HV0.out h67
        subst hv
        clear HV0 HV1
        generalize ordCode ln L = cd at *
        go_wp2
        go_roundw
        case rel => exact ⟨k + 1, by omega, by go_num, HB5.out⟩
        case measure => simp [intOf]; omega
    · go_wp2
      go_ret
      exact ⟨rfl, HBw.out⟩
end Go.Proofs.Qxb6500784a
