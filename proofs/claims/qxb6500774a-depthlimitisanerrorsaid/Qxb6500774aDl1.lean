import Derived.Test.Qxb6500774aPl4
namespace Go.Proofs.Qxb6500774a
open Go.RowKit

theorem add_lit (w : World) (B : Nat) (v : Value) (X : List Int) (st : ByteArray) (Y : List Int) (hY : strL st = Y) (hYl : Y.length ≤ 100) (hv : Own B w v X) (hB : B ≤ w.heap.size) (hX : X.length ≤ 1000000) :
    Calls Try.prog 24 #[v, .string st] w fun e w' => ∃ v', e = .returned v' ∧ Own B w' v' (X ++ Y) ∧ Below B w w' := by
  have := add_any w B v X st hv hB (by rw [hY]; omega)
  rw [hY] at this
  exact this
set_option linter.unusedSimpArgs false in
set_option maxRecDepth 100000 in
set_option maxHeartbeats 8000000 in
theorem depth_walk (w : World) (a : Option Addr) (len cap : Nat) (f : Nat → OpV) (hn : len ≤ 9223372036854775807) (hops : OpsAt w a len f) :
    Calls Try.prog 6 #[.slice a len cap] w fun e w' => e = .returned (.bool true) ∧ Below w.heap.size w w' := by
  have HO := hide hops
  have HSM := hide (small_any w a len cap f hops hn)
  clear hops
  go_enter Try.func6, Try.ntmps6
  go_wp2_with fail
  refine (HSM.out).mono ?_
  rintro e w' ⟨bb, rfl, rfl, hsm⟩
  cases bb
  · go_wp2
    go_ret
    exact ⟨rfl, Below.refl _ _⟩
  obtain ⟨hlen, hsm⟩ := hsm rfl
  have HS := hide hsm
  clear hsm HSM
  go_wp2
  go_loopw [21] (fun s21 wr => ∃ k : Nat, k ≤ len ∧ s21 = .int .i64 k ∧ Hid (Below w.heap.size w wr)) (fun s21 _ => len - (intOf s21).toNat)
  case atStart => exact ⟨0, Nat.zero_le _, rfl, Below.refl _ _⟩
  case round =>
    obtain ⟨k, hk, rfl, HB⟩ := hrel
    have hwk : IntKind.i64.wrap ((k : Int) + 1) = ((k + 1 : Nat) : Int) := by rw [IntKind.wrap_i64]; omega
    by_cases hlt : k < len
    · have d1 : decide ((k : Int) < (len : Int)) = true := decide_eq_true (by omega)
      have d1n : decide (k < len) = true := decide_eq_true hlt
      have hki : (k : Int) < (len : Int) := by omega
      obtain ⟨b, off, ha, hop⟩ := (HO.out.below HB.out) k hlt
      have htn := HS.out k hlt
      subst ha
      have c0 := hop.c0
      have c1 := hop.c1
      have c2 := hop.c2
      have hra := hop.ra
      have HBT := hide hop.bt
      clear hop
      generalize (f k).kd = kd at *
      generalize (f k).a = av at *
      generalize (f k).ta = ta at *
      generalize (f k).tn = tn at *
      generalize (f k).tc = tc at *
      generalize (f k).T = T at *
      go_upto_region 6 with fail
      have HR1 := hide (B3.new wr (.int .i64 kd) (.int .i64 av) (.slice ta tn tc) 58)
      have HB1 : Hid (Below w.heap.size w (wr.alloc (.cells #[.int .i64 kd, .int .i64 av, .slice ta tn tc] 58))) := HB.out.alloc HB.out.size _
      have HBT1 := hide (HBT.out.below (be1 wr (.cells #[.int .i64 kd, .int .i64 av, .slice ta tn tc] 58)))
      have hrl : wr.heap.size < (wr.alloc (.cells #[.int .i64 kd, .int .i64 av, .slice ta tn tc] 58)).heap.size := by simp
      generalize wr.alloc (.cells #[.int .i64 kd, .int .i64 av, .slice ta tn tc] 58) = w1 at *
      generalize wr.heap.size = r at *
      clear HB HBT c0 c1 c2
      have r1 := HR1.out.c1
      by_cases hA : 0 ≤ av ∧ av ≤ 256
      · obtain ⟨A, rfl⟩ : ∃ A : Nat, av = (A : Int) := ⟨av.toNat, by omega⟩
        have hA2 : A ≤ 256 := by omega
        have dA1 : decide ((A : Int) < 0) = false := decide_eq_false (by omega)
        have dA2 : decide ((256 : Int) < (A : Int)) = false := decide_eq_false (by omega)
        have dA2n : decide (256 < A) = false := decide_eq_false (by omega)
        have HNIL : Hid (Own w1.heap.size w1 (.slice none 0 0) []) := ⟨rfl, .inl ⟨rfl, rfl⟩⟩
        have HAD := hide (add_any w1 w1.heap.size (.slice none 0 0) [] ⟨#[80, 82, 79, 71, 82, 65, 77, 32, 80, 32]⟩ HNIL.out (Nat.le_refl _) (by decide))
        clear HNIL hA
        go_upto_region 10 with (go_at_call 24; refine (HAD.out).mono ?_; rintro e w2 ⟨v, rfl, hown, hbel⟩; have HOWN := hide hown; have HBL := hide hbel; clear hown hbel; simp only [])
        go_wp2
        go_loopw [5, 6, 7, 8] (fun s5 s6 s7 s8 wx => ∃ i : Nat, i ≤ A ∧ s8 = .int .i64 i ∧ s5 = .int .i64 i ∧ s6 = .int .i64 (td (opH i)) ∧ Hid (Own w1.heap.size wx s7 (sPROG ++ hds i)) ∧ Hid (Below w1.heap.size w1 wx)) (fun _ _ _ s8 _ => A - (intOf s8).toNat)
        case atStart => exact ⟨0, Nat.zero_le _, rfl, rfl, rfl, HOWN, HBL⟩
        case round =>
          clear HOWN HBL HAD
          obtain ⟨i, hi, rfl, rfl, rfl, HOWN, HBL⟩ := hrel
          have q1 := (HR1.out.keep (S := fun _ => False) (Ex.of HBL.out) (fun e => e)).c1
          by_cases hlA : i < A
          · have dl : decide ((i : Int) < (A : Int)) = true := decide_eq_true (by omega)
            have dln : decide (i < A) = true := decide_eq_true hlA
            have hwi : IntKind.i64.wrap ((i : Int) + 1) = ((i + 1 : Nat) : Int) := by rw [IntKind.wrap_i64]; omega
            obtain ⟨b65, h65⟩ : ∃ b, (((i : Int) + 1) == 65) = b := ⟨_, rfl⟩
            obtain ⟨va, vc, hv⟩ := own_val HOWN.out
            subst hv
            obtain ⟨n7, hn7⟩ : ∃ n7, (sPROG ++ hds i).length = n7 := ⟨_, rfl⟩
            have hn7b : n7 = 10 + (hds i).length := by rw [← hn7, List.length_append]; rfl
            have hhl := hds_len i
            have hw7 : IntKind.i64.wrap ((n7 : Int) + 1) = (n7 : Int) + 1 := by rw [IntKind.wrap_i64]; omega
            have HTD := hide (td_snoc (opH i) (10 + (hds i).length))
            rw [opH_len, show opH i ++ [10 + (hds i).length] = opH (i + 1) from rfl, ← hn7b] at HTD
            have HN7 := hide hn7
            rw [hn7]
            have HN7b := hide hn7b
            have hn7c : n7 ≤ 100000 := by omega
            clear hn7 hn7b hhl
            go_upto_if 43 with fail
            go_cut [6] (fun s6 wy => s6 = .int .i64 (td (opH (i + 1))) ∧ wr = wy)
            case first =>
              cases b65
              · have e64 : ¬ i = 64 := by intro e; subst e; simp at h65
                have HQ := HTD
                rw [if_neg e64] at HQ
                clear e64 h65
                go_wp2
                go_meet
                case rel => exact ⟨by rw [HQ.out], rfl⟩
              · have e64 : i = 64 := by simp at h65; omega
                have HQ := HTD
                rw [if_pos e64] at HQ
                clear e64 h65
                go_wp2
                go_meet
                case rel => exact ⟨by rw [HQ.out], rfl⟩
            obtain ⟨rfl, rfl⟩ := hcut
            have hXm : (sPROG ++ hds i).length ≤ 1000000 := by rw [HN7.out]; omega
            have HA1 := hide (add_lit wr w1.heap.size _ (sPROG ++ hds i) ⟨#[73, 70, 32, 88, 32, 84, 72, 69, 78, 32]⟩ sIF rfl (by decide) HOWN.out HBL.out.size hXm)
            have HA2 := hide (add_lit wr w1.heap.size _ (sPROG ++ hds i) ⟨#[70, 79, 82, 32, 73, 32, 58, 61, 32, 48, 32, 84, 79, 32, 49, 32, 68, 79, 32]⟩ sFOR rfl (by decide) HOWN.out HBL.out.size hXm)
            rw [HN7.out] at HA1 HA2
            clear hXm
            have ht2 : (i : Int).tmod 2 = (i : Int) % 2 := Int.tmod_eq_emod_of_nonneg (by omega)
            by_cases hp : i % 2 = 0
            · have hmz : (i : Int).tmod 2 = 0 := by rw [ht2]; omega
              have hmz2 : (i : Int) % 2 = 0 := by omega
              have HHD : Hid (hdT i = sIF) := if_pos hp
              have hHp := hide hp
              clear hp ht2
              go_wp2_with (go_at_call 24; refine (HA1.out).mono ?_; rintro e w3 ⟨v3, rfl, hown, hbel⟩; have HO3 := hide hown; have HB3 := hide (HBL.out.trans hbel); clear hown hbel; simp only [])
              go_roundw
              case rel => exact ⟨i + 1, by omega, by go_num, by go_num, rfl, by rw [hds, HHD.out, ← List.append_assoc]; exact HO3, HB3⟩
              case measure => simp [intOf]; omega
            · have hmz : (i : Int).tmod 2 = 1 := by rw [ht2]; omega
              have hmz2 : (i : Int) % 2 = 1 := by omega
              have HHD : Hid (hdT i = sFOR) := if_neg hp
              have hHp := hide hp
              clear hp ht2
              go_wp2_with (go_at_call 24; refine (HA2.out).mono ?_; rintro e w3 ⟨v3, rfl, hown, hbel⟩; have HO3 := hide hown; have HB3 := hide (HBL.out.trans hbel); clear hown hbel; simp only [])
              go_roundw
              case rel => exact ⟨i + 1, by omega, by go_num, by go_num, rfl, by rw [hds, HHD.out, ← List.append_assoc]; exact HO3, HB3⟩
              case measure => simp [intOf]; omega
          · obtain rfl : i = A := by omega
            have dl : decide ((i : Int) < (i : Int)) = false := decide_eq_false (by omega)
            have dln : decide (i < i) = false := decide_eq_false (by omega)
            have hhl := hds_len i
            have hPb : (sPROG ++ hds i).length = 10 + (hds i).length := by rw [List.length_append]; rfl
            have HA1 := hide (add_lit wr w1.heap.size _ (sPROG ++ hds i) ⟨#[88, 32, 58, 61, 32]⟩ sASG rfl (by decide) HOWN.out HBL.out.size (by omega))
            have hXb : (sPROG ++ hds i ++ sASG).length = 10 + (hds i).length + 5 := by rw [List.length_append, hPb]; rfl
            have HXB := hide hXb
            have hXs : (hds i).length ≤ 4864 := by omega
            obtain ⟨X2, hX2⟩ : ∃ X2, sPROG ++ hds i ++ sASG = X2 := ⟨_, rfl⟩
            rw [hX2] at HXB HA1
            have HX2 := hide hX2
            clear hX2 hXb hPb hhl
            go_upto_region 20 with (go_at_call 24; refine (HA1.out).mono ?_; rintro e w3 ⟨v3, rfl, hown, hbel⟩; have HO3 := hide hown; have HB3 := hide (HBL.out.trans hbel); clear hown hbel; simp only [])
            have q2 := (HR1.out.keep (S := fun _ => False) (Ex.of HB3.out) (fun e => e)).c2
            obtain ⟨ks, hks⟩ : ∃ ks, (List.range tn).map (fun j => (T j % 4).toNat) = ks := ⟨_, rfl⟩
            have hkl : ks.length = tn := by rw [← hks]; simp
            have HKS : Hid (∀ j, j < tn → ks[j]? = some (T j % 4).toNat) := fun j hj => by rw [← hks, List.getElem?_map, List.getElem?_range hj]; rfl
            clear hks HOWN HBL q1 HA1
            have HKL := hide hkl
            clear hkl
            go_wp2
            clear q2
            go_loopw [5, 6, 7, 59] (fun s5 s6 s7 s59 wx => ∃ j : Nat, j ≤ tn ∧ s59 = .int .i64 j ∧ s5 = .int .i64 ((i + j : Nat) : Int) ∧ s6 = .int .i64 (td (opH i ++ opE (10 + (hds i).length + 5) (ks.take j))) ∧ Hid (Own w1.heap.size wx s7 (X2 ++ (ks.take j).flatMap opn)) ∧ Hid (Below w1.heap.size w1 wx)) (fun _ _ _ s59 _ => tn - (intOf s59).toNat)
            case atStart => exact ⟨0, Nat.zero_le _, rfl, rfl, by rw [List.take_zero, opE, List.append_nil], by rw [List.take_zero, List.flatMap_nil, List.append_nil]; exact HO3, HB3⟩
            case round =>
              clear HO3 HB3
              obtain ⟨j, hj, rfl, rfl, rfl, HOWN, HBL⟩ := hrel
              have htk : (ks.take j).length ≤ 65536 := by rw [List.length_take]; have := HKL.out; omega
              have hfl := fop_len (ks.take j)
              have hXl : (X2 ++ (ks.take j).flatMap opn).length = 10 + (hds i).length + 5 + ((ks.take j).flatMap opn).length := by rw [List.length_append, HXB.out]
              by_cases hlj : j < tn
              · have dl2 : decide ((j : Int) < (tn : Int)) = true := decide_eq_true (by omega)
                have dl2n : decide (j < tn) = true := decide_eq_true hlj
                have hji : (j : Int) < (tn : Int) := by omega
                obtain ⟨tb, toff, hta, tcx, tc0, tc1⟩ := (HBT1.out.below HBL.out) j hlj
                subst hta
                have hKj := HKS.out j hlj
                generalize T j = c at *
                obtain ⟨va, vc, hv⟩ := own_val HOWN.out
                subst hv
                obtain ⟨q, hq⟩ : ∃ q : Nat, (c % 4).toNat = q := ⟨_, rfl⟩
                rw [hq] at hKj
                have hq4 : q < 4 := by omega
                have hcm : c.tmod 4 = (q : Int) := by rw [Int.tmod_eq_emod_of_nonneg (by omega)]; omega
                have hcm2 : c % 4 = (q : Int) := by omega
                have hwq : IntKind.u8.wrap (q : Int) = (q : Int) := by rw [IntKind.wrap_u8]; omega
                have HTK : Hid (ks.take (j + 1) = ks.take j ++ [q]) := by show _ = _; rw [List.take_add_one, hKj]; rfl
                clear hKj hq
                obtain rfl | rfl | rfl | rfl : q = 0 ∨ q = 1 ∨ q = 2 ∨ q = 3 := by omega
                · have hc1 : c.tmod 4 = 0 := hcm
                  have hc2 : c % 4 = 0 := hcm2
                  clear hcm hcm2 hwq
                  have HOPN : Hid (opn 0 = [40]) := rfl
                  have HTD := hide (td_snoc (opH i ++ opE (10 + (hds i).length + 5) (ks.take j)) (10 + (hds i).length + 5 + ((ks.take j).flatMap opn).length + 0))
                  have e1 : opH i ++ opE (10 + (hds i).length + 5) (ks.take j) ++ [10 + (hds i).length + 5 + ((ks.take j).flatMap opn).length + 0] = opH i ++ opE (10 + (hds i).length + 5) (ks.take (j + 1)) := by rw [HTK.out, opE_snoc, List.append_assoc]; rfl
                  have e2 : (opH i ++ opE (10 + (hds i).length + 5) (ks.take j)).length = i + j := by rw [List.length_append, opH_len, opE_len, List.length_take]; have := HKL.out; omega
                  rw [e1, e2, ← hXl] at HTD
                  clear e1 e2
                  obtain ⟨n7, hn7⟩ : ∃ n7, (X2 ++ (ks.take j).flatMap opn).length = n7 := ⟨_, rfl⟩
                  have hn7b : n7 = (X2 ++ (ks.take j).flatMap opn).length + 0 := hn7.symm
                  have hw7 : IntKind.i64.wrap ((n7 : Int) + 1) = (n7 : Int) + 1 := by rw [IntKind.wrap_i64]; omega
                  have HA1 := hide (add_lit wr w1.heap.size _ (X2 ++ (ks.take j).flatMap opn) ⟨#[40]⟩ [40] rfl (by decide) HOWN.out HBL.out.size (by omega))
                  rw [← hn7b] at HTD
                  rw [hn7] at HA1
                  rw [hn7]
                  clear hn7 hn7b
                  obtain ⟨b65, h65⟩ : ∃ b, (((i : Int) + (j : Int) + 1) == 65) = b := ⟨_, rfl⟩
                  have hwo : IntKind.i64.wrap ((i : Int) + (j : Int) + 1) = (i : Int) + (j : Int) + 1 := by rw [IntKind.wrap_i64]; omega
                  go_upto_if 71 with fail
                  go_cut [6] (fun s6 wy => s6 = .int .i64 (td (opH i ++ opE (10 + (hds i).length + 5) (ks.take (j + 1)))) ∧ wr = wy)
                  case first =>
                    cases b65
                    · have e64 : ¬ i + j = 64 := by intro e; have : ((i : Int) + (j : Int) + 1) = 65 := by omega
                                                    rw [this] at h65; simp at h65
                      have HQ := HTD
                      rw [if_neg e64] at HQ
                      clear e64 h65
                      go_wp2
                      go_meet
                      case rel => exact ⟨by rw [HQ.out], rfl⟩
                    · have e64 : i + j = 64 := by simp at h65; omega
                      have HQ := HTD
                      rw [if_pos e64] at HQ
                      clear e64 h65
                      go_wp2
                      go_meet
                      case rel => exact ⟨by rw [HQ.out], rfl⟩
                  obtain ⟨rfl, rfl⟩ := hcut
                  clear HTD h65
                  go_wp2_with (go_at_call 24; refine (HA1.out).mono ?_; rintro e w4 ⟨v4, rfl, hown, hbel⟩; have HO4 := hide hown; have HB4 := hide (HBL.out.trans hbel); clear hown hbel; simp only [])
                  go_roundw
                  case rel => exact ⟨j + 1, by omega, by go_num, by go_num, rfl, by rw [HTK.out, List.flatMap_append, List.flatMap_cons, List.flatMap_nil, List.append_nil, HOPN.out, ← List.append_assoc]; exact HO4, HB4⟩
                  case measure => simp [intOf]; omega
                · have hc1 : c.tmod 4 = 1 := hcm
                  have hc2 : c % 4 = 1 := hcm2
                  clear hcm hcm2 hwq
                  have HOPN : Hid (opn 1 = [65] ++ [91]) := rfl
                  have HTD := hide (td_snoc (opH i ++ opE (10 + (hds i).length + 5) (ks.take j)) (10 + (hds i).length + 5 + ((ks.take j).flatMap opn).length + 1))
                  have e1 : opH i ++ opE (10 + (hds i).length + 5) (ks.take j) ++ [10 + (hds i).length + 5 + ((ks.take j).flatMap opn).length + 1] = opH i ++ opE (10 + (hds i).length + 5) (ks.take (j + 1)) := by rw [HTK.out, opE_snoc, List.append_assoc]; rfl
                  have e2 : (opH i ++ opE (10 + (hds i).length + 5) (ks.take j)).length = i + j := by rw [List.length_append, opH_len, opE_len, List.length_take]; have := HKL.out; omega
                  rw [e1, e2, ← hXl] at HTD
                  clear e1 e2
                  obtain ⟨n6, hn6⟩ : ∃ n6, (X2 ++ (ks.take j).flatMap opn).length = n6 := ⟨_, rfl⟩
                  have HA0 := hide (add_lit wr w1.heap.size _ (X2 ++ (ks.take j).flatMap opn) ⟨#[65]⟩ [65] rfl (by decide) HOWN.out HBL.out.size (by omega))
                  rw [hn6] at HA0 HTD hXl
                  rw [hn6]
                  have HN6 := hide hn6
                  have hn6b : n6 ≤ 300000 := by omega
                  clear hn6 hXl hfl htk
                  go_upto_region 25 with (go_at_call 24; refine (HA0.out).mono ?_; rintro e w3 ⟨v3, rfl, hown, hbel⟩; have HO3 := hide hown; have HB3 := hide (HBL.out.trans hbel); clear hown hbel; simp only [])
                  obtain ⟨va3, vc3, hv3⟩ := own_val HO3.out
                  subst hv3
                  have hX3 : (X2 ++ (ks.take j).flatMap opn ++ [65]).length = n6 + 1 := by rw [List.length_append, HN6.out]; rfl
                  obtain ⟨n7, hn7⟩ : ∃ n7, (X2 ++ (ks.take j).flatMap opn ++ [65]).length = n7 := ⟨_, rfl⟩
                  have hn7b : n7 = n6 + 1 := by rw [← hn7, hX3]
                  have hw7 : IntKind.i64.wrap ((n7 : Int) + 1) = (n7 : Int) + 1 := by rw [IntKind.wrap_i64]; omega
                  have HA1 := hide (add_lit w3 w1.heap.size _ (X2 ++ (ks.take j).flatMap opn ++ [65]) ⟨#[91]⟩ [91] rfl (by decide) HO3.out HB3.out.size (by omega))
                  rw [← hn7b] at HTD
                  rw [hn7] at HA1
                  rw [hn7]
                  clear hn7 hn7b hX3 HA0
                  obtain ⟨b65, h65⟩ : ∃ b, (((i : Int) + (j : Int) + 1) == 65) = b := ⟨_, rfl⟩
                  have hwo : IntKind.i64.wrap ((i : Int) + (j : Int) + 1) = (i : Int) + (j : Int) + 1 := by rw [IntKind.wrap_i64]; omega
                  go_upto_if 71 with fail
                  go_cut [6] (fun s6 wy => s6 = .int .i64 (td (opH i ++ opE (10 + (hds i).length + 5) (ks.take (j + 1)))) ∧ w3 = wy)
                  case first =>
                    cases b65
                    · have e64 : ¬ i + j = 64 := by intro e; have : ((i : Int) + (j : Int) + 1) = 65 := by omega
                                                    rw [this] at h65; simp at h65
                      have HQ := HTD
                      rw [if_neg e64] at HQ
                      clear e64 h65
                      go_wp2
                      go_meet
                      case rel => exact ⟨by rw [HQ.out], rfl⟩
                    · have e64 : i + j = 64 := by simp at h65; omega
                      have HQ := HTD
                      rw [if_pos e64] at HQ
                      clear e64 h65
                      go_wp2
                      go_meet
                      case rel => exact ⟨by rw [HQ.out], rfl⟩
                  obtain ⟨rfl, rfl⟩ := hcut
                  clear HTD h65
                  go_wp2_with (go_at_call 24; refine (HA1.out).mono ?_; rintro e w4 ⟨v4, rfl, hown, hbel⟩; have HO4 := hide hown; have HB4 := hide (HB3.out.trans hbel); clear hown hbel; simp only [])
                  go_roundw
                  case rel => exact ⟨j + 1, by omega, by go_num, by go_num, rfl, by rw [HTK.out, List.flatMap_append, List.flatMap_cons, List.flatMap_nil, List.append_nil, HOPN.out, ← List.append_assoc, ← List.append_assoc]; exact HO4, HB4⟩
                  case measure => simp [intOf]; omega
                · have hc1 : c.tmod 4 = 2 := hcm
                  have hc2 : c % 4 = 2 := hcm2
                  clear hcm hcm2 hwq
                  have HOPN : Hid (opn 2 = [78, 79, 84, 32]) := rfl
                  have HTD := hide (td_snoc (opH i ++ opE (10 + (hds i).length + 5) (ks.take j)) (10 + (hds i).length + 5 + ((ks.take j).flatMap opn).length + 0))
                  have e1 : opH i ++ opE (10 + (hds i).length + 5) (ks.take j) ++ [10 + (hds i).length + 5 + ((ks.take j).flatMap opn).length + 0] = opH i ++ opE (10 + (hds i).length + 5) (ks.take (j + 1)) := by rw [HTK.out, opE_snoc, List.append_assoc]; rfl
                  have e2 : (opH i ++ opE (10 + (hds i).length + 5) (ks.take j)).length = i + j := by rw [List.length_append, opH_len, opE_len, List.length_take]; have := HKL.out; omega
                  rw [e1, e2, ← hXl] at HTD
                  clear e1 e2
                  obtain ⟨n7, hn7⟩ : ∃ n7, (X2 ++ (ks.take j).flatMap opn).length = n7 := ⟨_, rfl⟩
                  have hn7b : n7 = (X2 ++ (ks.take j).flatMap opn).length + 0 := hn7.symm
                  have hw7 : IntKind.i64.wrap ((n7 : Int) + 1) = (n7 : Int) + 1 := by rw [IntKind.wrap_i64]; omega
                  have HA1 := hide (add_lit wr w1.heap.size _ (X2 ++ (ks.take j).flatMap opn) ⟨#[78, 79, 84, 32]⟩ [78, 79, 84, 32] rfl (by decide) HOWN.out HBL.out.size (by omega))
                  rw [← hn7b] at HTD
                  rw [hn7] at HA1
                  rw [hn7]
                  clear hn7 hn7b
                  obtain ⟨b65, h65⟩ : ∃ b, (((i : Int) + (j : Int) + 1) == 65) = b := ⟨_, rfl⟩
                  have hwo : IntKind.i64.wrap ((i : Int) + (j : Int) + 1) = (i : Int) + (j : Int) + 1 := by rw [IntKind.wrap_i64]; omega
                  go_upto_if 71 with fail
                  go_cut [6] (fun s6 wy => s6 = .int .i64 (td (opH i ++ opE (10 + (hds i).length + 5) (ks.take (j + 1)))) ∧ wr = wy)
                  case first =>
                    cases b65
                    · have e64 : ¬ i + j = 64 := by intro e; have : ((i : Int) + (j : Int) + 1) = 65 := by omega
                                                    rw [this] at h65; simp at h65
                      have HQ := HTD
                      rw [if_neg e64] at HQ
                      clear e64 h65
                      go_wp2
                      go_meet
                      case rel => exact ⟨by rw [HQ.out], rfl⟩
                    · have e64 : i + j = 64 := by simp at h65; omega
                      have HQ := HTD
                      rw [if_pos e64] at HQ
                      clear e64 h65
                      go_wp2
                      go_meet
                      case rel => exact ⟨by rw [HQ.out], rfl⟩
                  obtain ⟨rfl, rfl⟩ := hcut
                  clear HTD h65
                  go_wp2_with (go_at_call 24; refine (HA1.out).mono ?_; rintro e w4 ⟨v4, rfl, hown, hbel⟩; have HO4 := hide hown; have HB4 := hide (HBL.out.trans hbel); clear hown hbel; simp only [])
                  go_roundw
                  case rel => exact ⟨j + 1, by omega, by go_num, by go_num, rfl, by rw [HTK.out, List.flatMap_append, List.flatMap_cons, List.flatMap_nil, List.append_nil, HOPN.out, ← List.append_assoc]; exact HO4, HB4⟩
                  case measure => simp [intOf]; omega
                · have hc1 : c.tmod 4 = 3 := hcm
                  have hc2 : c % 4 = 3 := hcm2
                  clear hcm hcm2 hwq
                  have HOPN : Hid (opn 3 = [45]) := rfl
                  have HTD := hide (td_snoc (opH i ++ opE (10 + (hds i).length + 5) (ks.take j)) (10 + (hds i).length + 5 + ((ks.take j).flatMap opn).length + 0))
                  have e1 : opH i ++ opE (10 + (hds i).length + 5) (ks.take j) ++ [10 + (hds i).length + 5 + ((ks.take j).flatMap opn).length + 0] = opH i ++ opE (10 + (hds i).length + 5) (ks.take (j + 1)) := by rw [HTK.out, opE_snoc, List.append_assoc]; rfl
                  have e2 : (opH i ++ opE (10 + (hds i).length + 5) (ks.take j)).length = i + j := by rw [List.length_append, opH_len, opE_len, List.length_take]; have := HKL.out; omega
                  rw [e1, e2, ← hXl] at HTD
                  clear e1 e2
                  obtain ⟨n7, hn7⟩ : ∃ n7, (X2 ++ (ks.take j).flatMap opn).length = n7 := ⟨_, rfl⟩
                  have hn7b : n7 = (X2 ++ (ks.take j).flatMap opn).length + 0 := hn7.symm
                  have hw7 : IntKind.i64.wrap ((n7 : Int) + 1) = (n7 : Int) + 1 := by rw [IntKind.wrap_i64]; omega
                  have HA1 := hide (add_lit wr w1.heap.size _ (X2 ++ (ks.take j).flatMap opn) ⟨#[45]⟩ [45] rfl (by decide) HOWN.out HBL.out.size (by omega))
                  rw [← hn7b] at HTD
                  rw [hn7] at HA1
                  rw [hn7]
                  clear hn7 hn7b
                  obtain ⟨b65, h65⟩ : ∃ b, (((i : Int) + (j : Int) + 1) == 65) = b := ⟨_, rfl⟩
                  have hwo : IntKind.i64.wrap ((i : Int) + (j : Int) + 1) = (i : Int) + (j : Int) + 1 := by rw [IntKind.wrap_i64]; omega
                  go_upto_if 71 with fail
                  go_cut [6] (fun s6 wy => s6 = .int .i64 (td (opH i ++ opE (10 + (hds i).length + 5) (ks.take (j + 1)))) ∧ wr = wy)
                  case first =>
                    cases b65
                    · have e64 : ¬ i + j = 64 := by intro e; have : ((i : Int) + (j : Int) + 1) = 65 := by omega
                                                    rw [this] at h65; simp at h65
                      have HQ := HTD
                      rw [if_neg e64] at HQ
                      clear e64 h65
                      go_wp2
                      go_meet
                      case rel => exact ⟨by rw [HQ.out], rfl⟩
                    · have e64 : i + j = 64 := by simp at h65; omega
                      have HQ := HTD
                      rw [if_pos e64] at HQ
                      clear e64 h65
                      go_wp2
                      go_meet
                      case rel => exact ⟨by rw [HQ.out], rfl⟩
                  obtain ⟨rfl, rfl⟩ := hcut
                  clear HTD h65
                  go_wp2_with (go_at_call 24; refine (HA1.out).mono ?_; rintro e w4 ⟨v4, rfl, hown, hbel⟩; have HO4 := hide hown; have HB4 := hide (HBL.out.trans hbel); clear hown hbel; simp only [])
                  go_roundw
                  case rel => exact ⟨j + 1, by omega, by go_num, by go_num, rfl, by rw [HTK.out, List.flatMap_append, List.flatMap_cons, List.flatMap_nil, List.append_nil, HOPN.out, ← List.append_assoc]; exact HO4, HB4⟩
                  case measure => simp [intOf]; omega
              · obtain rfl : j = tn := by omega
                have dl2 : decide ((j : Int) < (j : Int)) = false := decide_eq_false (by omega)
                have dl2n : decide (j < j) = false := decide_eq_false (by omega)
                have htk2 : ks.take j = ks := by rw [← HKL.out, List.take_length]
                rw [htk2] at HOWN hXl hfl htk
                obtain ⟨TD, hTD⟩ : ∃ TD, td (opH i ++ opE (10 + (hds i).length + 5) (ks.take j)) = TD := ⟨_, rfl⟩
                rw [hTD]
                rw [htk2] at hTD
                have HTD := hide hTD
                clear hTD htk2
                have HA1 := hide (add_lit wr w1.heap.size _ (X2 ++ ks.flatMap opn) ⟨#[49]⟩ [49] rfl (by decide) HOWN.out HBL.out.size (by omega))
                obtain ⟨X3, hX3⟩ : ∃ X3, X2 ++ ks.flatMap opn ++ [49] = X3 := ⟨_, rfl⟩
                have hX3l : X3.length ≤ 300000 := by rw [← hX3, List.length_append]; simp only [List.length_cons, List.length_nil]; omega
                have HX3 := hide hX3
                rw [hX3] at HA1
                clear hX3 hXl hfl htk
                go_upto_region 39 with (go_at_call 24; refine (HA1.out).mono ?_; rintro e w3 ⟨v3, rfl, hown, hbel⟩; have HO3 := hide hown; have HB3 := hide (HBL.out.trans hbel); clear hown hbel; simp only [])
                have q2 := (HR1.out.keep (S := fun _ => False) (Ex.of HB3.out) (fun e => e)).c2
                have hwj : IntKind.i64.wrap ((j : Int) - 1) = (j : Int) - 1 := by rw [IntKind.wrap_i64]; omega
                clear HOWN HBL HA1
                go_wp2
                clear q2
                go_loopw [7, 11] (fun s7 s11 wx => ∃ m : Nat, m ≤ j ∧ s11 = .int .i64 ((m : Int) - 1) ∧ Hid (Own w1.heap.size wx s7 (X3 ++ (ks.drop m).reverse.flatMap cls)) ∧ Hid (Below w1.heap.size w1 wx)) (fun _ s11 _ => (intOf s11 + 1).toNat)
                case atStart => exact ⟨j, Nat.le_refl _, rfl, by rw [← HKL.out, List.drop_length, List.reverse_nil, List.flatMap_nil, List.append_nil]; exact HO3, HB3⟩
                case round =>
                  clear HO3 HB3
                  obtain ⟨m, hm, rfl, HOWN, HBL⟩ := hrel
                  have hfc := fcl_len (ks.drop m).reverse
                  rw [List.length_reverse, List.length_drop, HKL.out] at hfc
                  have hX4l : (X3 ++ (ks.drop m).reverse.flatMap cls).length ≤ 400000 := by rw [List.length_append]; omega
                  by_cases hm0 : m = 0
                  · subst hm0
                    have dm : decide ((0 : Int) ≤ ((0 : Nat) : Int) - 1) = false := decide_eq_false (by omega)
                    rw [List.drop_zero] at HOWN hX4l
                    have HA1 := hide (add_lit wr w1.heap.size _ (X3 ++ ks.reverse.flatMap cls) ⟨#[59]⟩ [59] rfl (by decide) HOWN.out HBL.out.size (by omega))
                    obtain ⟨X5, hX5⟩ : ∃ X5, X3 ++ ks.reverse.flatMap cls ++ [59] = X5 := ⟨_, rfl⟩
                    have hX5l : X5.length ≤ 500000 := by rw [← hX5, List.length_append]; simp only [List.length_cons, List.length_nil]; omega
                    have HX5 := hide hX5
                    rw [hX5] at HA1
                    clear hX5 hX4l hfc
                    go_upto_region 47 with (go_at_call 24; refine (HA1.out).mono ?_; rintro e w3 ⟨v3, rfl, hown, hbel⟩; have HO3 := hide hown; have HB3 := hide (HBL.out.trans hbel); clear hown hbel; simp only [])
                    have q1 := (HR1.out.keep (S := fun _ => False) (Ex.of HB3.out) (fun e => e)).c1
                    have hwA : IntKind.i64.wrap ((i : Int) - 1) = (i : Int) - 1 := by rw [IntKind.wrap_i64]; omega
                    clear HOWN HBL HA1
                    go_wp2
                    clear q1
                    go_loopw [7, 12] (fun s7 s12 wx => ∃ m : Nat, m ≤ i ∧ s12 = .int .i64 ((i : Int) - 1 - (m : Int)) ∧ Hid (Own w1.heap.size wx s7 (X5 ++ edsR i m)) ∧ Hid (Below w1.heap.size w1 wx)) (fun _ s12 _ => (intOf s12 + 1).toNat)
                    case atStart => exact ⟨0, Nat.zero_le _, by simp, by rw [edsR, List.append_nil]; exact HO3, HB3⟩
                    case round =>
                      clear HO3 HB3
                      obtain ⟨m, hm2, rfl, HOWN, HBL⟩ := hrel
                      have hel := eds_len i m
                      have hX6l : (X5 ++ edsR i m).length ≤ 600000 := by rw [List.length_append]; omega
                      by_cases hmA : m < i
                      · obtain ⟨z, hz⟩ : ∃ z : Nat, i - 1 - m = z := ⟨_, rfl⟩
                        have hzi : (i : Int) - 1 - (m : Int) = (z : Int) := by omega
                        rw [hzi]
                        have HED : Hid (edsR i (m + 1) = edsR i m ++ endT z) := by show _ = _; rw [edsR, hz]
                        have dz : decide ((0 : Int) ≤ (z : Int)) = true := decide_eq_true (by omega)
                        have hwz : IntKind.i64.wrap ((z : Int) - 1) = (z : Int) - 1 := by rw [IntKind.wrap_i64]; omega
                        have hz2 : (z : Int) - 1 = (i : Int) - 1 - ((m + 1 : Nat) : Int) := by omega
                        have HZ2 := hide hz2
                        have HA1 := hide (add_lit wr w1.heap.size _ (X5 ++ edsR i m) ⟨#[32, 69, 78, 68, 95, 73, 70, 59]⟩ sEIF rfl (by decide) HOWN.out HBL.out.size (by omega))
                        have HA2 := hide (add_lit wr w1.heap.size _ (X5 ++ edsR i m) ⟨#[32, 69, 78, 68, 95, 70, 79, 82, 59]⟩ sEFOR rfl (by decide) HOWN.out HBL.out.size (by omega))
                        have ht2 : (z : Int).tmod 2 = (z : Int) % 2 := Int.tmod_eq_emod_of_nonneg (by omega)
                        clear hz hzi hz2 hel hX6l
                        by_cases hp : z % 2 = 0
                        · have hmz : (z : Int).tmod 2 = 0 := by rw [ht2]; omega
                          have hmz2 : (z : Int) % 2 = 0 := by omega
                          have HHD : Hid (endT z = sEIF) := if_pos hp
                          clear hp ht2
                          go_wp2_with (go_at_call 24; refine (HA1.out).mono ?_; rintro e w4 ⟨v4, rfl, hown, hbel⟩; have HO4 := hide hown; have HB4 := hide (HBL.out.trans hbel); clear hown hbel; simp only [])
                          go_roundw
                          case rel => exact ⟨m + 1, by omega, by rw [HZ2.out], by rw [HED.out, HHD.out, ← List.append_assoc]; exact HO4, HB4⟩
                          case measure => simp [intOf]
                        · have hmz : (z : Int).tmod 2 = 1 := by rw [ht2]; omega
                          have hmz2 : (z : Int) % 2 = 1 := by omega
                          have HHD : Hid (endT z = sEFOR) := if_neg hp
                          clear hp ht2
                          go_wp2_with (go_at_call 24; refine (HA2.out).mono ?_; rintro e w4 ⟨v4, rfl, hown, hbel⟩; have HO4 := hide hown; have HB4 := hide (HBL.out.trans hbel); clear hown hbel; simp only [])
                          go_roundw
                          case rel => exact ⟨m + 1, by omega, by rw [HZ2.out], by rw [HED.out, HHD.out, ← List.append_assoc]; exact HO4, HB4⟩
                          case measure => simp [intOf]
                      · obtain rfl : i = m := by omega
                        have dz : decide ((0 : Int) ≤ (i : Int) - 1 - (i : Int)) = false := decide_eq_false (by omega)
                        have HWH : Hid (X5 ++ edsR i i ++ sEP = whole i ks) := by show _ = _; rw [whole_split, ← HX5.out, ← HX3.out, ← HX2.out]
                        have HA1 := hide (add_lit wr w1.heap.size _ (X5 ++ edsR i i) ⟨#[32, 69, 78, 68, 95, 80, 82, 79, 71, 82, 65, 77]⟩ sEP rfl (by decide) HOWN.out HBL.out.size (by omega))
                        rw [HWH.out] at HA1
                        clear hel hX6l
                        go_upto_region 54 with (go_at_call 24; refine (HA1.out).mono ?_; rintro e w3 ⟨v3, rfl, hown, hbel⟩; have HO3 := hide hown; have HB3 := hide (HBL.out.trans hbel); clear hown hbel; simp only [])
                        clear HOWN HBL HA1 dz
                        obtain ⟨va, vc, hv⟩ := own_val HO3.out
                        subst hv
                        have hwl := whole_len i ks hA2 (by have := HKL.out; omega)
                        have HWL := hide hwl
                        have dL : decide ((1048576 : Int) < ((whole i ks).length : Int)) = false := decide_eq_false (by omega)
                        have dLn : decide (1048576 < (whole i ks).length) = false := decide_eq_false (by omega)
                        have hs4 := (Ex.refl (fun _ => False) w3).alloc (.cells #[.int .i64 0, .int .i64 0, .int .i64 0] 36)
                        have HG4 := hide (B3.new w3 (.int .i64 0) (.int .i64 0) (.int .i64 0) 36)
                        have HO4 : Hid (Own w1.heap.size (w3.alloc (.cells #[.int .i64 0, .int .i64 0, .int .i64 0] 36)) (.slice va (whole i ks).length vc) (whole i ks)) := HO3.out.alloc _
                        have HB4 : Hid (Below w1.heap.size w1 (w3.alloc (.cells #[.int .i64 0, .int .i64 0, .int .i64 0] 36))) := HB3.out.alloc HB3.out.size _
                        have hg3 : w1.heap.size ≤ w3.heap.size := HB3.out.size
                        have HFR : Hid (∀ gg off, va = some ⟨gg, off, none⟩ → gg < w3.heap.size) := (own_src HO3.out).2
                        go_upto_region 55 with fail
                        generalize w3.alloc (.cells #[.int .i64 0, .int .i64 0, .int .i64 0] 36) = w4 at *
                        generalize w3.heap.size = g3 at *
                        clear HO3 HB3 hs4 hwl
                        obtain ⟨n9, hn9⟩ : ∃ n9, (whole i ks).length = n9 := ⟨_, rfl⟩
                        have HN9 := hide hn9
                        rw [hn9] at dL dLn HO4
                        rw [hn9]
                        clear hn9
                        have hTDf := td_fault (opH i ++ opE (10 + (hds i).length + 5) ks)
                        rw [HTD.out] at hTDf
                        have u0 := HG4.out.c0
                        have u1 := HG4.out.c1
                        have u2 := HG4.out.c2
                        have uf0 := HG4.out.fz 0
                        have uf1 := HG4.out.fz 1
                        have uf2 := HG4.out.fz 2
                        rcases hTDf with ⟨hz, hfo⟩ | ⟨hz, hfo⟩
                        · have HFO := hide hfo
                          have dT : decide ((0 : Int) < TD) = false := decide_eq_false (by omega)
                          clear hz hfo
                          go_upto_region 59 with fail
                          have HG5 := HG4
                          have HO5 := HO4
                          have HB5 := HB4
                          clear HG4 HO4 HB4 u0 u1 u2 uf0 uf1 uf2 dL dLn dT
                          have HPP := hide (parse_whole w4 va vc i ks hA2 (by have := HKL.out; omega) (own_src HO5.out).1 (own_src HO5.out).2)
                          rw [HN9.out, HFO.out] at HPP
                          go_wp2_with fail
                          refine (HPP.out).mono ?_
                          rintro e w6 ⟨⟨x6, sl6, f6, rfl, rfl⟩, hex⟩
                          have HG6 := hide (HG5.out.keep hex (fun e => e))
                          have HB6 := hide (HB5.out.trans (hex.below (B := w1.heap.size) HB5.out.size (fun _ _ e => e)))
                          clear hex HPP HG5 HO5 HB5
                          simp only []
                          have hg6 : g3 < w6.heap.size := World.block_lt_of_cell? _ _ HG6.out.c0
                          have u0 := HG6.out.c0
                          have u1 := HG6.out.c1
                          have u2 := HG6.out.c2
                          have HB7 : Hid (Below w1.heap.size w1 ((w6.alloc (.cells #[.string x6, .slice none 0 0, .slice sl6.a sl6.l sl6.c] 29)).alloc (.cells #[.int .i64 0, .int .i64 0, .int .i64 0] 36))) := (HB6.out.alloc HB6.out.size _).alloc (by have := HB6.out.size; simp; omega) _
                          go_wp2
                          go_roundw
                          case rel => exact ⟨k + 1, by omega, by go_num, HB1.out.trans (HB7.out.mono HB1.out.size)⟩
                          case measure => simp [intOf]; omega
                        · have HFO := hide hfo
                          have dT : decide ((0 : Int) < TD) = true := decide_eq_true hz
                          clear hz hfo
                          go_upto_region 59 with fail
                          have hs5 := (((Ex.refl (fun k => k = g3) w4).set (p := g3) (j := 0) rfl (.int .i64 6)).set (p := g3) (j := 1) rfl (.int .i64 1)).set (p := g3) (j := 2) rfl (.int .i64 TD)
                          have hg5 : B3 (((w4.setCell ⟨g3, 0, none⟩ (.int .i64 6)).setCell ⟨g3, 1, none⟩ (.int .i64 1)).setCell ⟨g3, 2, none⟩ (.int .i64 TD)) g3 (.int .i64 6) (.int .i64 1) (.int .i64 TD) := by
                            refine ⟨?_, ?_, ?_, fun j => by rw [set_frozen, set_frozen, set_frozen]; exact HG4.out.fz j⟩
                            all_goals simp [go_sem, u0, u1, u2]
                          have HG5 := hide hg5
                          have HO5 : Hid (Own w1.heap.size (((w4.setCell ⟨g3, 0, none⟩ (.int .i64 6)).setCell ⟨g3, 1, none⟩ (.int .i64 1)).setCell ⟨g3, 2, none⟩ (.int .i64 TD)) (.slice va n9 vc) (whole i ks)) := own_kept HO4.out hs5 (fun z hz => by
                            have := (World.ownsRow.form HO4.out (by have := HN9.out; simp only [whole, sPROG, List.length_append, List.length_cons] at this ⊢; omega))
                            obtain ⟨gg, cc, hv, _, _⟩ := this
                            injection hv with hva _ _
                            subst hva
                            simp only [Value.ownBlock, Option.some.injEq] at hz
                            have := HFR.out gg 0 rfl
                            omega)
                          have HB5 : Hid (Below w1.heap.size w1 (((w4.setCell ⟨g3, 0, none⟩ (.int .i64 6)).setCell ⟨g3, 1, none⟩ (.int .i64 1)).setCell ⟨g3, 2, none⟩ (.int .i64 TD))) := ((Ex.of (S := fun k => w1.heap.size ≤ k) HB4.out).trans (hs5.mono fun k e => by show w1.heap.size ≤ k; omega)).below (Nat.le_refl _) (fun k hk e => by omega)
                          generalize ((w4.setCell ⟨g3, 0, none⟩ (.int .i64 6)).setCell ⟨g3, 1, none⟩ (.int .i64 1)).setCell ⟨g3, 2, none⟩ (.int .i64 TD) = w5 at *
                          clear hs5 hg5
                          clear HG4 HO4 HB4 u0 u1 u2 uf0 uf1 uf2 dL dLn dT
                          have HPP := hide (parse_whole w5 va vc i ks hA2 (by have := HKL.out; omega) (own_src HO5.out).1 (own_src HO5.out).2)
                          rw [HN9.out, HFO.out] at HPP
                          go_wp2_with fail
                          refine (HPP.out).mono ?_
                          rintro e w6 ⟨⟨x6, sl6, f6, rfl, rfl⟩, hex⟩
                          have HG6 := hide (HG5.out.keep hex (fun e => e))
                          have HB6 := hide (HB5.out.trans (hex.below (B := w1.heap.size) HB5.out.size (fun _ _ e => e)))
                          clear hex HPP HG5 HO5 HB5
                          simp only []
                          have hg6 : g3 < w6.heap.size := World.block_lt_of_cell? _ _ HG6.out.c0
                          have u0 := HG6.out.c0
                          have u1 := HG6.out.c1
                          have u2 := HG6.out.c2
                          have HB7 : Hid (Below w1.heap.size w1 ((w6.alloc (.cells #[.string x6, .slice none 0 0, .slice sl6.a sl6.l sl6.c] 29)).alloc (.cells #[.int .i64 6, .int .i64 1, .int .i64 TD] 36))) := (HB6.out.alloc HB6.out.size _).alloc (by have := HB6.out.size; simp; omega) _
                          go_wp2
                          go_roundw
                          case rel => exact ⟨k + 1, by omega, by go_num, HB1.out.trans (HB7.out.mono HB1.out.size)⟩
                          case measure => simp [intOf]; omega
                  · obtain ⟨m', rfl⟩ : ∃ m', m = m' + 1 := ⟨m - 1, by omega⟩
                    have hmm : ((m' + 1 : Nat) : Int) - 1 = (m' : Int) := by omega
                    rw [hmm]
                    have dm : decide ((0 : Int) ≤ (m' : Int)) = true := decide_eq_true (by omega)
                    have hmi : (m' : Int) < (j : Int) := by omega
                    have hwm : IntKind.i64.wrap ((m' : Int) - 1) = (m' : Int) - 1 := by rw [IntKind.wrap_i64]; omega
                    obtain ⟨tb, toff, hta, tcx, tc0, tc1⟩ := (HBT1.out.below HBL.out) m' (by omega)
                    subst hta
                    have q2 := (HR1.out.keep (S := fun _ => False) (Ex.of HBL.out) (fun e => e)).c2
                    have hKj := HKS.out m' (by omega)
                    generalize T m' = c at *
                    obtain ⟨q, hq⟩ : ∃ q : Nat, (c % 4).toNat = q := ⟨_, rfl⟩
                    rw [hq] at hKj
                    have hq4 : q < 4 := by omega
                    have hcm : c.tmod 4 = (q : Int) := by rw [Int.tmod_eq_emod_of_nonneg (by omega)]; omega
                    have hcm2 : c % 4 = (q : Int) := by omega
                    have HDR : Hid ((ks.drop m').reverse.flatMap cls = (ks.drop (m' + 1)).reverse.flatMap cls ++ cls q) := by
                      show _ = _
                      have hlt : m' < ks.length := (List.getElem?_eq_some_iff.1 hKj).1
                      rw [List.drop_eq_getElem_cons hlt]
                      have e := (List.getElem?_eq_some_iff.1 hKj).2
                      rw [e]
                      simp
                    clear hKj hq
                    have HA1 := hide (add_lit wr w1.heap.size _ (X3 ++ (ks.drop (m' + 1)).reverse.flatMap cls) ⟨#[41]⟩ [41] rfl (by decide) HOWN.out HBL.out.size (by omega))
                    have HA2 := hide (add_lit wr w1.heap.size _ (X3 ++ (ks.drop (m' + 1)).reverse.flatMap cls) ⟨#[93]⟩ [93] rfl (by decide) HOWN.out HBL.out.size (by omega))
                    obtain ⟨va, vc, hv⟩ := own_val HOWN.out
                    subst hv
                    obtain ⟨n8, hn8⟩ : ∃ n8, (X3 ++ (ks.drop (m' + 1)).reverse.flatMap cls).length = n8 := ⟨_, rfl⟩
                    rw [hn8] at HA1 HA2 HOWN
                    rw [hn8]
                    clear hn8 hX4l hfc
                    obtain rfl | rfl | hq2 : q = 0 ∨ q = 1 ∨ 2 ≤ q := by omega
                    · have hc1 : c.tmod 4 = 0 := hcm
                      have hc2 : c % 4 = 0 := hcm2
                      clear hcm hcm2
                      go_wp2_with (go_at_call 24; refine (HA1.out).mono ?_; rintro e w4 ⟨v4, rfl, hown, hbel⟩; have HO4 := hide hown; have HB4 := hide (HBL.out.trans hbel); clear hown hbel; simp only [])
                      go_roundw
                      case rel => exact ⟨m', by omega, rfl, by rw [HDR.out, show cls 0 = [41] from rfl, ← List.append_assoc]; exact HO4, HB4⟩
                      case measure => simp [intOf]
                    · have hc1 : c.tmod 4 = 1 := hcm
                      have hc2 : c % 4 = 1 := hcm2
                      clear hcm hcm2
                      go_wp2_with (go_at_call 24; refine (HA2.out).mono ?_; rintro e w4 ⟨v4, rfl, hown, hbel⟩; have HO4 := hide hown; have HB4 := hide (HBL.out.trans hbel); clear hown hbel; simp only [])
                      go_roundw
                      case rel => exact ⟨m', by omega, rfl, by rw [HDR.out, show cls 1 = [93] from rfl, ← List.append_assoc]; exact HO4, HB4⟩
                      case measure => simp [intOf]
                    · have HC0 : Hid (cls q = []) := by
                        obtain ⟨q', rfl⟩ : ∃ q', q = q' + 2 := ⟨q - 2, by omega⟩
                        rfl
                      obtain ⟨y, hy⟩ : ∃ y : Int, (q : Int) = y := ⟨_, rfl⟩
                      have hy2 : 2 ≤ y ∧ y < 4 := by omega
                      rw [hy] at hcm hcm2
                      have hy0 : (y == 0) = false := by simp; omega
                      have hy1 : (y == 1) = false := by simp; omega
                      have hwy : IntKind.u8.wrap y = y := by rw [IntKind.wrap_u8]; omega
                      clear hy
                      go_wp2
                      go_roundw
                      case rel => exact ⟨m', by omega, rfl, by rw [HDR.out, HC0.out, List.append_nil]; exact HOWN, HBL⟩
                      case measure => simp [intOf]
      · by_cases hA0 : av < 0
        · have dA1 : decide (av < 0) = true := decide_eq_true hA0
          clear hA hA0
          go_wp2
          go_roundw
          case rel => exact ⟨k + 1, by omega, by go_num, HB1⟩
          case measure => simp [intOf]; omega
        · have dA1 : decide (av < 0) = false := decide_eq_false hA0
          have dA2 : decide ((256 : Int) < av) = true := decide_eq_true (by omega)
          clear hA hA0
          go_wp2
          go_roundw
          case rel => exact ⟨k + 1, by omega, by go_num, HB1⟩
          case measure => simp [intOf]; omega
    · have d1 : decide ((k : Int) < (len : Int)) = false := decide_eq_false (by omega)
      have d1n : decide (k < len) = false := decide_eq_false hlt
      go_wp2
      go_ret
      exact ⟨rfl, HB.out⟩
end Go.Proofs.Qxb6500774a
