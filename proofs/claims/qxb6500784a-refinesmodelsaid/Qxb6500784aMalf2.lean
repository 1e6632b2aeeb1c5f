import Derived.Test.Qxb6500784aMalf
namespace Go.Proofs.Qxb6500784a
open Go.RowKit

theorem bCode_leg {n t : Nat} {L : Nat → Leg} {c : Int} (h0 : ¬ n = 0) (h8 : ¬ n > 8) (ht : t < n) (hok : ∀ i, i < t → legCode (L i) = 0) (hc : legCode (L t) = c) (hne : c ≠ 0) : bCode n L = c := by
  have hz : legCode (L t) ≠ 0 := by rw [hc]; exact hne
  have e := firstCode_at (L := L) hz (k := n) (i := 0) (Nat.zero_le _) (by omega) (fun j _ hj => hok j hj)
  rw [hc] at e
  simp [bCode, h0, h8, e, hne]
theorem below_drewN (w : World) (k B : Nat) : Below B w (w.drewN k) := by
  induction k with
  | zero => exact Below.refl _ _
  | succ k ih => exact ih.drew
theorem bCode66' {n : Nat} {L : Nat → Leg} (h0 : ¬ n = 0) (h8 : ¬ n > 8) (hk : firstCode L n 0 = 0) (hi : ∀ i j, i < j → j < n → (L i).id ≠ (L j).id) (h : ∃ i k, i < n ∧ k < (L i).nn ∧ ∀ j, j < n → (L j).id ≠ (L i).nd k) : bCode n L = 66 := by
  unfold bCode; rw [if_neg h0, if_neg h8, if_neg (by simp [hk]), if_neg (by rintro ⟨i, j, h1, h2, h3⟩; exact hi i j h1 h2 h3), if_pos h]
theorem bCode0' {n : Nat} {L : Nat → Leg} (h0 : ¬ n = 0) (h8 : ¬ n > 8) (hk : firstCode L n 0 = 0) (hi : ∀ i j, i < j → j < n → (L i).id ≠ (L j).id) (h : ∀ i k, i < n → k < (L i).nn → ∃ j, j < n ∧ (L j).id = (L i).nd k) : bCode n L = 0 := by
  unfold bCode; rw [if_neg h0, if_neg h8, if_neg (by simp [hk]), if_neg (by rintro ⟨i, j, h1, h2, h3⟩; exact hi i j h1 h2 h3), if_neg ?_]
  rintro ⟨i, k, h1, h2, h3⟩
  obtain ⟨j, hj, ej⟩ := h i k h1 h2
  exact h3 j hj ej
attribute [-simp] Try.isAgg95 Try.sizeOf95 Try.typeInfo95
set_option maxRecDepth 100000 in
set_option maxHeartbeats 4000000 in
theorem malformed_any (w : World) (a : Option Addr) (n cap : Nat) (L : Nat → Leg) (hn : n ≤ 9223372036854775807) (hL : LegsAt w a n L) (h1 : LegsOne n L) :
    Calls Try.prog 15 #[.agg #[.slice a n cap]] w fun e w' => e = .returned (.int .i64 (bCode n L)) ∧ Below w.heap.size w w' := by
  obtain ⟨W, hW⟩ : ∃ W, W = (w.alloc (.cells #[.slice a n cap] 27)) := ⟨_, rfl⟩
  have ca : W.cell? ⟨w.heap.size, 0, none⟩ = some (.slice a n cap) := by rw [hW]; simp [go_sem]
  have HB : Hid (Below w.heap.size w W) := by rw [hW]; exact (Below.refl _ _).alloc (Nat.le_refl _) _
  have HL := hide hL
  have H1 := hide h1
  clear hL h1
  go_enter Try.func15, Try.ntmps15
  go_upto_region 1 with fail
  rw [← hW]
  clear hW
  by_cases h0 : n = 0
  · have HC : Hid (bCode n L = 60) := by show bCode n L = 60; simp [bCode, h0]
    go_wp2
    go_ret
    exact ⟨by rw [HC.out]; rfl, HB.out⟩
  by_cases h8 : n > 8
  · have HC : Hid (bCode n L = 61) := by show bCode n L = 61; simp [bCode, h0, h8]
    go_wp2
    go_ret
    exact ⟨by rw [HC.out]; rfl, HB.out⟩
  go_upto_region 5 with fail
  have e0 : ((n : Int) == 0) = false := by simp [h0]
  have e8 : decide (8 < (n : Int)) = false := decide_eq_false (by omega)
  rw [e0, e8]
  clear e0 e8
  go_wp2
  have HCA := hide ca
  clear ca
  go_loopw [22] (fun s wr => ∃ k : Nat, k ≤ n ∧ s = .int .i64 k ∧ wr.cell? ⟨w.heap.size, 0, none⟩ = some (.slice a n cap) ∧ Below w.heap.size w wr ∧ ∀ j, j < k → legCode (L j) = 0) (fun s _ => n - (intOf s).toNat)
  case atStart => exact ⟨0, Nat.zero_le _, rfl, HCA.out, HB.out, fun j h => by omega⟩
  case round =>
    clear HB HCA
    obtain ⟨k, hk, rfl, hca, hbel, hno⟩ := hrel
    have HCA := hide hca
    have HBw := hide hbel
    have HN := hide hno
    clear hbel hno hca
    by_cases hlt : k < n
    · obtain ⟨b, off, rfl, hc, hleg⟩ := (HL.out.below HBw.out) k hlt
      go_wp2_with fail
      simp only [Try.sizeOf95, Result.andThen]
      rw [Oper.upon_value]
      go_wp2_with fail
      have hlc := legCells wr b (off + k * 86) (L k) hc
      simp only [Try.isAgg95, Try.sizeOf95, Result.andThen, ↓reduceIte, hlc]
      rw [Oper.upon_value]
      clear hlc
      go_wp2_with fail
      have hst := legStore wr (L k) (H1.out k hlt)
      simp only [Try.sizeOf95, Result.andThen, legArr_size, ↓reduceIte, hst]
      clear hst
      obtain ⟨W2, hW2⟩ : ∃ W2, W2 = wr.alloc (.cells (legArr (L k)) 95) := ⟨_, rfl⟩
      have c0 : W2.cell? ⟨wr.heap.size, 0, none⟩ = some (.int .u8 (L k).id) := by rw [hW2, legBox _ _ _ (by omega), hleg.v0]
      have c1 : W2.cell? ⟨wr.heap.size, 1, none⟩ = some (.int .u8 (L k).ch) := by rw [hW2, legBox _ _ _ (by omega), hleg.v1]
      have c3 : W2.cell? ⟨wr.heap.size, 3, none⟩ = some (.int .u8 (L k).tch) := by rw [hW2, legBox _ _ _ (by omega), hleg.v3]
      have c85 : W2.cell? ⟨wr.heap.size, 85, none⟩ = some (.slice (L k).na (L k).nn (L k).nc) := by rw [hW2, legBox _ _ _ (by omega), hleg.v85]
      have HB2 : Hid (Below w.heap.size w W2) := by rw [hW2]; exact HBw.out.alloc HBw.out.size _
      have ca2 : W2.cell? ⟨w.heap.size, 0, none⟩ = some (.slice (some ⟨b, off, none⟩) n cap) := by rw [hW2]; exact cellKeep ((Below.refl _ _).alloc (Nat.le_refl _) _) HCA.out
      have hnn := hleg.nn
      rw [← hW2]
      clear hW2 hc hleg
      rw [Oper.upon_skip]
      by_cases e1 : (L k).ch = 1
      · rw [e1] at c1
        by_cases ht : (L k).tch = 1
        · rw [ht] at c3
          by_cases h9 : (L k).nn > 8
          · have HC : Hid (bCode n L = 64) := bCode_leg h0 h8 hlt HN.out (by simp [legCode, e1, ht, h9]) (by decide)
            clear HN e1 ht
            go_wp2
            go_ret
            exact ⟨by rw [HC.out]; rfl, HB2.out⟩
          · have HZ : Hid (legCode (L k) = 0) := by show legCode (L k) = 0; simp [legCode, e1, ht, h9]
            have HCA2 := hide ca2
            clear e1 ht ca2
            go_wp2
            go_roundw
            case rel => exact ⟨k + 1, by omega, by go_num, HCA2.out, HB2.out, fun j hj => by rcases Nat.lt_or_ge j k with h | h; exact HN.out j h; rw [show j = k by omega]; exact HZ.out⟩
            case measure => simp [intOf]; omega
        · have HC : Hid (bCode n L = 63) := bCode_leg h0 h8 hlt HN.out (by simp [legCode, e1, ht]) (by decide)
          clear HN e1
          go_wp2
          go_ret
          exact ⟨by rw [HC.out]; rfl, HB2.out⟩
      · by_cases e2 : (L k).ch = 2
        · rw [e2] at c1
          by_cases ht : (L k).tch = 2
          · rw [ht] at c3
            by_cases h9 : (L k).nn > 8
            · have HC : Hid (bCode n L = 64) := bCode_leg h0 h8 hlt HN.out (by simp [legCode, e2, ht, h9]) (by decide)
              clear HN e2 ht
              go_wp2
              go_ret
              exact ⟨by rw [HC.out]; rfl, HB2.out⟩
            · have HZ : Hid (legCode (L k) = 0) := by show legCode (L k) = 0; simp [legCode, e2, ht, h9]
              have HCA2 := hide ca2
              clear e2 ht ca2
              go_wp2
              go_roundw
              case rel => exact ⟨k + 1, by omega, by go_num, HCA2.out, HB2.out, fun j hj => by rcases Nat.lt_or_ge j k with h | h; exact HN.out j h; rw [show j = k by omega]; exact HZ.out⟩
              case measure => simp [intOf]; omega
          · have HC : Hid (bCode n L = 63) := bCode_leg h0 h8 hlt HN.out (by simp [legCode, e2, ht]) (by decide)
            clear HN e2
            go_wp2
            go_ret
            exact ⟨by rw [HC.out]; rfl, HB2.out⟩
        · have HC : Hid (bCode n L = 62) := bCode_leg h0 h8 hlt HN.out (by simp [legCode, e1, e2]) (by decide)
          have n1 : ((L k).ch != 1) = true := by simp [e1]
          have n2 : ((L k).ch != 2) = true := by simp [e2]
          clear HN
          go_wp2
          go_ret
          exact ⟨by rw [HC.out]; rfl, HB2.out⟩
    · have HK : Hid (firstCode L n 0 = 0) := firstCode_zero fun j _ hj => HN.out j (by omega)
      have ca := HCA.out
      clear HN
      go_wp2
      clear ca
      go_loopw [48] (fun s wr => ∃ k2 : Nat, k2 ≤ n ∧ s = .int .i64 k2 ∧ wr.cell? ⟨w.heap.size, 0, none⟩ = some (.slice a n cap) ∧ Below w.heap.size w wr ∧ ∀ i j, i < j → j < k2 → (L i).id ≠ (L j).id) (fun s _ => n - (intOf s).toNat)
      case atStart => exact ⟨0, Nat.zero_le _, rfl, HCA.out, HBw.out, fun i j h h2 => by omega⟩
      case round =>
        clear HCA HBw hlt hk
        obtain ⟨k2, hk2, rfl, hca, hbel, hno⟩ := hrel
        have HCA := hide hca
        have HBw := hide hbel
        have HN := hide hno
        clear hbel hno hca
        by_cases hlt : k2 < n
        · go_wp2
          go_loopw [6] (fun s wr => ∃ j2 : Nat, j2 ≤ k2 ∧ s = .int .i64 j2 ∧ wr.cell? ⟨w.heap.size, 0, none⟩ = some (.slice a n cap) ∧ Below w.heap.size w wr ∧ ∀ j, j < j2 → (L j).id ≠ (L k2).id) (fun s _ => k2 - (intOf s).toNat)
          case atStart => exact ⟨0, Nat.zero_le _, rfl, HCA.out, HBw.out, fun j h => by omega⟩
          case round =>
            clear HCA HBw
            obtain ⟨j2, hj2, rfl, hca, hbel, hno⟩ := hrel
            have HCA := hide hca
            have HBw := hide hbel
            have HN2 := hide hno
            clear hbel hno
            by_cases hlt2 : j2 < k2
            · obtain ⟨b, off, rfl, hc, hleg⟩ := (HL.out.below HBw.out) k2 hlt
              obtain ⟨_, _, ee, hc2, hleg2⟩ := (HL.out.below HBw.out) j2 (by omega)
              injection ee with ee
              injection ee with ee1 ee2
              subst ee1 ee2
              have ck := hc 0 (by omega)
              have cj := hc2 0 (by omega)
              rw [hleg.v0, Nat.add_zero] at ck
              rw [hleg2.v0, Nat.add_zero] at cj
              clear hc hc2 hleg hleg2
              have s95 := Try.sizeOf95
              by_cases he : (L j2).id = (L k2).id
              · have HC : Hid (bCode n L = 65) := bCode65 h0 h8 HK.out ⟨j2, k2, hlt2, hlt, he⟩
                rw [he] at cj
                clear he
                go_upto_region 21 with fail
                go_quiet (fail)
                have HBd : Hid (Below w.heap.size w (wr.drewN nq)) := HBw.out.trans (below_drewN _ _ _)
                go_wp2
                go_ret
                exact ⟨by rw [HC.out]; rfl, HBd.out⟩
              · have hne : ((L k2).id == (L j2).id) = false := by
                  rw [beq_eq_false_iff_ne]; exact fun e => he e.symm
                have HE := hide he
                clear he
                go_upto_region 21 with fail
                go_quiet (fail)
                have HBd : Hid (Below w.heap.size w (wr.drewN nq)) := HBw.out.trans (below_drewN _ _ _)
                go_wp2
                go_roundw
                case rel => exact ⟨j2 + 1, by omega, by go_num, HCA.out, HBd.out, fun j hj => by rcases Nat.lt_or_ge j j2 with h | h; exact HN2.out j h; rw [show j = j2 by omega]; exact HE.out⟩
                case measure => simp [intOf]; omega
            · clear hca
              go_wp2
              go_roundw
              case rel =>
                refine ⟨k2 + 1, by omega, by go_num, HCA.out, HBw.out, fun i j hi hj => ?_⟩
                rcases Nat.lt_or_ge j k2 with h | h
                · exact HN.out i j hi h
                · rw [show j = k2 by omega]; exact HN2.out i (by omega)
              case measure => simp [intOf]; omega
        · have HID : Hid (∀ i j, i < j → j < n → (L i).id ≠ (L j).id) := fun i j hi hj => HN.out i j hi (by omega)
          have ca := HCA.out
          clear HN
          go_wp2
          clear ca
          go_loopw [73] (fun s wr => ∃ k3 : Nat, k3 ≤ n ∧ s = .int .i64 k3 ∧ wr.cell? ⟨w.heap.size, 0, none⟩ = some (.slice a n cap) ∧ Below w.heap.size w wr ∧ ∀ i q, i < k3 → q < (L i).nn → ∃ j, j < n ∧ (L j).id = (L i).nd q) (fun s _ => n - (intOf s).toNat)
          case atStart => exact ⟨0, Nat.zero_le _, rfl, HCA.out, HBw.out, fun i q h h2 => by omega⟩
          case round =>
            clear HCA HBw hlt hk2
            obtain ⟨k3, hk3, rfl, hca, hbel, hno⟩ := hrel
            have HCA := hide hca
            have HBw := hide hbel
            have HN := hide hno
            clear hbel hno hca
            by_cases hlt : k3 < n
            · obtain ⟨b, off, rfl, hc, hleg⟩ := (HL.out.below HBw.out) k3 hlt
              go_wp2_with fail
              simp only [Try.sizeOf95, Result.andThen]
              rw [Oper.upon_value]
              go_wp2_with fail
              have hlc := legCells wr b (off + k3 * 86) (L k3) hc
              simp only [Try.isAgg95, Try.sizeOf95, Result.andThen, ↓reduceIte, hlc]
              rw [Oper.upon_value]
              clear hlc
              go_wp2_with fail
              have hst := legStore wr (L k3) (H1.out k3 hlt)
              simp only [Try.sizeOf95, Result.andThen, legArr_size, ↓reduceIte, hst]
              clear hst
              obtain ⟨W2, hW2⟩ : ∃ W2, W2 = wr.alloc (.cells (legArr (L k3)) 95) := ⟨_, rfl⟩
              have c85 : W2.cell? ⟨wr.heap.size, 85, none⟩ = some (.slice (L k3).na (L k3).nn (L k3).nc) := by rw [hW2, legBox _ _ _ (by omega), hleg.v85]
              have HB2 : Hid (Below w.heap.size w W2) := by rw [hW2]; exact HBw.out.alloc HBw.out.size _
              have ca2 : W2.cell? ⟨w.heap.size, 0, none⟩ = some (.slice (some ⟨b, off, none⟩) n cap) := by rw [hW2]; exact cellKeep ((Below.refl _ _).alloc (Nat.le_refl _) _) HCA.out
              have hnn := hleg.nn
              rw [← hW2]
              clear hW2 hc hleg
              rw [Oper.upon_skip]
              obtain ⟨na, hna⟩ : ∃ x, x = (L k3).na := ⟨_, rfl⟩
              have HND : Hid (NeedsAt w na (L k3).nn (L k3).nd) := by
                rw [hna]
                obtain ⟨_, _, _, _, hlg⟩ := HL.out k3 hlt
                exact hlg.nd
              rw [← hna] at c85
              clear hna
              have HCA2 := hide ca2
              clear ca2
              go_wp2
              go_loopw [80] (fun s wr => ∃ q : Nat, q ≤ (L k3).nn ∧ s = .int .i64 q ∧ wr.cell? ⟨w.heap.size, 0, none⟩ = some (.slice (some ⟨b, off, none⟩) n cap) ∧ Below w.heap.size w wr ∧ ∀ q', q' < q → ∃ j, j < n ∧ (L j).id = (L k3).nd q') (fun s _ => (L k3).nn - (intOf s).toNat)
              case atStart => exact ⟨0, Nat.zero_le _, rfl, HCA2.out, HB2.out, fun q h => by omega⟩
              case round =>
                clear HCA2 HB2 c85 HCA HBw
                obtain ⟨q, hq, rfl, hca, hbel, hno⟩ := hrel
                have HCA := hide hca
                have HBw := hide hbel
                have HN2 := hide hno
                clear hbel hno
                by_cases hlt2 : q < (L k3).nn
                · obtain ⟨b', off', rfl, hcq, hr0, hr1⟩ := (HND.out.below HBw.out) q hlt2
                  clear hr0 hr1
                  go_wp2_with fail
                  refine (holds_any _ (some ⟨b, off, none⟩) n cap L _ hn (HL.out.below HBw.out) H1.out).mono ?_
                  rintro e w3 ⟨rfl, hb3⟩
                  have HB3 : Hid (Below w.heap.size w w3) := HBw.out.trans (hb3.mono HBw.out.size)
                  have HCA3 := hide (cellKeep hb3 hca)
                  clear hb3 hca hcq
                  by_cases he : ∃ j, j < n ∧ (L j).id = (L k3).nd q
                  · have HE := hide he
                    rw [show holdsB n L ((L k3).nd q) = true from decide_eq_true he]
                    clear he
                    go_wp2
                    go_roundw
                    case rel => exact ⟨q + 1, by omega, by go_num, HCA3.out, HB3.out, fun j hj => by rcases Nat.lt_or_ge j q with h | h; exact HN2.out j h; rw [show j = q by omega]; exact HE.out⟩
                    case measure => simp [intOf]; omega
                  · have HC : Hid (bCode n L = 66) := bCode66' h0 h8 HK.out HID.out ⟨k3, q, hlt, hlt2, fun j hj ej => he ⟨j, hj, ej⟩⟩
                    rw [show holdsB n L ((L k3).nd q) = false from decide_eq_false he]
                    clear he
                    go_wp2
                    go_ret
                    exact ⟨by rw [HC.out]; rfl, HB3.out⟩
                · clear hca
                  go_wp2
                  go_roundw
                  case rel =>
                    refine ⟨k3 + 1, by omega, by go_num, HCA.out, HBw.out, fun i q' hi hq' => ?_⟩
                    rcases Nat.lt_or_ge i k3 with h | h
                    · exact HN.out i q' h hq'
                    · have e3 : i = k3 := by omega
                      subst e3; exact HN2.out q' (by omega)
                  case measure => simp [intOf]; omega
            · have HC : Hid (bCode n L = 0) := bCode0' h0 h8 HK.out HID.out fun i q hi hq => HN.out i q (by omega) hq
              go_wp2
              go_ret
              exact ⟨by rw [HC.out]; rfl, HBw.out⟩
end Go.Proofs.Qxb6500784a
