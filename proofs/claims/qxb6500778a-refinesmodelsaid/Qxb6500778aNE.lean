import Derived.Test.Qxb6500778aNB
namespace Go.Proofs.Qxb6500778a
open Go.RowKit

set_option linter.unusedSimpArgs false in
set_option maxRecDepth 100000 in
set_option maxHeartbeats 8000000 in
/-- Equal, of two networks that hold the same -/
theorem equal_any (w : World) (b c : Nat) (N : Nat → Dv) (vr va ur ua : Nat → Value) (hn : NA w b N vr va) (hm : NA w c N ur ua) (hok : NetOk N) :
    Calls Try.prog 19 #[.pointer (some ⟨b, 0, none⟩), .pointer (some ⟨c, 0, none⟩)] w fun e w' => e = .returned (.bool true) ∧ Ex (fun _ => False) w w' := by
  have HN := hide hn
  have HM := hide hm
  clear hn hm
  go_enter Try.func19, Try.ntmps19
  go_wp2_with fail
  go_loopw [5] (fun s5 wr => ∃ (d : Nat), s5 = .int .i64 d ∧ d ≤ 16 ∧ Hid (Ex (fun _ => False) w wr)) (fun s5 _ => 16 - (intOf s5).toNat)
  case atStart => exact ⟨0, rfl, by omega, Ex.refl _ _⟩
  case round =>
    obtain ⟨d, rfl, hd16, HE⟩ := hrel
    by_cases hd : d < 16
    · have hdb : decide ((d : Int) < 16) = true := decide_eq_true (by omega)
      have hdi : (d : Int) < 16 := by omega
      have hcap := (hok d hd).cap
      obtain ⟨sa, sc, e1⟩ := own_len (HN.out.ro d hd)
      obtain ⟨ta, tc, e2⟩ := own_len (HN.out.ao d hd)
      obtain ⟨sa', sc', e3⟩ := own_len (HM.out.ro d hd)
      obtain ⟨ta', tc', e4⟩ := own_len (HM.out.ao d hd)
      have HF : Hid (∀ X, Ex (fun _ => False) w X → (X.cell? ⟨b, d * 4, none⟩ = some (.slice sa (N d).rt.length sc) ∧ X.cell? ⟨b, d * 4 + 1, none⟩ = some (.slice ta (N d).ac.length tc) ∧ X.cell? ⟨b, d * 4 + 2, none⟩ = some (.bool (N d).up) ∧ X.cell? ⟨b, d * 4 + 3, none⟩ = some (.int .u16 (N d).lk)) ∧ (X.cell? ⟨c, d * 4, none⟩ = some (.slice sa' (N d).rt.length sc') ∧ X.cell? ⟨c, d * 4 + 1, none⟩ = some (.slice ta' (N d).ac.length tc') ∧ X.cell? ⟨c, d * 4 + 2, none⟩ = some (.bool (N d).up) ∧ X.cell? ⟨c, d * 4 + 3, none⟩ = some (.int .u16 (N d).lk)) ∧ (X.ownsRow (b + 1) 77 3 (.slice sa (N d).rt.length sc) (N d).rt.length (flatR (N d).rt) ∧ X.ownsRow (c + 1) 77 3 (.slice sa' (N d).rt.length sc') (N d).rt.length (flatR (N d).rt)) ∧ (X.ownsRow (b + 1) 81 4 (.slice ta (N d).ac.length tc) (N d).ac.length (flatA (N d).ac) ∧ X.ownsRow (c + 1) 81 4 (.slice ta' (N d).ac.length tc') (N d).ac.length (flatA (N d).ac))) := fun X e => by
        rw [← e1, ← e2, ← e3, ← e4]
        have h1 := HN.out.new e
        have h2 := HM.out.new e
        exact ⟨⟨h1.r d hd, h1.a d hd, h1.u d hd, h1.l d hd⟩, ⟨h2.r d hd, h2.a d hd, h2.u d hd, h2.l d hd⟩, ⟨h1.ro d hd, h2.ro d hd⟩, h1.ao d hd, h2.ao d hd⟩
      clear e1 e2 e3 e4
      generalize (N d).up = up at *
      generalize (N d).lk = lk at *
      generalize (N d).rt = L at *
      generalize (N d).ac = A at *
      obtain ⟨⟨a0, a1, a2, a3⟩, ⟨b0, b1, b2, b3⟩, _⟩ := HF.out wr HE.out
      obtain ⟨n, hn⟩ : ∃ n, L.length = n := ⟨_, rfl⟩
      obtain ⟨m, hm⟩ : ∃ n, A.length = n := ⟨_, rfl⟩
      rw [hn] at a0 b0 hcap
      rw [hm] at a1 b1 hcap
      have HNL := hide hn
      have HML := hide hm
      clear hn hm
      go_wp2_with fail
      go_quiet (fail)
      replace HE := hide (HE.out.drewN nq)
      generalize wr.drewN nq = W0 at *
      clear a0 a1 a2 a3 b0 b1 b2 b3
      obtain ⟨⟨a0, a1, a2, a3⟩, ⟨b0, b1, b2, b3⟩, _⟩ := HF.out W0 HE.out
      rw [HNL.out] at a0 b0
      rw [HML.out] at a1 b1
      go_wp2_with fail
      go_quiet (fail)
      replace HE := hide (HE.out.drewN nq)
      generalize W0.drewN nq = W1 at *
      clear a0 a1 a2 a3 b0 b1 b2 b3
      go_wp2_with fail
      go_loopw [8] (fun s wr => ∃ (i : Nat), s = .int .i64 i ∧ i ≤ n ∧ Hid (Ex (fun _ => False) w wr)) (fun s _ => n - (intOf s).toNat)
      case atStart => exact ⟨0, rfl, Nat.zero_le _, HE⟩
      case round =>
        clear HE
        obtain ⟨i, rfl, hin, HE⟩ := hrel
        obtain ⟨⟨a0, a1, a2, a3⟩, ⟨b0, b1, b2, b3⟩, ⟨o1, o2⟩, o3, o4⟩ := HF.out _ HE.out
        rw [HNL.out] at a0 b0
        rw [HML.out] at a1 b1
        clear a2 a3 b2 b3
        by_cases hi : i < n
        · have hib : decide ((i : Int) < (n : Int)) = true := decide_eq_true (by omega)
          have hii : (i : Int) < (n : Int) := by omega
          obtain ⟨r, hr⟩ : ∃ r, L[i]? = some r := ⟨_, List.getElem?_eq_getElem (by rw [HNL.out]; exact hi)⟩
          obtain ⟨g, c1, hv⟩ := own_some o1 (by rw [HNL.out]; omega)
          obtain ⟨g', c2, hv'⟩ := own_some o2 (by rw [HNL.out]; omega)
          injection hv with hv1 hv2 hv3
          injection hv' with hv1' hv2' hv3'
          subst hv1 hv1'
          obtain ⟨x0, x1, x2⟩ := rt_cells o1 rfl hr
          obtain ⟨y0, y1, y2⟩ := rt_cells o2 rfl hr
          obtain ⟨rp, rl, rh⟩ := r
          clear o1 o2 o3 o4 hr hv2 hv3 hv2' hv3'
          go_wp2_with fail
          go_quiet (fail)
          replace HE := hide (HE.out.drewN nq)
          clear a0 a1 b0 b1
          go_wp2
          go_roundw
          case rel => exact ⟨i + 1, by go_num, by omega, HE⟩
          case measure => simp [intOf]; omega
        · obtain rfl : i = n := by omega
          have hib : decide ((i : Int) < (i : Int)) = false := decide_eq_false (by omega)
          clear o1 o2 o3 o4
          go_upto_region 12 with fail
          clear a0 a1 b0 b1 hib
          go_wp2_with fail
          go_loopw [9] (fun s wr => ∃ (i : Nat), s = .int .i64 i ∧ i ≤ m ∧ Hid (Ex (fun _ => False) w wr)) (fun s _ => m - (intOf s).toNat)
          case atStart => exact ⟨0, rfl, Nat.zero_le _, HE⟩
          case round =>
            clear HE
            obtain ⟨i, rfl, hin, HE⟩ := hrel
            obtain ⟨⟨a0, a1, a2, a3⟩, ⟨b0, b1, b2, b3⟩, ⟨o1, o2⟩, o3, o4⟩ := HF.out _ HE.out
            rw [HNL.out] at a0 b0
            rw [HML.out] at a1 b1
            clear a2 a3 b2 b3
            by_cases hi : i < m
            · have hib : decide ((i : Int) < (m : Int)) = true := decide_eq_true (by omega)
              have hii : (i : Int) < (m : Int) := by omega
              obtain ⟨r, hr⟩ : ∃ r, A[i]? = some r := ⟨_, List.getElem?_eq_getElem (by rw [HML.out]; exact hi)⟩
              obtain ⟨g, c1, hv⟩ := own_some o3 (by rw [HML.out]; omega)
              obtain ⟨g', c2, hv'⟩ := own_some o4 (by rw [HML.out]; omega)
              injection hv with hv1 hv2 hv3
              injection hv' with hv1' hv2' hv3'
              subst hv1 hv1'
              obtain ⟨x0, x1, x2, x3⟩ := rl_cells o3 rfl hr
              obtain ⟨y0, y1, y2, y3⟩ := rl_cells o4 rfl hr
              obtain ⟨rm, rp, rl, rc⟩ := r
              clear o1 o2 o3 o4 hr hv2 hv3 hv2' hv3'
              go_wp2_with fail
              go_quiet (fail)
              replace HE := hide (HE.out.drewN nq)
              clear a0 a1 b0 b1
              go_wp2
              go_roundw
              case rel => exact ⟨i + 1, by go_num, by omega, HE⟩
              case measure => simp [intOf]; omega
            · obtain rfl : i = m := by omega
              have hib : decide ((i : Int) < (i : Int)) = false := decide_eq_false (by omega)
              clear o1 o2 o3 o4
              go_wp2
              go_roundw
              case rel => exact ⟨d + 1, by go_num, by omega, HE⟩
              case measure => simp [intOf]; omega
    · obtain rfl : d = 16 := by omega
      go_wp2
      go_ret
      exact ⟨rfl, HE.out⟩
end Go.Proofs.Qxb6500778a
