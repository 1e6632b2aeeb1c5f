import Derived.Test.Qxb6500778aU2
namespace Go.Proofs.Qxb6500778a
open Go.RowKit

set_option linter.unusedSimpArgs false in
set_option maxRecDepth 100000 in
set_option maxHeartbeats 16000000 in
/-- alike, of a network and a configuration that say the same -/
theorem alike_any (w : World) (b c o : Nat) (N : Nat → Dv) (M : MN) (vr va ur ua : Nat → Value) (hn : NA w b N vr va) (hm : MA w c o M ur ua) (hok : NetOk N) (hr : MR N M) :
    Calls Try.prog 12 #[.pointer (some ⟨b, 0, none⟩), .pointer (some ⟨c, o, none⟩)] w fun e w' => e = .returned (.bool true) ∧ Ex (fun _ => False) w w' := by
  have HN := hide hn
  have HM := hide hm
  have HOK := hide hok
  have HR := hide hr
  clear hn hm hok hr
  go_enter Try.func12, Try.ntmps12
  go_wp2_with fail
  go_loopw [5] (fun s5 wr => ∃ (d : Nat), s5 = .int .i64 d ∧ d ≤ 16 ∧ Hid (Ex (fun _ => False) w wr)) (fun s5 _ => 16 - (intOf s5).toNat)
  case atStart => exact ⟨0, rfl, by omega, Ex.refl _ _⟩
  case round =>
    obtain ⟨d, rfl, hd16, HE⟩ := hrel
    by_cases hd : d < 16
    · have hdb : decide ((d : Int) < 16) = true := decide_eq_true (by omega)
      have hdi : (d : Int) < 16 := by omega
      have hcap := (HOK.out d hd).cap
      obtain ⟨sa, sc, e1⟩ := own_len (HN.out.ro d hd)
      obtain ⟨ta, tc, e2⟩ := own_len (HN.out.ao d hd)
      obtain ⟨sa', sc', e3⟩ := own_len (HM.out.ro d hd)
      obtain ⟨ta', tc', e4⟩ := own_len (HM.out.ao d hd)
      have HRL : Hid ((M.rt d).length = (N d).rt.length) := (HR.out.rt d hd).length_eq
      have HAE := hide (HR.out.ac d hd)
      have HUE := hide (HR.out.up d hd)
      rw [HRL.out] at e3
      rw [HAE.out] at e4
      have HF : Hid (∀ X, Ex (fun _ => False) w X → (X.cell? ⟨b, d * 4, none⟩ = some (.slice sa (N d).rt.length sc) ∧ X.cell? ⟨b, d * 4 + 1, none⟩ = some (.slice ta (N d).ac.length tc) ∧ X.cell? ⟨b, d * 4 + 2, none⟩ = some (.bool (N d).up)) ∧ (X.cell? ⟨c, o + d, none⟩ = some (.slice sa' (N d).rt.length sc') ∧ X.cell? ⟨c, o + 16 + d, none⟩ = some (.slice ta' (N d).ac.length tc') ∧ X.cell? ⟨c, o + 32 + d, none⟩ = some (.bool (N d).up)) ∧ X.ownsRow 0 77 3 (.slice sa' (M.rt d).length sc') (M.rt d).length (flatR (M.rt d)) ∧ X.ownsRow (b + 1) 81 4 (.slice ta (N d).ac.length tc) (N d).ac.length (flatA (N d).ac) ∧ X.ownsRow 0 81 4 (.slice ta' (N d).ac.length tc') (N d).ac.length (flatA (N d).ac)) := fun X e => by
        have h1 := HN.out.new e
        have h2 := HM.out.new e
        have g1 := h2.r d hd
        have g2 := h2.a d hd
        have g3 := h2.u d hd
        have g4 := h2.ro d hd
        have g5 := h2.ao d hd
        have g6 := h1.ao d hd
        rw [HUE.out] at g3
        rw [HAE.out] at g5
        rw [e3] at g1 g4
        rw [e4] at g2 g5
        rw [e2] at g6
        rw [HRL.out] at g4 ⊢
        exact ⟨⟨by rw [← e1]; exact h1.r d hd, by rw [← e2]; exact h1.a d hd, h1.u d hd⟩, ⟨g1, g2, g3⟩, g4, g6, g5⟩
      have HPM := hide (fun r (h : r ∈ M.rt d) => (HR.out.rt d hd).mem_iff.1 h)
      have HDO := hide (HOK.out d hd)
      clear e1 e2 e3 e4 HUE HAE
      obtain ⟨⟨a0, a1, a2⟩, ⟨b0, b1, b2⟩, _⟩ := HF.out wr HE.out
      obtain ⟨n, hn⟩ : ∃ n, (N d).rt.length = n := ⟨_, rfl⟩
      obtain ⟨m, hm⟩ : ∃ n, (N d).ac.length = n := ⟨_, rfl⟩
      obtain ⟨uu, huu⟩ : ∃ n, (N d).up = n := ⟨_, rfl⟩
      rw [hn] at a0 b0 hcap HRL
      rw [hm] at a1 b1 hcap
      rw [huu] at a2 b2
      have HNL := hide hn
      have HML := hide hm
      clear hn hm huu
      go_upto_region 5 with fail
      go_quiet (fail)
      replace HE := hide (HE.out.drewN nq)
      generalize wr.drewN nq = W0 at *
      clear a0 a1 a2 b0 b1 b2
      go_wp2_with fail
      go_loopw [7] (fun s7 wr => ∃ (i : Nat), s7 = .int .i64 i ∧ i ≤ n ∧ Hid (Ex (fun _ => False) w wr)) (fun s7 _ => n - (intOf s7).toNat)
      case atStart => exact ⟨0, rfl, Nat.zero_le _, HE⟩
      case round =>
        clear HE
        obtain ⟨i, rfl, hin, HE⟩ := hrel
        obtain ⟨⟨a0, a1, a2⟩, ⟨b0, b1, b2⟩, o1, o2, o3⟩ := HF.out _ HE.out
        rw [HNL.out] at b0
        clear a0 a1 a2 b1 b2 o2 o3
        by_cases hi : i < n
        · have hib : decide ((i : Int) < (n : Int)) = true := decide_eq_true (by omega)
          have hii : (i : Int) < (n : Int) := by omega
          obtain ⟨r, hr⟩ : ∃ r, (M.rt d)[i]? = some r := ⟨_, List.getElem?_eq_getElem (by rw [HRL.out]; exact hi)⟩
          obtain ⟨g, c1, hv⟩ := own_some o1 (by rw [HRL.out]; omega)
          injection hv with hv1 hv2 hv3
          subst hv1
          obtain ⟨x0, x1, x2⟩ := rt_cells o1 rfl hr
          have HFR := hide (fun V (hV : Ex (fun _ => False) w V) => findRoute_hit V b N vr va (HN.out.new hV) d hd HDO.out r (HPM.out r (List.mem_of_getElem? hr)))
          obtain ⟨rp, rl, rh⟩ := r
          simp only [] at x0 x1 x2 HFR
          clear o1 hr hv2 hv3
          go_upto_region 11 with fail
          have HEA := hide (HE.out.alloc (.cells #[.int .i64 rp, .int .i64 rl, .int .i64 rh] 77))
          have q0 := new_cells wr [.int .i64 rp, .int .i64 rl, .int .i64 rh] 77 0 _ rfl
          have q1 := new_cells wr [.int .i64 rp, .int .i64 rl, .int .i64 rh] 77 1 _ rfl
          have q2 := new_cells wr [.int .i64 rp, .int .i64 rl, .int .i64 rh] 77 2 _ rfl
          simp only [Addr.add_mid, Nat.zero_add] at q0 q1 q2
          generalize wr.alloc (.cells #[.int .i64 rp, .int .i64 rl, .int .i64 rh] 77) = W1 at *
          obtain ⟨r8, hr8⟩ : ∃ q, wr.heap.size = q := ⟨_, rfl⟩
          rw [hr8] at q0 q1 q2 ⊢
          clear hr8 x0 x1 x2 b0
          go_wp2_with fail
          refine (HFR.out _ HEA.out).mono ?_
          rintro e w2 ⟨rfl, hex2⟩
          have HE2 := hide (HEA.out.trans hex2)
          have q2 := hex2.cell (fun e => e) q2
          clear hex2 q0 q1
          go_wp2
          go_roundw
          case rel => exact ⟨i + 1, by go_num, by omega, HE2⟩
          case measure => simp [intOf]; omega
        · obtain rfl : i = n := by omega
          have hib : decide ((i : Int) < (i : Int)) = false := decide_eq_false (by omega)
          clear o1
          go_upto_region 14 with fail
          clear b0 hib
          go_wp2_with fail
          go_loopw [11] (fun s wr => ∃ (i : Nat), s = .int .i64 i ∧ i ≤ m ∧ Hid (Ex (fun _ => False) w wr)) (fun s _ => m - (intOf s).toNat)
          case atStart => exact ⟨0, rfl, Nat.zero_le _, HE⟩
          case round =>
            clear HE
            obtain ⟨j, rfl, hjm, HE⟩ := hrel
            obtain ⟨⟨a0, a1, a2⟩, ⟨b0, b1, b2⟩, o1, o2, o3⟩ := HF.out _ HE.out
            rw [HML.out] at a1 b1
            clear a0 a2 b0 b2 o1
            by_cases hj : j < m
            · have hjb : decide ((j : Int) < (m : Int)) = true := decide_eq_true (by omega)
              have hji : (j : Int) < (m : Int) := by omega
              obtain ⟨r, hr⟩ : ∃ r, (N d).ac[j]? = some r := ⟨_, List.getElem?_eq_getElem (by rw [HML.out]; exact hj)⟩
              obtain ⟨g, c1, hv⟩ := own_some o2 (by rw [HML.out]; omega)
              obtain ⟨g', c2, hv'⟩ := own_some o3 (by rw [HML.out]; omega)
              injection hv with hv1 hv2 hv3
              injection hv' with hv1' hv2' hv3'
              subst hv1 hv1'
              obtain ⟨x0, x1, x2, x3⟩ := rl_cells o2 rfl hr
              obtain ⟨y0, y1, y2, y3⟩ := rl_cells o3 rfl hr
              obtain ⟨rm, rp, rl, rc⟩ := r
              clear o2 o3 hr hv2 hv3 hv2' hv3'
              go_wp2_with fail
              go_quiet (fail)
              replace HE := hide (HE.out.drewN nq)
              clear a1 b1
              go_wp2
              go_roundw
              case rel => exact ⟨j + 1, by go_num, by omega, HE⟩
              case measure => simp [intOf]; omega
            · obtain rfl : j = m := by omega
              have hjb : decide ((j : Int) < (j : Int)) = false := decide_eq_false (by omega)
              clear o2 o3
              go_upto_region 19 with fail
              clear a1 b1 hjb
              go_wp2_with fail
              go_loopw [12] (fun s wr => ∃ (f : Nat), s = .int .i64 f ∧ f ≤ 16 ∧ Hid (Ex (fun _ => False) w wr)) (fun s _ => 16 - (intOf s).toNat)
              case atStart => exact ⟨0, rfl, Nat.zero_le _, HE⟩
              case round =>
                clear HE
                obtain ⟨f, rfl, hf16, HE⟩ := hrel
                by_cases hf : f < 16
                · have hfb : decide ((f : Int) < 16) = true := decide_eq_true (by omega)
                  have hfi : (f : Int) < 16 := by omega
                  have z0 := (HM.out.new HE.out).l d f hd hf
                  rw [HR.out.lk d f hd hf] at z0
                  obtain ⟨lb, hlb⟩ : ∃ q, lkB (N d).lk f = q := ⟨_, rfl⟩
                  have HLU : Hid (∀ k, Calls Try.prog 28 #[.pointer (some ⟨b, 0, none⟩), .int .i64 d, .int .i64 f] (wr.drewN k) fun e w'' => e = .returned (.bool lb) ∧ ∃ m, w'' = wr.drewN m) := fun k => by
                    have := linkUp_any (World.drewN wr k) b N vr va ((HN.out.new HE.out).drewN k) d f hd hf
                    rw [hlb] at this
                    exact this.mono (fun e w' h => ⟨h.1, k, h.2⟩)
                  rw [hlb, ← Nat.add_assoc] at z0
                  clear hlb
                  go_wp2_with fail
                  go_quiet (first | (go_at_call 28; refine HLU.out _))
                  replace HE := hide (HE.out.drewN nq)
                  clear z0 HLU
                  go_wp2
                  go_roundw
                  case rel => exact ⟨f + 1, by go_num, by omega, HE⟩
                  case measure => simp [intOf]; omega
                · obtain rfl : f = 16 := by omega
                  go_wp2
                  go_roundw
                  case rel => exact ⟨d + 1, by go_num, by omega, HE⟩
                  case measure => simp [intOf]; omega
    · obtain rfl : d = 16 := by omega
      go_wp2
      go_ret
      exact ⟨rfl, HE.out⟩
end Go.Proofs.Qxb6500778a
