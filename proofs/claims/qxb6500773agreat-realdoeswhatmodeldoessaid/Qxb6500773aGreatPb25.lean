import Derived.Test.Qxb6500773aGreatMix
import Derived.Test.Qxb6500773aGreatPa25
import Derived.Test.Qxb6500773aGreatOd
namespace Go.Proofs.Qxb6500773aGreat
open Go.RowKit

set_option linter.unusedSimpArgs false in
set_option maxRecDepth 100000 in
set_option maxHeartbeats 32000000 in
/-- cnflaw.modelBench.step: OpProofVars -/
theorem mstep_25 (w : World) (B m z : Nat) (X : Nat → Prop) (V : Nat → Value) (S : Nat → Nat → Prop) (s : Mst) (h : MN w B m X V S (QM B s) s.nv s.sv) (hB : B ≤ w.heap.size) (hX : ∀ k, X k → k < w.heap.size) (hok : MsOk z s) (hz : z ≤ 65536) (v : OpV) (hk : v.kd = 25) (ha : -9223372036854775808 ≤ v.a ∧ v.a ≤ 9223372036854775807) :
    Calls Tryz.prog 10 #[.pointer (some ⟨m, 0, none⟩), opZ v] w (MpPost w (fp m S) B m X (s) ({ ob0 with n := mxQ 0 s.P, m := emQ s.P })) := by
  have HS0 := hide (mw_new v h hB hX)
  have HRB : Hid (∀ k, fp m S k → B ≤ k) := fun k z => z.elim (fun z => by rw [z]; exact h.mB) (fun ⟨i, hi, y⟩ => (h.rg i hi k y).1)
  unfold opZ
  have HOK := hide hok
  have HZ := hide hz
  have hs' : s = s := rfl
  obtain ⟨b', hb'⟩ : ∃ x : Ob, ({ ob0 with n := mxQ 0 s.P, m := emQ s.P }) = x := ⟨_, rfl⟩
  rw [hb']
  obtain ⟨kd, va, la, ln, lc, VX, ta, tn, tc, VT⟩ := v
  dsimp only at hk HS0 ha hs' hb' ⊢
  subst hk
  have HSE := hide hs'
  have HBE := hide hb'
  clear h hok hz hB hX hs' hb'
  generalize fp m S = R at *
  go_enter Tryz.func10, Tryz.ntmps10
  go_upto_region 2 with fail
  generalize (((w.alloc (.cells #[.int .i64 25, .int .i64 va, .slice la ln lc, .slice ta tn tc] 37)).alloc (.cells #[.int .i64 0, .int .i64 0, .int .i64 0, .int .i64 0, .int .i64 0, .slice none 0 0] 43)).alloc (.cells #[.int .i64 0, .int .i64 0, .int .i64 0, .int .i64 0, .int .i64 0, .slice none 0 0] 43)) = W0 at *
  generalize w.heap.size + 1 + 1 = o at *
  generalize w.heap.size + 1 = t at *
  generalize w.heap.size = q at *
  have q0 : W0.cell? ⟨q, 0, none⟩ = some (.int .i64 25) := HS0.out.sc.q0
  obtain ⟨pa, pc, hvp, hlp, hcp, hmp⟩ := HS0.out.p
  obtain ⟨np, hnp⟩ : ∃ z, s.P.length = z := ⟨_, rfl⟩
  rw [hnp] at hvp hcp
  have HVp := hide hvp
  have HOp := hide hlp
  have HNp := hide hnp
  have HCp := hide (And.intro hcp hmp)
  clear hvp hlp hcp hmp hnp
  have HNL1 : Hid (np ≤ 65536) := by have h1 := HOK.out.P.len; have h2 := HZ.out; rw [HNp.out] at h1; show _ ≤ _; omega
  have vp := (HS0.out.vp HVp.out)
  have HST0 : Hid (MW w W0 R B m q t o X V S s ⟨25, va, la, ln, lc, VX, ta, tn, tc, VT⟩ { ob0 with n := mxQ 0 (s.P.take 0), m := emQ (s.P.take 0) } (.slice none 0 0)) := HS0.out
  go_upto_region 129 with fail
  clear vp HS0 q0 HOp
  refine wp_loop_mix [none, none, none, none, none, none, none, none, none, none, none, none, none, none, none, none, none, some 17, none, some 19, none, none, none, none, none, none, none, none, none, none, none, none, none, none, none, none, none, none, none, none, none, none, none, none, none, none, none, none, none, none, none, none, none, none, none, none, none, none, none, none, none, none, none, none, none, none, none, none, none, none, none, none, none, none, none, none, none, none, none, none, none, none, none, none, none, none, none, none, none, none, none, none, none, none, none, none, none, none, none, none, none, none, none, none, none, none, none, none, none, none, none, none, none, none, none, none, none, none, none, none, none, none, none, none, none, none, none, none, none, none, none, none, none, none, none, none, none, none, none, none, none, none, none, none, none, none, none, none, none, none, none, none, none, none, none, none, none, none, none, none, none, none, none, none, none, none, none, none, none, none, none, none, none, none, none, none, none, none, none, none, none, none, none, none, none, none, none, none, none, none, none, none, none, none, none, none, none, none, none, none, none, none, none, none, none, none, none, none, none, none, none, none, none, none, none, none, none, none, none, none, none, none, none, none, none, none, none, none, none, none, none, none, none, none, none, none, none, none, none, none, none, none, none, none, none, none, none, none, none, none, none, none, none, none, none, none, none, none, none, none, none, none, none, none, none, none, none, none, none, none, none, none, none, none, none, none, none, none, none, none, none, none, none, none, none, none, none, none, none, none, none, none, none, none, none, none, none, none, none, none, none, none, none, none, none, none, none, none, none, none, none, none, none, none, none, none, none, none, none, none, none, none, none, none, none, none, none, none, none, none, none, none, none, none, none, none, none, none, none, none, none, none, none, none, none, none, none, none, none, none, none, none, none, none, none, none, none, none, none, none, none, none, none, none, none, none, none, none, none, none, none, none, none, none, none, none, none, none, none, none, none, none, none, none, none, none, none, none, none, none, none, none, none, none, none, none, none, none, none, none, none, none, none, none, none, none, none, none, none, none, none, none, none, none, none, none, none, none, none, none, none, none, none, none, none, none, none, none, none, none, none, none, none, none, none, none, none, none, none, none, none, none, none, none, none, none, none, none, none, none, none, none, none, none, none, none, none, none, none, none, none, none, none, none, none, none, none, none, none, none, none, none, none, none, none, none, none, none, none, none, none, none, none, none, none, none, none, none, none, none, none, none, none, none, none, none, none, none, none, none, none, none, none, none, none, none, none, none, none, none, none, none, none, none, none, none, none, none, none, none, none, none, none, none, none, none, none, none, none, none, none, none, none, none, none, none, none, none, none, none, none, none, none, none, none, none, none, none, none, none, none, none, none, none, none, none, none, none, none, none, none, none, none, none, none, none, none, none, none, none, none, none, none, none, none, none, none, none, none, none, none, none, none, none, none, none, none, none, none, none, none, none, none, none, none, none, none, none, none, none, none, none, none, none, none, none, none, none, none, none, none, none, none, none, none, none, none, none, none, none, none, none, none, none, none, none, none, none, none, none, none, none, none, none, none, none, none, none, none, none, none, none, none, none, none, none, none, none, none, none, none, none, none, none, none, none, none, none, none, none, none, none, none, none, none, none, none, none, none, none, none, none, none, none, none, none, none, none, none, none, none, none, none, none, none, none, none, none, none, none, none, none, none, none, none, none, none, none, some 698, some 699, some 700, some 701, some 702, some 703, some 704, some 705, some 706, some 707, some 708, some 709, some 710, some 711, some 712, some 713, some 714, some 715, some 716, some 717, some 718, some 719, some 720, some 721, some 722, some 723, some 724, some 725, some 726, some 727, some 728, none, none, none, none, none, none, none, none, none, none, none, none, none, none, none, none, none, none, none, none, none, none, none, none, none, none, none, none, none, none, none, none, none, none, none, none, none, none, none, none, none, none, none, none, none, none, none, none, none, none, none, none, none, none, none, none, none, none, none, none, none, none, none, none, none, none, none, none, none, none, none, none, none, none, none, none, none, none, none, none, none, none, none, none, none, none, none, none, none, none, none, none, none, none, none, none] (by kernel_rfl) (fun us wy => (fun _ s698 wx => ∃ (i : Nat), s698 = .int .i64 i ∧ i ≤ np ∧ Hid (MW w wx R B m q t o X V S s ⟨25, va, la, ln, lc, VX, ta, tn, tc, VT⟩ { ob0 with n := mxQ 0 (s.P.take i), m := emQ (s.P.take i) } (.slice none 0 0))) (us 19) (us 698) wy) (fun us wy => (fun _ s698 _ => np - (intOf s698).toNat) (us 19) (us 698) wy) ?atStart ?round
  case atStart => (dsimp only [getL]; exact ⟨0, rfl, Nat.zero_le _, HST0⟩)
  case round =>
    intro us wr hrel J1 hJ1
    dsimp only at hrel hJ1
    dsimp only [mixF]
    generalize us 698 = s698 at hrel hJ1 ⊢
    have HJ1 := hide hJ1
    clear hJ1
    clear HST0
    obtain ⟨i, rfl, hi, HSl⟩ := hrel
    generalize hgw : wr = wl at *
    clear hgw
    have hw1 : wrap64 ((i : Int) + 1) = ((i + 1 : Nat) : Int) := by have := HNL1.out; unfold wrap64; omega
    obtain ⟨N0, hN0⟩ : ∃ z, mxQ 0 (s.P.take i) = z := ⟨_, rfl⟩
    obtain ⟨M0, hM0⟩ : ∃ z, emQ (s.P.take i) = z := ⟨_, rfl⟩
    rw [hN0, hM0] at HSl
    have HNE := hide hN0
    have HME := hide hM0
    clear hN0 hM0
    by_cases hlt : i < np
    · have hib : decide ((i : Int) < (np : Int)) = true := decide_eq_true (by omega)
      have hii : (i : Int) < (np : Int) := by omega
      obtain ⟨⟨d, C⟩, hC⟩ : ∃ C, s.P[i]? = some C := ⟨_, List.getElem?_eq_getElem (by rw [HNp.out]; exact hlt)⟩
      have HC := hide hC
      have HNS : Hid (mxQ 0 (s.P.take (i + 1)) = mxA N0 C) := by show _ = _; rw [mxQ_snoc 0 s.P hC, HNE.out]
      have HMS : Hid (emQ (s.P.take (i + 1)) = if d = false ∧ C.length = 0 then 1 else M0) := by show _ = _; rw [emQ_snoc s.P hC, HME.out]
      clear HNE HME
      have HXC : Hid (∀ x ∈ C, DI x) := fun x hx => ((HOK.out.P.mem _ (List.mem_of_getElem? hC)).2 x hx).1
      clear hC
      obtain ⟨g, a1, c1, eg, x0, x1, -, -, -, hgo, -⟩ := HSl.out.elemP HVp.out HC.out
      subst eg
      dsimp only at x0 x1
      have HGO := hide hgo
      clear hgo
      obtain ⟨cl, hcl⟩ : ∃ z, C.length = z := ⟨_, rfl⟩
      rw [hcl] at x1 HMS
      have HCL := hide hcl
      clear hcl
      have HCB : Hid (cl ≤ 65536) := by have h3 : C.length ≤ z := (HOK.out.P.mem _ (List.mem_of_getElem? HC.out)).1; rw [HCL.out] at h3; exact Nat.le_trans h3 HZ.out
      have HCE : Hid ((wl.alloc (.cells #[.bool d, .slice a1 cl c1] 136)).cell? ⟨wl.heap.size, 0, none⟩ = some (.bool d) ∧ (wl.alloc (.cells #[.bool d, .slice a1 cl c1] 136)).cell? ⟨wl.heap.size, 1, none⟩ = some (.slice a1 cl c1) ∧ (wl.alloc (.cells #[.bool d, .slice a1 cl c1] 136)).cell? ⟨g, i * 2 + 1, none⟩ = some (.slice a1 cl c1)) := ⟨new_cells wl [.bool d, .slice a1 cl c1] 136 0 _ rfl, new_cells wl [.bool d, .slice a1 cl c1] 136 1 _ rfl, (Ex.of (S := fun _ => False) (be1 wl (.cells #[.bool d, .slice a1 cl c1] 136))).cell (fun z => z) x1⟩
      have HST := hide (HSl.out.low (be1 wl (.cells #[.bool d, .slice a1 cl c1] 136)))
      have HBO : Hid (wl.heap.size ≠ o) := by have := HSl.out.lt.2.2; show _ ≠ _; omega
      go_upto_region 131 with fail
      clear x0 x1 HSl hib hii
      generalize wl.alloc (.cells #[.bool d, .slice a1 cl c1] 136) = wt at *
      generalize wl.heap.size = bt at *
      have f1 := HCE.out.2.1
      go_upto_region 132 with fail
      clear f1
      have HST1 : Hid (MW w wt R B m q t o X V S s ⟨25, va, la, ln, lc, VX, ta, tn, tc, VT⟩ { ob0 with n := mxA N0 (C.take 0), m := M0 } (.slice none 0 0)) := HST.out
      clear HST
      refine wp_loop_mix [none, none, none, none, none, none, none, none, none, none, none, none, none, none, none, none, none, none, none, some 19, none, none, none, none, none, none, none, none, none, none, none, none, none, none, none, none, none, none, none, none, none, none, none, none, none, none, none, none, none, none, none, none, none, none, none, none, none, none, none, none, none, none, none, none, none, none, none, none, none, none, none, none, none, none, none, none, none, none, none, none, none, none, none, none, none, none, none, none, none, none, none, none, none, none, none, none, none, none, none, none, none, none, none, none, none, none, none, none, none, none, none, none, none, none, none, none, none, none, none, none, none, none, none, none, none, none, none, none, none, none, none, none, none, none, none, none, none, none, none, none, none, none, none, none, none, none, none, none, none, none, none, none, none, none, none, none, none, none, none, none, none, none, none, none, none, none, none, none, none, none, none, none, none, none, none, none, none, none, none, none, none, none, none, none, none, none, none, none, none, none, none, none, none, none, none, none, none, none, none, none, none, none, none, none, none, none, none, none, none, none, none, none, none, none, none, none, none, none, none, none, none, none, none, none, none, none, none, none, none, none, none, none, none, none, none, none, none, none, none, none, none, none, none, none, none, none, none, none, none, none, none, none, none, none, none, none, none, none, none, none, none, none, none, none, none, none, none, none, none, none, none, none, none, none, none, none, none, none, none, none, none, none, none, none, none, none, none, none, none, none, none, none, none, none, none, none, none, none, none, none, none, none, none, none, none, none, none, none, none, none, none, none, none, none, none, none, none, none, none, none, none, none, none, none, none, none, none, none, none, none, none, none, none, none, none, none, none, none, none, none, none, none, none, none, none, none, none, none, none, none, none, none, none, none, none, none, none, none, none, none, none, none, none, none, none, none, none, none, none, none, none, none, none, none, none, none, none, none, none, none, none, none, none, none, none, none, none, none, none, none, none, none, none, none, none, none, none, none, none, none, none, none, none, none, none, none, none, none, none, none, none, none, none, none, none, none, none, none, none, none, none, none, none, none, none, none, none, none, none, none, none, none, none, none, none, none, none, none, none, none, none, none, none, none, none, none, none, none, none, none, none, none, none, none, none, none, none, none, none, none, none, none, none, none, none, none, none, none, none, none, none, none, none, none, none, none, none, none, none, none, none, none, none, none, none, none, none, none, none, none, none, none, none, none, none, none, none, none, none, none, none, none, none, none, none, none, none, none, none, none, none, none, none, none, none, none, none, none, none, none, none, none, none, none, none, none, none, none, none, none, none, none, none, none, none, none, none, none, none, none, none, none, none, none, none, none, none, none, none, none, none, none, none, none, none, none, none, none, none, none, none, none, none, none, none, none, none, none, none, none, none, none, none, none, none, none, none, none, none, none, none, none, none, none, none, none, none, none, none, none, none, none, none, none, none, none, none, none, none, none, none, none, none, none, none, none, none, none, none, none, none, none, none, none, none, none, none, none, none, none, none, none, none, none, none, none, none, none, none, none, none, none, none, none, none, none, none, none, none, none, none, none, none, none, none, none, none, none, none, none, none, none, none, none, none, none, none, none, none, none, none, none, none, none, none, none, none, none, none, none, none, none, none, none, none, none, none, none, none, none, none, none, none, none, none, none, none, none, none, none, none, none, none, none, none, none, none, none, none, none, none, none, none, none, none, some 705, some 706, some 707, some 708, some 709, some 710, some 711, some 712, some 713, some 714, some 715, some 716, some 717, none, none, none, none, none, none, none, none, none, none, none, none, none, none, none, none, none, none, none, none, none, none, none, none, none, none, none, none, none, none, none, none, none, none, none, none, none, none, none, none, none, none, none, none, none, none, none, none, none, none, none, none, none, none, none, none, none, none, none, none, none, none, none, none, none, none, none, none, none, none, none, none, none, none, none, none, none, none, none, none, none, none, none, none, none, none, none, none, none, none, none, none, none, none, none, none, none, none, none, none, none, none, none, none, none, none, none] (by kernel_rfl) (fun us wy => (fun _ s705 wx => ∃ (j : Nat), s705 = .int .i64 j ∧ j ≤ cl ∧ Hid (MW w wx R B m q t o X V S s ⟨25, va, la, ln, lc, VX, ta, tn, tc, VT⟩ { ob0 with n := mxA N0 (C.take j), m := M0 } (.slice none 0 0)) ∧ Hid (wx.cell? ⟨bt, 0, none⟩ = some (.bool d) ∧ wx.cell? ⟨bt, 1, none⟩ = some (.slice a1 cl c1) ∧ wx.cell? ⟨g, i * 2 + 1, none⟩ = some (.slice a1 cl c1))) (us 19) (us 705) wy) (fun us wy => (fun _ s705 _ => cl - (intOf s705).toNat) (us 19) (us 705) wy) ?atStart ?round
      case atStart => (dsimp only [getL]; exact ⟨0, rfl, Nat.zero_le _, HST1, HCE⟩)
      case round =>
        intro us wr hrel J2 hJ2
        dsimp only at hrel hJ2
        dsimp only [mixF]
        generalize us 705 = s705 at hrel hJ2 ⊢
        have HJ2 := hide hJ2
        clear hJ2
        clear HST1 HCE
        obtain ⟨j, rfl, hj, HSj, HCj⟩ := hrel
        generalize hgw : wr = wj at *
        clear hgw
        have hw2 : wrap64 ((j : Int) + 1) = ((j + 1 : Nat) : Int) := by have := HCB.out; clear HOK HC HSj HCj; unfold wrap64; omega
        obtain ⟨nn, hnn⟩ : ∃ z, mxA N0 (C.take j) = z := ⟨_, rfl⟩
        rw [hnn] at HSj
        have HNN := hide hnn
        clear hnn
        by_cases hjt : j < cl
        · refine in25 w wj B m z q t o bt g np pc i cl j c1 d a1 X V S s R va la ln lc VX ta tn tc VT N0 M0 C HC HXC HVp HGO HBO HCL HCB (by rw [HNN.out]; exact HSj) HCj hjt _ _ _ _ _ _ _ _ _ _ _ _ _ _ _ _ _ ?_
          intro u19 u706 u707 u708 u709 u710 u711 u712 u713 u714 u715 u716 u717 w5 h5 h6
          refine HJ2.out _ _ ?rel (by kernel_rfl) rfl ?measure
          case rel => exact ⟨j + 1, rfl, by omega, h5, h6⟩
          case measure => exact meas_lt (i := j) rfl rfl hjt
        · have hjb : decide ((j : Int) < (cl : Int)) = false := decide_eq_false (by omega)
          have hjn : ¬ (j : Int) < (cl : Int) := by omega
          rw [List.take_of_length_le (by rw [HCL.out]; omega)] at HNN
          rw [HNN.out] at HNS
          have f0 := HCj.out.1
          have f1 := HCj.out.2.1
          clear HCj hw2
          rcases (show (d = false ∧ cl = 0) ∨ d = true ∨ (d = false ∧ cl ≠ 0) by cases d <;> simp <;> omega) with ⟨hd, hz⟩ | hd | ⟨hd, hz⟩
          · subst hd
            have hzb : ((cl : Int) == 0) = true := by simp; omega
            have o4 := HSj.out.sc.o4
            have hof := HSj.out.sc.of
            go_upto_region 139 with fail
            have HSm := hide (HSj.out.om 1)
            clear HSj o4 hof f0 f1 hzb hjb hjn
            generalize wj.setCell ⟨o, 4, none⟩ (.int .i64 1) = wm at *
            go_wp2
            first | refine HJ2.out _ _ ?rel (by kernel_rfl) rfl ?measure | refine HJ1.out _ _ ?rel (by kernel_rfl) rfl ?measure
            case rel => (try dsimp only [rdA, getL]); (exact ⟨i + 1, by go_num, by omega, by rw [HNS.out, HMS.out, if_pos (by simp; exact hz)]; exact HSm⟩)
            case measure => (try dsimp only [rdA, getL]); (exact meas_lt (i := i) (by go_num) rfl hlt)
          · subst hd
            go_upto_region 139 with fail
            clear f0 f1 hjb hjn
            go_wp2
            first | refine HJ2.out _ _ ?rel (by kernel_rfl) rfl ?measure | refine HJ1.out _ _ ?rel (by kernel_rfl) rfl ?measure
            case rel => (try dsimp only [rdA, getL]); (exact ⟨i + 1, by go_num, by omega, by rw [HNS.out, HMS.out, if_neg (fun z => Bool.noConfusion z.1)]; exact HSj⟩)
            case measure => (try dsimp only [rdA, getL]); (exact meas_lt (i := i) (by go_num) rfl hlt)
          · subst hd
            have hzb : ((cl : Int) == 0) = false := by simp; omega
            go_upto_region 139 with fail
            clear f0 f1 hzb hjb hjn
            go_wp2
            first | refine HJ2.out _ _ ?rel (by kernel_rfl) rfl ?measure | refine HJ1.out _ _ ?rel (by kernel_rfl) rfl ?measure
            case rel => (try dsimp only [rdA, getL]); (exact ⟨i + 1, by go_num, by omega, by rw [HNS.out, HMS.out, if_neg (fun z => hz z.2)]; exact HSj⟩)
            case measure => (try dsimp only [rdA, getL]); (exact meas_lt (i := i) (by go_num) rfl hlt)
    · have hib : decide ((i : Int) < (np : Int)) = false := decide_eq_false (by omega)
      have hin : ¬ (i : Int) < (np : Int) := by omega
      rw [List.take_of_length_le (by rw [HNp.out]; omega)] at HNE HME
      go_upto_region 151 with fail
      clear hib hin hw1
      obtain ⟨bo, hbo⟩ : ∃ x : Ob, ({ ob0 with n := N0, m := M0 }) = x := ⟨_, rfl⟩
      have HSQ : Hid (s = s) := rfl
      have HBQ : Hid (b' = bo) := by show _ = _; rw [← hbo]; exact (by rw [← HBE.out, HNE.out, HME.out])
      rw [hbo] at HSl
      clear hbo HSE HBE
      have o0 := HSl.out.sc.o0
      have o1 := HSl.out.sc.o1
      have o2 := HSl.out.sc.o2
      have o3 := HSl.out.sc.o3
      have o4 := HSl.out.sc.o4
      have o5 := HSl.out.sc.o5
      have t0 := HSl.out.sc.t0
      have t1 := HSl.out.sc.t1
      have t2 := HSl.out.sc.t2
      have t3 := HSl.out.sc.t3
      have t4 := HSl.out.sc.t4
      have t5 := HSl.out.sc.t5
      have htf := HSl.out.sc.tf
      have hot : o ≠ t := fun z => HSl.out.ne.2.2.1 z.symm
      have HF := hide HSl.out.fin
      have HC := hide (fin_cells HSl.out.sc)
      clear HSl
      go_wp2_with (with_reducible refine bodyPost_ret (v := ?v) ?hr ?hd ?hp)
      case v => exact obV bo (.slice none 0 0)
      case hr =>
        change (results _ _).run _ (fin6 wl t bo (.slice none 0 0)) = .ok _ (fin6 wl t bo (.slice none 0 0))
        obtain ⟨y0, y1, y2, y3, y4, y5⟩ := HC.out
        clear HF HC
        generalize fin6 wl t bo (.slice none 0 0) = WF at *
        simp [results, Tryz.results10, go_sem, y0, y1, y2, y3, y4, y5, obV]
      case hd => rfl
      case hp => rw [HBQ.out]; exact HF.out
end Go.Proofs.Qxb6500773aGreat
