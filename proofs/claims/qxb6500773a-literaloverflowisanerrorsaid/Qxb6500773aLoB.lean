import Derived.Test.Qxb6500773aLo5
import Derived.Test.Qxb6500773aLo6
import Derived.Test.Qxb6500773aLoA
namespace Go.Proofs.Qxb6500773a
open Go.RowKit

theorem cl_keep {w w' : World} {g : Nat} {X : List Int} (h : CL w (some ⟨g, 0, none⟩) X) {S : Nat → Prop} (e : Ex S w w') (hg : ¬ S g) : CL w' (some ⟨g, 0, none⟩) X := fun j x hx => by
  obtain ⟨g', o, z, hc⟩ := h j x hx
  cases z
  exact ⟨g, 0, rfl, e.cell hg hc⟩
theorem szP_lt (v : Nat) : v < szP v := by unfold szP; split <;> omega
theorem szP_le {v : Nat} (h : v ≤ 16777215) : szP v ≤ 16777216 := by unfold szP; split <;> omega
theorem from_dim {x : Int} (h : LitOk x) : fromP (dimP x) = (x, 0) := by
  have h1 := dim_pack h
  have h2 : ¬ (16777215 < dimP x ∨ dimP x < -16777215) := by unfold dimP; unfold LitOk at h; split <;> omega
  unfold fromP
  rw [if_neg h1.2, if_neg h2, h1.1]
theorem cl_new (w : World) (X : List Int) : CL (w.alloc (.cells (X.map (Value.int .i32)).toArray 58)) (some ⟨w.heap.size, 0, none⟩) X := fun j x hx => ⟨w.heap.size, 0, rfl, by
  have := new_cells w (X.map (Value.int .i32)) 58 j (.int .i32 x) (by rw [List.getElem?_map, hx]; rfl)
  rw [Addr.add_mid] at this
  exact this⟩
def UnPost (w : World) (v : Value) (e : Ending) (w' : World) : Prop := e = .returned v ∧ w' = w
set_option linter.unusedSimpArgs false in
set_option maxRecDepth 100000 in
set_option maxHeartbeats 8000000 in
/-- cnf.Assignment.Set, at what is no literal -/
theorem asSetBad_any' (w : World) (b : Nat) (l : Int) (hl : I32 l) (hv : validP l = false) : Calls Try.prog 50 #[.pointer (some ⟨b, 0, none⟩), .int .i32 l] w (UnPost w (.tuple #[])) := by
  have cV := valid_any w l hl
  rw [hv] at cV
  have HPO := hide (show UnPost w (.tuple #[]) (.returned (.tuple #[])) w from ⟨rfl, rfl⟩)
  generalize UnPost w (.tuple #[]) = Q at HPO ⊢
  go_enter Try.func50, Try.ntmps50
  go_wp2_with fail
  refine cV.mono ?_
  rintro e w' ⟨rfl, hw⟩
  rw [hw]
  clear hw w' cV
  go_wp2
  exact bodyPost_ret (v := .tuple #[]) (by simp [results, Try.results50, go_sem]) rfl HPO.out
theorem asSetBad_any (w : World) (b : Nat) (l : Int) (hl : I32 l) (hv : validP l = false) : Calls Try.prog 50 #[.pointer (some ⟨b, 0, none⟩), .int .i32 l] w fun e w' => e = .returned (.tuple #[]) ∧ w' = w := asSetBad_any' w b l hl hv
set_option linter.unusedSimpArgs false in
set_option maxRecDepth 100000 in
set_option maxHeartbeats 8000000 in
/-- cnflaw.packedIsJudged -/
theorem packed_any (w : World) (x : Int) (hx : -9223372036854775808 ≤ x ∧ x < 9223372036854775808) :
    Calls Try.prog 12 #[.int .i64 x] w (SaPost w true) := by
  by_cases hA : x < -2147483648
  · have hAb : decide (x < -2147483648) = true := by simpa using hA
    clear hA
    go_enter Try.func12, Try.ntmps12
    go_wp2
    go_ret
    exact ⟨rfl, Below.refl _ _⟩
  · have hAb : decide (x < -2147483648) = false := by simpa using hA
    have hAn : (x < -2147483648) = False := by simpa using hA
    have hAl : -2147483648 ≤ x := by omega
    by_cases hB : 2147483647 < x
    · have hBb : decide (2147483647 < x) = true := by simpa using hB
      clear hA hB
      go_enter Try.func12, Try.ntmps12
      go_wp2
      go_ret
      exact ⟨rfl, Below.refl _ _⟩
    · have hBb : decide (2147483647 < x) = false := by simpa using hB
      have hBn : (2147483647 < x) = False := by simpa using hB
      have hBl : x ≤ 2147483647 := by omega
      have HXR := hide (show I32 x from ⟨hAl, hBl⟩)
      have hwx : IntKind.i32.wrap x = x := by rw [IntKind.wrap_i32]; omega
      clear hA hB
      by_cases hC : x < 2
      · have hCb : decide (x < 2) = true := by simpa using hC
        have HCK := hide (show chkP [x] = 1 by unfold chkP; rw [if_pos hC])
        have HVL := hide (show validP x = false by unfold validP; simp; omega)
        clear hC
        go_enter Try.func12, Try.ntmps12
        go_upto_region 5 with fail
        have HCL := hide (show CL (w.alloc (.cells #[.int .i32 x] 58)) (some ⟨w.heap.size, 0, none⟩) [x] from cl_new w [x])
        have HBL := hide (be1 w (.cells #[.int .i32 x] 58))
        have HGX := hide (show w.heap.size < (w.alloc (.cells #[.int .i32 x] 58)).heap.size by simp)
        generalize w.alloc (.cells #[.int .i32 x] 58) = w1 at *
        obtain ⟨gx, hgx⟩ : ∃ gx, w.heap.size = gx := ⟨_, rfl⟩
        have HGE := hide hgx
        replace HGX := hide (show gx < w1.heap.size from by have := HGX.out; omega)
        rw [hgx] at HCL ⊢
        clear hgx
        go_wp2_with fail
        refine (newFormula_any w1).mono ?_
        rintro e w2 ⟨b, rfl, hff, hb1, bl2⟩
        have HFF := hide hff
        have HB1 := hide (show w1.heap.size ≤ b ∧ b < w2.heap.size from ⟨hb1, hff.ar.lt⟩)
        replace HBL := hide (lec HBL.out bl2)
        replace HCL := hide (HCL.out.below bl2)
        have HS2 := hide bl2.size
        clear hff hb1 bl2
        go_wp2_with fail
        refine (newProof_any w2).mono ?_
        rintro e w3 ⟨pb, rfl, hpf, hb2, bl3⟩
        have HPF := hide hpf
        have HB2 := hide (show w2.heap.size ≤ pb ∧ pb < w3.heap.size from ⟨hb2, hpf.ar.lt⟩)
        replace HBL := hide (lec HBL.out bl3)
        replace HCL := hide (HCL.out.below bl3)
        replace HFF := hide (HFF.out.below bl3)
        have HS3 := hide bl3.size
        clear hpf hb2 bl3
        go_wp2_with fail
        refine (newAssignment_any w3).mono ?_
        rintro e w4 ⟨ab, ag, rfl, has, hb3, hb4, bl4⟩
        have HAS := hide has
        have HB3 := hide (show w3.heap.size ≤ ab ∧ w3.heap.size ≤ ag from ⟨hb3, hb4⟩)
        replace HBL := hide (lec HBL.out bl4)
        replace HCL := hide (HCL.out.below bl4)
        replace HFF := hide (HFF.out.below bl4)
        replace HPF := hide (HPF.out.below bl4)
        have HS4 := hide bl4.size
        clear has hb3 hb4 bl4
        go_wp2_with fail
        refine (fAdd_any w4 w1.heap.size b _ _ 0 [] [] gx 0 1 [x] HFF.out (by have := HS2.out; have := HS3.out; have := HS4.out; omega) (by simp) (by simp) HCL.out (fun y hy => by rw [List.mem_singleton.1 hy]; exact HXR.out) (by simp) (by have := HB1.out; have := HGX.out; omega)).mono ?_
        rintro e w5 had
        rcases had with ⟨-, rfl, hw⟩ | ⟨z, -⟩
        · rw [hw, HCK.out]
          clear hw w5
          go_wp2_with fail
          refine (pfAdd_any w4 w2.heap.size pb _ _ _ [] [] [] gx 0 1 [x] HPF.out (by have := HS3.out; have := HS4.out; omega) (by simp) (by simp) (by simp) HCL.out (fun y hy => by rw [List.mem_singleton.1 hy]; exact HXR.out) (by simp)).mono ?_
          rintro e w5 had
          rcases had with ⟨-, rfl, hw⟩ | ⟨z, -⟩
          · rw [hw, HCK.out]
            clear hw w5
            have cS := asSetBad_any w4 ab x HXR.out HVL.out
            have cV := valid_any w4 x HXR.out
            rw [HVL.out] at cV
            have cC := check_any w4 (some ⟨gx, 0, none⟩) 1 [x] HCL.out (fun y hy => by rw [List.mem_singleton.1 hy]; exact HXR.out) (by simp)
            rw [HCK.out] at cC
            go_wp2_with fail
            refine (cS).mono ?_
            rintro e w' ⟨rfl, hw⟩
            rw [hw]
            clear hw w'
            go_wp2_with fail
            refine (cV).mono ?_
            rintro e w' ⟨rfl, hw⟩
            rw [hw]
            clear hw w'
            go_wp2_with fail
            refine (show Calls Try.prog 51 #[.slice (some ⟨gx, 0, none⟩) 1 1] w4 _ from cC).mono ?_
            rintro e w' ⟨rfl, hw⟩
            rw [hw]
            clear hw w' cS cV cC
            go_wp2_with fail
            refine (numClauses_any w4 _ b _ _ [] [] HFF.out.ar).mono ?_
            rintro e w' ⟨rfl, hw⟩
            rw [hw]
            clear hw w'
            go_wp2_with fail
            refine (numVars_any w4 _ b _ _ 0 [] [] HFF.out).mono ?_
            rintro e w' ⟨rfl, hw⟩
            rw [hw]
            clear hw w'
            go_wp2_with fail
            refine (numSteps_any w4 _ pb _ _ [] [] HPF.out.ar).mono ?_
            rintro e w' ⟨rfl, hw⟩
            rw [hw]
            clear hw w'
            go_wp2_with fail
            refine (assigned_any w4 ab ag 1 0 _ HAS.out).mono ?_
            rintro e w' ⟨rfl, hw⟩
            rw [hw]
            clear hw w'
            go_wp2
            go_ret
            exact ⟨rfl, HBL.out⟩
          · exact absurd z (by rw [HCK.out]; decide)
        · exact absurd z (by rw [HCK.out]; decide)
      · have hCb : decide (x < 2) = false := by simpa using hC
        have hCn : (x < 2) = False := by simpa using hC
        have hCl : 2 ≤ x := by omega
        by_cases hD : 33554431 < x
        · have hDb : decide (33554431 < x) = true := by simpa using hD
          have HVL := hide (show validP x = false by unfold validP; simp; omega)
          have HCK := hide (show chkP [x] = 2 by unfold chkP; rw [if_neg hC, if_neg (by rw [HVL.out]; decide)])
          clear hC hD
          go_enter Try.func12, Try.ntmps12
          go_upto_region 5 with fail
          have HCL := hide (show CL (w.alloc (.cells #[.int .i32 x] 58)) (some ⟨w.heap.size, 0, none⟩) [x] from cl_new w [x])
          have HBL := hide (be1 w (.cells #[.int .i32 x] 58))
          have HGX := hide (show w.heap.size < (w.alloc (.cells #[.int .i32 x] 58)).heap.size by simp)
          generalize w.alloc (.cells #[.int .i32 x] 58) = w1 at *
          obtain ⟨gx, hgx⟩ : ∃ gx, w.heap.size = gx := ⟨_, rfl⟩
          have HGE := hide hgx
          replace HGX := hide (show gx < w1.heap.size from by have := HGX.out; omega)
          rw [hgx] at HCL ⊢
          clear hgx
          go_wp2_with fail
          refine (newFormula_any w1).mono ?_
          rintro e w2 ⟨b, rfl, hff, hb1, bl2⟩
          have HFF := hide hff
          have HB1 := hide (show w1.heap.size ≤ b ∧ b < w2.heap.size from ⟨hb1, hff.ar.lt⟩)
          replace HBL := hide (lec HBL.out bl2)
          replace HCL := hide (HCL.out.below bl2)
          have HS2 := hide bl2.size
          clear hff hb1 bl2
          go_wp2_with fail
          refine (newProof_any w2).mono ?_
          rintro e w3 ⟨pb, rfl, hpf, hb2, bl3⟩
          have HPF := hide hpf
          have HB2 := hide (show w2.heap.size ≤ pb ∧ pb < w3.heap.size from ⟨hb2, hpf.ar.lt⟩)
          replace HBL := hide (lec HBL.out bl3)
          replace HCL := hide (HCL.out.below bl3)
          replace HFF := hide (HFF.out.below bl3)
          have HS3 := hide bl3.size
          clear hpf hb2 bl3
          go_wp2_with fail
          refine (newAssignment_any w3).mono ?_
          rintro e w4 ⟨ab, ag, rfl, has, hb3, hb4, bl4⟩
          have HAS := hide has
          have HB3 := hide (show w3.heap.size ≤ ab ∧ w3.heap.size ≤ ag from ⟨hb3, hb4⟩)
          replace HBL := hide (lec HBL.out bl4)
          replace HCL := hide (HCL.out.below bl4)
          replace HFF := hide (HFF.out.below bl4)
          replace HPF := hide (HPF.out.below bl4)
          have HS4 := hide bl4.size
          clear has hb3 hb4 bl4
          go_wp2_with fail
          refine (fAdd_any w4 w1.heap.size b _ _ 0 [] [] gx 0 1 [x] HFF.out (by have := HS2.out; have := HS3.out; have := HS4.out; omega) (by simp) (by simp) HCL.out (fun y hy => by rw [List.mem_singleton.1 hy]; exact HXR.out) (by simp) (by have := HB1.out; have := HGX.out; omega)).mono ?_
          rintro e w5 had
          rcases had with ⟨-, rfl, hw⟩ | ⟨z, -⟩
          · rw [hw, HCK.out]
            clear hw w5
            go_wp2_with fail
            refine (pfAdd_any w4 w2.heap.size pb _ _ _ [] [] [] gx 0 1 [x] HPF.out (by have := HS3.out; have := HS4.out; omega) (by simp) (by simp) (by simp) HCL.out (fun y hy => by rw [List.mem_singleton.1 hy]; exact HXR.out) (by simp)).mono ?_
            rintro e w5 had
            rcases had with ⟨-, rfl, hw⟩ | ⟨z, -⟩
            · rw [hw, HCK.out]
              clear hw w5
              have cS := asSetBad_any w4 ab x HXR.out HVL.out
              have cV := valid_any w4 x HXR.out
              rw [HVL.out] at cV
              have cC := check_any w4 (some ⟨gx, 0, none⟩) 1 [x] HCL.out (fun y hy => by rw [List.mem_singleton.1 hy]; exact HXR.out) (by simp)
              rw [HCK.out] at cC
              go_wp2_with fail
              refine (cS).mono ?_
              rintro e w' ⟨rfl, hw⟩
              rw [hw]
              clear hw w'
              go_wp2_with fail
              refine (cV).mono ?_
              rintro e w' ⟨rfl, hw⟩
              rw [hw]
              clear hw w'
              go_wp2_with fail
              refine (show Calls Try.prog 51 #[.slice (some ⟨gx, 0, none⟩) 1 1] w4 _ from cC).mono ?_
              rintro e w' ⟨rfl, hw⟩
              rw [hw]
              clear hw w' cS cV cC
              go_wp2_with fail
              refine (numClauses_any w4 _ b _ _ [] [] HFF.out.ar).mono ?_
              rintro e w' ⟨rfl, hw⟩
              rw [hw]
              clear hw w'
              go_wp2_with fail
              refine (numVars_any w4 _ b _ _ 0 [] [] HFF.out).mono ?_
              rintro e w' ⟨rfl, hw⟩
              rw [hw]
              clear hw w'
              go_wp2_with fail
              refine (numSteps_any w4 _ pb _ _ [] [] HPF.out.ar).mono ?_
              rintro e w' ⟨rfl, hw⟩
              rw [hw]
              clear hw w'
              go_wp2_with fail
              refine (assigned_any w4 ab ag 1 0 _ HAS.out).mono ?_
              rintro e w' ⟨rfl, hw⟩
              rw [hw]
              clear hw w'
              go_wp2
              go_ret
              exact ⟨rfl, HBL.out⟩
            · exact absurd z (by rw [HCK.out]; decide)
          · exact absurd z (by rw [HCK.out]; decide)
        · have hDb : decide (33554431 < x) = false := by simpa using hD
          have hDn : (33554431 < x) = False := by simpa using hD
          have hDl : x ≤ 33554431 := by omega
          have HLO := hide (show LitOk x from ⟨hCl, hDl⟩)
          have HCK := hide (chkP_lit (C := [x]) (fun y hy => by rw [List.mem_singleton.1 hy]; exact HLO.out))
          clear hC hD
          have HVL := hide (show validP x = true by unfold validP; simp; omega)
          have HPX := hide (show 0 ≤ x ∧ x ≤ 2147483647 by omega)
          have HPN := hide (show 0 ≤ x ∧ x ≤ 2147483646 by omega)
          have HFD := hide (from_dim HLO.out)
          obtain ⟨q, hq⟩ : ∃ q, x / 2 = q := ⟨_, rfl⟩
          have HQ := hide hq
          have HQR := hide (show (-100000000 ≤ q ∧ q ≤ 100000000) ∧ (-100000000 ≤ q - 1 ∧ q - 1 ≤ 100000000) by omega)
          obtain ⟨v, hv⟩ : ∃ v : Nat, q = v := ⟨q.toNat, by omega⟩
          have HV := hide (show x / 2 = (v : Int) from hq.trans hv)
          have HV1 := hide (show v ≤ 16777215 by omega)
          obtain ⟨t1, ht1⟩ : ∃ t, 2 * q + 2 = t := ⟨_, rfl⟩
          have HT1 := hide ht1
          obtain ⟨t2, ht2⟩ : ∃ t, 2 * (q - 1) + 2 = t := ⟨_, rfl⟩
          have HT2 := hide ht2
          obtain ⟨nx, hnx⟩ : ∃ n, notP x = n := ⟨_, rfl⟩
          have HNX := hide hnx
          have HNV := hide (show nx / 2 = (v : Int) ∧ LitOk nx ∧ (x % 2 = 0 ∧ nx % 2 = 1 ∨ x % 2 = 1 ∧ nx % 2 = 0) by
            have h3 := HLO.out
            have h4 := HV.out
            unfold notP at hnx
            unfold LitOk at h3 ⊢
            split at hnx <;> omega)
          have e1 : decide (x < 33554432) = true := by simp; omega
          have e2 : decide (x < t1) = true := by simp; omega
          have e3 : decide (t2 ≤ x) = true := by simp; omega
          have k1 : IntKind.i64.wrap q = q := by rw [IntKind.wrap_i64]; omega
          have k2 : IntKind.i64.wrap (q - 1) = q - 1 := by rw [IntKind.wrap_i64]; omega
          clear hq hv ht1 ht2 hnx
          go_enter Try.func12, Try.ntmps12
          go_upto_region 5 with fail
          have HCL := hide (show CL (w.alloc (.cells #[.int .i32 x] 58)) (some ⟨w.heap.size, 0, none⟩) [x] from cl_new w [x])
          have HBL := hide (be1 w (.cells #[.int .i32 x] 58))
          have HGX := hide (show w.heap.size < (w.alloc (.cells #[.int .i32 x] 58)).heap.size by simp)
          generalize w.alloc (.cells #[.int .i32 x] 58) = w1 at *
          obtain ⟨gx, hgx⟩ : ∃ gx, w.heap.size = gx := ⟨_, rfl⟩
          have HGE := hide hgx
          replace HGX := hide (show gx < w1.heap.size from by have := HGX.out; omega)
          rw [hgx] at HCL ⊢
          clear hgx
          go_wp2_with fail
          refine (newFormula_any w1).mono ?_
          rintro e w2 ⟨b, rfl, hff, hb1, bl2⟩
          have HFF := hide hff
          have HB1 := hide (show w1.heap.size ≤ b ∧ b < w2.heap.size from ⟨hb1, hff.ar.lt⟩)
          replace HBL := hide (lec HBL.out bl2)
          replace HCL := hide (HCL.out.below bl2)
          have HS2 := hide bl2.size
          clear hff hb1 bl2
          go_wp2_with fail
          refine (newProof_any w2).mono ?_
          rintro e w3 ⟨pb, rfl, hpf, hb2, bl3⟩
          have HPF := hide hpf
          have HB2 := hide (show w2.heap.size ≤ pb ∧ pb < w3.heap.size from ⟨hb2, hpf.ar.lt⟩)
          replace HBL := hide (lec HBL.out bl3)
          replace HCL := hide (HCL.out.below bl3)
          replace HFF := hide (HFF.out.below bl3)
          have HS3 := hide bl3.size
          clear hpf hb2 bl3
          go_wp2_with fail
          refine (newAssignment_any w3).mono ?_
          rintro e w4 ⟨ab, ag, rfl, has, hb3, hb4, bl4⟩
          have HAS := hide has
          have HB3 := hide (show w3.heap.size ≤ ab ∧ w3.heap.size ≤ ag from ⟨hb3, hb4⟩)
          replace HBL := hide (lec HBL.out bl4)
          replace HCL := hide (HCL.out.below bl4)
          replace HFF := hide (HFF.out.below bl4)
          replace HPF := hide (HPF.out.below bl4)
          have HS4 := hide bl4.size
          clear has hb3 hb4 bl4
          go_wp2_with fail
          refine (fAdd_any w4 w1.heap.size b _ _ 0 [] [] gx 0 1 [x] HFF.out (by have := HS2.out; have := HS3.out; have := HS4.out; omega) (by simp) (by simp) HCL.out (fun y hy => by rw [List.mem_singleton.1 hy]; exact HXR.out) (by simp) (by have := HB1.out; have := HGX.out; omega)).mono ?_
          rintro e w5 had
          rcases had with ⟨z, -, -⟩ | ⟨-, rfl, ex5, va5, ve5, -, -, -⟩
          · exact absurd HCK.out z
          · have EX5 : Ex (fun k => k = b) w4 w5 := ex5.mono (fun k z => by rcases z with z | z | z; exact z; cases z; cases z)
            have HSZ := hide (show gx < b ∧ b < w2.heap.size ∧ w2.heap.size ≤ pb ∧ pb < w3.heap.size ∧ w3.heap.size ≤ ab ∧ w3.heap.size ≤ ag ∧ w2.heap.size ≤ w5.heap.size ∧ w.heap.size = gx from ⟨by have := HB1.out; have := HGX.out; omega, HB1.out.2, HB2.out.1, HB2.out.2, HB3.out.1, HB3.out.2, by have := EX5.size; have := HS3.out; have := HS4.out; omega, HGE.out⟩)
            replace HPF := hide (HPF.out.keep EX5 (by have := HSZ.out; omega) (fun j hj => by have := HSZ.out; omega))
            replace HAS := hide (HAS.out.keep EX5 (by have := HSZ.out; omega) (by have := HSZ.out; omega))
            replace HCL := hide (cl_keep HCL.out EX5 (by have := HSZ.out; omega))
            replace HBL := hide (HBL.out.trans (EX5.below HBL.out.size (fun k hk => by have := HSZ.out; omega)))
            clear ex5 EX5
            go_wp2_with fail
            refine (pfAdd_any w5 w2.heap.size pb _ _ _ [] [] [] gx 0 1 [x] HPF.out HSZ.out.2.2.2.2.2.2.1 (by simp) (by simp) (by simp) HCL.out (fun y hy => by rw [List.mem_singleton.1 hy]; exact HXR.out) (by simp)).mono ?_
            rintro e w6 had
            rcases had with ⟨z, -, -⟩ | ⟨-, rfl, ex6, -⟩
            · exact absurd HCK.out z
            · have EX6 : Ex (fun k => k = pb) w5 w6 := ex6.mono (fun k z => by rcases z with z | z | z | z; exact z; cases z; cases z; cases z)
              replace HAS := hide (HAS.out.keep EX6 (by have := HSZ.out; omega) (by have := HSZ.out; omega))
              replace HCL := hide (cl_keep HCL.out EX6 (by have := HSZ.out; omega))
              replace HBL := hide (HBL.out.trans (EX6.below HBL.out.size (fun k hk => by have := HSZ.out; omega)))
              clear ex6 EX6
              go_wp2_with fail
              refine (asSet_any w6 ab ag 0 x v HAS.out HV.out HLO.out (by simp)).mono ?_
              rintro e w7 ⟨rfl, g7, has7, hg7, EX7⟩
              replace HCL := hide (cl_keep HCL.out EX7 (by have := HSZ.out; omega))
              replace HBL := hide (HBL.out.trans (EX7.below HBL.out.size (fun k hk => by have := HSZ.out; omega)))
              have HA7 := hide (show AS w7 ab g7 (szP v) 1 (fun i => if i = v then (if x % 2 = 0 then 1 else -1) else 0) from has7)
              clear has7 hg7 EX7
              have cV := valid_any w7 x HXR.out
              rw [HVL.out] at cV
              have cC := check_any w7 (some ⟨gx, 0, none⟩) 1 [x] HCL.out (fun y hy => by rw [List.mem_singleton.1 hy]; exact HXR.out) (by simp)
              rw [HCK.out] at cC
              have cF := fromDimacs_any w7 (dimP x)
              rw [HFD.out] at cF
              have cT1 := tableSize_any w7 16777215 (by omega)
              rw [show (2 * 16777215 + 2 : Int) = 33554432 from rfl] at cT1
              have cLV := litVar_any w7 x HPX.out
              rw [HQ.out] at cLV
              have cT2 := tableSize_any w7 q HQR.out.1
              rw [HT1.out] at cT2
              have cT3 := tableSize_any w7 (q - 1) HQR.out.2
              rw [HT2.out] at cT3
              have cL1 : Calls Try.prog 55 #[.pointer (some ⟨ab, 0, none⟩), .int .i32 x] w7 fun e w' => e = .returned (.int .i8 1) ∧ w' = w7 := (asLit_any w7 ab g7 (szP v) 1 _ x v HA7.out HV.out HLO.out (szP_lt v) (szP_le HV1.out) (by rw [if_pos rfl]; split <;> omega)).mono (fun e w' z => by rw [if_pos rfl] at z; refine ⟨z.1.trans ?_, z.2⟩; by_cases h2 : x % 2 = 0 <;> simp [h2])
              have cN := not_any w7 x HPN.out
              rw [HNX.out] at cN
              have cL2 : Calls Try.prog 55 #[.pointer (some ⟨ab, 0, none⟩), .int .i32 nx] w7 fun e w' => e = .returned (.int .i8 (-1)) ∧ w' = w7 := (asLit_any w7 ab g7 (szP v) 1 _ nx v HA7.out HNV.out.1 HNV.out.2.1 (szP_lt v) (szP_le HV1.out) (by rw [if_pos rfl]; split <;> omega)).mono (fun e w' z => by rw [if_pos rfl] at z; refine ⟨z.1.trans ?_, z.2⟩; rcases HNV.out.2.2 with h2 | h2 <;> simp [h2])
              go_wp2_with fail
              refine (cV).mono ?_
              rintro e w' ⟨rfl, hw⟩
              rw [hw]
              clear hw w'
              go_wp2_with fail
              refine (show Calls Try.prog 51 #[.slice (some ⟨gx, 0, none⟩) 1 1] w7 _ from cC).mono ?_
              rintro e w' ⟨rfl, hw⟩
              rw [hw]
              clear hw w' cV cC
              go_wp2_with fail
              refine (dimacs_any w7 x HPX.out).mono ?_
              rintro e w' ⟨rfl, hw⟩
              rw [hw]
              clear hw w'
              go_wp2_with fail
              refine (cF).mono ?_
              rintro e w' ⟨rfl, hw⟩
              rw [hw]
              clear hw w'
              go_wp2_with fail
              refine (index_any w7 x HXR.out).mono ?_
              rintro e w' ⟨rfl, hw⟩
              rw [hw]
              clear hw w'
              go_wp2_with fail
              refine (index_any w7 x HXR.out).mono ?_
              rintro e w' ⟨rfl, hw⟩
              rw [hw]
              clear hw w'
              go_wp2_with fail
              refine (cT1).mono ?_
              rintro e w' ⟨rfl, hw⟩
              rw [hw]
              clear hw w'
              go_wp2_with fail
              refine (index_any w7 x HXR.out).mono ?_
              rintro e w' ⟨rfl, hw⟩
              rw [hw]
              clear hw w'
              go_wp2_with fail
              refine (cLV).mono ?_
              rintro e w' ⟨rfl, hw⟩
              rw [hw]
              clear hw w'
              go_wp2_with fail
              refine (cT2).mono ?_
              rintro e w' ⟨rfl, hw⟩
              rw [hw]
              clear hw w'
              go_wp2_with fail
              refine (index_any w7 x HXR.out).mono ?_
              rintro e w' ⟨rfl, hw⟩
              rw [hw]
              clear hw w'
              go_wp2_with fail
              refine (cLV).mono ?_
              rintro e w' ⟨rfl, hw⟩
              rw [hw]
              clear hw w'
              go_wp2_with fail
              refine (cT3).mono ?_
              rintro e w' ⟨rfl, hw⟩
              rw [hw]
              clear hw w'
              go_wp2_with fail
              refine (cL1).mono ?_
              rintro e w' ⟨rfl, hw⟩
              rw [hw]
              clear hw w'
              go_wp2_with fail
              refine (cN).mono ?_
              rintro e w' ⟨rfl, hw⟩
              rw [hw]
              clear hw w'
              go_wp2_with fail
              refine (cL2).mono ?_
              rintro e w' ⟨rfl, hw⟩
              rw [hw]
              clear hw w'
              go_wp2_with fail
              refine (negate_any w7 1 (by omega)).mono ?_
              rintro e w' ⟨rfl, hw⟩
              rw [hw]
              clear hw w'
              go_wp2_with fail
              refine (assigned_any w7 ab g7 _ 1 _ HA7.out).mono ?_
              rintro e w' ⟨rfl, hw⟩
              rw [hw]
              clear hw w'
              go_wp2
              go_ret
              exact ⟨rfl, HBL.out⟩
end Go.Proofs.Qxb6500773a
