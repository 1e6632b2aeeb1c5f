import Derived.Test.Qxb6500773aLo9
import Derived.Test.Qxb6500773aLo5
import Derived.Test.Qxb6500773aFp2
namespace Go.Proofs.Qxb6500773a
open Go.RowKit

theorem decI_num (d : Int) : decI d = numL (decide (d < 0)) (lowD d.natAbs).reverse := by
  unfold decI numL
  by_cases h : d < 0
  · rw [if_pos h, if_pos (by simpa using h)]
  · rw [if_neg h, if_neg (by simpa using h)]
theorem low_dig (n : Nat) : ∀ x ∈ (lowD n).reverse, 48 ≤ x ∧ x ≤ 57 := fun x hx => lowD_dig n x (List.mem_reverse.1 hx)
theorem low_ne (n : Nat) : (lowD n).reverse ≠ [] := fun z => by
  have := congrArg List.length z
  rw [List.length_reverse] at this
  have h2 := lowD_len n
  simp at this
  rw [this] at h2
  simp at h2
theorem lit_dec {d : Int} (hd : d ≠ 0) : litP (numV (decide (d < 0)) (lowD d.natAbs).reverse) = fromP d := by
  unfold numV
  rw [digV_low]
  by_cases hb : 16777215 < d ∨ d < -16777215
  · rw [if_pos (by omega)]
    unfold fromP
    rw [if_neg hd, if_pos hb]
    rfl
  · rw [if_neg (by omega)]
    by_cases hn : d < 0
    · rw [if_pos (by simpa using hn), if_neg (by omega), show -((d.natAbs : Nat) : Int) = d by omega]
      unfold litP
      rw [if_neg (show ¬ (2 : Int) = 0 by decide), if_neg (show ¬ (2 : Int) = 1 by decide), if_neg hd]
    · rw [if_neg (by simpa using hn), show ((d.natAbs : Nat) : Int) = d by omega]
      unfold litP
      rw [if_neg (show ¬ (2 : Int) = 0 by decide), if_neg (show ¬ (2 : Int) = 1 by decide), if_neg hd]
theorem nc_two (d : Int) : ncE [1, d] = (fromP d).2 := by
  unfold ncE
  rw [if_pos (by decide)]
  unfold ncE
  split
  · next h => rw [h]; rfl
  · rfl
theorem from_big {d : Int} (h0 : d ≠ 0) (h : 16777215 < d ∨ d < -16777215) : fromP d = (0, 2) := by unfold fromP; rw [if_neg h0, if_pos h]
theorem from_ok {d : Int} (h0 : d ≠ 0) (h : ¬ (16777215 < d ∨ d < -16777215)) : fromP d = (packP d, 0) ∧ LitOk (packP d) ∧ dimP (packP d) = d ∧ dimP (notP (packP d)) = -d ∧ packP d ≠ 0 ∧ (0 ≤ notP (packP d) ∧ notP (packP d) ≤ 2147483647) ∧ validP (packP d) = true := by
  refine ⟨by unfold fromP; rw [if_neg h0, if_neg h], ?_⟩
  by_cases hn : d < 0
  · have hp : packP d = 2 * -d + 1 := by unfold packP; rw [if_pos hn]
    have hnt : notP (2 * -d + 1) = 2 * -d := by unfold notP; rw [if_neg (by omega)]; omega
    rw [hp, hnt]
    unfold LitOk dimP validP
    refine ⟨by omega, by rw [if_neg (by omega)]; omega, by rw [if_pos (by omega)]; omega, by omega, by omega, by simp; omega⟩
  · have hp : packP d = 2 * d := by unfold packP; rw [if_neg hn]
    have hnt : notP (2 * d) = 2 * d + 1 := by unfold notP; rw [if_pos (by omega)]
    rw [hp, hnt]
    unfold LitOk dimP validP
    refine ⟨by omega, by rw [if_pos (by omega)]; omega, by rw [if_neg (by omega)]; omega, by omega, by omega, by simp; omega⟩
theorem eok_two {p : Int} : EOk [2, p] [2] := ⟨fun i j x y hij hx hy => by
  match i, j, hx, hy with
  | 0, 0, hx, hy => cases hx; cases hy; exact Int.le_refl _, fun x hx => by simp at hx; subst hx; exact ⟨by decide, by show (2 : Int) ≤ 2; decide⟩⟩
theorem eok_one {p : Int} : EOk [p] [1] := ⟨fun i j x y hij hx hy => by
  match i, j, hx, hy with
  | 0, 0, hx, hy => cases hx; cases hy; exact Int.le_refl _, fun x hx => by simp at hx; subst hx; exact ⟨by decide, by show (1 : Int) ≤ 1; decide⟩⟩
/-- Numbers of a new block. -/
theorem il_new (w : World) (X : List Int) : IL (w.alloc (.cells (X.map (Value.int .i64)).toArray 3)) (some ⟨w.heap.size, 0, none⟩) X := fun j x hx => ⟨w.heap.size, 0, rfl, by
  have := new_cells w (X.map (Value.int .i64)) 3 j (.int .i64 x) (by rw [List.getElem?_map, hx]; rfl)
  rw [Addr.add_mid] at this
  exact this⟩
/-- A fault in memory. -/
structure C3 (w : World) (x : Nat) (a b c : Int) : Prop where
  c0 : w.cell? ⟨x, 0, none⟩ = some (.int .i64 a)
  c1 : w.cell? ⟨x, 1, none⟩ = some (.int .i64 b)
  c2 : w.cell? ⟨x, 2, none⟩ = some (.int .i64 c)
theorem C3.below {w w' : World} {x : Nat} {a b c : Int} (h : C3 w x a b c) (k : Below w.heap.size w w') : C3 w' x a b c := ⟨cellKeep k h.c0, cellKeep k h.c1, cellKeep k h.c2⟩
theorem c3_new {w : World} {x y z : Int} : C3 (w.alloc (.cells #[.int .i64 x, .int .i64 y, .int .i64 z] 32)) w.heap.size x y z := ⟨cells3.1, cells3.2.1, cells3.2.2⟩
theorem fromP_nz {d : Int} (h : (fromP d).2 = 0) : (fromP d).1 ≠ 0 := by
  have := (fromP_ok h).1
  unfold LitOk at this
  omega
theorem dim_num {w w' : World} {T : Nat → Int} {n : Nat} {e : Ending} {d : Int} (hd0 : d ≠ 0) (hp : FdPost w T n e w') (hn : n = (hdT 16777215 1 ++ (decI d ++ [32, 48, 10])).length) (h : Lies T n 0 (hdT 16777215 1 ++ (decI d ++ [32, 48, 10]))) :
    Below w.heap.size w w' ∧ ((fromP d).2 ≠ 0 ∧ e = .returned (.tuple #[.pointer none, faV (fromP d).2 2 1]) ∨ (fromP d).2 = 0 ∧ ∃ b va ve, e = .returned (.tuple #[.pointer (some ⟨b, 0, none⟩), faV 0 0 0]) ∧ w.heap.size ≤ b ∧ FF w' w.heap.size b va ve 16777215 [(fromP d).1] [1]) := by
  rw [decI_num d] at hn h
  obtain ⟨b, hc⟩ := dimacs_one hp hn h (low_ne _) (low_dig _)
  rw [lit_dec hd0] at hc
  refine ⟨b, hc.imp id (fun z => ⟨z.1, ?_⟩)⟩
  rcases z.2 with ⟨y, -⟩ | ⟨-, y⟩
  · exact absurd y (fromP_nz z.1)
  · exact y
theorem drat_num {w w' : World} {T : Nat → Int} {n : Nat} {e : Ending} {d : Int} (hd0 : d ≠ 0) (hp : PdPost w T n e w') (hn : n = (decI d ++ [32, 48, 10]).length) (h : Lies T n 0 (decI d ++ [32, 48, 10])) :
    Below w.heap.size w w' ∧ ((fromP d).2 ≠ 0 ∧ e = .returned (.tuple #[.pointer none, faV (fromP d).2 1 1]) ∨ (fromP d).2 = 0 ∧ ∃ b va ve vd, e = .returned (.tuple #[.pointer (some ⟨b, 0, none⟩), faV 0 0 0]) ∧ w.heap.size ≤ b ∧ PF w' w.heap.size b va ve vd [(fromP d).1] [1] [false]) := by
  rw [decI_num d] at hn h
  obtain ⟨b, hc⟩ := drat_one hp hn h (low_ne _) (low_dig _)
  rw [lit_dec hd0] at hc
  refine ⟨b, hc.imp id (fun z => ⟨z.1, ?_⟩)⟩
  obtain ⟨b2, va, ve, vd, he, hb, hpf⟩ := z.2
  exact ⟨b2, va, ve, vd, he, hb, hpf (fromP_nz z.1)⟩
theorem decI_l64 {d : Int} (hd : -9223372036854775808 ≤ d ∧ d < 9223372036854775808) : 0 < (decI d).length ∧ (decI d).length ≤ 100 := by
  refine ⟨decI_len_pos d, ?_⟩
  unfold decI
  have := lowD_le 19 d.natAbs (by omega)
  rw [List.length_append, List.length_reverse]
  split <;> simp <;> omega
theorem num_byte (d : Int) : ∀ x ∈ decI d ++ [32, 48, 10], 0 ≤ x ∧ x < 256 := by rw [decI_num d]; exact txt_byte (low_dig _)
set_option linter.unusedSimpArgs false in
set_option maxRecDepth 100000 in
set_option maxHeartbeats 8000000 in
/-- cnflaw.numberIsJudged -/
theorem number1_any (w : World) (d : Int) (hd : -9223372036854775808 ≤ d ∧ d < 9223372036854775808) :
    Calls Try.prog 11 #[.int .i64 d] w (SaPost w true) := by
  have HDR := hide hd
  have HNC := hide (nc_two d)
  clear hd
  by_cases hd0 : d = 0
  · subst hd0
    have HFP := hide (show fromP 0 = (0, 1) from rfl)
    go_enter Try.func11, Try.ntmps11
    go_wp2_with fail
    refine (fromDimacs_any w 0).mono ?_
    rintro e w' ⟨rfl, hw⟩
    rw [hw, HFP.out]
    clear hw w'
    go_wp2_with fail
    refine (newFormula_any w).mono ?_
    rintro e w2 ⟨b, rfl, hff, hbl, bl2⟩
    have HFF := hide hff
    have HBL2 := hide bl2
    clear hff bl2
    go_wp2_with fail
    have HIL := hide (show IL (w2.alloc (.cells #[.int .i64 1, .int .i64 0] 3)) (some ⟨w2.heap.size, 0, none⟩) [1, 0] from il_new w2 [1, 0])
    have HBL3 := hide (lec HBL2.out (be1 w2 (.cells #[.int .i64 1, .int .i64 0] 3)))
    have HFF3 := hide (HFF.out.below (be1 w2 (.cells #[.int .i64 1, .int .i64 0] 3)))
    clear HFF HBL2
    generalize w2.alloc (.cells #[.int .i64 1, .int .i64 0] 3) = w3 at *
    generalize w2.heap.size = x2 at *
    refine (addDimacs_any w3 w.heap.size b _ _ 0 [] [] (some ⟨x2, 0, none⟩) 2 [1, 0] HFF3.out HBL3.out.size (by simp) (by simp) HIL.out (by simp)).mono ?_
    rintro e w4 hda
    unfold DaPost at hda
    rw [HNC.out, HFP.out] at hda
    rcases hda with ⟨-, rfl, bl4⟩ | ⟨z, -⟩
    · have HBL4 := hide (lec HBL3.out bl4)
      clear bl4
      go_wp2
      go_ret
      exact ⟨rfl, HBL4.out⟩
    · cases z
  · have hdb : (d == 0) = false := by simpa using hd0
    have HD0 := hide hd0
    clear hd0
    by_cases hA : 16777215 < d
    · have hAb : decide (16777215 < d) = true := by simpa using hA
      have HFP := hide (from_big HD0.out (.inl hA))
      clear hA
      go_enter Try.func11, Try.ntmps11
      go_upto_region 2 with fail
      go_wp2_with fail
      refine (fromDimacs_any w d).mono ?_
      rintro e w' ⟨rfl, hw⟩
      rw [hw, HFP.out]
      clear hw w'
      go_wp2_with fail
      refine (newFormula_any w).mono ?_
      rintro e w2 ⟨b, rfl, hff, hbl, bl2⟩
      have HFF := hide hff
      have HBL2 := hide bl2
      clear hff bl2
      go_wp2_with fail
      have HIL := hide (show IL (w2.alloc (.cells #[.int .i64 1, .int .i64 d] 3)) (some ⟨w2.heap.size, 0, none⟩) [1, d] from il_new w2 [1, d])
      have HBL3 := hide (lec HBL2.out (be1 w2 (.cells #[.int .i64 1, .int .i64 d] 3)))
      have HFF3 := hide (HFF.out.below (be1 w2 (.cells #[.int .i64 1, .int .i64 d] 3)))
      clear HFF HBL2
      generalize w2.alloc (.cells #[.int .i64 1, .int .i64 d] 3) = w3 at *
      generalize w2.heap.size = x2 at *
      refine (addDimacs_any w3 w.heap.size b _ _ 0 [] [] (some ⟨x2, 0, none⟩) 2 [1, d] HFF3.out HBL3.out.size (by simp) (by simp) HIL.out (by simp)).mono ?_
      rintro e w4 hda
      unfold DaPost at hda
      rw [HNC.out, HFP.out] at hda
      rcases hda with ⟨-, rfl, bl4⟩ | ⟨z, -⟩
      · have HBL := hide (lec HBL3.out bl4)
        have HFF := hide (HFF3.out.below bl4)
        clear bl4 HIL HBL3 HFF3
        go_wp2_with fail
        refine (appendDecimal_any w4 w4.heap.size (.slice none 0 0) [] d (World.ownsRow_nil _ _ _ _) (Nat.le_refl _) (by decide) ⟨HDR.out.1, by have := HDR.out.2; omega⟩).mono ?_
        rintro e w5 ⟨v5, rfl, hb5⟩
        rw [List.nil_append] at hb5
        have HQL := hide (decI_l64 HDR.out)
        obtain ⟨gq, cq, rfl⟩ := own_some hb5.bb HQL.out.1
        have HQB := hide hb5.bb
        have hbl5 : Below w4.heap.size w4 w5 := hb5.ex.below (Nat.le_refl _) (fun k hk z => by cases z)
        replace HBL := hide (lec HBL.out hbl5)
        replace HFF := hide (HFF.out.below hbl5)
        have HTB := hide (num_byte d)
        clear hb5 hbl5
        obtain ⟨Q, hQ⟩ : ∃ Q, decI d = Q := ⟨_, rfl⟩
        have HQE := hide hQ
        rw [hQ] at HQL HQB HTB
        rw [hQ]
        clear hQ
        go_wp2_with fail
        refine (oneClauseText_any w5 _ gq cq Q HQB.out HQL.out.1 (by have := HQL.out.2; omega)).mono ?_
        rintro e w6 ⟨a6, c6, rfl, hb6, bl6⟩
        have HL6 := hide (show (hdT 16777215 1 ++ (Q ++ [32, 48, 10])).length ≤ 1000000 from by rw [List.length_append, List.length_append]; have := hdT_len; have := HQL.out.2; simp only [List.length_cons, List.length_nil]; omega)
        have HB6 := hide (bb_bt hb6 (fun x hx => by
          rcases List.mem_append.1 hx with e | e
          · exact hdT_byte _ _ x e
          · exact HTB.out x e))
        replace HBL := hide (lec HBL.out bl6)
        replace HFF := hide (HFF.out.below bl6)
        have HRD := hide (fun (w' : World) (e : Ending) (hp : FdPost w6 (fun i => (hdT 16777215 1 ++ (Q ++ [32, 48, 10])).getD i 0) (hdT 16777215 1 ++ (Q ++ [32, 48, 10])).length e w') => dim_num (d := d) HD0.out hp (by rw [HQE.out]) (by rw [HQE.out]; exact lies_of))
        clear hb6 bl6 HQB HQE HTB
        generalize hdT 16777215 1 ++ (Q ++ [32, 48, 10]) = TT at *
        go_wp2_with fail
        refine (parseDimacs_any _ a6 TT.length c6 (fun i => TT.getD i 0) HB6.out HL6.out).mono ?_
        rintro e w7 hp7
        obtain ⟨bl7, hc7⟩ := HRD.out w7 e hp7
        replace HBL := hide (lec HBL.out bl7)
        replace HFF := hide (HFF.out.below bl7)
        clear hp7 HRD HB6 HL6 HQL bl7
        rw [HFP.out] at hc7
        rcases hc7 with ⟨-, rfl⟩ | ⟨z, -⟩
        · skip
          unfold faV
          go_upto_region 8 with fail
          have HX := hide (c3_new (w := w7) (x := 2) (y := 2) (z := 1))
          replace HBL := hide (lec HBL.out (be1 w7 (.cells #[.int .i64 2, .int .i64 2, .int .i64 1] 32)))
          replace HFF := hide (HFF.out.below (be1 w7 (.cells #[.int .i64 2, .int .i64 2, .int .i64 1] 32)))
          generalize w7.alloc (.cells #[.int .i64 2, .int .i64 2, .int .i64 1] 32) = w8 at *
          generalize w7.heap.size = x7 at *
          go_wp2_with fail
          refine (appendDecimal_any w8 w8.heap.size (.slice none 0 0) [] d (World.ownsRow_nil _ _ _ _) (Nat.le_refl _) (by decide) ⟨HDR.out.1, by have := HDR.out.2; omega⟩).mono ?_
          rintro e w9 ⟨v9, rfl, hb9⟩
          rw [List.nil_append] at hb9
          have HQL := hide (decI_l64 HDR.out)
          obtain ⟨gq, cq, rfl⟩ := own_some hb9.bb HQL.out.1
          have HQB := hide hb9.bb
          have hbl9 : Below w8.heap.size w8 w9 := hb9.ex.below (Nat.le_refl _) (fun k hk z => by cases z)
          replace HBL := hide (lec HBL.out hbl9)
          replace HFF := hide (HFF.out.below hbl9)
          replace HX := hide (HX.out.below hbl9)
          have HTB := hide (num_byte d)
          clear hb9 hbl9
          obtain ⟨Q, hQ⟩ : ∃ Q, decI d = Q := ⟨_, rfl⟩
          have HQE := hide hQ
          rw [hQ] at HQL HQB HTB
          rw [hQ]
          clear hQ
          go_wp2_with fail
          refine (oneStepText_any w9 _ gq cq Q HQB.out HQL.out.1 (by have := HQL.out.2; omega)).mono ?_
          rintro e w10 ⟨a10, c10, rfl, hb10, bl10⟩
          have HL10 := hide (show (Q ++ [32, 48, 10]).length ≤ 1000000 from by rw [List.length_append]; have := HQL.out.2; simp only [List.length_cons, List.length_nil]; omega)
          have HB10 := hide (bb_bt hb10 HTB.out)
          replace HBL := hide (lec HBL.out bl10)
          replace HFF := hide (HFF.out.below bl10)
          replace HX := hide (HX.out.below bl10)
          have HRP := hide (fun (w' : World) (e : Ending) (hp : PdPost w10 (fun i => (Q ++ [32, 48, 10]).getD i 0) (Q ++ [32, 48, 10]).length e w') => drat_num (d := d) HD0.out hp (by rw [HQE.out]) (by rw [HQE.out]; exact lies_of))
          clear hb10 bl10 HQB HQE HTB
          generalize Q ++ [32, 48, 10] = TQ at *
          go_wp2_with fail
          refine (parseDrat_any _ a10 TQ.length c10 (fun i => TQ.getD i 0) HB10.out HL10.out).mono ?_
          rintro e w11 hp11
          obtain ⟨bl11, hc11⟩ := HRP.out w11 e hp11
          replace HBL := hide (lec HBL.out bl11)
          replace HFF := hide (HFF.out.below bl11)
          replace HX := hide (HX.out.below bl11)
          clear hp11 HRP HB10 HL10 bl11 HQL
          rw [HFP.out] at hc11
          rcases hc11 with ⟨-, rfl⟩ | ⟨z, -⟩
          · skip
            unfold faV
            go_upto_region 9 with fail
            have HY := hide (c3_new (w := w11) (x := 2) (y := 1) (z := 1))
            replace HBL := hide (lec HBL.out (be1 w11 (.cells #[.int .i64 2, .int .i64 1, .int .i64 1] 32)))
            replace HFF := hide (HFF.out.below (be1 w11 (.cells #[.int .i64 2, .int .i64 1, .int .i64 1] 32)))
            replace HX := hide (HX.out.below (be1 w11 (.cells #[.int .i64 2, .int .i64 1, .int .i64 1] 32)))
            generalize w11.alloc (.cells #[.int .i64 2, .int .i64 1, .int .i64 1] 32) = w12 at *
            generalize w11.heap.size = x11 at *
            have p0 := HX.out.c0
            have p1 := HX.out.c1
            have p2 := HX.out.c2
            have q0 := HY.out.c0
            have q1 := HY.out.c1
            have q2 := HY.out.c2
            go_wp2_with fail
            refine (numClauses_any w12 _ b _ _ [] [] HFF.out.ar).mono ?_
            rintro e w' ⟨rfl, hw⟩
            rw [hw]
            clear hw w'
            go_wp2_with fail
            refine (numVars_any w12 _ b _ _ 0 [] [] HFF.out).mono ?_
            rintro e w' ⟨rfl, hw⟩
            rw [hw]
            clear hw w'
            go_wp2
            go_ret
            exact ⟨rfl, HBL.out⟩
          · cases z
        · cases z
      · cases z
    · have hAb : decide (16777215 < d) = false := by simpa using hA
      have hAn : (16777215 < d) = False := by simpa using hA
      have hAl : d ≤ 16777215 := by omega
      by_cases hB : d < -16777215
      · have hBb : decide (d < -16777215) = true := by simpa using hB
        have HFP := hide (from_big HD0.out (.inr hB))
        clear hA hB
        go_enter Try.func11, Try.ntmps11
        go_upto_region 2 with fail
        go_wp2_with fail
        refine (fromDimacs_any w d).mono ?_
        rintro e w' ⟨rfl, hw⟩
        rw [hw, HFP.out]
        clear hw w'
        go_wp2_with fail
        refine (newFormula_any w).mono ?_
        rintro e w2 ⟨b, rfl, hff, hbl, bl2⟩
        have HFF := hide hff
        have HBL2 := hide bl2
        clear hff bl2
        go_wp2_with fail
        have HIL := hide (show IL (w2.alloc (.cells #[.int .i64 1, .int .i64 d] 3)) (some ⟨w2.heap.size, 0, none⟩) [1, d] from il_new w2 [1, d])
        have HBL3 := hide (lec HBL2.out (be1 w2 (.cells #[.int .i64 1, .int .i64 d] 3)))
        have HFF3 := hide (HFF.out.below (be1 w2 (.cells #[.int .i64 1, .int .i64 d] 3)))
        clear HFF HBL2
        generalize w2.alloc (.cells #[.int .i64 1, .int .i64 d] 3) = w3 at *
        generalize w2.heap.size = x2 at *
        refine (addDimacs_any w3 w.heap.size b _ _ 0 [] [] (some ⟨x2, 0, none⟩) 2 [1, d] HFF3.out HBL3.out.size (by simp) (by simp) HIL.out (by simp)).mono ?_
        rintro e w4 hda
        unfold DaPost at hda
        rw [HNC.out, HFP.out] at hda
        rcases hda with ⟨-, rfl, bl4⟩ | ⟨z, -⟩
        · have HBL := hide (lec HBL3.out bl4)
          have HFF := hide (HFF3.out.below bl4)
          clear bl4 HIL HBL3 HFF3
          go_wp2_with fail
          refine (appendDecimal_any w4 w4.heap.size (.slice none 0 0) [] d (World.ownsRow_nil _ _ _ _) (Nat.le_refl _) (by decide) ⟨HDR.out.1, by have := HDR.out.2; omega⟩).mono ?_
          rintro e w5 ⟨v5, rfl, hb5⟩
          rw [List.nil_append] at hb5
          have HQL := hide (decI_l64 HDR.out)
          obtain ⟨gq, cq, rfl⟩ := own_some hb5.bb HQL.out.1
          have HQB := hide hb5.bb
          have hbl5 : Below w4.heap.size w4 w5 := hb5.ex.below (Nat.le_refl _) (fun k hk z => by cases z)
          replace HBL := hide (lec HBL.out hbl5)
          replace HFF := hide (HFF.out.below hbl5)
          have HTB := hide (num_byte d)
          clear hb5 hbl5
          obtain ⟨Q, hQ⟩ : ∃ Q, decI d = Q := ⟨_, rfl⟩
          have HQE := hide hQ
          rw [hQ] at HQL HQB HTB
          rw [hQ]
          clear hQ
          go_wp2_with fail
          refine (oneClauseText_any w5 _ gq cq Q HQB.out HQL.out.1 (by have := HQL.out.2; omega)).mono ?_
          rintro e w6 ⟨a6, c6, rfl, hb6, bl6⟩
          have HL6 := hide (show (hdT 16777215 1 ++ (Q ++ [32, 48, 10])).length ≤ 1000000 from by rw [List.length_append, List.length_append]; have := hdT_len; have := HQL.out.2; simp only [List.length_cons, List.length_nil]; omega)
          have HB6 := hide (bb_bt hb6 (fun x hx => by
            rcases List.mem_append.1 hx with e | e
            · exact hdT_byte _ _ x e
            · exact HTB.out x e))
          replace HBL := hide (lec HBL.out bl6)
          replace HFF := hide (HFF.out.below bl6)
          have HRD := hide (fun (w' : World) (e : Ending) (hp : FdPost w6 (fun i => (hdT 16777215 1 ++ (Q ++ [32, 48, 10])).getD i 0) (hdT 16777215 1 ++ (Q ++ [32, 48, 10])).length e w') => dim_num (d := d) HD0.out hp (by rw [HQE.out]) (by rw [HQE.out]; exact lies_of))
          clear hb6 bl6 HQB HQE HTB
          generalize hdT 16777215 1 ++ (Q ++ [32, 48, 10]) = TT at *
          go_wp2_with fail
          refine (parseDimacs_any _ a6 TT.length c6 (fun i => TT.getD i 0) HB6.out HL6.out).mono ?_
          rintro e w7 hp7
          obtain ⟨bl7, hc7⟩ := HRD.out w7 e hp7
          replace HBL := hide (lec HBL.out bl7)
          replace HFF := hide (HFF.out.below bl7)
          clear hp7 HRD HB6 HL6 HQL bl7
          rw [HFP.out] at hc7
          rcases hc7 with ⟨-, rfl⟩ | ⟨z, -⟩
          · skip
            unfold faV
            go_upto_region 8 with fail
            have HX := hide (c3_new (w := w7) (x := 2) (y := 2) (z := 1))
            replace HBL := hide (lec HBL.out (be1 w7 (.cells #[.int .i64 2, .int .i64 2, .int .i64 1] 32)))
            replace HFF := hide (HFF.out.below (be1 w7 (.cells #[.int .i64 2, .int .i64 2, .int .i64 1] 32)))
            generalize w7.alloc (.cells #[.int .i64 2, .int .i64 2, .int .i64 1] 32) = w8 at *
            generalize w7.heap.size = x7 at *
            go_wp2_with fail
            refine (appendDecimal_any w8 w8.heap.size (.slice none 0 0) [] d (World.ownsRow_nil _ _ _ _) (Nat.le_refl _) (by decide) ⟨HDR.out.1, by have := HDR.out.2; omega⟩).mono ?_
            rintro e w9 ⟨v9, rfl, hb9⟩
            rw [List.nil_append] at hb9
            have HQL := hide (decI_l64 HDR.out)
            obtain ⟨gq, cq, rfl⟩ := own_some hb9.bb HQL.out.1
            have HQB := hide hb9.bb
            have hbl9 : Below w8.heap.size w8 w9 := hb9.ex.below (Nat.le_refl _) (fun k hk z => by cases z)
            replace HBL := hide (lec HBL.out hbl9)
            replace HFF := hide (HFF.out.below hbl9)
            replace HX := hide (HX.out.below hbl9)
            have HTB := hide (num_byte d)
            clear hb9 hbl9
            obtain ⟨Q, hQ⟩ : ∃ Q, decI d = Q := ⟨_, rfl⟩
            have HQE := hide hQ
            rw [hQ] at HQL HQB HTB
            rw [hQ]
            clear hQ
            go_wp2_with fail
            refine (oneStepText_any w9 _ gq cq Q HQB.out HQL.out.1 (by have := HQL.out.2; omega)).mono ?_
            rintro e w10 ⟨a10, c10, rfl, hb10, bl10⟩
            have HL10 := hide (show (Q ++ [32, 48, 10]).length ≤ 1000000 from by rw [List.length_append]; have := HQL.out.2; simp only [List.length_cons, List.length_nil]; omega)
            have HB10 := hide (bb_bt hb10 HTB.out)
            replace HBL := hide (lec HBL.out bl10)
            replace HFF := hide (HFF.out.below bl10)
            replace HX := hide (HX.out.below bl10)
            have HRP := hide (fun (w' : World) (e : Ending) (hp : PdPost w10 (fun i => (Q ++ [32, 48, 10]).getD i 0) (Q ++ [32, 48, 10]).length e w') => drat_num (d := d) HD0.out hp (by rw [HQE.out]) (by rw [HQE.out]; exact lies_of))
            clear hb10 bl10 HQB HQE HTB
            generalize Q ++ [32, 48, 10] = TQ at *
            go_wp2_with fail
            refine (parseDrat_any _ a10 TQ.length c10 (fun i => TQ.getD i 0) HB10.out HL10.out).mono ?_
            rintro e w11 hp11
            obtain ⟨bl11, hc11⟩ := HRP.out w11 e hp11
            replace HBL := hide (lec HBL.out bl11)
            replace HFF := hide (HFF.out.below bl11)
            replace HX := hide (HX.out.below bl11)
            clear hp11 HRP HB10 HL10 bl11 HQL
            rw [HFP.out] at hc11
            rcases hc11 with ⟨-, rfl⟩ | ⟨z, -⟩
            · skip
              unfold faV
              go_upto_region 9 with fail
              have HY := hide (c3_new (w := w11) (x := 2) (y := 1) (z := 1))
              replace HBL := hide (lec HBL.out (be1 w11 (.cells #[.int .i64 2, .int .i64 1, .int .i64 1] 32)))
              replace HFF := hide (HFF.out.below (be1 w11 (.cells #[.int .i64 2, .int .i64 1, .int .i64 1] 32)))
              replace HX := hide (HX.out.below (be1 w11 (.cells #[.int .i64 2, .int .i64 1, .int .i64 1] 32)))
              generalize w11.alloc (.cells #[.int .i64 2, .int .i64 1, .int .i64 1] 32) = w12 at *
              generalize w11.heap.size = x11 at *
              have p0 := HX.out.c0
              have p1 := HX.out.c1
              have p2 := HX.out.c2
              have q0 := HY.out.c0
              have q1 := HY.out.c1
              have q2 := HY.out.c2
              go_wp2_with fail
              refine (numClauses_any w12 _ b _ _ [] [] HFF.out.ar).mono ?_
              rintro e w' ⟨rfl, hw⟩
              rw [hw]
              clear hw w'
              go_wp2_with fail
              refine (numVars_any w12 _ b _ _ 0 [] [] HFF.out).mono ?_
              rintro e w' ⟨rfl, hw⟩
              rw [hw]
              clear hw w'
              go_wp2
              go_ret
              exact ⟨rfl, HBL.out⟩
            · cases z
          · cases z
        · cases z
      · have hBb : decide (d < -16777215) = false := by simpa using hB
        have hBn : (d < -16777215) = False := by simpa using hB
        have hBl : -16777215 ≤ d := by omega
        obtain ⟨hfo, HOK⟩ := from_ok HD0.out (show ¬ (16777215 < d ∨ d < -16777215) by omega)
        have HFP := hide hfo
        have HOK := hide HOK
        clear hA hB hfo
        go_enter Try.func11, Try.ntmps11
        go_upto_region 2 with fail
        obtain ⟨p, hp⟩ : ∃ p, packP d = p := ⟨_, rfl⟩
        rw [hp] at HFP HOK
        clear hp
        go_wp2_with fail
        refine (fromDimacs_any w d).mono ?_
        rintro e w' ⟨rfl, hw⟩
        rw [hw, HFP.out]
        clear hw w'
        go_wp2_with fail
        refine (newFormula_any w).mono ?_
        rintro e w2 ⟨b, rfl, hff, hbl, bl2⟩
        have HFF := hide hff
        have HBL2 := hide bl2
        clear hff bl2
        go_wp2_with fail
        have HIL := hide (show IL (w2.alloc (.cells #[.int .i64 1, .int .i64 d] 3)) (some ⟨w2.heap.size, 0, none⟩) [1, d] from il_new w2 [1, d])
        have HBL3 := hide (lec HBL2.out (be1 w2 (.cells #[.int .i64 1, .int .i64 d] 3)))
        have HFF3 := hide (HFF.out.below (be1 w2 (.cells #[.int .i64 1, .int .i64 d] 3)))
        clear HFF HBL2
        generalize w2.alloc (.cells #[.int .i64 1, .int .i64 d] 3) = w3 at *
        generalize w2.heap.size = x2 at *
        refine (addDimacs_any w3 w.heap.size b _ _ 0 [] [] (some ⟨x2, 0, none⟩) 2 [1, d] HFF3.out HBL3.out.size (by simp) (by simp) HIL.out (by simp)).mono ?_
        rintro e w4 hda
        unfold DaPost at hda
        rw [HNC.out, show ([1, d] : List Int).map (fun d => (fromP d).1) = [2, p] from by show [(fromP 1).1, (fromP d).1] = [2, p]; rw [HFP.out]; rfl, HFP.out] at hda
        rcases hda with ⟨z, -, -⟩ | ⟨-, rfl, hex, va', ve', hff, -, -⟩
        · exact absurd rfl z
        · have HBL := hide (show Below w.heap.size w w4 from HBL3.out.trans (hex.below HBL3.out.size (fun k hk z => by
            rcases z with z | z | z
            · omega
            · cases z
            · cases z)))
          obtain ⟨nv, hnv⟩ : ∃ nv, mxV 0 (mxP [2, p]) = nv := ⟨_, rfl⟩
          have HFF := hide (show FF w4 w.heap.size b va' ve' nv [2, p] [2] from by rw [← hnv]; exact hff)
          have HDM2 := hide (show ([2, p] : List Int).map dimP = [1, d] from by show [dimP 2, dimP p] = [1, d]; rw [HOK.out.2.1]; rfl)
          have HDM1 := hide (show ([p] : List Int).map dimP = [d] from by show [dimP p] = [d]; rw [HOK.out.2.1])
          have HLO2 := hide (show ∀ x ∈ [2, p], LitOk x from fun x hx => by
            rcases List.mem_cons.1 hx with e | e
            · subst e; unfold LitOk; decide
            · rw [List.mem_singleton.1 e]; exact HOK.out.1)
          have HLO1 := hide (show ∀ x ∈ [p], LitOk x from fun x hx => by rw [List.mem_singleton.1 hx]; exact HOK.out.1)
          clear hex hff hnv HIL HBL3 HFF3
          go_wp2_with fail
          refine (appendDecimal_any w4 w4.heap.size (.slice none 0 0) [] d (World.ownsRow_nil _ _ _ _) (Nat.le_refl _) (by decide) ⟨HDR.out.1, by have := HDR.out.2; omega⟩).mono ?_
          rintro e w5 ⟨v5, rfl, hb5⟩
          rw [List.nil_append] at hb5
          have HQL := hide (decI_l64 HDR.out)
          obtain ⟨gq, cq, rfl⟩ := own_some hb5.bb HQL.out.1
          have HQB := hide hb5.bb
          have hbl5 : Below w4.heap.size w4 w5 := hb5.ex.below (Nat.le_refl _) (fun k hk z => by cases z)
          replace HBL := hide (lec HBL.out hbl5)
          replace HFF := hide (HFF.out.below hbl5)
          have HTB := hide (num_byte d)
          clear hb5 hbl5
          obtain ⟨Q, hQ⟩ : ∃ Q, decI d = Q := ⟨_, rfl⟩
          have HQE := hide hQ
          rw [hQ] at HQL HQB HTB
          rw [hQ]
          clear hQ
          go_wp2_with fail
          refine (oneClauseText_any w5 _ gq cq Q HQB.out HQL.out.1 (by have := HQL.out.2; omega)).mono ?_
          rintro e w6 ⟨a6, c6, rfl, hb6, bl6⟩
          have HL6 := hide (show (hdT 16777215 1 ++ (Q ++ [32, 48, 10])).length ≤ 1000000 from by rw [List.length_append, List.length_append]; have := hdT_len; have := HQL.out.2; simp only [List.length_cons, List.length_nil]; omega)
          have HB6 := hide (bb_bt hb6 (fun x hx => by
            rcases List.mem_append.1 hx with e | e
            · exact hdT_byte _ _ x e
            · exact HTB.out x e))
          replace HBL := hide (lec HBL.out bl6)
          replace HFF := hide (HFF.out.below bl6)
          have HRD := hide (fun (w' : World) (e : Ending) (hp : FdPost w6 (fun i => (hdT 16777215 1 ++ (Q ++ [32, 48, 10])).getD i 0) (hdT 16777215 1 ++ (Q ++ [32, 48, 10])).length e w') => dim_num (d := d) HD0.out hp (by rw [HQE.out]) (by rw [HQE.out]; exact lies_of))
          clear hb6 bl6 HQB HQE HTB
          generalize hdT 16777215 1 ++ (Q ++ [32, 48, 10]) = TT at *
          go_wp2_with fail
          refine (parseDimacs_any _ a6 TT.length c6 (fun i => TT.getD i 0) HB6.out HL6.out).mono ?_
          rintro e w7 hp7
          obtain ⟨bl7, hc7⟩ := HRD.out w7 e hp7
          replace HBL := hide (lec HBL.out bl7)
          replace HFF := hide (HFF.out.below bl7)
          clear hp7 HRD HB6 HL6 HQL bl7
          rw [HFP.out] at hc7
          rcases hc7 with ⟨z, -⟩ | ⟨-, bg, vag, veg, rfl, -, hfg⟩
          · exact absurd rfl z
          · have HFG := hide hfg
            clear hfg
            unfold faV
            go_upto_region 8 with fail
            have HX := hide (c3_new (w := w7) (x := 0) (y := 0) (z := 0))
            replace HBL := hide (lec HBL.out (be1 w7 (.cells #[.int .i64 0, .int .i64 0, .int .i64 0] 32)))
            replace HFF := hide (HFF.out.below (be1 w7 (.cells #[.int .i64 0, .int .i64 0, .int .i64 0] 32)))
            replace HFG := hide (HFG.out.below (be1 w7 (.cells #[.int .i64 0, .int .i64 0, .int .i64 0] 32)))
            generalize w7.alloc (.cells #[.int .i64 0, .int .i64 0, .int .i64 0] 32) = w8 at *
            generalize w7.heap.size = x7 at *
            go_wp2_with fail
            refine (appendDecimal_any w8 w8.heap.size (.slice none 0 0) [] d (World.ownsRow_nil _ _ _ _) (Nat.le_refl _) (by decide) ⟨HDR.out.1, by have := HDR.out.2; omega⟩).mono ?_
            rintro e w9 ⟨v9, rfl, hb9⟩
            rw [List.nil_append] at hb9
            have HQL := hide (decI_l64 HDR.out)
            obtain ⟨gq, cq, rfl⟩ := own_some hb9.bb HQL.out.1
            have HQB := hide hb9.bb
            have hbl9 : Below w8.heap.size w8 w9 := hb9.ex.below (Nat.le_refl _) (fun k hk z => by cases z)
            replace HBL := hide (lec HBL.out hbl9)
            replace HFF := hide (HFF.out.below hbl9)
            replace HFG := hide (HFG.out.below hbl9)
            replace HX := hide (HX.out.below hbl9)
            have HTB := hide (num_byte d)
            clear hb9 hbl9
            obtain ⟨Q, hQ⟩ : ∃ Q, decI d = Q := ⟨_, rfl⟩
            have HQE := hide hQ
            rw [hQ] at HQL HQB HTB
            rw [hQ]
            clear hQ
            go_wp2_with fail
            refine (oneStepText_any w9 _ gq cq Q HQB.out HQL.out.1 (by have := HQL.out.2; omega)).mono ?_
            rintro e w10 ⟨a10, c10, rfl, hb10, bl10⟩
            have HL10 := hide (show (Q ++ [32, 48, 10]).length ≤ 1000000 from by rw [List.length_append]; have := HQL.out.2; simp only [List.length_cons, List.length_nil]; omega)
            have HB10 := hide (bb_bt hb10 HTB.out)
            replace HBL := hide (lec HBL.out bl10)
            replace HFF := hide (HFF.out.below bl10)
            replace HFG := hide (HFG.out.below bl10)
            replace HX := hide (HX.out.below bl10)
            have HRP := hide (fun (w' : World) (e : Ending) (hp : PdPost w10 (fun i => (Q ++ [32, 48, 10]).getD i 0) (Q ++ [32, 48, 10]).length e w') => drat_num (d := d) HD0.out hp (by rw [HQE.out]) (by rw [HQE.out]; exact lies_of))
            clear hb10 bl10 HQB HQE HTB
            generalize Q ++ [32, 48, 10] = TQ at *
            go_wp2_with fail
            refine (parseDrat_any _ a10 TQ.length c10 (fun i => TQ.getD i 0) HB10.out HL10.out).mono ?_
            rintro e w11 hp11
            obtain ⟨bl11, hc11⟩ := HRP.out w11 e hp11
            replace HBL := hide (lec HBL.out bl11)
            replace HFF := hide (HFF.out.below bl11)
            replace HFG := hide (HFG.out.below bl11)
            replace HX := hide (HX.out.below bl11)
            clear hp11 HRP HB10 HL10 bl11 HQL
            rw [HFP.out] at hc11
            rcases hc11 with ⟨z, -⟩ | ⟨-, bp, vap, vep, vdp, rfl, -, hpf⟩
            · exact absurd rfl z
            · have HPF := hide hpf
              clear hpf
              unfold faV
              go_upto_region 9 with fail
              have HY := hide (c3_new (w := w11) (x := 0) (y := 0) (z := 0))
              replace HBL := hide (lec HBL.out (be1 w11 (.cells #[.int .i64 0, .int .i64 0, .int .i64 0] 32)))
              replace HFF := hide (HFF.out.below (be1 w11 (.cells #[.int .i64 0, .int .i64 0, .int .i64 0] 32)))
              replace HFG := hide (HFG.out.below (be1 w11 (.cells #[.int .i64 0, .int .i64 0, .int .i64 0] 32)))
              replace HX := hide (HX.out.below (be1 w11 (.cells #[.int .i64 0, .int .i64 0, .int .i64 0] 32)))
              replace HPF := hide (HPF.out.below (be1 w11 (.cells #[.int .i64 0, .int .i64 0, .int .i64 0] 32)))
              generalize w11.alloc (.cells #[.int .i64 0, .int .i64 0, .int .i64 0] 32) = w12 at *
              generalize w11.heap.size = x11 at *
              have hdd : (d != d) = false := by simp
              have hdm : (-d != -d) = false := by simp
              have hwn : IntKind.i64.wrap (-d) = -d := by rw [IntKind.wrap_i64]; omega
              have cV := valid_any w12 p (by have := HOK.out.1; unfold LitOk at this; omega)
              rw [HOK.out.2.2.2.2.2] at cV
              have cD1 := dimacs_any w12 p (by have := HOK.out.1; unfold LitOk at this; omega)
              rw [HOK.out.2.1] at cD1
              have cN := not_any w12 p (by have := HOK.out.1; unfold LitOk at this; omega)
              have cD2 := dimacs_any w12 (notP p) HOK.out.2.2.2.2.1
              rw [HOK.out.2.2.1] at cD2
              go_wp2_with fail
              refine (cV).mono ?_
              rintro e w' ⟨rfl, hw⟩
              rw [hw]
              clear hw w'
              go_wp2_with fail
              refine (cD1).mono ?_
              rintro e w' ⟨rfl, hw⟩
              rw [hw]
              clear hw w'
              go_wp2_with fail
              refine (cN).mono ?_
              rintro e w' ⟨rfl, hw⟩
              rw [hw]
              clear hw w'
              go_wp2_with fail
              refine (cD2).mono ?_
              rintro e w' ⟨rfl, hw⟩
              rw [hw]
              clear hw w'
              clear cV cD1 cN cD2
              have cF := fClause_any w12 _ b va' ve' [2, p] [2] HFF.out.ar eok_two (by decide) 0 (by decide)
              rw [show clP [2, p] [2] 0 = [2, p] from rfl, show ((0 : Nat) : Int) = 0 from rfl] at cF
              go_wp2_with fail
              refine cF.mono ?_
              rintro e w13 ⟨a13, c13, rfl, hc13, bl13⟩
              replace HBL := hide (lec HBL.out bl13)
              replace HFF := hide (HFF.out.below bl13)
              replace HFG := hide (HFG.out.below bl13)
              replace HX := hide (HX.out.below bl13)
              replace HPF := hide (HPF.out.below bl13)
              replace HY := hide (HY.out.below bl13)
              have HCL := hide hc13
              clear hc13 bl13 cF
              go_wp2_with fail
              have HIL := hide (show IL (w13.alloc (.cells #[.int .i64 1, .int .i64 d] 3)) (some ⟨w13.heap.size, 0, none⟩) (([2, p] : List Int).map dimP) from by
                rw [HDM2.out]
                exact il_new w13 [1, d])
              skip
              replace HBL := hide (lec HBL.out (be1 w13 (.cells #[.int .i64 1, .int .i64 d] 3)))
              replace HFF := hide (HFF.out.below (be1 w13 (.cells #[.int .i64 1, .int .i64 d] 3)))
              replace HFG := hide (HFG.out.below (be1 w13 (.cells #[.int .i64 1, .int .i64 d] 3)))
              replace HX := hide (HX.out.below (be1 w13 (.cells #[.int .i64 1, .int .i64 d] 3)))
              replace HPF := hide (HPF.out.below (be1 w13 (.cells #[.int .i64 1, .int .i64 d] 3)))
              replace HY := hide (HY.out.below (be1 w13 (.cells #[.int .i64 1, .int .i64 d] 3)))
              replace HCL := hide (HCL.out.below (be1 w13 (.cells #[.int .i64 1, .int .i64 d] 3)))
              generalize w13.alloc (.cells #[.int .i64 1, .int .i64 d] 3) = w14 at *
              generalize w13.heap.size = yw14 at *
              have cS := sameLits_any w14 a13 c13 ([2, p] : List Int) (some ⟨yw14, 0, none⟩) 2 HCL.out HIL.out HLO2.out (by simp)
              refine (show Calls Try.prog 42 #[.slice a13 2 c13, .slice (some ⟨yw14, 0, none⟩) 2 2] w14 _ from cS).mono ?_
              rintro e w15 ⟨rfl, hs⟩
              replace HBL := hide (lec HBL.out hs)
              replace HFF := hide (HFF.out.below hs)
              replace HFG := hide (HFG.out.below hs)
              replace HX := hide (HX.out.below hs)
              replace HPF := hide (HPF.out.below hs)
              replace HY := hide (HY.out.below hs)
              clear hs cS HIL HCL
              have p0 := HX.out.c0
              go_wp2_with fail
              refine (numClauses_any w15 _ bg _ _ [p] [1] HFG.out.ar).mono ?_
              rintro e w' ⟨rfl, hw⟩
              rw [hw]
              clear hw w' p0
              have cF := fClause_any w15 _ bg vag veg [p] [1] HFG.out.ar eok_one (by decide) 0 (by decide)
              rw [show clP [p] [1] 0 = [p] from rfl, show ((0 : Nat) : Int) = 0 from rfl] at cF
              go_wp2_with fail
              refine cF.mono ?_
              rintro e w16 ⟨a16, c16, rfl, hc16, bl16⟩
              replace HBL := hide (lec HBL.out bl16)
              replace HPF := hide (HPF.out.below bl16)
              replace HY := hide (HY.out.below bl16)
              have HCL := hide hc16
              clear hc16 bl16 cF
              go_wp2_with fail
              have HIL := hide (show IL (w16.alloc (.cells #[.int .i64 d] 3)) (some ⟨w16.heap.size, 0, none⟩) (([p] : List Int).map dimP) from by
                rw [HDM1.out]
                exact il_new w16 [d])
              skip
              replace HBL := hide (lec HBL.out (be1 w16 (.cells #[.int .i64 d] 3)))
              replace HPF := hide (HPF.out.below (be1 w16 (.cells #[.int .i64 d] 3)))
              replace HY := hide (HY.out.below (be1 w16 (.cells #[.int .i64 d] 3)))
              replace HCL := hide (HCL.out.below (be1 w16 (.cells #[.int .i64 d] 3)))
              generalize w16.alloc (.cells #[.int .i64 d] 3) = w17 at *
              generalize w16.heap.size = yw17 at *
              have cS := sameLits_any w17 a16 c16 ([p] : List Int) (some ⟨yw17, 0, none⟩) 1 HCL.out HIL.out HLO1.out (by simp)
              refine (show Calls Try.prog 42 #[.slice a16 1 c16, .slice (some ⟨yw17, 0, none⟩) 1 1] w17 _ from cS).mono ?_
              rintro e w18 ⟨rfl, hs⟩
              replace HBL := hide (lec HBL.out hs)
              replace HPF := hide (HPF.out.below hs)
              replace HY := hide (HY.out.below hs)
              clear hs cS HIL HCL
              have p0 := HY.out.c0
              go_wp2_with fail
              refine (numSteps_any w18 _ bp _ _ [p] [1] HPF.out.ar).mono ?_
              rintro e w' ⟨rfl, hw⟩
              rw [hw]
              clear hw w' p0
              have cF := step_any w18 _ bp vap vep vdp [p] [1] [false] HPF.out eok_one rfl (by decide) 0 (by decide)
              rw [show clP [p] [1] 0 = [p] from rfl, show ((0 : Nat) : Int) = 0 from rfl, show ([false] : List Bool).getD 0 false = false from rfl] at cF
              go_wp2_with fail
              refine cF.mono ?_
              rintro e w19 ⟨a19, c19, rfl, hc19, bl19⟩
              replace HBL := hide (lec HBL.out bl19)
              have HCL := hide hc19
              clear hc19 bl19 cF
              go_wp2_with fail
              have HIL := hide (show IL (w19.alloc (.cells #[.int .i64 d] 3)) (some ⟨w19.heap.size, 0, none⟩) (([p] : List Int).map dimP) from by
                rw [HDM1.out]
                exact il_new w19 [d])
              skip
              replace HBL := hide (lec HBL.out (be1 w19 (.cells #[.int .i64 d] 3)))
              replace HCL := hide (HCL.out.below (be1 w19 (.cells #[.int .i64 d] 3)))
              generalize w19.alloc (.cells #[.int .i64 d] 3) = w20 at *
              generalize w19.heap.size = yw20 at *
              have cS := sameLits_any w20 a19 c19 ([p] : List Int) (some ⟨yw20, 0, none⟩) 1 HCL.out HIL.out HLO1.out (by simp)
              refine (show Calls Try.prog 42 #[.slice a19 1 c19, .slice (some ⟨yw20, 0, none⟩) 1 1] w20 _ from cS).mono ?_
              rintro e w21 ⟨rfl, hs⟩
              replace HBL := hide (lec HBL.out hs)

              clear hs cS HIL HCL
              go_wp2
              go_ret
              exact ⟨rfl, HBL.out⟩
end Go.Proofs.Qxb6500773a
