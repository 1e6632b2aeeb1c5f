import Derived.Test.Qxb6500773aFp1
import Derived.Deep.CutBlock
namespace Go.Proofs.Qxb6500773a
open Go.RowKit

theorem BG.side {w w1 w2 : World} {B : Nat} {v v1 : Value} {X : List Int} (h : BG w B v w1 v1 X) {S : Nat → Prop} (e : Ex S w1 w2) (hS : ∀ j, S j → w.heap.size ≤ j ∧ v1.ownBlock ≠ some j) : BG w B v w2 v1 X :=
  ⟨h.bb.keep e (fun j z y => (hS j y).2 z), h.ex.trans2 e (fun j y => .inr (hS j y).1), h.own⟩
theorem tdiv10 (x : Int) (m : Nat) (h : x = m ∨ x = -(m : Int)) : (Int.tdiv x 10 = ((m / 10 : Nat) : Int) ∨ Int.tdiv x 10 = -((m / 10 : Nat) : Int)) ∧ (Int.tmod x 10 = ((m % 10 : Nat) : Int) ∨ Int.tmod x 10 = -((m % 10 : Nat) : Int)) := by
  rcases h with h | h
  · subst h
    refine ⟨.inl ?_, .inl ?_⟩
    · rw [Int.tdiv_eq_ediv_of_nonneg (by omega)]; omega
    · rw [Int.tmod_eq_emod_of_nonneg (by omega)]; omega
  · subst h
    refine ⟨.inr ?_, .inr ?_⟩
    · rw [Int.neg_tdiv, Int.tdiv_eq_ediv_of_nonneg (by omega)]; omega
    · rw [Int.neg_tmod, Int.tmod_eq_emod_of_nonneg (by omega)]; omega
set_option linter.unusedSimpArgs false in
set_option maxRecDepth 100000 in
set_option maxHeartbeats 4000000 in
/-- cnflaw.appendDecimal -/
theorem appendDecimal_any (w : World) (B : Nat) (v : Value) (X : List Int) (n : Int) (h : BB w B v X) (hB : B ≤ w.heap.size) (hX : X.length ≤ 1000000) (hn : -9223372036854775808 ≤ n ∧ n ≤ 9223372036854775807) :
    Calls Try.prog 36 #[v, .int .i64 n] w (ApPost w B v (X ++ decI n)) := by
  obtain ⟨i0, hi0, hz0, hz1, hz2⟩ := info_of Try.info5
  have HI := hide (And.intro hi0 (And.intro hz0 (And.intro hz1 hz2)))
  clear hi0 hz0 hz1 hz2
  have HBB := hide h
  suffices H : ∀ v0, v0 = v → Calls Try.prog 36 #[v, .int .i64 n] w (ApPost w B v0 (X ++ decI n)) from H v rfl
  intro v0 hv0
  have HBB0 := hide (show BG w B v0 w v X from by rw [hv0]; exact BG.refl h)
  clear hv0
  have HBS := hide hB
  have HBS0 := hide hB
  have HXL := hide hX
  obtain ⟨Y, hY⟩ : ∃ Y, X ++ decI n = Y := ⟨_, rfl⟩
  rw [hY]
  have HY := hide hY
  clear hY
  obtain ⟨a, c, rfl⟩ := own_form h
  clear h hB hX
  go_enter Try.func36, Try.ntmps36
  by_cases hneg : n < 0
  · have hnb : decide (n < 0) = true := by simpa using hneg
    have HZw2 := hide (show BB (w.alloc (.cells #[.int .u8 45] 5)) B (.slice a X.length c) (X) from BB.below HBB.out (be1 w _))
    have HSw2 := hide (show B ≤ (w.alloc (.cells #[.int .u8 45] 5)).heap.size from Nat.le_trans HBS.out (be1 w _).size)
    have HNw2 := hide (show ∀ (j : Nat) (u : Value), ([.int .u8 45] : List Value)[j]? = some u → (w.alloc (.cells #[.int .u8 45] 5)).cell? ((⟨w.heap.size, 0, none⟩ : Addr).add j) = some u from fun j u hj => new_cells w [.int .u8 45] 5 j u hj)
    go_upto_region 3 with (at_builtin; go_loud (refine wpList_append_lies _ rfl (.tmp 10) (.tmp 11) 26 rfl B 5 i0 _ 1 1 Try.underlying26 HI.out.1 HI.out.2.1 HI.out.2.2.1 HI.out.2.2.2 rfl (by decide) (.slice a X.length c) (X).length ((X).map (Value.int .u8)) rfl HZw2.out ⟨w.heap.size, 0, none⟩ 1 1 [.int .u8 45] rfl rfl HNw2.out (fun u hu => by simp at hu; (first | (subst hu; rfl) | (rcases hu with hu | hu <;> (subst hu; rfl)))) (by decide) (by have := HXL.out; unfold maxLen; omega) (by have := HXL.out; omega) HSw2.out _ rfl ?_; intro gw2 capw2 w2 hr hg hat hlt2; have HPw2 := hide (bg_app (Z := [45]) HBB.out hr hg hat); clear hr hg hat hlt2 HZw2 HSw2 HNw2))
    obtain ⟨X1, hQw2⟩ : ∃ X1, (X) ++ [45] = X1 := ⟨_, rfl⟩
    have HQw2 := hide hQw2.symm
    rw [hQw2] at HPw2
    rw [show (X).length + 1 = X1.length from by rw [← hQw2]; simp only [List.length_append, List.length_cons, List.length_nil]]
    clear hQw2
    have HQ := hide (show X1 ++ (lowD n.natAbs).reverse = Y by rw [← HY.out, HQw2.out]; unfold decI; rw [if_pos hneg, List.append_assoc])
    have HBG := hide (HBB0.out.trans HPw2.out)
    have HXL1 := hide (show X1.length ≤ 1000001 from by have := HXL.out; rw [HQw2.out]; simp only [List.length_append, List.length_cons, List.length_nil]; omega)
    obtain ⟨n0, hn0⟩ : ∃ n0 : Nat, n.natAbs = n0 := ⟨_, rfl⟩
    rw [hn0] at HQ
    have hn1 : n = (n0 : Int) ∨ n = -(n0 : Int) := by omega
    clear hnb hneg HPw2 HBB HBB0 HXL HY HBS HQw2 hn0
    obtain ⟨a1, ha1⟩ : ∃ a1 : Option Addr, some (⟨gw2, 0, none⟩ : Addr) = a1 := ⟨_, rfl⟩
    rw [ha1] at HBG ⊢
    clear ha1
    generalize capw2 = c1 at *
    go_upto_region 4 with fail
    have HLW := hide (show BB (w2.alloc (.cells #[] 5)) w2.heap.size (.slice (some ⟨w2.heap.size, 0, none⟩) 0 0) [] from World.ownsRow_made (base := w2.heap.size) (e := 5) (size := 1) w2 #[] 0 (Nat.le_refl _) (by decide) rfl)
    have HB1 := hide (HBG.out.below (be1 w2 (.cells #[] 5)))
    have HDA := hide (show ∀ k, Value.ownBlock (.slice a1 X1.length c1) = some k → k < w2.heap.size from fun k z => (HBG.out.bb.lt k z).2)
    have HLT := hide (show w2.heap.size < (w2.alloc (.cells #[] 5)).heap.size ∧ w.heap.size ≤ w2.heap.size from ⟨by simp, HBG.out.ex.size⟩)
    clear HBG
    generalize w2.alloc (.cells #[] 5) = w3 at *
    obtain ⟨L0, hL0⟩ : ∃ L0, w2.heap.size = L0 := ⟨_, rfl⟩
    rw [hL0] at HLW HDA ⊢
    replace HLT := hide (show L0 < w3.heap.size ∧ w.heap.size ≤ L0 from by have := HLT.out; omega)
    clear hL0
    have HZL := hide (show (lowD n0).length ≤ 20 from lowD_le 19 n0 (by omega))
    go_wp2
    go_loopw [1, 5, 6] (fun s1 s5 _ wx => ∃ (m : Nat) (P : List Int) (a2 : Option Addr) (c2 : Nat) (x : Int), s1 = .int .i64 x ∧ (x = (m : Int) ∨ x = -(m : Int)) ∧ m ≤ 9223372036854775808 ∧ s5 = .slice a2 P.length c2 ∧ Hid (P ++ lowD m = lowD n0) ∧ BG w3 L0 (.slice (some ⟨L0, 0, none⟩) 0 0) wx (.slice a2 P.length c2) P) (fun s1 _ _ _ => (intOf s1).natAbs)
    case atStart => exact ⟨n0, [], _, _, n, rfl, hn1, by omega, rfl, hide rfl, BG.refl HLW.out⟩
    case round =>
      obtain ⟨m, P, a2, c2, x, rfl, hxm, hm, rfl, HL, hbg⟩ := hrel
      have HLG := hide hbg
      have HLB := hide hbg.bb
      have HBSL := hide (show L0 ≤ wr.heap.size from by have := hbg.ex.size; have := HLT.out; omega)
      have HPL := hide (show P.length ≤ 20 from by have h1 := congrArg List.length HL.out; rw [List.length_append] at h1; have := HZL.out; omega)
      clear hbg
      have hdv := tdiv10 x m hxm
      have e1 : IntKind.i64.wrap (Int.tmod x 10) = Int.tmod x 10 := by rw [IntKind.wrap_i64]; omega
      have e2 : IntKind.i64.wrap (Int.tdiv x 10) = Int.tdiv x 10 := by rw [IntKind.wrap_i64]; omega
      have e3 : IntKind.i64.wrap (48 + ((m % 10 : Nat) : Int)) = 48 + ((m % 10 : Nat) : Int) := by rw [IntKind.wrap_i64]; omega
      have e4 : IntKind.u8.wrap (48 + ((m % 10 : Nat) : Int)) = 48 + ((m % 10 : Nat) : Int) := by rw [IntKind.wrap_u8]; omega
      by_cases hd : Int.tmod x 10 < 0
      · have hdb : decide (Int.tmod x 10 < 0) = true := by simpa using hd
        have hdn : -(Int.tmod x 10) = ((m % 10 : Nat) : Int) := by omega
        have e5 : IntKind.i64.wrap (-(Int.tmod x 10)) = ((m % 10 : Nat) : Int) := by rw [IntKind.wrap_i64]; omega
        have HZw5 := hide (show BB (wr.alloc (.cells #[.int .u8 (48 + ((m % 10 : Nat) : Int))] 5)) L0 (.slice a2 P.length c2) (P) from BB.below HLB.out (be1 wr _))
        have HSw5 := hide (show L0 ≤ (wr.alloc (.cells #[.int .u8 (48 + ((m % 10 : Nat) : Int))] 5)).heap.size from Nat.le_trans HBSL.out (be1 wr _).size)
        have HNw5 := hide (show ∀ (j : Nat) (u : Value), ([.int .u8 (48 + ((m % 10 : Nat) : Int))] : List Value)[j]? = some u → (wr.alloc (.cells #[.int .u8 (48 + ((m % 10 : Nat) : Int))] 5)).cell? ((⟨wr.heap.size, 0, none⟩ : Addr).add j) = some u from fun j u hj => new_cells wr [.int .u8 (48 + ((m % 10 : Nat) : Int))] 5 j u hj)
        go_upto_region 8 with (at_builtin; go_loud (refine wpList_append_lies _ rfl (.tmp 20) (.tmp 24) 26 rfl L0 5 i0 _ 1 1 Try.underlying26 HI.out.1 HI.out.2.1 HI.out.2.2.1 HI.out.2.2.2 rfl (by decide) (.slice a2 P.length c2) (P).length ((P).map (Value.int .u8)) rfl HZw5.out ⟨wr.heap.size, 0, none⟩ 1 1 [.int .u8 (48 + ((m % 10 : Nat) : Int))] rfl rfl HNw5.out (fun u hu => by simp at hu; (first | (subst hu; rfl) | (rcases hu with hu | hu <;> (subst hu; rfl)))) (by decide) (by have := HPL.out; unfold maxLen; omega) (by have := HPL.out; omega) HSw5.out _ rfl ?_; intro gw5 capw5 w5 hr hg hat hlt2; have HPw5 := hide (bg_app (Z := [48 + ((m % 10 : Nat) : Int)]) HLB.out hr hg hat); clear hr hg hat hlt2 HZw5 HSw5 HNw5))
        obtain ⟨P5, hQw5⟩ : ∃ P5, (P) ++ [48 + ((m % 10 : Nat) : Int)] = P5 := ⟨_, rfl⟩
        have HQw5 := hide hQw5.symm
        rw [hQw5] at HPw5
        rw [show (P).length + 1 = P5.length from by rw [← hQw5]; simp only [List.length_append, List.length_cons, List.length_nil]]
        clear hQw5
        have HP5 := hide (HLG.out.trans HPw5.out)
        have HE5 := hide (show P5 = P ++ [48 + ((m % 10 : Nat) : Int)] from HQw5.out)
        clear HPw5 HQw5 HLB HLG HBSL
        by_cases hm10 : 10 ≤ m
        · have HL5 := hide (show P5 ++ lowD (m / 10) = lowD n0 by rw [HE5.out, ← HL.out, lowD_big hm10, List.append_assoc]; rfl)
          have hz : (Int.tdiv x 10 == 0) = false := by rw [beq_eq_false_iff_ne]; omega
          have HMS := hide (show (Int.tdiv x 10).natAbs < x.natAbs from by rcases hdv.1 with z | z <;> rw [z] <;> omega)
          clear HL
          go_wp2
          go_roundw
          case rel => exact ⟨m / 10, P5, _, _, _, rfl, hdv.1, by omega, rfl, HL5, HP5.out⟩
          case measure => simp only [intOf]; exact HMS.out
        · have HL5 := hide (show P5 = lowD n0 by rw [HE5.out, ← HL.out, lowD_one hm10, show m % 10 = m by omega])
          have hz : (Int.tdiv x 10 == 0) = true := by rw [beq_iff_eq]; omega
          clear HL
          have HD4 := hide (show BG w B v0 w5 (.slice a1 X1.length c1) X1 from HB1.out.side HP5.out.ex (fun j z => by
            have e : L0 = j := Option.some.inj z
            subst e
            exact ⟨HLT.out.2, fun y => by have := HDA.out L0 y; omega⟩))
          have HLE := hide HP5.out.bb
          have HAP := hide (show ∀ k, Value.ownBlock (.slice a1 X1.length c1) = some k → gw5 ≠ k from fun k z e => by
            subst e
            have h1 := HDA.out gw5 z
            rcases HP5.out.own gw5 rfl with y | y
            · have : L0 = gw5 := Option.some.inj y
              omega
            · have := HLT.out.1; omega)
          have HGL := hide (HP5.out.bb.lt gw5 rfl).2
          rw [HL5.out] at HLE
          have hzl : (lowD n0).length ≤ 20 := HZL.out
          have hz1 := lowD_len n0
          have HRV := hide (show X1 ++ (lowD n0).reverse = Y from HQ.out)
          rw [HL5.out]
          clear HP5 HL5 HE5 HB1 HQ HLW
          generalize lowD n0 = Z at *
          clear hm10 hdv e1 e3 e4 hdb hdn hxm hm hd HPL
          have hwl : IntKind.i64.wrap ((Z.length : Int) - 1) = (Z.length : Int) - 1 := by rw [IntKind.wrap_i64]; omega
          go_wp2
          go_loopw [0, 7] (fun s0 s7 wx => ∃ (i : Nat) (Q : List Int) (a2 : Option Addr) (c2 : Nat), i ≤ Z.length ∧ s7 = .int .i64 ((i : Int) - 1) ∧ s0 = .slice a2 Q.length c2 ∧ Hid (Q = X1 ++ (Z.drop i).reverse) ∧ BG w5 B (.slice a1 X1.length c1) wx (.slice a2 Q.length c2) Q) (fun _ s7 _ => (intOf s7 + 1).toNat)
          case atStart => exact ⟨Z.length, X1, _, _, Nat.le_refl _, rfl, rfl, hide (by rw [List.drop_length]; simp), BG.refl HD4.out.bb⟩
          case round =>
            obtain ⟨i, Q, a2, c2, hi, rfl, rfl, HQE, hbg⟩ := hrel
            have HDG := hide hbg
            have HDB := hide hbg.bb
            have HBSD := hide (show B ≤ wr.heap.size from Nat.le_trans HBS0.out (Nat.le_trans HD4.out.ex.size hbg.ex.size))
            have HQL := hide (show Q.length ≤ 2000000 from by rw [HQE.out, List.length_append, List.length_reverse, List.length_drop]; have := HXL1.out; omega)
            have HLW := hide (HLE.out.keep hbg.ex (fun j z y => HAP.out j y (Option.some.inj z)))
            clear hbg
            cases i with
            | zero =>
              have h1 : decide ((0 : Int) ≤ ((0 : Nat) : Int) - 1) = false := by decide
              have HPO := hide (show ApPost w B v0 Y (.returned (.slice a2 Q.length c2)) wr from ⟨_, rfl, by rw [← HRV.out, show X1 ++ Z.reverse = Q by rw [HQE.out, List.drop_zero]]; exact HD4.out.trans HDG.out⟩)
              clear HDB HLW
              go_wp2
              exact bodyPost_ret (v := .slice a2 Q.length c2) (by simp [results, Try.results36, go_sem]) rfl HPO.out
            | succ i =>
              obtain ⟨x', hx⟩ : ∃ x, Z[i]? = some x := ⟨_, List.getElem?_eq_getElem (by omega)⟩
              obtain ⟨g7, k7, e7, hc7, -⟩ := row_cell HLW.out (i := i) (u := .int .u8 x') (by rw [List.getElem?_map, hx]; rfl)
              cases e7
              have HDR := hide (show (Z.drop i).reverse = (Z.drop (i + 1)).reverse ++ [x'] by
                rw [List.drop_eq_getElem_cons (show i < Z.length by omega), List.reverse_cons]
                rw [List.getElem?_eq_getElem (show i < Z.length by omega)] at hx
                cases hx
                rfl)
              rw [show (((i + 1 : Nat) : Int) - 1) = (i : Int) by omega]
              have h1 : decide ((0 : Int) ≤ (i : Int)) = true := by simp
              have h2 : decide ((i : Int) < 0) = false := by simp
              have h3 : (i : Int) < (Z.length : Int) := by omega
              have h4 : IntKind.i64.wrap ((i : Int) - 1) = (i : Int) - 1 := by rw [IntKind.wrap_i64]; omega
              clear hx HLW
              have HZw6 := hide (show BB (wr.alloc (.cells #[.int .u8 (x')] 5)) B (.slice a2 Q.length c2) (Q) from BB.below HDB.out (be1 wr _))
              have HSw6 := hide (show B ≤ (wr.alloc (.cells #[.int .u8 (x')] 5)).heap.size from Nat.le_trans HBSD.out (be1 wr _).size)
              have HNw6 := hide (show ∀ (j : Nat) (u : Value), ([.int .u8 (x')] : List Value)[j]? = some u → (wr.alloc (.cells #[.int .u8 (x')] 5)).cell? ((⟨wr.heap.size, 0, none⟩ : Addr).add j) = some u from fun j u hj => new_cells wr [.int .u8 (x')] 5 j u hj)
              go_upto_region 12 with (at_builtin; go_loud (refine wpList_append_lies _ rfl (.tmp 37) (.tmp 42) 26 rfl B 5 i0 _ 1 1 Try.underlying26 HI.out.1 HI.out.2.1 HI.out.2.2.1 HI.out.2.2.2 rfl (by decide) (.slice a2 Q.length c2) (Q).length ((Q).map (Value.int .u8)) rfl HZw6.out ⟨wr.heap.size, 0, none⟩ 1 1 [.int .u8 (x')] rfl rfl HNw6.out (fun u hu => by simp at hu; (first | (subst hu; rfl) | (rcases hu with hu | hu <;> (subst hu; rfl)))) (by decide) (by have := HQL.out; unfold maxLen; omega) (by have := HQL.out; omega) HSw6.out _ rfl ?_; intro gw6 capw6 w6 hr hg hat hlt2; have HPw6 := hide (bg_app (Z := [x']) HDB.out hr hg hat); clear hr hg hat hlt2 HZw6 HSw6 HNw6))
              obtain ⟨Q6, hQw6⟩ : ∃ Q6, (Q) ++ [x'] = Q6 := ⟨_, rfl⟩
              have HQw6 := hide hQw6.symm
              rw [hQw6] at HPw6
              rw [show (Q).length + 1 = Q6.length from by rw [← hQw6]; simp only [List.length_append, List.length_cons, List.length_nil]]
              clear hQw6
              have HG6 := hide (HDG.out.trans HPw6.out)
              have HQ6 := hide (show Q6 = X1 ++ (Z.drop i).reverse by rw [HQw6.out, HQE.out, HDR.out, List.append_assoc])
              clear HDG HDB HPw6 HQw6 HQE HDR
              go_wp2
              go_roundw
              case rel => exact ⟨i, Q6, _, _, by omega, rfl, rfl, HQ6, HG6.out⟩
              case measure => simp [intOf]
      · have hdb : decide (Int.tmod x 10 < 0) = false := by simpa using hd
        have hdn : Int.tmod x 10 = ((m % 10 : Nat) : Int) := by omega
        have HZw5 := hide (show BB (wr.alloc (.cells #[.int .u8 (48 + ((m % 10 : Nat) : Int))] 5)) L0 (.slice a2 P.length c2) (P) from BB.below HLB.out (be1 wr _))
        have HSw5 := hide (show L0 ≤ (wr.alloc (.cells #[.int .u8 (48 + ((m % 10 : Nat) : Int))] 5)).heap.size from Nat.le_trans HBSL.out (be1 wr _).size)
        have HNw5 := hide (show ∀ (j : Nat) (u : Value), ([.int .u8 (48 + ((m % 10 : Nat) : Int))] : List Value)[j]? = some u → (wr.alloc (.cells #[.int .u8 (48 + ((m % 10 : Nat) : Int))] 5)).cell? ((⟨wr.heap.size, 0, none⟩ : Addr).add j) = some u from fun j u hj => new_cells wr [.int .u8 (48 + ((m % 10 : Nat) : Int))] 5 j u hj)
        go_upto_region 8 with (at_builtin; go_loud (refine wpList_append_lies _ rfl (.tmp 20) (.tmp 24) 26 rfl L0 5 i0 _ 1 1 Try.underlying26 HI.out.1 HI.out.2.1 HI.out.2.2.1 HI.out.2.2.2 rfl (by decide) (.slice a2 P.length c2) (P).length ((P).map (Value.int .u8)) rfl HZw5.out ⟨wr.heap.size, 0, none⟩ 1 1 [.int .u8 (48 + ((m % 10 : Nat) : Int))] rfl rfl HNw5.out (fun u hu => by simp at hu; (first | (subst hu; rfl) | (rcases hu with hu | hu <;> (subst hu; rfl)))) (by decide) (by have := HPL.out; unfold maxLen; omega) (by have := HPL.out; omega) HSw5.out _ rfl ?_; intro gw5 capw5 w5 hr hg hat hlt2; have HPw5 := hide (bg_app (Z := [48 + ((m % 10 : Nat) : Int)]) HLB.out hr hg hat); clear hr hg hat hlt2 HZw5 HSw5 HNw5))
        obtain ⟨P5, hQw5⟩ : ∃ P5, (P) ++ [48 + ((m % 10 : Nat) : Int)] = P5 := ⟨_, rfl⟩
        have HQw5 := hide hQw5.symm
        rw [hQw5] at HPw5
        rw [show (P).length + 1 = P5.length from by rw [← hQw5]; simp only [List.length_append, List.length_cons, List.length_nil]]
        clear hQw5
        have HP5 := hide (HLG.out.trans HPw5.out)
        have HE5 := hide (show P5 = P ++ [48 + ((m % 10 : Nat) : Int)] from HQw5.out)
        clear HPw5 HQw5 HLB HLG HBSL
        by_cases hm10 : 10 ≤ m
        · have HL5 := hide (show P5 ++ lowD (m / 10) = lowD n0 by rw [HE5.out, ← HL.out, lowD_big hm10, List.append_assoc]; rfl)
          have hz : (Int.tdiv x 10 == 0) = false := by rw [beq_eq_false_iff_ne]; omega
          have HMS := hide (show (Int.tdiv x 10).natAbs < x.natAbs from by rcases hdv.1 with z | z <;> rw [z] <;> omega)
          clear HL
          go_wp2
          go_roundw
          case rel => exact ⟨m / 10, P5, _, _, _, rfl, hdv.1, by omega, rfl, HL5, HP5.out⟩
          case measure => simp only [intOf]; exact HMS.out
        · have HL5 := hide (show P5 = lowD n0 by rw [HE5.out, ← HL.out, lowD_one hm10, show m % 10 = m by omega])
          have hz : (Int.tdiv x 10 == 0) = true := by rw [beq_iff_eq]; omega
          clear HL
          have HD4 := hide (show BG w B v0 w5 (.slice a1 X1.length c1) X1 from HB1.out.side HP5.out.ex (fun j z => by
            have e : L0 = j := Option.some.inj z
            subst e
            exact ⟨HLT.out.2, fun y => by have := HDA.out L0 y; omega⟩))
          have HLE := hide HP5.out.bb
          have HAP := hide (show ∀ k, Value.ownBlock (.slice a1 X1.length c1) = some k → gw5 ≠ k from fun k z e => by
            subst e
            have h1 := HDA.out gw5 z
            rcases HP5.out.own gw5 rfl with y | y
            · have : L0 = gw5 := Option.some.inj y
              omega
            · have := HLT.out.1; omega)
          have HGL := hide (HP5.out.bb.lt gw5 rfl).2
          rw [HL5.out] at HLE
          have hzl : (lowD n0).length ≤ 20 := HZL.out
          have hz1 := lowD_len n0
          have HRV := hide (show X1 ++ (lowD n0).reverse = Y from HQ.out)
          rw [HL5.out]
          clear HP5 HL5 HE5 HB1 HQ HLW
          generalize lowD n0 = Z at *
          clear hm10 hdv e1 e3 e4 hdb hdn hxm hm hd HPL
          have hwl : IntKind.i64.wrap ((Z.length : Int) - 1) = (Z.length : Int) - 1 := by rw [IntKind.wrap_i64]; omega
          go_wp2
          go_loopw [0, 7] (fun s0 s7 wx => ∃ (i : Nat) (Q : List Int) (a2 : Option Addr) (c2 : Nat), i ≤ Z.length ∧ s7 = .int .i64 ((i : Int) - 1) ∧ s0 = .slice a2 Q.length c2 ∧ Hid (Q = X1 ++ (Z.drop i).reverse) ∧ BG w5 B (.slice a1 X1.length c1) wx (.slice a2 Q.length c2) Q) (fun _ s7 _ => (intOf s7 + 1).toNat)
          case atStart => exact ⟨Z.length, X1, _, _, Nat.le_refl _, rfl, rfl, hide (by rw [List.drop_length]; simp), BG.refl HD4.out.bb⟩
          case round =>
            obtain ⟨i, Q, a2, c2, hi, rfl, rfl, HQE, hbg⟩ := hrel
            have HDG := hide hbg
            have HDB := hide hbg.bb
            have HBSD := hide (show B ≤ wr.heap.size from Nat.le_trans HBS0.out (Nat.le_trans HD4.out.ex.size hbg.ex.size))
            have HQL := hide (show Q.length ≤ 2000000 from by rw [HQE.out, List.length_append, List.length_reverse, List.length_drop]; have := HXL1.out; omega)
            have HLW := hide (HLE.out.keep hbg.ex (fun j z y => HAP.out j y (Option.some.inj z)))
            clear hbg
            cases i with
            | zero =>
              have h1 : decide ((0 : Int) ≤ ((0 : Nat) : Int) - 1) = false := by decide
              have HPO := hide (show ApPost w B v0 Y (.returned (.slice a2 Q.length c2)) wr from ⟨_, rfl, by rw [← HRV.out, show X1 ++ Z.reverse = Q by rw [HQE.out, List.drop_zero]]; exact HD4.out.trans HDG.out⟩)
              clear HDB HLW
              go_wp2
              exact bodyPost_ret (v := .slice a2 Q.length c2) (by simp [results, Try.results36, go_sem]) rfl HPO.out
            | succ i =>
              obtain ⟨x', hx⟩ : ∃ x, Z[i]? = some x := ⟨_, List.getElem?_eq_getElem (by omega)⟩
              obtain ⟨g7, k7, e7, hc7, -⟩ := row_cell HLW.out (i := i) (u := .int .u8 x') (by rw [List.getElem?_map, hx]; rfl)
              cases e7
              have HDR := hide (show (Z.drop i).reverse = (Z.drop (i + 1)).reverse ++ [x'] by
                rw [List.drop_eq_getElem_cons (show i < Z.length by omega), List.reverse_cons]
                rw [List.getElem?_eq_getElem (show i < Z.length by omega)] at hx
                cases hx
                rfl)
              rw [show (((i + 1 : Nat) : Int) - 1) = (i : Int) by omega]
              have h1 : decide ((0 : Int) ≤ (i : Int)) = true := by simp
              have h2 : decide ((i : Int) < 0) = false := by simp
              have h3 : (i : Int) < (Z.length : Int) := by omega
              have h4 : IntKind.i64.wrap ((i : Int) - 1) = (i : Int) - 1 := by rw [IntKind.wrap_i64]; omega
              clear hx HLW
              have HZw6 := hide (show BB (wr.alloc (.cells #[.int .u8 (x')] 5)) B (.slice a2 Q.length c2) (Q) from BB.below HDB.out (be1 wr _))
              have HSw6 := hide (show B ≤ (wr.alloc (.cells #[.int .u8 (x')] 5)).heap.size from Nat.le_trans HBSD.out (be1 wr _).size)
              have HNw6 := hide (show ∀ (j : Nat) (u : Value), ([.int .u8 (x')] : List Value)[j]? = some u → (wr.alloc (.cells #[.int .u8 (x')] 5)).cell? ((⟨wr.heap.size, 0, none⟩ : Addr).add j) = some u from fun j u hj => new_cells wr [.int .u8 (x')] 5 j u hj)
              go_upto_region 12 with (at_builtin; go_loud (refine wpList_append_lies _ rfl (.tmp 37) (.tmp 42) 26 rfl B 5 i0 _ 1 1 Try.underlying26 HI.out.1 HI.out.2.1 HI.out.2.2.1 HI.out.2.2.2 rfl (by decide) (.slice a2 Q.length c2) (Q).length ((Q).map (Value.int .u8)) rfl HZw6.out ⟨wr.heap.size, 0, none⟩ 1 1 [.int .u8 (x')] rfl rfl HNw6.out (fun u hu => by simp at hu; (first | (subst hu; rfl) | (rcases hu with hu | hu <;> (subst hu; rfl)))) (by decide) (by have := HQL.out; unfold maxLen; omega) (by have := HQL.out; omega) HSw6.out _ rfl ?_; intro gw6 capw6 w6 hr hg hat hlt2; have HPw6 := hide (bg_app (Z := [x']) HDB.out hr hg hat); clear hr hg hat hlt2 HZw6 HSw6 HNw6))
              obtain ⟨Q6, hQw6⟩ : ∃ Q6, (Q) ++ [x'] = Q6 := ⟨_, rfl⟩
              have HQw6 := hide hQw6.symm
              rw [hQw6] at HPw6
              rw [show (Q).length + 1 = Q6.length from by rw [← hQw6]; simp only [List.length_append, List.length_cons, List.length_nil]]
              clear hQw6
              have HG6 := hide (HDG.out.trans HPw6.out)
              have HQ6 := hide (show Q6 = X1 ++ (Z.drop i).reverse by rw [HQw6.out, HQE.out, HDR.out, List.append_assoc])
              clear HDG HDB HPw6 HQw6 HQE HDR
              go_wp2
              go_roundw
              case rel => exact ⟨i, Q6, _, _, by omega, rfl, rfl, HQ6, HG6.out⟩
              case measure => simp [intOf]
  · have hnb : decide (n < 0) = false := by simpa using hneg
    have HQ := hide (show X ++ (lowD n.natAbs).reverse = Y by rw [← HY.out]; unfold decI; rw [if_neg hneg, List.nil_append])
    go_upto_region 3 with fail
    have HXL1 := hide (show X.length ≤ 1000001 from by have := HXL.out; omega)
    have HBG := HBB0
    obtain ⟨n0, hn0⟩ : ∃ n0 : Nat, n.natAbs = n0 := ⟨_, rfl⟩
    rw [hn0] at HQ
    have hn1 : n = (n0 : Int) ∨ n = -(n0 : Int) := by omega
    clear hnb hneg HBB HBB0 HXL HY HBS hn0
    go_upto_region 4 with fail
    have HLW := hide (show BB (w.alloc (.cells #[] 5)) w.heap.size (.slice (some ⟨w.heap.size, 0, none⟩) 0 0) [] from World.ownsRow_made (base := w.heap.size) (e := 5) (size := 1) w #[] 0 (Nat.le_refl _) (by decide) rfl)
    have HB1 := hide (HBG.out.below (be1 w (.cells #[] 5)))
    have HDA := hide (show ∀ k, Value.ownBlock (.slice a X.length c) = some k → k < w.heap.size from fun k z => (HBG.out.bb.lt k z).2)
    have HLT := hide (show w.heap.size < (w.alloc (.cells #[] 5)).heap.size ∧ w.heap.size ≤ w.heap.size from ⟨by simp, HBG.out.ex.size⟩)
    clear HBG
    generalize w.alloc (.cells #[] 5) = w3 at *
    obtain ⟨L0, hL0⟩ : ∃ L0, w.heap.size = L0 := ⟨_, rfl⟩
    rw [hL0] at HLW HDA ⊢
    replace HLT := hide (show L0 < w3.heap.size ∧ w.heap.size ≤ L0 from by have := HLT.out; omega)
    clear hL0
    have HZL := hide (show (lowD n0).length ≤ 20 from lowD_le 19 n0 (by omega))
    go_wp2
    go_loopw [1, 5, 6] (fun s1 s5 _ wx => ∃ (m : Nat) (P : List Int) (a2 : Option Addr) (c2 : Nat) (x : Int), s1 = .int .i64 x ∧ (x = (m : Int) ∨ x = -(m : Int)) ∧ m ≤ 9223372036854775808 ∧ s5 = .slice a2 P.length c2 ∧ Hid (P ++ lowD m = lowD n0) ∧ BG w3 L0 (.slice (some ⟨L0, 0, none⟩) 0 0) wx (.slice a2 P.length c2) P) (fun s1 _ _ _ => (intOf s1).natAbs)
    case atStart => exact ⟨n0, [], _, _, n, rfl, hn1, by omega, rfl, hide rfl, BG.refl HLW.out⟩
    case round =>
      obtain ⟨m, P, a2, c2, x, rfl, hxm, hm, rfl, HL, hbg⟩ := hrel
      have HLG := hide hbg
      have HLB := hide hbg.bb
      have HBSL := hide (show L0 ≤ wr.heap.size from by have := hbg.ex.size; have := HLT.out; omega)
      have HPL := hide (show P.length ≤ 20 from by have h1 := congrArg List.length HL.out; rw [List.length_append] at h1; have := HZL.out; omega)
      clear hbg
      have hdv := tdiv10 x m hxm
      have e1 : IntKind.i64.wrap (Int.tmod x 10) = Int.tmod x 10 := by rw [IntKind.wrap_i64]; omega
      have e2 : IntKind.i64.wrap (Int.tdiv x 10) = Int.tdiv x 10 := by rw [IntKind.wrap_i64]; omega
      have e3 : IntKind.i64.wrap (48 + ((m % 10 : Nat) : Int)) = 48 + ((m % 10 : Nat) : Int) := by rw [IntKind.wrap_i64]; omega
      have e4 : IntKind.u8.wrap (48 + ((m % 10 : Nat) : Int)) = 48 + ((m % 10 : Nat) : Int) := by rw [IntKind.wrap_u8]; omega
      by_cases hd : Int.tmod x 10 < 0
      · have hdb : decide (Int.tmod x 10 < 0) = true := by simpa using hd
        have hdn : -(Int.tmod x 10) = ((m % 10 : Nat) : Int) := by omega
        have e5 : IntKind.i64.wrap (-(Int.tmod x 10)) = ((m % 10 : Nat) : Int) := by rw [IntKind.wrap_i64]; omega
        have HZw5 := hide (show BB (wr.alloc (.cells #[.int .u8 (48 + ((m % 10 : Nat) : Int))] 5)) L0 (.slice a2 P.length c2) (P) from BB.below HLB.out (be1 wr _))
        have HSw5 := hide (show L0 ≤ (wr.alloc (.cells #[.int .u8 (48 + ((m % 10 : Nat) : Int))] 5)).heap.size from Nat.le_trans HBSL.out (be1 wr _).size)
        have HNw5 := hide (show ∀ (j : Nat) (u : Value), ([.int .u8 (48 + ((m % 10 : Nat) : Int))] : List Value)[j]? = some u → (wr.alloc (.cells #[.int .u8 (48 + ((m % 10 : Nat) : Int))] 5)).cell? ((⟨wr.heap.size, 0, none⟩ : Addr).add j) = some u from fun j u hj => new_cells wr [.int .u8 (48 + ((m % 10 : Nat) : Int))] 5 j u hj)
        go_upto_region 8 with (at_builtin; go_loud (refine wpList_append_lies _ rfl (.tmp 20) (.tmp 24) 26 rfl L0 5 i0 _ 1 1 Try.underlying26 HI.out.1 HI.out.2.1 HI.out.2.2.1 HI.out.2.2.2 rfl (by decide) (.slice a2 P.length c2) (P).length ((P).map (Value.int .u8)) rfl HZw5.out ⟨wr.heap.size, 0, none⟩ 1 1 [.int .u8 (48 + ((m % 10 : Nat) : Int))] rfl rfl HNw5.out (fun u hu => by simp at hu; (first | (subst hu; rfl) | (rcases hu with hu | hu <;> (subst hu; rfl)))) (by decide) (by have := HPL.out; unfold maxLen; omega) (by have := HPL.out; omega) HSw5.out _ rfl ?_; intro gw5 capw5 w5 hr hg hat hlt2; have HPw5 := hide (bg_app (Z := [48 + ((m % 10 : Nat) : Int)]) HLB.out hr hg hat); clear hr hg hat hlt2 HZw5 HSw5 HNw5))
        obtain ⟨P5, hQw5⟩ : ∃ P5, (P) ++ [48 + ((m % 10 : Nat) : Int)] = P5 := ⟨_, rfl⟩
        have HQw5 := hide hQw5.symm
        rw [hQw5] at HPw5
        rw [show (P).length + 1 = P5.length from by rw [← hQw5]; simp only [List.length_append, List.length_cons, List.length_nil]]
        clear hQw5
        have HP5 := hide (HLG.out.trans HPw5.out)
        have HE5 := hide (show P5 = P ++ [48 + ((m % 10 : Nat) : Int)] from HQw5.out)
        clear HPw5 HQw5 HLB HLG HBSL
        by_cases hm10 : 10 ≤ m
        · have HL5 := hide (show P5 ++ lowD (m / 10) = lowD n0 by rw [HE5.out, ← HL.out, lowD_big hm10, List.append_assoc]; rfl)
          have hz : (Int.tdiv x 10 == 0) = false := by rw [beq_eq_false_iff_ne]; omega
          have HMS := hide (show (Int.tdiv x 10).natAbs < x.natAbs from by rcases hdv.1 with z | z <;> rw [z] <;> omega)
          clear HL
          go_wp2
          go_roundw
          case rel => exact ⟨m / 10, P5, _, _, _, rfl, hdv.1, by omega, rfl, HL5, HP5.out⟩
          case measure => simp only [intOf]; exact HMS.out
        · have HL5 := hide (show P5 = lowD n0 by rw [HE5.out, ← HL.out, lowD_one hm10, show m % 10 = m by omega])
          have hz : (Int.tdiv x 10 == 0) = true := by rw [beq_iff_eq]; omega
          clear HL
          have HD4 := hide (show BG w B v0 w5 (.slice a X.length c) X from HB1.out.side HP5.out.ex (fun j z => by
            have e : L0 = j := Option.some.inj z
            subst e
            exact ⟨HLT.out.2, fun y => by have := HDA.out L0 y; omega⟩))
          have HLE := hide HP5.out.bb
          have HAP := hide (show ∀ k, Value.ownBlock (.slice a X.length c) = some k → gw5 ≠ k from fun k z e => by
            subst e
            have h1 := HDA.out gw5 z
            rcases HP5.out.own gw5 rfl with y | y
            · have : L0 = gw5 := Option.some.inj y
              omega
            · have := HLT.out.1; omega)
          have HGL := hide (HP5.out.bb.lt gw5 rfl).2
          rw [HL5.out] at HLE
          have hzl : (lowD n0).length ≤ 20 := HZL.out
          have hz1 := lowD_len n0
          have HRV := hide (show X ++ (lowD n0).reverse = Y from HQ.out)
          rw [HL5.out]
          clear HP5 HL5 HE5 HB1 HQ HLW
          generalize lowD n0 = Z at *
          clear hm10 hdv e1 e3 e4 hdb hdn hxm hm hd HPL
          have hwl : IntKind.i64.wrap ((Z.length : Int) - 1) = (Z.length : Int) - 1 := by rw [IntKind.wrap_i64]; omega
          go_wp2
          go_loopw [0, 7] (fun s0 s7 wx => ∃ (i : Nat) (Q : List Int) (a2 : Option Addr) (c2 : Nat), i ≤ Z.length ∧ s7 = .int .i64 ((i : Int) - 1) ∧ s0 = .slice a2 Q.length c2 ∧ Hid (Q = X ++ (Z.drop i).reverse) ∧ BG w5 B (.slice a X.length c) wx (.slice a2 Q.length c2) Q) (fun _ s7 _ => (intOf s7 + 1).toNat)
          case atStart => exact ⟨Z.length, X, _, _, Nat.le_refl _, rfl, rfl, hide (by rw [List.drop_length]; simp), BG.refl HD4.out.bb⟩
          case round =>
            obtain ⟨i, Q, a2, c2, hi, rfl, rfl, HQE, hbg⟩ := hrel
            have HDG := hide hbg
            have HDB := hide hbg.bb
            have HBSD := hide (show B ≤ wr.heap.size from Nat.le_trans HBS0.out (Nat.le_trans HD4.out.ex.size hbg.ex.size))
            have HQL := hide (show Q.length ≤ 2000000 from by rw [HQE.out, List.length_append, List.length_reverse, List.length_drop]; have := HXL1.out; omega)
            have HLW := hide (HLE.out.keep hbg.ex (fun j z y => HAP.out j y (Option.some.inj z)))
            clear hbg
            cases i with
            | zero =>
              have h1 : decide ((0 : Int) ≤ ((0 : Nat) : Int) - 1) = false := by decide
              have HPO := hide (show ApPost w B v0 Y (.returned (.slice a2 Q.length c2)) wr from ⟨_, rfl, by rw [← HRV.out, show X ++ Z.reverse = Q by rw [HQE.out, List.drop_zero]]; exact HD4.out.trans HDG.out⟩)
              clear HDB HLW
              go_wp2
              exact bodyPost_ret (v := .slice a2 Q.length c2) (by simp [results, Try.results36, go_sem]) rfl HPO.out
            | succ i =>
              obtain ⟨x', hx⟩ : ∃ x, Z[i]? = some x := ⟨_, List.getElem?_eq_getElem (by omega)⟩
              obtain ⟨g7, k7, e7, hc7, -⟩ := row_cell HLW.out (i := i) (u := .int .u8 x') (by rw [List.getElem?_map, hx]; rfl)
              cases e7
              have HDR := hide (show (Z.drop i).reverse = (Z.drop (i + 1)).reverse ++ [x'] by
                rw [List.drop_eq_getElem_cons (show i < Z.length by omega), List.reverse_cons]
                rw [List.getElem?_eq_getElem (show i < Z.length by omega)] at hx
                cases hx
                rfl)
              rw [show (((i + 1 : Nat) : Int) - 1) = (i : Int) by omega]
              have h1 : decide ((0 : Int) ≤ (i : Int)) = true := by simp
              have h2 : decide ((i : Int) < 0) = false := by simp
              have h3 : (i : Int) < (Z.length : Int) := by omega
              have h4 : IntKind.i64.wrap ((i : Int) - 1) = (i : Int) - 1 := by rw [IntKind.wrap_i64]; omega
              clear hx HLW
              have HZw6 := hide (show BB (wr.alloc (.cells #[.int .u8 (x')] 5)) B (.slice a2 Q.length c2) (Q) from BB.below HDB.out (be1 wr _))
              have HSw6 := hide (show B ≤ (wr.alloc (.cells #[.int .u8 (x')] 5)).heap.size from Nat.le_trans HBSD.out (be1 wr _).size)
              have HNw6 := hide (show ∀ (j : Nat) (u : Value), ([.int .u8 (x')] : List Value)[j]? = some u → (wr.alloc (.cells #[.int .u8 (x')] 5)).cell? ((⟨wr.heap.size, 0, none⟩ : Addr).add j) = some u from fun j u hj => new_cells wr [.int .u8 (x')] 5 j u hj)
              go_upto_region 12 with (at_builtin; go_loud (refine wpList_append_lies _ rfl (.tmp 37) (.tmp 42) 26 rfl B 5 i0 _ 1 1 Try.underlying26 HI.out.1 HI.out.2.1 HI.out.2.2.1 HI.out.2.2.2 rfl (by decide) (.slice a2 Q.length c2) (Q).length ((Q).map (Value.int .u8)) rfl HZw6.out ⟨wr.heap.size, 0, none⟩ 1 1 [.int .u8 (x')] rfl rfl HNw6.out (fun u hu => by simp at hu; (first | (subst hu; rfl) | (rcases hu with hu | hu <;> (subst hu; rfl)))) (by decide) (by have := HQL.out; unfold maxLen; omega) (by have := HQL.out; omega) HSw6.out _ rfl ?_; intro gw6 capw6 w6 hr hg hat hlt2; have HPw6 := hide (bg_app (Z := [x']) HDB.out hr hg hat); clear hr hg hat hlt2 HZw6 HSw6 HNw6))
              obtain ⟨Q6, hQw6⟩ : ∃ Q6, (Q) ++ [x'] = Q6 := ⟨_, rfl⟩
              have HQw6 := hide hQw6.symm
              rw [hQw6] at HPw6
              rw [show (Q).length + 1 = Q6.length from by rw [← hQw6]; simp only [List.length_append, List.length_cons, List.length_nil]]
              clear hQw6
              have HG6 := hide (HDG.out.trans HPw6.out)
              have HQ6 := hide (show Q6 = X ++ (Z.drop i).reverse by rw [HQw6.out, HQE.out, HDR.out, List.append_assoc])
              clear HDG HDB HPw6 HQw6 HQE HDR
              go_wp2
              go_roundw
              case rel => exact ⟨i, Q6, _, _, by omega, rfl, rfl, HQ6, HG6.out⟩
              case measure => simp [intOf]
      · have hdb : decide (Int.tmod x 10 < 0) = false := by simpa using hd
        have hdn : Int.tmod x 10 = ((m % 10 : Nat) : Int) := by omega
        have HZw5 := hide (show BB (wr.alloc (.cells #[.int .u8 (48 + ((m % 10 : Nat) : Int))] 5)) L0 (.slice a2 P.length c2) (P) from BB.below HLB.out (be1 wr _))
        have HSw5 := hide (show L0 ≤ (wr.alloc (.cells #[.int .u8 (48 + ((m % 10 : Nat) : Int))] 5)).heap.size from Nat.le_trans HBSL.out (be1 wr _).size)
        have HNw5 := hide (show ∀ (j : Nat) (u : Value), ([.int .u8 (48 + ((m % 10 : Nat) : Int))] : List Value)[j]? = some u → (wr.alloc (.cells #[.int .u8 (48 + ((m % 10 : Nat) : Int))] 5)).cell? ((⟨wr.heap.size, 0, none⟩ : Addr).add j) = some u from fun j u hj => new_cells wr [.int .u8 (48 + ((m % 10 : Nat) : Int))] 5 j u hj)
        go_upto_region 8 with (at_builtin; go_loud (refine wpList_append_lies _ rfl (.tmp 20) (.tmp 24) 26 rfl L0 5 i0 _ 1 1 Try.underlying26 HI.out.1 HI.out.2.1 HI.out.2.2.1 HI.out.2.2.2 rfl (by decide) (.slice a2 P.length c2) (P).length ((P).map (Value.int .u8)) rfl HZw5.out ⟨wr.heap.size, 0, none⟩ 1 1 [.int .u8 (48 + ((m % 10 : Nat) : Int))] rfl rfl HNw5.out (fun u hu => by simp at hu; (first | (subst hu; rfl) | (rcases hu with hu | hu <;> (subst hu; rfl)))) (by decide) (by have := HPL.out; unfold maxLen; omega) (by have := HPL.out; omega) HSw5.out _ rfl ?_; intro gw5 capw5 w5 hr hg hat hlt2; have HPw5 := hide (bg_app (Z := [48 + ((m % 10 : Nat) : Int)]) HLB.out hr hg hat); clear hr hg hat hlt2 HZw5 HSw5 HNw5))
        obtain ⟨P5, hQw5⟩ : ∃ P5, (P) ++ [48 + ((m % 10 : Nat) : Int)] = P5 := ⟨_, rfl⟩
        have HQw5 := hide hQw5.symm
        rw [hQw5] at HPw5
        rw [show (P).length + 1 = P5.length from by rw [← hQw5]; simp only [List.length_append, List.length_cons, List.length_nil]]
        clear hQw5
        have HP5 := hide (HLG.out.trans HPw5.out)
        have HE5 := hide (show P5 = P ++ [48 + ((m % 10 : Nat) : Int)] from HQw5.out)
        clear HPw5 HQw5 HLB HLG HBSL
        by_cases hm10 : 10 ≤ m
        · have HL5 := hide (show P5 ++ lowD (m / 10) = lowD n0 by rw [HE5.out, ← HL.out, lowD_big hm10, List.append_assoc]; rfl)
          have hz : (Int.tdiv x 10 == 0) = false := by rw [beq_eq_false_iff_ne]; omega
          have HMS := hide (show (Int.tdiv x 10).natAbs < x.natAbs from by rcases hdv.1 with z | z <;> rw [z] <;> omega)
          clear HL
          go_wp2
          go_roundw
          case rel => exact ⟨m / 10, P5, _, _, _, rfl, hdv.1, by omega, rfl, HL5, HP5.out⟩
          case measure => simp only [intOf]; exact HMS.out
        · have HL5 := hide (show P5 = lowD n0 by rw [HE5.out, ← HL.out, lowD_one hm10, show m % 10 = m by omega])
          have hz : (Int.tdiv x 10 == 0) = true := by rw [beq_iff_eq]; omega
          clear HL
          have HD4 := hide (show BG w B v0 w5 (.slice a X.length c) X from HB1.out.side HP5.out.ex (fun j z => by
            have e : L0 = j := Option.some.inj z
            subst e
            exact ⟨HLT.out.2, fun y => by have := HDA.out L0 y; omega⟩))
          have HLE := hide HP5.out.bb
          have HAP := hide (show ∀ k, Value.ownBlock (.slice a X.length c) = some k → gw5 ≠ k from fun k z e => by
            subst e
            have h1 := HDA.out gw5 z
            rcases HP5.out.own gw5 rfl with y | y
            · have : L0 = gw5 := Option.some.inj y
              omega
            · have := HLT.out.1; omega)
          have HGL := hide (HP5.out.bb.lt gw5 rfl).2
          rw [HL5.out] at HLE
          have hzl : (lowD n0).length ≤ 20 := HZL.out
          have hz1 := lowD_len n0
          have HRV := hide (show X ++ (lowD n0).reverse = Y from HQ.out)
          rw [HL5.out]
          clear HP5 HL5 HE5 HB1 HQ HLW
          generalize lowD n0 = Z at *
          clear hm10 hdv e1 e3 e4 hdb hdn hxm hm hd HPL
          have hwl : IntKind.i64.wrap ((Z.length : Int) - 1) = (Z.length : Int) - 1 := by rw [IntKind.wrap_i64]; omega
          go_wp2
          go_loopw [0, 7] (fun s0 s7 wx => ∃ (i : Nat) (Q : List Int) (a2 : Option Addr) (c2 : Nat), i ≤ Z.length ∧ s7 = .int .i64 ((i : Int) - 1) ∧ s0 = .slice a2 Q.length c2 ∧ Hid (Q = X ++ (Z.drop i).reverse) ∧ BG w5 B (.slice a X.length c) wx (.slice a2 Q.length c2) Q) (fun _ s7 _ => (intOf s7 + 1).toNat)
          case atStart => exact ⟨Z.length, X, _, _, Nat.le_refl _, rfl, rfl, hide (by rw [List.drop_length]; simp), BG.refl HD4.out.bb⟩
          case round =>
            obtain ⟨i, Q, a2, c2, hi, rfl, rfl, HQE, hbg⟩ := hrel
            have HDG := hide hbg
            have HDB := hide hbg.bb
            have HBSD := hide (show B ≤ wr.heap.size from Nat.le_trans HBS0.out (Nat.le_trans HD4.out.ex.size hbg.ex.size))
            have HQL := hide (show Q.length ≤ 2000000 from by rw [HQE.out, List.length_append, List.length_reverse, List.length_drop]; have := HXL1.out; omega)
            have HLW := hide (HLE.out.keep hbg.ex (fun j z y => HAP.out j y (Option.some.inj z)))
            clear hbg
            cases i with
            | zero =>
              have h1 : decide ((0 : Int) ≤ ((0 : Nat) : Int) - 1) = false := by decide
              have HPO := hide (show ApPost w B v0 Y (.returned (.slice a2 Q.length c2)) wr from ⟨_, rfl, by rw [← HRV.out, show X ++ Z.reverse = Q by rw [HQE.out, List.drop_zero]]; exact HD4.out.trans HDG.out⟩)
              clear HDB HLW
              go_wp2
              exact bodyPost_ret (v := .slice a2 Q.length c2) (by simp [results, Try.results36, go_sem]) rfl HPO.out
            | succ i =>
              obtain ⟨x', hx⟩ : ∃ x, Z[i]? = some x := ⟨_, List.getElem?_eq_getElem (by omega)⟩
              obtain ⟨g7, k7, e7, hc7, -⟩ := row_cell HLW.out (i := i) (u := .int .u8 x') (by rw [List.getElem?_map, hx]; rfl)
              cases e7
              have HDR := hide (show (Z.drop i).reverse = (Z.drop (i + 1)).reverse ++ [x'] by
                rw [List.drop_eq_getElem_cons (show i < Z.length by omega), List.reverse_cons]
                rw [List.getElem?_eq_getElem (show i < Z.length by omega)] at hx
                cases hx
                rfl)
              rw [show (((i + 1 : Nat) : Int) - 1) = (i : Int) by omega]
              have h1 : decide ((0 : Int) ≤ (i : Int)) = true := by simp
              have h2 : decide ((i : Int) < 0) = false := by simp
              have h3 : (i : Int) < (Z.length : Int) := by omega
              have h4 : IntKind.i64.wrap ((i : Int) - 1) = (i : Int) - 1 := by rw [IntKind.wrap_i64]; omega
              clear hx HLW
              have HZw6 := hide (show BB (wr.alloc (.cells #[.int .u8 (x')] 5)) B (.slice a2 Q.length c2) (Q) from BB.below HDB.out (be1 wr _))
              have HSw6 := hide (show B ≤ (wr.alloc (.cells #[.int .u8 (x')] 5)).heap.size from Nat.le_trans HBSD.out (be1 wr _).size)
              have HNw6 := hide (show ∀ (j : Nat) (u : Value), ([.int .u8 (x')] : List Value)[j]? = some u → (wr.alloc (.cells #[.int .u8 (x')] 5)).cell? ((⟨wr.heap.size, 0, none⟩ : Addr).add j) = some u from fun j u hj => new_cells wr [.int .u8 (x')] 5 j u hj)
              go_upto_region 12 with (at_builtin; go_loud (refine wpList_append_lies _ rfl (.tmp 37) (.tmp 42) 26 rfl B 5 i0 _ 1 1 Try.underlying26 HI.out.1 HI.out.2.1 HI.out.2.2.1 HI.out.2.2.2 rfl (by decide) (.slice a2 Q.length c2) (Q).length ((Q).map (Value.int .u8)) rfl HZw6.out ⟨wr.heap.size, 0, none⟩ 1 1 [.int .u8 (x')] rfl rfl HNw6.out (fun u hu => by simp at hu; (first | (subst hu; rfl) | (rcases hu with hu | hu <;> (subst hu; rfl)))) (by decide) (by have := HQL.out; unfold maxLen; omega) (by have := HQL.out; omega) HSw6.out _ rfl ?_; intro gw6 capw6 w6 hr hg hat hlt2; have HPw6 := hide (bg_app (Z := [x']) HDB.out hr hg hat); clear hr hg hat hlt2 HZw6 HSw6 HNw6))
              obtain ⟨Q6, hQw6⟩ : ∃ Q6, (Q) ++ [x'] = Q6 := ⟨_, rfl⟩
              have HQw6 := hide hQw6.symm
              rw [hQw6] at HPw6
              rw [show (Q).length + 1 = Q6.length from by rw [← hQw6]; simp only [List.length_append, List.length_cons, List.length_nil]]
              clear hQw6
              have HG6 := hide (HDG.out.trans HPw6.out)
              have HQ6 := hide (show Q6 = X ++ (Z.drop i).reverse by rw [HQw6.out, HQE.out, HDR.out, List.append_assoc])
              clear HDG HDB HPw6 HQw6 HQE HDR
              go_wp2
              go_roundw
              case rel => exact ⟨i, Q6, _, _, by omega, rfl, rfl, HQ6, HG6.out⟩
              case measure => simp [intOf]
end Go.Proofs.Qxb6500773a
