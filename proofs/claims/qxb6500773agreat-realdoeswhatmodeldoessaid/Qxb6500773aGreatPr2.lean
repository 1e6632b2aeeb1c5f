import Derived.Test.Qxb6500773aGreatPr1
import Derived.Deep.CutBlock
namespace Go.Proofs.Qxb6500773aGreat
set_option maxRecDepth 100000
open Go.RowKit

/-- Decimal digits, the lowest first. -/
def lowD (n : Nat) : List Int := if _h : 10 ≤ n then (48 + ((n % 10 : Nat) : Int)) :: lowD (n / 10) else [48 + (n : Int)]
termination_by n
decreasing_by omega
theorem lowD_big {n : Nat} (h : 10 ≤ n) : lowD n = (48 + ((n % 10 : Nat) : Int)) :: lowD (n / 10) := by rw [lowD, dif_pos h]
theorem lowD_one {n : Nat} (h : ¬ 10 ≤ n) : lowD n = [48 + (n : Int)] := by rw [lowD, dif_neg h]
theorem lowD_len (n : Nat) : 1 ≤ (lowD n).length := by
  by_cases h : 10 ≤ n
  · rw [lowD_big h]; simp
  · rw [lowD_one h]; simp
/-- The decimal text of a number. -/
def decI (n : Int) : List Int := (if n < 0 then [45] else []) ++ (lowD n.natAbs).reverse
/-- The list Z after m exchanges. -/
def swp (Z : List Int) (m : Nat) : List Int := (List.range Z.length).map fun t => if t < m ∨ Z.length ≤ t + m then Z.getD (Z.length - 1 - t) 0 else Z.getD t 0
theorem swp_len (Z : List Int) (m : Nat) : (swp Z m).length = Z.length := by simp [swp]
theorem swp_get (Z : List Int) (m : Nat) {t : Nat} (h : t < Z.length) : (swp Z m)[t]? = some (if t < m ∨ Z.length ≤ t + m then Z.getD (Z.length - 1 - t) 0 else Z.getD t 0) := by
  unfold swp
  rw [List.getElem?_map, List.getElem?_range h]
  rfl
theorem swp_zero (Z : List Int) : swp Z 0 = Z := by
  apply List.ext_getElem?
  intro t
  by_cases h : t < Z.length
  · rw [swp_get Z 0 h, if_neg (by omega), List.getD_eq_getElem?_getD, List.getElem?_eq_getElem h]
    rfl
  · rw [List.getElem?_eq_none (by rw [swp_len]; omega), List.getElem?_eq_none (by omega)]
theorem swp_end (Z : List Int) (m : Nat) (h : Z.length ≤ 2 * m + 1) : swp Z m = Z.reverse := by
  apply List.ext_getElem?
  intro t
  by_cases ht : t < Z.length
  · rw [swp_get Z m ht, List.getElem?_reverse ht, List.getElem?_eq_getElem (by omega)]
    by_cases h1 : t < m ∨ Z.length ≤ t + m
    · rw [if_pos h1, List.getD_eq_getElem?_getD, List.getElem?_eq_getElem (by omega)]
      rfl
    · rw [if_neg h1, List.getD_eq_getElem?_getD, List.getElem?_eq_getElem ht]
      have : Z.length - 1 - t = t := by omega
      simp only [this]
      rfl
  · rw [List.getElem?_eq_none (by rw [swp_len]; omega), List.getElem?_eq_none (by simp; omega)]
theorem swp_step (X Z : List Int) (m : Nat) (h : 2 * m + 1 < Z.length) :
    ((X ++ swp Z m).set (X.length + m) (Z.getD (Z.length - 1 - m) 0)).set (X.length + (Z.length - 1 - m)) (Z.getD m 0) = X ++ swp Z (m + 1) := by
  rw [List.set_append_right _ _ (by omega), List.set_append_right _ _ (by omega)]
  congr 1
  rw [show X.length + m - X.length = m by omega, show X.length + (Z.length - 1 - m) - X.length = Z.length - 1 - m by omega]
  apply List.ext_getElem?
  intro t
  by_cases ht : t < Z.length
  · rw [swp_get Z (m + 1) ht]
    rw [List.getElem?_set]
    by_cases e1 : Z.length - 1 - m = t
    · rw [if_pos e1, if_pos (by rw [List.length_set, swp_len]; omega), if_pos (by omega)]
      rw [show Z.length - 1 - t = m by omega]
    · rw [if_neg e1, List.getElem?_set]
      by_cases e2 : m = t
      · rw [if_pos e2, if_pos (by rw [swp_len]; omega), if_pos (by omega), e2]
      · rw [if_neg e2, swp_get Z m ht]
        by_cases e3 : t < m ∨ Z.length ≤ t + m
        · rw [if_pos e3, if_pos (by omega)]
        · rw [if_neg e3, if_neg (by omega)]
  · rw [List.getElem?_eq_none (by rw [List.length_set, List.length_set, swp_len]; omega), List.getElem?_eq_none (by rw [swp_len]; omega)]
theorem swp_at (X Z : List Int) (m : Nat) (h : 2 * m + 1 < Z.length) : ((X ++ swp Z m).map (Value.int .u8))[X.length + m]? = some (.int .u8 (Z.getD m 0)) ∧ ((X ++ swp Z m).map (Value.int .u8))[X.length + (Z.length - 1 - m)]? = some (.int .u8 (Z.getD (Z.length - 1 - m) 0)) := by
  rw [List.getElem?_map, List.getElem?_map, List.getElem?_append_right (by omega), List.getElem?_append_right (by omega), show X.length + m - X.length = m by omega, show X.length + (Z.length - 1 - m) - X.length = Z.length - 1 - m by omega, swp_get Z m (by omega), swp_get Z m (by omega), if_neg (by omega), if_neg (by omega)]
  exact ⟨rfl, rfl⟩
/-- Two cells of a buffer exchanged. -/
theorem bb_swap {w : World} {B g c : Nat} {X Z : List Int} {m : Nat} (h : BB w B (.slice (some ⟨g, 0, none⟩) (X ++ swp Z m).length c) (X ++ swp Z m)) (hm : 2 * m + 1 < Z.length) :
    BB ((w.setCell ⟨g, X.length + m, none⟩ (.int .u8 (Z.getD (Z.length - 1 - m) 0))).setCell ⟨g, X.length + (Z.length - 1 - m), none⟩ (.int .u8 (Z.getD m 0))) B (.slice (some ⟨g, 0, none⟩) (X ++ swp Z (m + 1)).length c) (X ++ swp Z (m + 1)) ∧ Ex (fun k => k = g) w ((w.setCell ⟨g, X.length + m, none⟩ (.int .u8 (Z.getD (Z.length - 1 - m) 0))).setCell ⟨g, X.length + (Z.length - 1 - m), none⟩ (.int .u8 (Z.getD m 0))) := by
  refine ⟨?_, ((Ex.refl (fun k => k = g) w).set (p := g) rfl _).set (p := g) rfl _⟩
  have h1 := (World.ownsRow.stored h (X.length + m) (.int .u8 (Z.getD (Z.length - 1 - m) 0))).1
  have h2 := (World.ownsRow.stored h1 (X.length + (Z.length - 1 - m)) (.int .u8 (Z.getD m 0))).1
  unfold BB
  rw [← swp_step X Z m hm, List.map_set, List.map_set, List.length_set, List.length_set]
  exact h2
set_option linter.unusedSimpArgs false in
set_option maxRecDepth 100000 in
set_option maxHeartbeats 4000000 in
/-- cnf.appendInt -/
theorem appendInt_any (w : World) (B : Nat) (v : Value) (X : List Int) (n : Int) (h : BB w B v X) (hB : B ≤ w.heap.size) (hX : X.length ≤ 1000000000) (hn : -1000000000 ≤ n ∧ n ≤ 1000000000) :
    Calls Tryz.prog 112 #[v, .int .i64 n] w (ApPost w B v (X ++ decI n)) := by
  obtain ⟨i0, hi0, hz0, hz1, hz2⟩ := info_of Tryz.info5
  have HI := hide (And.intro hi0 (And.intro hz0 (And.intro hz1 hz2)))
  clear hi0 hz0 hz1 hz2
  have HBB := hide h
  suffices H : ∀ v0, v0 = v → Calls Tryz.prog 112 #[v, .int .i64 n] w (ApPost w B v0 (X ++ decI n)) from H v rfl
  intro v0 hv0
  have HBB0 := hide (show BG w B v0 w v X from by rw [hv0]; exact BG.refl h)
  clear hv0
  have HBS := hide hB
  have HXL := hide hX
  obtain ⟨Y, hY⟩ : ∃ Y, X ++ decI n = Y := ⟨_, rfl⟩
  rw [hY]
  have HY := hide hY
  clear hY
  obtain ⟨a, c, rfl⟩ := own_form h
  have HBS0 := hide hB
  clear h hB hX
  go_enter Tryz.func112, Tryz.ntmps112
  by_cases hneg : n < 0
  · have hnb : decide (n < 0) = true := by simpa using hneg
    have hwn : IntKind.i64.wrap (-n) = -n := by rw [IntKind.wrap_i64]; omega
    have HZw2 := hide (show BB (w.alloc (.cells #[.int .u8 45] 5)) B (.slice a X.length c) (X) from BB.below HBB.out (be1 w _))
    have HSw2 := hide (show B ≤ (w.alloc (.cells #[.int .u8 45] 5)).heap.size from Nat.le_trans HBS.out (be1 w _).size)
    have HNw2 := hide (show ∀ (j : Nat) (u : Value), ([.int .u8 45] : List Value)[j]? = some u → (w.alloc (.cells #[.int .u8 45] 5)).cell? ((⟨w.heap.size, 0, none⟩ : Addr).add j) = some u from fun j u hj => new_cells w [.int .u8 45] 5 j u hj)
    go_upto_region 3 with (at_builtin; go_loud (refine wpList_append_lies _ rfl (.tmp 10) (.tmp 11) 35 rfl B 5 i0 _ 1 1 Tryz.underlying35 HI.out.1 HI.out.2.1 HI.out.2.2.1 HI.out.2.2.2 rfl (by decide) (.slice a X.length c) (X).length ((X).map (Value.int .u8)) rfl HZw2.out ⟨w.heap.size, 0, none⟩ 1 1 [.int .u8 45] rfl rfl HNw2.out (fun u hu => by simp at hu; (first | (subst hu; rfl) | (rcases hu with hu | hu <;> (subst hu; rfl)))) (by decide) (by have := HXL.out; unfold maxLen; omega) (by have := HXL.out; omega) HSw2.out _ rfl ?_; intro gw2 capw2 w2 hr hg hat hlt2; have HPw2 := hide (bg_app (Z := [45]) HBB.out hr hg hat); clear hr hg hat hlt2 HZw2 HSw2 HNw2))
    obtain ⟨X1, hQw2⟩ : ∃ X1, (X) ++ [45] = X1 := ⟨_, rfl⟩
    have HQw2 := hide hQw2.symm
    rw [hQw2] at HPw2
    rw [show (X).length + 1 = X1.length from by rw [← hQw2]; simp only [List.length_append, List.length_cons, List.length_nil]]
    clear hQw2
    go_upto_region 4 with fail
    have HQ := hide (show X1 ++ (lowD n.natAbs).reverse = Y by rw [← HY.out, HQw2.out]; unfold decI; rw [if_pos hneg, List.append_assoc])
    have HBG := hide (HBB0.out.trans HPw2.out)
    have HXL1 := hide (show X1.length ≤ 1000000001 from by have := HXL.out; rw [HQw2.out]; simp only [List.length_append, List.length_cons, List.length_nil]; omega)
    obtain ⟨n0, hn0⟩ : ∃ n0 : Nat, -n = n0 := ⟨n.natAbs, by omega⟩
    rw [show n.natAbs = n0 by omega] at HQ
    rw [hn0] at hwn ⊢
    have hn1 : n0 ≤ 1000000000 := by omega
    clear hnb hneg hn hn0 HPw2 HBB HBB0 HXL HY hwn HBS HQw2
    obtain ⟨a1, ha1⟩ : ∃ a1 : Option Addr, some (⟨gw2, 0, none⟩ : Addr) = a1 := ⟨_, rfl⟩
    rw [ha1] at HBG ⊢
    clear ha1
    generalize capw2 = c1 at *
    go_upto_block 0 with fail
    go_cut [0, 1] (fun s0 s1 wx => ∃ (a2 : Option Addr) (c2 : Nat) (Q P : List Int) (m : Nat), s0 = .slice a2 Q.length c2 ∧ s1 = .int .i64 m ∧ Hid (Q = X1 ++ P) ∧ m < 10 ∧ Hid (P ++ [48 + (m : Int)] = lowD n0) ∧ P.length ≤ 1000000000 ∧ BG w B v0 wx (.slice a2 Q.length c2) Q)
    case first =>
      go_wp2
      go_loopw [0, 1] (fun s0 s1 wx => ∃ (a2 : Option Addr) (c2 : Nat) (Q P : List Int) (m : Nat), s0 = .slice a2 Q.length c2 ∧ s1 = .int .i64 m ∧ Hid (Q = X1 ++ P) ∧ Hid (P ++ lowD m = lowD n0) ∧ P.length + m ≤ 1000000000 ∧ BG w B v0 wx (.slice a2 Q.length c2) Q) (fun _ s1 _ => (intOf s1).toNat)
      case atStart => exact ⟨a1, c1, X1, [], n0, rfl, rfl, hide (List.append_nil _).symm, hide rfl, by simpa using hn1, HBG.out⟩
      case round =>
        obtain ⟨a2, c2, Q, P, m, rfl, rfl, HQE, HL, hpm, hbg⟩ := hrel
        have HBG2 := hide hbg
        have HBS2 := hide (show B ≤ wr.heap.size from Nat.le_trans HBS0.out hbg.ex.size)
        have HXL2 := hide (show Q.length ≤ 2000000001 from by have := HXL1.out; rw [HQE.out]; simp only [List.length_append]; omega)
        have HPM := hide hpm
        clear hbg HBG HXL1
        by_cases hm : 10 ≤ m
        · have hmb : decide (10 ≤ (m : Int)) = true := by simp; omega
          have hr2 : Int.tmod (m : Int) 10 = ((m % 10 : Nat) : Int) := by rw [Int.tmod_eq_emod_of_nonneg (by omega)]; omega
          have hd2 : Int.tdiv (m : Int) 10 = ((m / 10 : Nat) : Int) := by rw [Int.tdiv_eq_ediv_of_nonneg (by omega)]; omega
          have hw1 : IntKind.i64.wrap ((m % 10 : Nat) : Int) = ((m % 10 : Nat) : Int) := by rw [IntKind.wrap_i64]; omega
          have hw2 : IntKind.i64.wrap (48 + ((m % 10 : Nat) : Int)) = 48 + ((m % 10 : Nat) : Int) := by rw [IntKind.wrap_i64]; omega
          have hw3 : IntKind.u8.wrap (48 + ((m % 10 : Nat) : Int)) = 48 + ((m % 10 : Nat) : Int) := by rw [IntKind.wrap_u8]; omega
          have hw4 : IntKind.i64.wrap ((m / 10 : Nat) : Int) = ((m / 10 : Nat) : Int) := by rw [IntKind.wrap_i64]; omega
          have HZw4 := hide (show BB (wr.alloc (.cells #[.int .u8 (48 + ((m % 10 : Nat) : Int))] 5)) B (.slice a2 Q.length c2) (Q) from BB.below HBG2.out.bb (be1 wr _))
          have HSw4 := hide (show B ≤ (wr.alloc (.cells #[.int .u8 (48 + ((m % 10 : Nat) : Int))] 5)).heap.size from Nat.le_trans HBS2.out (be1 wr _).size)
          have HNw4 := hide (show ∀ (j : Nat) (u : Value), ([.int .u8 (48 + ((m % 10 : Nat) : Int))] : List Value)[j]? = some u → (wr.alloc (.cells #[.int .u8 (48 + ((m % 10 : Nat) : Int))] 5)).cell? ((⟨wr.heap.size, 0, none⟩ : Addr).add j) = some u from fun j u hj => new_cells wr [.int .u8 (48 + ((m % 10 : Nat) : Int))] 5 j u hj)
          go_upto_region 7 with (at_builtin; go_loud (refine wpList_append_lies _ rfl (.tmp 19) (.tmp 24) 35 rfl B 5 i0 _ 1 1 Tryz.underlying35 HI.out.1 HI.out.2.1 HI.out.2.2.1 HI.out.2.2.2 rfl (by decide) (.slice a2 Q.length c2) (Q).length ((Q).map (Value.int .u8)) rfl HZw4.out ⟨wr.heap.size, 0, none⟩ 1 1 [.int .u8 (48 + ((m % 10 : Nat) : Int))] rfl rfl HNw4.out (fun u hu => by simp at hu; (first | (subst hu; rfl) | (rcases hu with hu | hu <;> (subst hu; rfl)))) (by decide) (by have := HXL2.out; unfold maxLen; omega) (by have := HXL2.out; omega) HSw4.out _ rfl ?_; intro gw4 capw4 w4 hr hg hat hlt2; have HPw4 := hide (bg_app (Z := [48 + ((m % 10 : Nat) : Int)]) HBG2.out.bb hr hg hat); clear hr hg hat hlt2 HZw4 HSw4 HNw4))
          obtain ⟨Q4, hQw4⟩ : ∃ Q4, (Q) ++ [48 + ((m % 10 : Nat) : Int)] = Q4 := ⟨_, rfl⟩
          have HQw4 := hide hQw4.symm
          rw [hQw4] at HPw4
          rw [show (Q).length + 1 = Q4.length from by rw [← hQw4]; simp only [List.length_append, List.length_cons, List.length_nil]]
          clear hQw4
          have HBG4 := hide (HBG2.out.trans HPw4.out)
          have HE4 := hide (show Q4 = X1 ++ (P ++ [48 + ((m % 10 : Nat) : Int)]) by rw [HQw4.out, HQE.out, List.append_assoc])
          have HL4 := hide (show P ++ [48 + ((m % 10 : Nat) : Int)] ++ lowD (m / 10) = lowD n0 by rw [← HL.out, lowD_big hm, List.append_assoc]; rfl)
          clear HBG2 HPw4 HQw4 HQE HL
          go_wp2
          go_roundw
          case rel => exact ⟨_, _, Q4, _, m / 10, rfl, rfl, HE4, HL4, by have := HPM.out; simp only [List.length_append, List.length_cons, List.length_nil]; omega, HBG4.out⟩
          case measure => simp [intOf]; omega
        · have hmb : decide (10 ≤ (m : Int)) = false := by simp; omega
          have HQ2 := hide (show P ++ [48 + (m : Int)] = lowD n0 by rw [← HL.out, lowD_one hm])
          go_wp2
          go_meet
          exact ⟨a2, c2, Q, P, m, rfl, rfl, HQE, by omega, HQ2, by have := HPM.out; omega, HBG2.out⟩
    obtain ⟨a2, c2, Q, P, m, rfl, rfl, HQE, hm, HL, hpl, hbg⟩ := hcut
    have HBG2 := hide hbg
    have HBS2 := hide (show B ≤ wc.heap.size from Nat.le_trans HBS0.out hbg.ex.size)
    have HXL2 := hide (show Q.length ≤ 2000000001 from by have := HXL1.out; rw [HQE.out]; simp only [List.length_append]; omega)
    have hw2 : IntKind.i64.wrap (48 + (m : Int)) = 48 + (m : Int) := by rw [IntKind.wrap_i64]; omega
    have hw3 : IntKind.u8.wrap (48 + (m : Int)) = 48 + (m : Int) := by rw [IntKind.wrap_u8]; omega
    clear hbg HBG
    have HZw4 := hide (show BB (wc.alloc (.cells #[.int .u8 (48 + (m : Int))] 5)) B (.slice a2 Q.length c2) (Q) from BB.below HBG2.out.bb (be1 wc _))
    have HSw4 := hide (show B ≤ (wc.alloc (.cells #[.int .u8 (48 + (m : Int))] 5)).heap.size from Nat.le_trans HBS2.out (be1 wc _).size)
    have HNw4 := hide (show ∀ (j : Nat) (u : Value), ([.int .u8 (48 + (m : Int))] : List Value)[j]? = some u → (wc.alloc (.cells #[.int .u8 (48 + (m : Int))] 5)).cell? ((⟨wc.heap.size, 0, none⟩ : Addr).add j) = some u from fun j u hj => new_cells wc [.int .u8 (48 + (m : Int))] 5 j u hj)
    go_upto_region 9 with (at_builtin; go_loud (refine wpList_append_lies _ rfl (.tmp 28) (.tmp 32) 35 rfl B 5 i0 _ 1 1 Tryz.underlying35 HI.out.1 HI.out.2.1 HI.out.2.2.1 HI.out.2.2.2 rfl (by decide) (.slice a2 Q.length c2) (Q).length ((Q).map (Value.int .u8)) rfl HZw4.out ⟨wc.heap.size, 0, none⟩ 1 1 [.int .u8 (48 + (m : Int))] rfl rfl HNw4.out (fun u hu => by simp at hu; (first | (subst hu; rfl) | (rcases hu with hu | hu <;> (subst hu; rfl)))) (by decide) (by have := HXL2.out; unfold maxLen; omega) (by have := HXL2.out; omega) HSw4.out _ rfl ?_; intro gw4 capw4 w4 hr hg hat hlt2; have HPw4 := hide (bg_app (Z := [48 + (m : Int)]) HBG2.out.bb hr hg hat); clear hr hg hat hlt2 HZw4 HSw4 HNw4))
    obtain ⟨Q4, hQw4⟩ : ∃ Q4, (Q) ++ [48 + (m : Int)] = Q4 := ⟨_, rfl⟩
    have HQw4 := hide hQw4.symm
    rw [hQw4] at HPw4
    rw [show (Q).length + 1 = Q4.length from by rw [← hQw4]; simp only [List.length_append, List.length_cons, List.length_nil]]
    clear hQw4
    have HBG4 := hide (HBG2.out.trans HPw4.out)
    have HZ := hide (show Q4 = X1 ++ swp (lowD n0) 0 by rw [swp_zero, ← HL.out, HQw4.out, HQE.out, List.append_assoc])
    have HZR := hide (fun k => swp_end (lowD n0) k)
    have hd1 := lowD_len n0
    have HSA := hide (swp_at X1 (lowD n0))
    have HSW := hide (fun (w' : World) (m : Nat) => @bb_swap w' B gw4 capw4 X1 (lowD n0) m)
    have HZL := hide (show Q4.length = X1.length + (lowD n0).length by rw [HZ.out, List.length_append, swp_len])
    have HSL := hide (show ∀ m, (X1 ++ swp (lowD n0) m).length = X1.length + (lowD n0).length from fun m => by rw [List.length_append, swp_len])
    have hZb : X1.length + (lowD n0).length ≤ 2000000002 := by have := HXL2.out; rw [← HZL.out, HQw4.out, List.length_append]; simp only [List.length_cons, List.length_nil]; omega
    rw [HZ.out] at HBG4
    rw [HSL.out 0] at HBG4
    rw [HZL.out]
    clear HZL HZ HL HQw4 HQE HPw4 HBG2 HXL2 HBS2 hw2 hw3 hm hpl HXL1
    generalize lowD n0 = Z at *
    obtain ⟨st, hst⟩ : ∃ st, X1.length = st := ⟨_, rfl⟩
    rw [hst] at HBG4 HSA HSW HSL hZb ⊢
    clear hst
    have hwl : IntKind.i64.wrap (((st + Z.length : Nat) : Int) - 1) = ((st + Z.length : Nat) : Int) - 1 := by rw [IntKind.wrap_i64]; omega
    obtain ⟨N, hN⟩ : ∃ N, st + Z.length = N := ⟨_, rfl⟩
    rw [hN] at HBG4 hwl HSL hZb ⊢
    go_wp2
    go_loopw [6, 7] (fun s6 s7 wx => ∃ m : Nat, 2 * m ≤ Z.length ∧ s6 = .int .i64 ((st + m : Nat) : Int) ∧ s7 = .int .i64 ((N : Int) - 1 - m) ∧ BG w B v0 wx (.slice (some ⟨gw4, 0, none⟩) N capw4) (X1 ++ swp Z m)) (fun s6 s7 _ => (intOf s7 - intOf s6 + 1).toNat)
    case atStart => exact ⟨0, by omega, by simp, by simp, HBG4.out⟩
    case round =>
      clear HBG4 hwl
      obtain ⟨m, hm, rfl, rfl, hbg⟩ := hrel
      have HBGm := hide hbg
      clear hbg
      by_cases hlt : 2 * m + 1 < Z.length
      · obtain ⟨jj, hjj⟩ : ∃ jj : Nat, st + (Z.length - 1 - m) = jj := ⟨_, rfl⟩
        obtain ⟨ii, hii⟩ : ∃ ii : Nat, st + m = ii := ⟨_, rfl⟩
        have hSA := HSA.out m hlt
        have hSW := HSW.out wr m
        rw [hjj, hii] at hSA hSW
        have hb : wr.ownsRow B 5 1 (.slice (some ⟨gw4, 0, none⟩) N capw4) N ((X1 ++ swp Z m).map (Value.int .u8)) := by
          have z := HBGm.out.bb
          unfold BB at z
          rw [HSL.out m] at z
          exact z
        have hc1 : wr.cell? ⟨gw4, ii, none⟩ = some (.int .u8 (Z.getD m 0)) := (World.ownsRow.cellAt hb ii (by omega)).trans hSA.1
        have hc2 : wr.cell? ⟨gw4, jj, none⟩ = some (.int .u8 (Z.getD (Z.length - 1 - m) 0)) := (World.ownsRow.cellAt hb jj (by omega)).trans hSA.2
        have hfz : ∀ j, wr.frozen? ⟨gw4, j, none⟩ = false := fun j => World.ownsRow.frozenAt hb j
        have HW2 := hide (hSW (by rw [HSL.out m]; exact HBGm.out.bb) hlt)
        rw [HSL.out (m + 1)] at HW2
        have HLT := hide hlt
        have HII := hide hii
        rw [hii]
        rw [show (N : Int) - 1 - m = (jj : Int) by omega]
        have h1 : decide ((ii : Int) < (jj : Int)) = true := by simp; omega
        have h1n : decide (ii < jj) = true := by simp; omega
        have h1m : ii < jj := by omega
        have h2 : decide ((ii : Int) < 0) = false := by simp
        have h3 : decide ((jj : Int) < 0) = false := by simp
        have h4 : (ii : Int) < (N : Int) := by omega
        have h5 : (jj : Int) < (N : Int) := by omega
        have h6 : IntKind.i64.wrap ((ii : Int) + 1) = (ii : Int) + 1 := by rw [IntKind.wrap_i64]; omega
        have h7 : IntKind.i64.wrap ((jj : Int) - 1) = (jj : Int) - 1 := by rw [IntKind.wrap_i64]; omega
        have HJJ := hide (show (jj : Int) = (N : Int) - 1 - m by omega)
        clear hSA hSW hb hjj hii hlt
        generalize Z.getD m 0 = zi at *
        generalize Z.getD (Z.length - 1 - m) 0 = zj at *
        go_upto_region 12 with fail
        go_region
        all_goals
          have HBG5 := hide (BG.drew (show BG w B v0 ((wr.setCell ⟨gw4, ii, none⟩ (.int .u8 zj)).setCell ⟨gw4, jj, none⟩ (.int .u8 zi)) (.slice (some ⟨gw4, 0, none⟩) N capw4) (X1 ++ swp Z (m + 1)) from ⟨HW2.out.1, HBGm.out.ex.trans2 HW2.out.2 (fun j e => HBGm.out.own j (by rw [e]; rfl)), HBGm.out.own⟩))
          clear HW2 HBGm hc1 hc2 hfz
          generalize World.drew _ = w5 at *
          go_wp2
          go_roundw
          case rel => exact ⟨m + 1, by have := HLT.out; omega, by have := HII.out; rw [← this]; simp; omega, by have := HJJ.out; rw [this]; simp; omega, HBG5.out⟩
          case measure => simp [intOf]; have := HLT.out; have := HII.out; have := HJJ.out; omega
      · have hltb : decide (((st + m : Nat) : Int) < (N : Int) - 1 - m) = false := by simp; omega
        have HPO := hide (show ApPost w B v0 Y (.returned (.slice (some ⟨gw4, 0, none⟩) N capw4)) wr from ⟨_, rfl, by rw [← HQ.out, ← HZR.out m (by omega)]; exact HBGm.out⟩)
        go_wp2
        exact bodyPost_ret (v := .slice (some ⟨gw4, 0, none⟩) N capw4) (by simp [results, Tryz.results112, go_sem]) rfl HPO.out
  · have hnb : decide (n < 0) = false := by simpa using hneg
    have HQ := hide (show X ++ (lowD n.natAbs).reverse = Y by rw [← HY.out]; unfold decI; rw [if_neg hneg, List.nil_append])
    go_upto_region 4 with fail
    have HXL1 := hide (show X.length ≤ 1000000001 from by have := HXL.out; omega)
    have HBG := HBB0
    obtain ⟨n0, hn0⟩ : ∃ n0 : Nat, n = n0 := ⟨n.natAbs, by omega⟩
    rw [show n.natAbs = n0 by omega] at HQ
    rw [hn0]
    have hn1 : n0 ≤ 1000000000 := by omega
    clear hnb hneg hn hn0 HBB HBB0 HXL HY HBS
    go_upto_block 0 with fail
    go_cut [0, 1] (fun s0 s1 wx => ∃ (a2 : Option Addr) (c2 : Nat) (Q P : List Int) (m : Nat), s0 = .slice a2 Q.length c2 ∧ s1 = .int .i64 m ∧ Hid (Q = X ++ P) ∧ m < 10 ∧ Hid (P ++ [48 + (m : Int)] = lowD n0) ∧ P.length ≤ 1000000000 ∧ BG w B v0 wx (.slice a2 Q.length c2) Q)
    case first =>
      go_wp2
      go_loopw [0, 1] (fun s0 s1 wx => ∃ (a2 : Option Addr) (c2 : Nat) (Q P : List Int) (m : Nat), s0 = .slice a2 Q.length c2 ∧ s1 = .int .i64 m ∧ Hid (Q = X ++ P) ∧ Hid (P ++ lowD m = lowD n0) ∧ P.length + m ≤ 1000000000 ∧ BG w B v0 wx (.slice a2 Q.length c2) Q) (fun _ s1 _ => (intOf s1).toNat)
      case atStart => exact ⟨a, c, X, [], n0, rfl, rfl, hide (List.append_nil _).symm, hide rfl, by simpa using hn1, HBG.out⟩
      case round =>
        obtain ⟨a2, c2, Q, P, m, rfl, rfl, HQE, HL, hpm, hbg⟩ := hrel
        have HBG2 := hide hbg
        have HBS2 := hide (show B ≤ wr.heap.size from Nat.le_trans HBS0.out hbg.ex.size)
        have HXL2 := hide (show Q.length ≤ 2000000001 from by have := HXL1.out; rw [HQE.out]; simp only [List.length_append]; omega)
        have HPM := hide hpm
        clear hbg HBG HXL1
        by_cases hm : 10 ≤ m
        · have hmb : decide (10 ≤ (m : Int)) = true := by simp; omega
          have hr2 : Int.tmod (m : Int) 10 = ((m % 10 : Nat) : Int) := by rw [Int.tmod_eq_emod_of_nonneg (by omega)]; omega
          have hd2 : Int.tdiv (m : Int) 10 = ((m / 10 : Nat) : Int) := by rw [Int.tdiv_eq_ediv_of_nonneg (by omega)]; omega
          have hw1 : IntKind.i64.wrap ((m % 10 : Nat) : Int) = ((m % 10 : Nat) : Int) := by rw [IntKind.wrap_i64]; omega
          have hw2 : IntKind.i64.wrap (48 + ((m % 10 : Nat) : Int)) = 48 + ((m % 10 : Nat) : Int) := by rw [IntKind.wrap_i64]; omega
          have hw3 : IntKind.u8.wrap (48 + ((m % 10 : Nat) : Int)) = 48 + ((m % 10 : Nat) : Int) := by rw [IntKind.wrap_u8]; omega
          have hw4 : IntKind.i64.wrap ((m / 10 : Nat) : Int) = ((m / 10 : Nat) : Int) := by rw [IntKind.wrap_i64]; omega
          have HZw4 := hide (show BB (wr.alloc (.cells #[.int .u8 (48 + ((m % 10 : Nat) : Int))] 5)) B (.slice a2 Q.length c2) (Q) from BB.below HBG2.out.bb (be1 wr _))
          have HSw4 := hide (show B ≤ (wr.alloc (.cells #[.int .u8 (48 + ((m % 10 : Nat) : Int))] 5)).heap.size from Nat.le_trans HBS2.out (be1 wr _).size)
          have HNw4 := hide (show ∀ (j : Nat) (u : Value), ([.int .u8 (48 + ((m % 10 : Nat) : Int))] : List Value)[j]? = some u → (wr.alloc (.cells #[.int .u8 (48 + ((m % 10 : Nat) : Int))] 5)).cell? ((⟨wr.heap.size, 0, none⟩ : Addr).add j) = some u from fun j u hj => new_cells wr [.int .u8 (48 + ((m % 10 : Nat) : Int))] 5 j u hj)
          go_upto_region 7 with (at_builtin; go_loud (refine wpList_append_lies _ rfl (.tmp 19) (.tmp 24) 35 rfl B 5 i0 _ 1 1 Tryz.underlying35 HI.out.1 HI.out.2.1 HI.out.2.2.1 HI.out.2.2.2 rfl (by decide) (.slice a2 Q.length c2) (Q).length ((Q).map (Value.int .u8)) rfl HZw4.out ⟨wr.heap.size, 0, none⟩ 1 1 [.int .u8 (48 + ((m % 10 : Nat) : Int))] rfl rfl HNw4.out (fun u hu => by simp at hu; (first | (subst hu; rfl) | (rcases hu with hu | hu <;> (subst hu; rfl)))) (by decide) (by have := HXL2.out; unfold maxLen; omega) (by have := HXL2.out; omega) HSw4.out _ rfl ?_; intro gw4 capw4 w4 hr hg hat hlt2; have HPw4 := hide (bg_app (Z := [48 + ((m % 10 : Nat) : Int)]) HBG2.out.bb hr hg hat); clear hr hg hat hlt2 HZw4 HSw4 HNw4))
          obtain ⟨Q4, hQw4⟩ : ∃ Q4, (Q) ++ [48 + ((m % 10 : Nat) : Int)] = Q4 := ⟨_, rfl⟩
          have HQw4 := hide hQw4.symm
          rw [hQw4] at HPw4
          rw [show (Q).length + 1 = Q4.length from by rw [← hQw4]; simp only [List.length_append, List.length_cons, List.length_nil]]
          clear hQw4
          have HBG4 := hide (HBG2.out.trans HPw4.out)
          have HE4 := hide (show Q4 = X ++ (P ++ [48 + ((m % 10 : Nat) : Int)]) by rw [HQw4.out, HQE.out, List.append_assoc])
          have HL4 := hide (show P ++ [48 + ((m % 10 : Nat) : Int)] ++ lowD (m / 10) = lowD n0 by rw [← HL.out, lowD_big hm, List.append_assoc]; rfl)
          clear HBG2 HPw4 HQw4 HQE HL
          go_wp2
          go_roundw
          case rel => exact ⟨_, _, Q4, _, m / 10, rfl, rfl, HE4, HL4, by have := HPM.out; simp only [List.length_append, List.length_cons, List.length_nil]; omega, HBG4.out⟩
          case measure => simp [intOf]; omega
        · have hmb : decide (10 ≤ (m : Int)) = false := by simp; omega
          have HQ2 := hide (show P ++ [48 + (m : Int)] = lowD n0 by rw [← HL.out, lowD_one hm])
          go_wp2
          go_meet
          exact ⟨a2, c2, Q, P, m, rfl, rfl, HQE, by omega, HQ2, by have := HPM.out; omega, HBG2.out⟩
    obtain ⟨a2, c2, Q, P, m, rfl, rfl, HQE, hm, HL, hpl, hbg⟩ := hcut
    have HBG2 := hide hbg
    have HBS2 := hide (show B ≤ wc.heap.size from Nat.le_trans HBS0.out hbg.ex.size)
    have HXL2 := hide (show Q.length ≤ 2000000001 from by have := HXL1.out; rw [HQE.out]; simp only [List.length_append]; omega)
    have hw2 : IntKind.i64.wrap (48 + (m : Int)) = 48 + (m : Int) := by rw [IntKind.wrap_i64]; omega
    have hw3 : IntKind.u8.wrap (48 + (m : Int)) = 48 + (m : Int) := by rw [IntKind.wrap_u8]; omega
    clear hbg HBG
    have HZw4 := hide (show BB (wc.alloc (.cells #[.int .u8 (48 + (m : Int))] 5)) B (.slice a2 Q.length c2) (Q) from BB.below HBG2.out.bb (be1 wc _))
    have HSw4 := hide (show B ≤ (wc.alloc (.cells #[.int .u8 (48 + (m : Int))] 5)).heap.size from Nat.le_trans HBS2.out (be1 wc _).size)
    have HNw4 := hide (show ∀ (j : Nat) (u : Value), ([.int .u8 (48 + (m : Int))] : List Value)[j]? = some u → (wc.alloc (.cells #[.int .u8 (48 + (m : Int))] 5)).cell? ((⟨wc.heap.size, 0, none⟩ : Addr).add j) = some u from fun j u hj => new_cells wc [.int .u8 (48 + (m : Int))] 5 j u hj)
    go_upto_region 9 with (at_builtin; go_loud (refine wpList_append_lies _ rfl (.tmp 28) (.tmp 32) 35 rfl B 5 i0 _ 1 1 Tryz.underlying35 HI.out.1 HI.out.2.1 HI.out.2.2.1 HI.out.2.2.2 rfl (by decide) (.slice a2 Q.length c2) (Q).length ((Q).map (Value.int .u8)) rfl HZw4.out ⟨wc.heap.size, 0, none⟩ 1 1 [.int .u8 (48 + (m : Int))] rfl rfl HNw4.out (fun u hu => by simp at hu; (first | (subst hu; rfl) | (rcases hu with hu | hu <;> (subst hu; rfl)))) (by decide) (by have := HXL2.out; unfold maxLen; omega) (by have := HXL2.out; omega) HSw4.out _ rfl ?_; intro gw4 capw4 w4 hr hg hat hlt2; have HPw4 := hide (bg_app (Z := [48 + (m : Int)]) HBG2.out.bb hr hg hat); clear hr hg hat hlt2 HZw4 HSw4 HNw4))
    obtain ⟨Q4, hQw4⟩ : ∃ Q4, (Q) ++ [48 + (m : Int)] = Q4 := ⟨_, rfl⟩
    have HQw4 := hide hQw4.symm
    rw [hQw4] at HPw4
    rw [show (Q).length + 1 = Q4.length from by rw [← hQw4]; simp only [List.length_append, List.length_cons, List.length_nil]]
    clear hQw4
    have HBG4 := hide (HBG2.out.trans HPw4.out)
    have HZ := hide (show Q4 = X ++ swp (lowD n0) 0 by rw [swp_zero, ← HL.out, HQw4.out, HQE.out, List.append_assoc])
    have HZR := hide (fun k => swp_end (lowD n0) k)
    have hd1 := lowD_len n0
    have HSA := hide (swp_at X (lowD n0))
    have HSW := hide (fun (w' : World) (m : Nat) => @bb_swap w' B gw4 capw4 X (lowD n0) m)
    have HZL := hide (show Q4.length = X.length + (lowD n0).length by rw [HZ.out, List.length_append, swp_len])
    have HSL := hide (show ∀ m, (X ++ swp (lowD n0) m).length = X.length + (lowD n0).length from fun m => by rw [List.length_append, swp_len])
    have hZb : X.length + (lowD n0).length ≤ 2000000002 := by have := HXL2.out; rw [← HZL.out, HQw4.out, List.length_append]; simp only [List.length_cons, List.length_nil]; omega
    rw [HZ.out] at HBG4
    rw [HSL.out 0] at HBG4
    rw [HZL.out]
    clear HZL HZ HL HQw4 HQE HPw4 HBG2 HXL2 HBS2 hw2 hw3 hm hpl HXL1
    generalize lowD n0 = Z at *
    obtain ⟨st, hst⟩ : ∃ st, X.length = st := ⟨_, rfl⟩
    rw [hst] at HBG4 HSA HSW HSL hZb ⊢
    clear hst
    have hwl : IntKind.i64.wrap (((st + Z.length : Nat) : Int) - 1) = ((st + Z.length : Nat) : Int) - 1 := by rw [IntKind.wrap_i64]; omega
    obtain ⟨N, hN⟩ : ∃ N, st + Z.length = N := ⟨_, rfl⟩
    rw [hN] at HBG4 hwl HSL hZb ⊢
    go_wp2
    go_loopw [6, 7] (fun s6 s7 wx => ∃ m : Nat, 2 * m ≤ Z.length ∧ s6 = .int .i64 ((st + m : Nat) : Int) ∧ s7 = .int .i64 ((N : Int) - 1 - m) ∧ BG w B v0 wx (.slice (some ⟨gw4, 0, none⟩) N capw4) (X ++ swp Z m)) (fun s6 s7 _ => (intOf s7 - intOf s6 + 1).toNat)
    case atStart => exact ⟨0, by omega, by simp, by simp, HBG4.out⟩
    case round =>
      clear HBG4 hwl
      obtain ⟨m, hm, rfl, rfl, hbg⟩ := hrel
      have HBGm := hide hbg
      clear hbg
      by_cases hlt : 2 * m + 1 < Z.length
      · obtain ⟨jj, hjj⟩ : ∃ jj : Nat, st + (Z.length - 1 - m) = jj := ⟨_, rfl⟩
        obtain ⟨ii, hii⟩ : ∃ ii : Nat, st + m = ii := ⟨_, rfl⟩
        have hSA := HSA.out m hlt
        have hSW := HSW.out wr m
        rw [hjj, hii] at hSA hSW
        have hb : wr.ownsRow B 5 1 (.slice (some ⟨gw4, 0, none⟩) N capw4) N ((X ++ swp Z m).map (Value.int .u8)) := by
          have z := HBGm.out.bb
          unfold BB at z
          rw [HSL.out m] at z
          exact z
        have hc : wr.cell? ⟨gw4, ii, none⟩ = some (.int .u8 (Z.getD m 0)) := (World.ownsRow.cellAt hb ii (by omega)).trans hSA.1
        have hc2 : wr.cell? ⟨gw4, jj, none⟩ = some (.int .u8 (Z.getD (Z.length - 1 - m) 0)) := (World.ownsRow.cellAt hb jj (by omega)).trans hSA.2
        have hfz : ∀ j, wr.frozen? ⟨gw4, j, none⟩ = false := fun j => World.ownsRow.frozenAt hb j
        have HW2 := hide (hSW (by rw [HSL.out m]; exact HBGm.out.bb) hlt)
        rw [HSL.out (m + 1)] at HW2
        have HLT := hide hlt
        have HII := hide hii
        rw [hii]
        rw [show (N : Int) - 1 - m = (jj : Int) by omega]
        have h1 : decide ((ii : Int) < (jj : Int)) = true := by simp; omega
        have h1n : decide (ii < jj) = true := by simp; omega
        have h1m : ii < jj := by omega
        have h2 : decide ((ii : Int) < 0) = false := by simp
        have h3 : decide ((jj : Int) < 0) = false := by simp
        have h4 : (ii : Int) < (N : Int) := by omega
        have h5 : (jj : Int) < (N : Int) := by omega
        have h6 : IntKind.i64.wrap ((ii : Int) + 1) = (ii : Int) + 1 := by rw [IntKind.wrap_i64]; omega
        have h7 : IntKind.i64.wrap ((jj : Int) - 1) = (jj : Int) - 1 := by rw [IntKind.wrap_i64]; omega
        have HJJ := hide (show (jj : Int) = (N : Int) - 1 - m by omega)
        clear hSA hSW hb hjj hii hlt
        generalize Z.getD m 0 = zi at *
        generalize Z.getD (Z.length - 1 - m) 0 = zj at *
        go_upto_region 12 with fail
        go_region
        all_goals
          have HBG5 := hide (BG.drew (show BG w B v0 ((wr.setCell ⟨gw4, ii, none⟩ (.int .u8 zj)).setCell ⟨gw4, jj, none⟩ (.int .u8 zi)) (.slice (some ⟨gw4, 0, none⟩) N capw4) (X ++ swp Z (m + 1)) from ⟨HW2.out.1, HBGm.out.ex.trans2 HW2.out.2 (fun j e => HBGm.out.own j (by rw [e]; rfl)), HBGm.out.own⟩))
          clear HW2 HBGm hc hc2 hfz
          generalize World.drew _ = w5 at *
          go_wp2
          go_roundw
          case rel => exact ⟨m + 1, by have := HLT.out; omega, by have := HII.out; rw [← this]; simp; omega, by have := HJJ.out; rw [this]; simp; omega, HBG5.out⟩
          case measure => simp [intOf]; have := HLT.out; have := HII.out; have := HJJ.out; omega
      · have hltb : decide (((st + m : Nat) : Int) < (N : Int) - 1 - m) = false := by simp; omega
        have HPO := hide (show ApPost w B v0 Y (.returned (.slice (some ⟨gw4, 0, none⟩) N capw4)) wr from ⟨_, rfl, by rw [← HQ.out, ← HZR.out m (by omega)]; exact HBGm.out⟩)
        go_wp2
        exact bodyPost_ret (v := .slice (some ⟨gw4, 0, none⟩) N capw4) (by simp [results, Tryz.results112, go_sem]) rfl HPO.out
end Go.Proofs.Qxb6500773aGreat
