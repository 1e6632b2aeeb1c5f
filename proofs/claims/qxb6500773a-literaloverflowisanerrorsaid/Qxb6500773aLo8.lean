import Derived.Test.Qxb6500773aLo7
import Derived.Deep.CutBlock
namespace Go.Proofs.Qxb6500773a
open Go.RowKit

theorem bg_app0 {w w2 : World} {B : Nat} {v : Value} {X : List Int} (_h : BB w B v X) {n g cap : Nat} {Z : List Int} {V : List Value} (hr : w2.ownsRow B 5 1 (.slice (some ⟨g, 0, none⟩) n cap) n (X.map (Value.int .u8) ++ V)) (hg : w.grownBy w2 v.ownBlock) (hat : v.ownBlock = some g ∨ g = w.heap.size) (hV : V = Z.map (Value.int .u8)) (hn : n = (X ++ Z).length) :
    BG w B v w2 (.slice (some ⟨g, 0, none⟩) (X ++ Z).length cap) (X ++ Z) := by
  subst hV
  subst hn
  refine ⟨by unfold BB; rw [List.map_append]; exact hr, Ex.ofGrown hg (fun k z => z.symm), fun j z => ?_⟩
  cases z
  exact hat.imp id (fun z => by rw [z]; exact Nat.le_refl _)
/-- A new buffer out of bytes. -/
theorem bb_lit (w : World) (Z : List Int) (hz : Z.length ≤ 100) : BB (w.alloc (.cells (Z.map (Value.int .u8)).toArray 5)) w.heap.size (.slice (some ⟨w.heap.size, 0, none⟩) Z.length Z.length) Z := by
  have h := World.ownsRow_lit (base := w.heap.size) (e := 5) (size := 1) w (Z.map (Value.int .u8)).toArray Z.length (Nat.le_refl _) (by unfold maxLen; omega) (by simp)
  unfold BB
  simpa using h
/-- A buffer that began new is a new text. -/
theorem pr_of {w w1 w2 : World} {g0 n0 c0 : Nat} {v : Value} {T : List Int} (hb : Below w.heap.size w w1) (hg : w.heap.size ≤ g0) (h : BG w1 w.heap.size (.slice (some ⟨g0, 0, none⟩) n0 c0) w2 v T) : ∃ a c, v = .slice a T.length c ∧ PrPost w T (.returned v) w2 := by
  obtain ⟨a, c, rfl⟩ := own_form h.bb
  exact ⟨a, c, rfl, a, c, rfl, h.bb, hb.trans (h.ex.below hb.size (fun k hk z => by have e : g0 = k := Option.some.inj z; omega))⟩
set_option linter.unusedSimpArgs false in
set_option maxRecDepth 100000 in
set_option maxHeartbeats 4000000 in
/-- cnflaw.oneStepText -/
theorem oneStepText_any (w : World) (B' : Nat) (gY cY : Nat) (Y : List Int) (h : BB w B' (.slice (some ⟨gY, 0, none⟩) Y.length cY) Y) (hne : 0 < Y.length) (hY : Y.length ≤ 200000) :
    Calls Try.prog 37 #[.slice (some ⟨gY, 0, none⟩) Y.length cY] w (PrPost w (Y ++ [32, 48, 10])) := by
  obtain ⟨i0, hi0, hz0, hz1, hz2⟩ := info_of Try.info5
  have HI := hide (And.intro hi0 (And.intro hz0 (And.intro hz1 hz2)))
  clear hi0 hz0 hz1 hz2
  have HYB := fun w' (k : Below w.heap.size w w') => hide (h.below k)
  have HNE := hide hne
  have HYL := hide hY
  clear h hne hY
  obtain ⟨T, hT⟩ : ∃ T, Y ++ [32, 48, 10] = T := ⟨_, rfl⟩
  rw [hT]
  have HT := hide hT
  clear hT
  go_enter Try.func37, Try.ntmps37
  have HB0 := hide (show BB (w.alloc (.cells #[] 5)) w.heap.size (.slice (some ⟨w.heap.size, 0, none⟩) 0 0) [] from World.ownsRow_made (base := w.heap.size) (e := 5) (size := 1) w #[] 0 (Nat.le_refl _) (by decide) rfl)
  have HBLw2 := hide (be1 w (.cells #[] 5))
  have HBS1 := hide HBLw2.out.size
  obtain ⟨X0, hX0⟩ : ∃ X0 : List Int, [] = X0 := ⟨_, rfl⟩
  have HE0 := hide hX0.symm
  have HXL0 := hide (show X0.length ≤ 100 by rw [← hX0]; simp)
  have hl0 : X0.length = 0 := by rw [← hX0]; rfl
  replace HB0 := hide (show BB (w.alloc (.cells #[] 5)) w.heap.size (.slice (some ⟨w.heap.size, 0, none⟩) 0 0) X0 from by rw [← hX0]; exact HB0.out)
  clear hX0
  have HNw2 := hide (show ∀ (j : Nat) (u : Value), (Y.map (Value.int .u8))[j]? = some u → (w.alloc (.cells #[] 5)).cell? ((⟨gY, 0, none⟩ : Addr).add j) = some u from fun j u hj => by
    obtain ⟨g9, c9, e9, hc9, -⟩ := row_cell (HYB (w.alloc (.cells #[] 5)) HBLw2.out).out hj
    cases e9
    rw [Addr.add_mid, Nat.zero_add]
    exact hc9)
  go_upto_region 2 with (at_builtin; go_loud (refine wpList_append_lies _ rfl (.tmp 4) (.tmp 5) 26 rfl w.heap.size 5 i0 _ 1 1 Try.underlying26 HI.out.1 HI.out.2.1 HI.out.2.2.1 HI.out.2.2.2 rfl (by decide) (.slice (some ⟨w.heap.size, 0, none⟩) 0 0) 0 ((X0).map (Value.int .u8)) rfl (by have z := HB0.out; unfold BB at z; rw [hl0] at z; exact z) ⟨gY, 0, none⟩ Y.length cY (Y.map (Value.int .u8)) rfl (by rw [List.length_map, Nat.mul_one]) HNw2.out (fun u hu => by obtain ⟨x, -, rfl⟩ := List.mem_map.1 hu; rfl) HNE.out (by have := HXL0.out; have := HYL.out; unfold maxLen; omega) (by have := HXL0.out; have := HYL.out; omega) HBS1.out _ rfl ?_; intro gw2 capw2 w2 hr hg hat hlt2; have HPw2 := hide (bg_app0 (Z := Y) HB0.out hr hg hat rfl (by rw [List.length_append, hl0])); clear hr hg hat hlt2 HNw2))
  rw [HE0.out, List.nil_append] at HPw2
  have HBBw2 := hide HPw2.out.bb
  have HBS2 := hide (Nat.le_trans HBS1.out HPw2.out.ex.size)
  clear HBS1 HB0 HXL0 hl0 HE0
  have HZw5 := hide (show BB (w2.alloc (.cells #[.int .u8 32, .int .u8 48, .int .u8 10] 5)) w.heap.size (.slice (some ⟨gw2, 0, none⟩) Y.length capw2) (Y) from BB.below HBBw2.out (be1 w2 _))
  have HSw5 := hide (show w.heap.size ≤ (w2.alloc (.cells #[.int .u8 32, .int .u8 48, .int .u8 10] 5)).heap.size from Nat.le_trans HBS2.out (be1 w2 _).size)
  have HNw5 := hide (show ∀ (j : Nat) (u : Value), ([.int .u8 32, .int .u8 48, .int .u8 10] : List Value)[j]? = some u → (w2.alloc (.cells #[.int .u8 32, .int .u8 48, .int .u8 10] 5)).cell? ((⟨w2.heap.size, 0, none⟩ : Addr).add j) = some u from fun j u hj => new_cells w2 [.int .u8 32, .int .u8 48, .int .u8 10] 5 j u hj)
  go_wp2_with (at_builtin; go_loud (refine wpList_append_lies _ rfl (.tmp 7) (.tmp 8) 26 rfl w.heap.size 5 i0 _ 1 1 Try.underlying26 HI.out.1 HI.out.2.1 HI.out.2.2.1 HI.out.2.2.2 rfl (by decide) (.slice (some ⟨gw2, 0, none⟩) Y.length capw2) (Y).length ((Y).map (Value.int .u8)) rfl HZw5.out ⟨w2.heap.size, 0, none⟩ 3 3 [.int .u8 32, .int .u8 48, .int .u8 10] rfl rfl HNw5.out (fun u hu => by simp at hu; (first | (subst hu; rfl) | (rcases hu with hu | hu | hu <;> (subst hu; rfl)))) (by decide) (by have := HYL.out; unfold maxLen; omega) (by have := HYL.out; omega) HSw5.out _ rfl ?_; intro gw5 capw5 w5 hr hg hat hlt2; have HPw5 := hide (bg_app (Z := [32, 48, 10]) HBBw2.out hr hg hat); clear hr hg hat hlt2 HZw5 HSw5 HNw5))
  obtain ⟨X5, hQw5⟩ : ∃ X5, (Y) ++ [32, 48, 10] = X5 := ⟨_, rfl⟩
  have HQw5 := hide hQw5.symm
  rw [hQw5] at HPw5
  rw [show (Y).length + 3 = X5.length from by rw [← hQw5]; simp only [List.length_append, List.length_cons, List.length_nil]]
  clear hQw5
  have HG5 := hide (HPw2.out.trans HPw5.out)
  rw [show X5 = T from by rw [HQw5.out]; exact HT.out] at HG5 ⊢
  obtain ⟨a9, c9, e9, hpo⟩ := pr_of HBLw2.out (Nat.le_refl _) HG5.out
  have HPO := hide hpo
  clear hpo e9
  exact bodyPost_ret (v := .slice (some ⟨gw5, 0, none⟩) T.length capw5) (by simp [results, Try.results37, go_sem]) rfl HPO.out
set_option linter.unusedSimpArgs false in
set_option maxRecDepth 100000 in
set_option maxHeartbeats 4000000 in
/-- cnflaw.oneClauseText -/
theorem oneClauseText_any (w : World) (B' : Nat) (gY cY : Nat) (Y : List Int) (h : BB w B' (.slice (some ⟨gY, 0, none⟩) Y.length cY) Y) (hne : 0 < Y.length) (hY : Y.length ≤ 200000) :
    Calls Try.prog 35 #[.slice (some ⟨gY, 0, none⟩) Y.length cY] w (PrPost w (hdT 16777215 1 ++ (Y ++ [32, 48, 10]))) := by
  obtain ⟨i0, hi0, hz0, hz1, hz2⟩ := info_of Try.info5
  have HI := hide (And.intro hi0 (And.intro hz0 (And.intro hz1 hz2)))
  clear hi0 hz0 hz1 hz2
  have HYB := fun w' (k : Below w.heap.size w w') => hide (h.below k)
  have HNE := hide hne
  have HYL := hide hY
  clear h hne hY
  obtain ⟨T, hT⟩ : ∃ T, hdT 16777215 1 ++ (Y ++ [32, 48, 10]) = T := ⟨_, rfl⟩
  rw [hT]
  have HT := hide hT
  clear hT
  go_enter Try.func35, Try.ntmps35
  go_upto_region 2 with fail
  have HB0 := hide (show BB (w.alloc (.cells #[.int .u8 112, .int .u8 32, .int .u8 99, .int .u8 110, .int .u8 102, .int .u8 32] 5)) w.heap.size (.slice (some ⟨w.heap.size, 0, none⟩) 6 6) [112, 32, 99, 110, 102, 32] from bb_lit w [112, 32, 99, 110, 102, 32] (by decide))
  have HBL := hide (be1 w (.cells #[.int .u8 112, .int .u8 32, .int .u8 99, .int .u8 110, .int .u8 102, .int .u8 32] 5))
  generalize w.alloc (.cells #[.int .u8 112, .int .u8 32, .int .u8 99, .int .u8 110, .int .u8 102, .int .u8 32] 5) = w1 at *
  go_wp2_with fail
  refine (appendDecimal_any w1 w.heap.size _ [112, 32, 99, 110, 102, 32] 16777215 HB0.out HBL.out.size (by decide) (by decide)).mono ?_
  rintro e w4 ⟨v4, rfl, hb4⟩
  have HG4 := hide hb4
  have HX4 := hide (show ([112, 32, 99, 110, 102, 32] ++ decI 16777215 : List Int).length ≤ 100 from by rw [List.length_append]; have := decI_le (n := 16777215) (by decide); simp only [List.length_cons, List.length_nil]; omega)
  have HT4 := hide (show ∀ Q : List Int, Q = ([112, 32, 99, 110, 102, 32] ++ decI 16777215 : List Int) → Q ++ [32, 49, 10] = hdT 16777215 1 from fun Q hQ => by
    have h1 : decI ((1 : Nat) : Int) = [49] := by unfold decI; rw [if_neg (by decide), lowD_one (by decide)]; rfl
    rw [hQ]
    unfold hdT
    rw [h1]
    simp only [List.append_assoc, List.cons_append, List.nil_append])
  obtain ⟨X4, hX4⟩ : ∃ X4, ([112, 32, 99, 110, 102, 32] ++ decI 16777215 : List Int) = X4 := ⟨_, rfl⟩
  rw [hX4] at HG4 HX4
  replace HT4 := hide (HT4.out X4 hX4.symm)
  have HBB4 := hide HG4.out.bb
  have HBS4 := hide (Nat.le_trans HBL.out.size HG4.out.ex.size)
  clear hb4 hX4 HB0
  obtain ⟨a4, c4, rfl⟩ := own_form HG4.out.bb
  have HZw5 := hide (show BB (w4.alloc (.cells #[.int .u8 32, .int .u8 49, .int .u8 10] 5)) w.heap.size (.slice a4 X4.length c4) (X4) from BB.below HBB4.out (be1 w4 _))
  have HSw5 := hide (show w.heap.size ≤ (w4.alloc (.cells #[.int .u8 32, .int .u8 49, .int .u8 10] 5)).heap.size from Nat.le_trans HBS4.out (be1 w4 _).size)
  have HNw5 := hide (show ∀ (j : Nat) (u : Value), ([.int .u8 32, .int .u8 49, .int .u8 10] : List Value)[j]? = some u → (w4.alloc (.cells #[.int .u8 32, .int .u8 49, .int .u8 10] 5)).cell? ((⟨w4.heap.size, 0, none⟩ : Addr).add j) = some u from fun j u hj => new_cells w4 [.int .u8 32, .int .u8 49, .int .u8 10] 5 j u hj)
  go_upto_region 4 with (at_builtin; go_loud (refine wpList_append_lies _ rfl (.tmp 7) (.tmp 8) 26 rfl w.heap.size 5 i0 _ 1 1 Try.underlying26 HI.out.1 HI.out.2.1 HI.out.2.2.1 HI.out.2.2.2 rfl (by decide) (.slice a4 X4.length c4) (X4).length ((X4).map (Value.int .u8)) rfl HZw5.out ⟨w4.heap.size, 0, none⟩ 3 3 [.int .u8 32, .int .u8 49, .int .u8 10] rfl rfl HNw5.out (fun u hu => by simp at hu; (first | (subst hu; rfl) | (rcases hu with hu | hu | hu <;> (subst hu; rfl)))) (by decide) (by have := HX4.out; unfold maxLen; omega) (by have := HX4.out; omega) HSw5.out _ rfl ?_; intro gw5 capw5 w5 hr hg hat hlt2; have HPw5 := hide (bg_app (Z := [32, 49, 10]) HBB4.out hr hg hat); clear hr hg hat hlt2 HZw5 HSw5 HNw5))
  obtain ⟨X5, hQw5⟩ : ∃ X5, (X4) ++ [32, 49, 10] = X5 := ⟨_, rfl⟩
  have HQw5 := hide hQw5.symm
  rw [hQw5] at HPw5
  rw [show (X4).length + 3 = X5.length from by rw [← hQw5]; simp only [List.length_append, List.length_cons, List.length_nil]]
  clear hQw5
  have HG5 := hide (HG4.out.trans HPw5.out)
  have HT5 := hide (show X5 = hdT 16777215 1 from by rw [HQw5.out]; exact HT4.out)
  have HXL5 := hide (show X5.length ≤ 103 from by rw [HQw5.out, List.length_append]; have := HX4.out; simp only [List.length_cons, List.length_nil]; omega)
  have HBB5 := hide HG5.out.bb
  have HBS5 := hide (Nat.le_trans HBL.out.size HG5.out.ex.size)
  have HBLw6 := hide (show Below w.heap.size w w5 from HBL.out.trans (HG5.out.ex.below HBL.out.size (fun k hk z => by have e : w.heap.size = k := Option.some.inj z; omega)))
  clear HPw5 HQw5 HG4 HX4 HT4 HBB4 HBS4
  have HNw6 := hide (show ∀ (j : Nat) (u : Value), (Y.map (Value.int .u8))[j]? = some u → w5.cell? ((⟨gY, 0, none⟩ : Addr).add j) = some u from fun j u hj => by
    obtain ⟨g9, c9, e9, hc9, -⟩ := row_cell (HYB w5 HBLw6.out).out hj
    cases e9
    rw [Addr.add_mid, Nat.zero_add]
    exact hc9)
  go_upto_region 5 with (at_builtin; go_loud (refine wpList_append_lies _ rfl (.tmp 10) (.tmp 11) 26 rfl w.heap.size 5 i0 _ 1 1 Try.underlying26 HI.out.1 HI.out.2.1 HI.out.2.2.1 HI.out.2.2.2 rfl (by decide) (.slice (some ⟨gw5, 0, none⟩) X5.length capw5) (X5).length ((X5).map (Value.int .u8)) rfl HBB5.out ⟨gY, 0, none⟩ Y.length cY (Y.map (Value.int .u8)) rfl (by rw [List.length_map, Nat.mul_one]) HNw6.out (fun u hu => by obtain ⟨x, -, rfl⟩ := List.mem_map.1 hu; rfl) HNE.out (by have := HXL5.out; have := HYL.out; unfold maxLen; omega) (by have := HXL5.out; have := HYL.out; omega) HBS5.out _ rfl ?_; intro gw6 capw6 w6 hr hg hat hlt2; have HPw6 := hide (bg_app0 (Z := Y) HBB5.out hr hg hat rfl (List.length_append).symm); clear hr hg hat hlt2 HNw6))
  obtain ⟨X6, hQw6⟩ : ∃ X6, (X5) ++ Y = X6 := ⟨_, rfl⟩
  have HQw6 := hide hQw6.symm
  rw [hQw6] at HPw6
  rw [show (X5).length + Y.length = X6.length from by rw [← hQw6, List.length_append]]
  clear hQw6
  have HG6 := hide (HG5.out.trans HPw6.out)
  have HXL6 := hide (show X6.length ≤ 200200 from by rw [HQw6.out, List.length_append]; have := HXL5.out; have := HYL.out; omega)
  have HT6 := hide (show X6 = hdT 16777215 1 ++ Y from by rw [HQw6.out, HT5.out])
  have HBB6 := hide HG6.out.bb
  have HBS6 := hide (Nat.le_trans HBL.out.size HG6.out.ex.size)
  clear HPw6 HQw6 HG5 HBB5 HBS5
  have HZw7 := hide (show BB (w6.alloc (.cells #[.int .u8 32, .int .u8 48, .int .u8 10] 5)) w.heap.size (.slice (some ⟨gw6, 0, none⟩) X6.length capw6) (X6) from BB.below HBB6.out (be1 w6 _))
  have HSw7 := hide (show w.heap.size ≤ (w6.alloc (.cells #[.int .u8 32, .int .u8 48, .int .u8 10] 5)).heap.size from Nat.le_trans HBS6.out (be1 w6 _).size)
  have HNw7 := hide (show ∀ (j : Nat) (u : Value), ([.int .u8 32, .int .u8 48, .int .u8 10] : List Value)[j]? = some u → (w6.alloc (.cells #[.int .u8 32, .int .u8 48, .int .u8 10] 5)).cell? ((⟨w6.heap.size, 0, none⟩ : Addr).add j) = some u from fun j u hj => new_cells w6 [.int .u8 32, .int .u8 48, .int .u8 10] 5 j u hj)
  go_wp2_with (at_builtin; go_loud (refine wpList_append_lies _ rfl (.tmp 13) (.tmp 14) 26 rfl w.heap.size 5 i0 _ 1 1 Try.underlying26 HI.out.1 HI.out.2.1 HI.out.2.2.1 HI.out.2.2.2 rfl (by decide) (.slice (some ⟨gw6, 0, none⟩) X6.length capw6) (X6).length ((X6).map (Value.int .u8)) rfl HZw7.out ⟨w6.heap.size, 0, none⟩ 3 3 [.int .u8 32, .int .u8 48, .int .u8 10] rfl rfl HNw7.out (fun u hu => by simp at hu; (first | (subst hu; rfl) | (rcases hu with hu | hu | hu <;> (subst hu; rfl)))) (by decide) (by have := HXL6.out; unfold maxLen; omega) (by have := HXL6.out; omega) HSw7.out _ rfl ?_; intro gw7 capw7 w7 hr hg hat hlt2; have HPw7 := hide (bg_app (Z := [32, 48, 10]) HBB6.out hr hg hat); clear hr hg hat hlt2 HZw7 HSw7 HNw7))
  obtain ⟨X7, hQw7⟩ : ∃ X7, (X6) ++ [32, 48, 10] = X7 := ⟨_, rfl⟩
  have HQw7 := hide hQw7.symm
  rw [hQw7] at HPw7
  rw [show (X6).length + 3 = X7.length from by rw [← hQw7]; simp only [List.length_append, List.length_cons, List.length_nil]]
  clear hQw7
  have HG7 := hide (HG6.out.trans HPw7.out)
  rw [show X7 = T from by rw [HQw7.out, HT6.out, List.append_assoc]; exact HT.out] at HG7 ⊢
  obtain ⟨a9, c9, e9, hpo⟩ := pr_of HBL.out (Nat.le_refl _) HG7.out
  have HPO := hide hpo
  clear hpo e9
  exact bodyPost_ret (v := .slice (some ⟨gw7, 0, none⟩) T.length capw7) (by simp [results, Try.results35, go_sem]) rfl HPO.out
end Go.Proofs.Qxb6500773a
