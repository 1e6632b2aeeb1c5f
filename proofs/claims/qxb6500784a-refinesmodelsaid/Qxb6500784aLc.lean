import Derived.Test.Qxb6500784aPu
namespace Go.Proofs.Qxb6500784a
open Go.RowKit

theorem zl50 : Try.zeroCells50.toList.length = 326 ∧ ∀ u ∈ Try.zeroCells50.toList, u.oneCell' = true := by
  refine ⟨by simp, ?_⟩
  have h : Try.zeroCells50.toList.all (fun u => u.oneCell') = true := by kernel_rfl
  exact List.all_eq_true.1 h
/-- The part's own row is as long as it may be. -/
def SmallL (l : Led0) (sv : List Led0) : Prop := l.mks.length ≤ 1000000000000 ∧ (∀ x, x ∈ sv → x.mks.length ≤ 1000000000000) ∧ sv.length ≤ 1000
attribute [-simp] Try.isAgg92 Try.sizeOf92 Try.typeInfo92 Try.isAgg50 Try.sizeOf50 Try.typeInfo50 Try.isAgg54 Try.sizeOf54 Try.typeInfo54 Try.isAgg68 Try.sizeOf68 Try.typeInfo68
set_option linter.unusedSimpArgs false in
set_option maxRecDepth 100000 in
set_option maxHeartbeats 4000000 in
/-- State.Checkpoint, at the limit. -/
theorem checkL_deep (w : World) (b o : Nat) (l : Led0) (sv : List Led0) (B : List Nat) (h : LA w b o l sv B) (hl : 8 ≤ sv.length) (hl2 : sv.length ≤ 1000) :
    Calls Try.prog 65 #[.pointer (some ⟨b, o, none⟩)] w (LStep w b o B (.int .i64 34) l sv) := by
  obtain ⟨a, c, c1⟩ := h.sav
  have HR : Hid (LStep w b o B (.int .i64 34) l sv (.returned (.int .i64 34)) w) := ⟨rfl, Cg.refl _ _ _ _ _, B, h, fun j hj => .inl hj⟩
  generalize LStep w b o B (.int .i64 34) l sv = R at *
  generalize sv.length = n at *
  clear h
  have d : decide (8 ≤ (n : Int)) = true := by simp; omega
  go_enter Try.func65, Try.ntmps65
  go_wp2
  exact HR.out
set_option linter.unusedSimpArgs false in
set_option maxRecDepth 100000 in
set_option maxHeartbeats 4000000 in
/-- State.Checkpoint -/
theorem checkL_any (w : World) (b o : Nat) (l : Led0) (sv : List Led0) (B : List Nat) (h : LA w b o l sv B) (hl : sv.length < 8) (hsm : SmallL l sv) :
    Calls Try.prog 65 #[.pointer (some ⟨b, o, none⟩)] w (LStep w b o B (.int .i64 0) l (sv ++ [l])) := by
  have HLA := hide h
  obtain ⟨sw, m, s, h1, h2, h3, h4, h5, h6⟩ := h
  have HO := hide h3
  have HSO := hide h4
  have HSW := hide h1
  have HCA := hide h2
  have HBB := hide h6
  have HBL := hide h5
  have HSM := hide hsm
  clear h1 h2 h3 h4 h6 hsm h5
  obtain ⟨i5, hi5, hz5, hy5, hb5⟩ := info_parts Try.inf50
  have HI5 := hide (show Try.prog.info? 50 = some i5 ∧ i5.zero = some (.agg Try.zeroCells50) ∧ i5.size = 326 ∧ i5.bytes = 2640 from ⟨hi5, hz5, hy5, hb5⟩)
  clear hi5 hz5 hy5 hb5
  have HCP := hide (copyL_any w l sw m s HO.out (fun p hp => ⟨HSO.out p.1 (by rw [← HSW.out]; exact List.mem_map_of_mem hp), HSM.out.2.1 p.1 (by rw [← HSW.out]; exact List.mem_map_of_mem hp)⟩) HCA.out.cv HSM.out.1 (by have := HSM.out.2.2; have e := congrArg List.length HSW.out; simp at e; omega))
  obtain ⟨sa, sc, hse⟩ := own_form HCA.out.cv.sl
  obtain ⟨n, hn⟩ : ∃ n, sv.length = n := ⟨_, rfl⟩
  have hlw : (ledW sw).length = n := by have e := congrArg List.length HSW.out; simp at e; simp [ledW, e, hn]
  have HLW := hide hlw
  rw [hlw] at hse
  subst hse
  rw [hn] at hl
  have HN := hide hn
  clear hn hlw
  obtain ⟨V, hV⟩ : ∃ V, l.vals m (.slice sa n sc) = V := ⟨_, rfl⟩
  have HVl : Hid (V.length = 326) := by rw [← hV]; exact Led0.len HO.out _ _
  have HVr : Hid (w.rangeAt b o V) := by rw [← hV]; exact HCA.out.rg
  rw [hV] at HCP
  have HVe := hide hV
  clear hV
  obtain ⟨R, hR⟩ : ∃ R, LStep w b o B (.int .i64 0) l (sv ++ [l]) = R := ⟨_, rfl⟩
  rw [hR]
  have HR := hide hR
  clear hR
  have c0 : w.cell? ⟨b, o + 325, none⟩ = some (.slice sa n sc) := HCA.out.rg 325 _ (Led0.at325 HO.out _ _)
  have d : decide (8 ≤ (n : Int)) = false := by simp; omega
  go_enter Try.func65, Try.ntmps65
  go_upto_region 3 with fail
  go_wp2_with fail
  simp only [Try.isAgg50, Try.sizeOf50, Result.andThen, ↓reduceIte, ldC w b o V 326 HVl.out HVr.out]
  rw [Oper.upon_value]
  go_wp2_with fail
  refine HCP.out.mono ?_
  rintro e w1 ⟨m', s', sw', rfl, b1, e1, cv1, nb1, _⟩
  have HB1 := hide b1
  have HM1 : Hid (w1.ownsRow 0 151 2 m' l.mks.length (l.mks.flatMap markV)) := cv1.fl.2 0 _ m' rfl rfl
  have HNB : Hid (∀ j, m'.ownBlock = some j → w.heap.size ≤ j) := fun j hj => nb1 j (mem_blks.2 ⟨m', by simp, hj⟩)
  have HS1 : Hid (s'.oneCell' = true) := own_one cv1.sl
  clear b1 e1 cv1 nb1 HCP
  obtain ⟨F, hF⟩ : ∃ F, l.vals m' s' = F := ⟨_, rfl⟩
  have HFl : Hid (F.length = 326) := by rw [← hF]; exact Led0.len HO.out _ _
  have HF1 : Hid (∀ u ∈ F, u.oneCell' = true) := by rw [← hF]; exact Led0.one l (own_one HM1.out) HS1.out
  rw [hF]
  have HFe := hide hF
  clear hF
  go_wp2_with fail
  simp only [Try.sizeOf50, Result.andThen, HFl.out, ↓reduceIte, stNew w1 50 Try.zeroCells50 F 326 Try.sz50 Try.zs50 HFl.out HF1.out]
  rw [Oper.upon_skip]
  go_upto_region 4 with fail
  have RX := hide (newR w1 F 50)
  have TX := hide (newT w1 F 50)
  have HB2 := hide (lec HB1.out (be1 w1 (.cells F.toArray 50)))
  have HM2 := hide (own_kept (S := fun _ => False) HM1.out (Ex.of (be1 w1 (.cells F.toArray 50))) (fun _ _ e => e))
  have HYg : Hid (w.heap.size ≤ w1.heap.size) := HB1.out.size
  have HNM : Hid (m'.ownBlock ≠ some w1.heap.size) := fun e => by have := (HM1.out.lt _ e).2; omega
  generalize w1.alloc (.cells F.toArray 50) = w2 at *
  obtain ⟨Y, hY⟩ : ∃ Y, w1.heap.size = Y := ⟨_, rfl⟩
  rw [hY] at RX TX HYg HNM ⊢
  clear hY HM1 HB1 c0
  have c1 : w2.cell? ⟨Y, 325, none⟩ = some s' := by have := RX.out 325 s' (by rw [← HFe.out]; exact Led0.at325 HO.out _ _); simpa using this
  have f1 : w2.frozen? ⟨Y, 325, none⟩ = false := by have := (TX.out 325 (by rw [HFl.out]; omega)).2; simpa using this
  obtain ⟨s2, hs2⟩ : ∃ s2, s' = s2 := ⟨_, rfl⟩
  go_upto_region 5 with fail
  obtain ⟨U, hU⟩ : ∃ U, l.vals m' nilS = U := ⟨_, rfl⟩
  have HRU : Hid ((w2.setCell ⟨Y, 325, none⟩ nilS).rangeAt Y 0 U) := by
    have := range_set RX.out 325 nilS
    rw [← HFe.out, Led0.set325 HO.out, Nat.zero_add, hU] at this
    exact this
  have HUl : Hid (U.length = 326) := by rw [← hU]; exact Led0.len HO.out _ _
  have HU1 : Hid (∀ u ∈ U, u.oneCell' = true) := by rw [← hU]; exact Led0.one l (own_one HM2.out) rfl
  have HUe := hide hU
  clear hU
  have HB3 : Hid (Below w.heap.size w (w2.setCell ⟨Y, 325, none⟩ nilS)) := HB2.out.setCell (p := ⟨Y, 325, none⟩) (by show w.heap.size ≤ Y; exact HYg.out) nilS
  have HM3 : Hid ((w2.setCell ⟨Y, 325, none⟩ nilS).ownsRow 0 151 2 m' l.mks.length (l.mks.flatMap markV)) := own_kept HM2.out (S := fun k => k = Y) ((Ex.refl (fun k => k = Y) _).set rfl _) (fun k hk e => HNM.out (by rw [hk, e]))
  generalize w2.setCell ⟨Y, 325, none⟩ nilS = w3 at *
  clear c1 f1 RX TX HM2 HB2 w2 hs2 s2
  have HC3 := hide (HCA.out.below HBL.out HB3.out)
  have HF3 : Hid (FlV w3 l.fl [m']) := by
    refine ⟨rfl, fun i r v hr hv => ?_⟩
    match i, hr, hv with
    | 0, hr, hv => cases hr; cases hv; exact HM3.out
    | i + 1, hr, hv => simp at hv
  have c3 : w3.cell? ⟨b, o + 325, none⟩ = some (.slice sa n sc) := HC3.out.rg 325 _ (Led0.at325 HO.out _ _)
  have HYb : Hid (Y ≠ b) := by have := HYg.out; have := HBL.out; intro e; omega
  have HYr : Hid (∀ j, j ∈ B → j ≠ Y) := fun j hj e => by have := HCA.out.lt hj; have := HYg.out; omega
  have HYl : Hid (Y < w3.heap.size) := World.block_lt_of_cell? _ _ (HRU.out 0 _ (by rw [← HUe.out]; rfl))
  refine wp_region_held_drew (S := fun w' => w'.rangeAt Y 0 U) (by kernel_rfl) HRU.out (fun hHeld => ?_)

  refine wpAnyH_take (i := 0) (v := ?_) rfl (by kernel_rfl) (by kernel_rfl) (by kernel_rfl) (fun _ _ _ h => h) (Or.inl ⟨by rfl, ?_⟩) (by assumption) ?_
  rotate_left
  · (intro w hSw; (try dsimp only at hSw); go_simp; try (with_reducible rfl))
  try simp only [Act.put, List.getElem_toArray, List.getElem_cons_zero, List.getElem_cons_succ, List.setIfInBounds_toArray, List.set_cons_zero, List.set_cons_succ]
  refine wpAnyH_take (i := 1) (v := ?_) rfl (by kernel_rfl) (by kernel_rfl) (by kernel_rfl) (fun _ _ _ h => h) (Or.inl ⟨by rfl, ?_⟩) (by assumption) ?_
  rotate_left
  · (intro w hSw; (try dsimp only at hSw); go_simp; try (with_reducible rfl))
  try simp only [Act.put, List.getElem_toArray, List.getElem_cons_zero, List.getElem_cons_succ, List.setIfInBounds_toArray, List.set_cons_zero, List.set_cons_succ]
  refine wpAnyH_take (i := 2) (v := ?_) rfl (by kernel_rfl) (by kernel_rfl) (by kernel_rfl) (fun _ _ _ h => h) (Or.inl ⟨by rfl, ?_⟩) (by assumption) ?_
  rotate_left
  · (intro w hSw; (try dsimp only at hSw); go_simp; try (with_reducible rfl))
  try simp only [Act.put, List.getElem_toArray, List.getElem_cons_zero, List.getElem_cons_succ, List.setIfInBounds_toArray, List.set_cons_zero, List.set_cons_succ]
  refine wpAnyH_take (i := 4) rfl (by kernel_rfl) (by kernel_rfl) (by kernel_rfl) (fun _ _ _ h => h) (yieldsIf_load_mid (by rfl) 50 (.tmp 3) rfl Y 0 rfl U _ (fun w hSw => hSw) Try.underlying50 rfl (by rw [HUl.out]; exact Try.sz50)) (by assumption) ?_
  try simp only [Act.put, List.getElem_toArray, List.getElem_cons_zero, List.getElem_cons_succ, List.setIfInBounds_toArray, List.set_cons_zero, List.set_cons_succ]
  refine wpAnyH_ready (rs := [3, 6]) (by kernel_rfl) (by simp) ?_
  refine (AllReadyH.cons rfl (fun K hK => ?_) (AllReadyH.cons rfl (fun K hK => ?_) AllReadyH.nil))
  · go_simp
    refine hK.out _ _ ?_ (fun hHeld => ?_)
    · first | exact HRU.out | exact range_below HRU.out HYl.out HB4.out
    clear hK K
    try simp only [Act.put, List.getElem_toArray, List.getElem_cons_zero, List.getElem_cons_succ, List.setIfInBounds_toArray, List.set_cons_zero, List.set_cons_succ]
    refine wpAnyH_take (i := 5) (v := ?_) rfl (by kernel_rfl) (by kernel_rfl) (by kernel_rfl) (fun _ _ _ h => h) (Or.inl ⟨by rfl, ?_⟩) (by assumption) ?_
    rotate_left
    · (intro w hSw; (try dsimp only at hSw); go_simp; try (with_reducible rfl))
    try simp only [Act.put, List.getElem_toArray, List.getElem_cons_zero, List.getElem_cons_succ, List.setIfInBounds_toArray, List.set_cons_zero, List.set_cons_succ]
    refine wpAnyH_ready (rs := [6]) (by kernel_rfl) (by simp) ?_
    refine (AllReadyH.cons rfl (fun K hK => ?_) AllReadyH.nil)
    refine step_buildS rfl 48 50 _ rfl Try.zeroCells50.toList rfl i5 _ 326 2640 Try.underlying48 HI5.out.1 HI5.out.2.1 HI5.out.2.2.1 HI5.out.2.2.2 zl50.1 (by decide) (by decide) ?_
    have b4 := (Below.trans (B := w3.heap.size) ((Below.refl w3.heap.size w3).drew) (be1 w3.drew (.cells Try.zeroCells50.toList.toArray 50)))
    have HB4 := hide b4
    have HC4 := hide (HC3.out.below (Nat.lt_of_lt_of_le HBL.out HB3.out.size) b4)
    have HF4 := hide (HF3.out.keep (S := fun _ => False) (Ex.of b4) (fun _ _ e => e))
    have HZ4 := hide (newR w3.drew Try.zeroCells50.toList 50)
    have c4 : (w3.drew.alloc (.cells Try.zeroCells50.toList.toArray 50)).cell? ⟨b, o + 325, none⟩ = some (.slice sa n sc) := HC4.out.rg 325 _ (Led0.at325 HO.out _ _)
    clear b4
    refine hK.out _ _ ?_ (fun hHeld => ?_)
    · exact range_below HRU.out HYl.out HB4.out
    clear hK K
    try simp only [Act.put, List.getElem_toArray, List.getElem_cons_zero, List.getElem_cons_succ, List.setIfInBounds_toArray, List.set_cons_zero, List.set_cons_succ]
    generalize w3.drew.alloc (.cells Try.zeroCells50.toList.toArray 50) = w4 at *
    refine wpAnyH_ready (rs := [7]) (by kernel_rfl) (by simp) ?_
    refine (AllReadyH.cons rfl (fun K hK => ?_) AllReadyH.nil)
    refine step_append_lies _ rfl (.tmp 18) (.tmp 21) 48 rfl 0 50 i5 _ 326 2640 Try.underlying48 HI5.out.1 HI5.out.2.1 HI5.out.2.2.1 HI5.out.2.2.2 Try.zs50 (by decide) (.slice sa n sc) (ledW sw).length _ rfl HC4.out.cv.sl ⟨w3.drew.heap.size, 0, none⟩ 1 1 Try.zeroCells50.toList rfl (by rw [zl50.1]) (fun j u hj => by rw [Addr.add_mid]; exact HZ4.out j u hj) zl50.2 (by decide) (by rw [HLW.out]; unfold maxLen; omega) (by rw [HLW.out]; omega) (Nat.zero_le _) _ rfl ?_
    intro g2 cap2 w5 hown hgrow hat hlt2
    have HUV : Hid (l.fl.lay [m'] nilS = U) := HUe.out
    have hp := CV.pushed (q := l.fl) (us := [m']) HC4.out.cv hgrow hown hat HF4.out (by rw [blks_cons]; cases m'.ownBlock <;> simp [blks]) (fun j hj hx => by
      obtain ⟨v, hv, ev⟩ := mem_blks.1 hj
      have e : v = m' := by simpa using hv
      subst e
      have h1 := HNB.out j ev
      have h2 := HCA.out.cv.lt hx
      omega) (fun p hp => by
        obtain ⟨y, hy, rfl⟩ := List.mem_map.1 hp
        exact Led0.len (HSO.out y.1 (by rw [← HSW.out]; exact List.mem_map_of_mem hy)) _ _) (by rw [HUV.out, HUl.out, zl50.1])
    rw [HUV.out, HLW.out] at hp
    have HP5 := hide hp
    have hgb : g2 ≠ b := by
      rcases hat with z | z
      · intro e
        refine HBB.out (HCA.out.bl ▸ mem_blks.2 ⟨.slice sa n sc, by simp, ?_⟩)
        rw [z, e]
      · intro e; have h1 := HBL.out; have h2 := HB3.out.size; have h3 := HB4.out.size; omega
    have hgB : g2 ∈ B ∨ w.heap.size ≤ g2 := by
      rcases hat with z | z
      · exact .inl (HCA.out.bl ▸ mem_blks.2 ⟨.slice sa n sc, by simp, z⟩)
      · have h2 := HB3.out.size; have h3 := HB4.out.size; right; omega
    have hgY : g2 ≠ Y := by
      rcases hat with z | z
      · intro e; exact HYr.out g2 (HCA.out.bl ▸ mem_blks.2 ⟨.slice sa n sc, by simp, z⟩) e
      · have h1 := HYl.out; have h3 := HB4.out.size; omega
    have hcap : n < cap2 ∨ n < cap2 := by
      rcases hown.2 with ⟨e, _⟩ | ⟨g', cap, cur, e, _, _, hn, _⟩
      · cases e
      · injection e with _ _ e; subst e; rw [HLW.out] at hn; omega
    have HRU5 : Hid (w5.rangeAt Y 0 U) := range_ex (range_below HRU.out HYl.out HB4.out) (Nat.lt_of_lt_of_le HYl.out HB4.out.size) (Ex.ofGrown (S := fun k => (Value.slice sa n sc).ownBlock = some k) hgrow (fun k e => e.symm)) (fun e => HYr.out Y (HCA.out.bl ▸ mem_blks.2 ⟨.slice sa n sc, by simp, e⟩) rfl)
    have HT5 : Hid (w5.there g2 (n * 326) 326) := by
      intro j hj
      have hq : ∃ u, (List.flatMap (fun p => p.1.lay p.2 nilS) (ledW sw) ++ Try.zeroCells50.toList)[n * 326 + j]? = some u := by
        refine ⟨_, List.getElem?_eq_getElem ?_⟩
        have h0 := hown.1
        rw [h0, HLW.out]; omega
      obtain ⟨u, hu⟩ := hq
      have hc := hown.cells rfl _ u hu
      rw [Addr.add_mid, Nat.zero_add] at hc
      refine ⟨by rw [hc]; rfl, ?_⟩
      have hnn : (Value.slice (some ⟨g2, 0, none⟩) ((ledW sw).length + 1) cap2) = (Value.slice (some ⟨g2, 0, none⟩) ((ledW sw).length + 1) cap2) := rfl
      exact hown.frozenAt _
    have c5 : w5.cell? ⟨b, o + 325, none⟩ = some (.slice sa n sc) := hgrow.cell c4 (fun e => HBB.out (HCA.out.bl ▸ mem_blks.2 ⟨.slice sa n sc, by simp, e.symm⟩))
    have f5 : w5.frozen? ⟨b, o + 325, none⟩ = false := by rw [World.frozen?_of_block (hgrow.block b (World.block_lt_of_cell? _ _ c4) (fun e => HBB.out (HCA.out.bl ▸ mem_blks.2 ⟨.slice sa n sc, by simp, e.symm⟩)))]; exact (HC4.out.th 325 (by omega)).2
    have HCg5 := hide ((Cg.below (o := o) (n := 326) (B := B) (lec HB3.out HB4.out) HBL.out).grown hgrow (fun j hj => .inl (HCA.out.bl ▸ mem_blks.2 ⟨.slice sa n sc, by simp, hj⟩)) HBL.out (fun e => HBB.out (HCA.out.bl ▸ mem_blks.2 ⟨.slice sa n sc, by simp, e⟩)))
    have HTH5 : Hid (w5.there b o 326) := there_ex HC4.out.th (World.block_lt_of_cell? _ _ c4) (Ex.ofGrown (S := fun k => (Value.slice sa n sc).ownBlock = some k) hgrow (fun k e => e.symm)) (fun e => HBB.out (HCA.out.bl ▸ mem_blks.2 ⟨.slice sa n sc, by simp, e⟩))
    have HRG5 : Hid (w5.rangeAt b o (l.vals m (.slice sa n sc))) := range_ex HC4.out.rg (World.block_lt_of_cell? _ _ c4) (Ex.ofGrown (S := fun k => (Value.slice sa n sc).ownBlock = some k) hgrow (fun k e => e.symm)) (fun e => HBB.out (HCA.out.bl ▸ mem_blks.2 ⟨.slice sa n sc, by simp, e⟩))
    rw [HLW.out]
    clear hown hgrow hat hp c4
    refine hK.out _ _ ?_ (fun hHeld => ?_)
    · exact HRU5.out
    clear hK K
    try simp only [Act.put, List.getElem_toArray, List.getElem_cons_zero, List.getElem_cons_succ, List.setIfInBounds_toArray, List.set_cons_zero, List.set_cons_succ]
    refine wpAnyH_take (i := 8) (v := ?_) rfl (by kernel_rfl) (by kernel_rfl) (by kernel_rfl) (fun _ _ _ h => h) (Or.inl ⟨by rfl, ?_⟩) (by assumption) ?_
    rotate_left
    · (intro w hSw; (try dsimp only at hSw); have hz := Try.sizeOf50; have hltn : (n : Int) < n + 1 := (by omega); go_simp; try (with_reducible rfl))
    try simp only [Act.put, List.getElem_toArray, List.getElem_cons_zero, List.getElem_cons_succ, List.setIfInBounds_toArray, List.set_cons_zero, List.set_cons_succ]
    refine wpAnyH_take (i := 10) (v := ?_) rfl (by kernel_rfl) (by kernel_rfl) (by kernel_rfl) (fun _ _ _ h => h) (Or.inl ⟨by rfl, ?_⟩) (by assumption) ?_
    rotate_left
    · (intro w hSw; (try dsimp only at hSw); go_simp; try (with_reducible rfl))
    try simp only [Act.put, List.getElem_toArray, List.getElem_cons_zero, List.getElem_cons_succ, List.setIfInBounds_toArray, List.set_cons_zero, List.set_cons_succ]
    refine wpAnyH_take (i := 11) (v := ?_) rfl (by kernel_rfl) (by kernel_rfl) (by kernel_rfl) (fun _ _ _ h => h) (Or.inl ⟨by rfl, ?_⟩) (by assumption) ?_
    rotate_left
    · (intro w hSw; (try dsimp only at hSw); go_simp; try (with_reducible rfl))
    try simp only [Act.put, List.getElem_toArray, List.getElem_cons_zero, List.getElem_cons_succ, List.setIfInBounds_toArray, List.set_cons_zero, List.set_cons_succ]
    refine wpAnyH_ready (rs := [9, 12]) (by kernel_rfl) (by simp) ?_
    refine (AllReadyH.cons rfl (fun K hK => ?_) (AllReadyH.cons rfl (fun K hK => ?_) AllReadyH.nil))
    · refine step_storeM rfl 50 (.tmp 23) (.tmp 19) rfl g2 (n * 326) U rfl rfl (by rw [HUl.out]; first | exact HT5.out | exact there_set HT5.out _ _) (by rw [HUl.out]; exact Try.sz50) HU1.out ?_
      refine hK.out _ _ ?_ (fun hHeld => ?_)
      · first | exact World.rangeAt_setCells_apart HRU5.out g2 (n * 326) U (.inl (fun e => hgY e.symm)) | exact World.rangeAt_setCells_apart (range_set_ne HRU5.out HYb.out _ _) g2 (n * 326) U (.inl (fun e => hgY e.symm))
      clear hK K
      try simp only [Act.put, List.getElem_toArray, List.getElem_cons_zero, List.getElem_cons_succ, List.setIfInBounds_toArray, List.set_cons_zero, List.set_cons_succ]
      refine wpAnyH_ready (rs := [12]) (by kernel_rfl) (by simp) ?_
      refine (AllReadyH.cons rfl (fun K hK => ?_) AllReadyH.nil)
      have c6 : (w5.setCells g2 (n * 326) U).cell? ⟨b, o + 325, none⟩ = some (.slice sa n sc) := by rw [World.cell?_setCells_out g2 U (n * 326) w5 ⟨b, o + 325, none⟩ (fun e => absurd e (fun e => hgb e.symm))]; exact c5
      have f6 : (w5.setCells g2 (n * 326) U).frozen? ⟨b, o + 325, none⟩ = false := by rw [World.frozen?_setCells]; exact f5
      go_simp
      refine hK.out _ _ ?_ (fun hHeld => ?_)
      · first | exact range_set_ne HRU5.out HYb.out _ _ | exact range_set_ne (World.rangeAt_setCells_apart HRU5.out g2 (n * 326) U (.inl (fun e => hgY e.symm))) HYb.out _ _
      clear hK K
      try simp only [Act.put, List.getElem_toArray, List.getElem_cons_zero, List.getElem_cons_succ, List.setIfInBounds_toArray, List.set_cons_zero, List.set_cons_succ]
      refine wpAnyH_done (by kernel_rfl) ?_ _
      have HWZ : Hid (R (.returned (.int .i64 0)) ((w5.setCells g2 (n * 326) U).setCell ⟨b, o + 325, none⟩ (.slice (some ⟨g2, 0, none⟩) (n + 1) cap2))) := by
        rw [← HR.out]
        have hcv := HP5.out.1
        have hcg : Cg b o 326 B w (w5.setCells g2 (n * 326) U) := by
          refine HCg5.out.grown (row := some g2) ⟨?_, ?_, ?_, ?_, ?_⟩ (fun j hj => by cases hj; exact hgB) HBL.out (by simpa using hgb)
          · exact (Ex.sets (S := fun j => j = g2) rfl U (n * 326) w5 (Ex.refl _ _)).os
          · exact (Ex.sets (S := fun j => j = g2) rfl U (n * 326) w5 (Ex.refl _ _)).tape
          · exact (Ex.sets (S := fun j => j = g2) rfl U (n * 326) w5 (Ex.refl _ _)).output
          · exact (Ex.sets (S := fun j => j = g2) rfl U (n * 326) w5 (Ex.refl _ _)).size
          · exact fun k hk hne => (Ex.sets (S := fun j => j = g2) rfl U (n * 326) w5 (Ex.refl _ _)).block k hk (fun e => hne (by rw [e]))
        have hnb : b ∉ blks ([m] ++ Value.slice (some ⟨g2, 0, none⟩) (n + 1) cap2 :: (ledW sw ++ [(l.fl, [m'])]).flatMap (·.2)) ∧ ∀ j, j ∈ blks ([m] ++ Value.slice (some ⟨g2, 0, none⟩) (n + 1) cap2 :: (ledW sw ++ [(l.fl, [m'])]).flatMap (·.2)) → j ∈ B ∨ w.heap.size ≤ j := by
          have key : ∀ j, j ∈ blks ([m] ++ Value.slice (some ⟨g2, 0, none⟩) (n + 1) cap2 :: (ledW sw ++ [(l.fl, [m'])]).flatMap (·.2)) → (j ∈ B ∨ w.heap.size ≤ j) := fun j hj => by
            obtain ⟨v, hv, ev⟩ := mem_blks.1 hj
            simp only [List.mem_append, List.mem_cons, List.not_mem_nil, or_false, List.flatMap_append, List.flatMap_cons, List.flatMap_nil, List.append_nil] at hv
            rcases hv with rfl | rfl | hv | rfl
            · exact .inl (HCA.out.bl ▸ mem_blks.2 ⟨_, by simp, ev⟩)
            · have e : g2 = j := by simpa [Value.ownBlock] using ev
              rw [← e]; exact hgB
            · exact .inl (HCA.out.bl ▸ mem_blks.2 ⟨v, List.mem_append_right _ (List.mem_cons_of_mem _ hv), ev⟩)
            · exact .inr (HNB.out j ev)
          refine ⟨fun hj => ?_, key⟩
          rcases key b hj with z | z
          · exact HBB.out z
          · have := HBL.out; omega
        have exs := Ex.sets (S := fun j => j = g2) rfl U (n * 326) w5 (Ex.refl _ _)
        have hb5 : b < w5.heap.size := World.block_lt_of_cell? _ _ c5
        refine ⟨rfl, hcg.set (by omega) _, _, ⟨sw ++ [(l, m')], m, .slice (some ⟨g2, 0, none⟩) (n + 1) cap2, by simp [HSW.out], ⟨?_, ?_, there_set (there_ex HTH5.out hb5 exs (fun e => hgb e.symm)) _ _, rfl⟩, HO.out, ?_, ?_, ?_⟩, ?_⟩
        · rw [show ledW (sw ++ [(l, m')]) = ledW sw ++ [(l.fl, [m'])] by simp [ledW]]
          exact hcv.keep (S := fun k => k = b) ((Ex.refl (fun k => k = b) _).set rfl _) (fun k hk e => hnb.1 (e ▸ hk))
        · have := range_set (range_ex HRG5.out hb5 exs (fun e => hgb e.symm)) 325 (.slice (some ⟨g2, 0, none⟩) (n + 1) cap2)
          rw [Led0.set325 HO.out] at this
          exact this
        · intro x hx
          rcases List.mem_append.1 hx with hx | hx
          · exact HSO.out x hx
          · have e : x = l := by simpa using hx
            rw [e]; exact HO.out
        · have h1 := (hcg.set (j := 325) (by omega) (.slice (some ⟨g2, 0, none⟩) (n + 1) cap2)).ex.size
          have := HBL.out
          omega
        · rw [show ledW (sw ++ [(l, m')]) = ledW sw ++ [(l.fl, [m'])] by simp [ledW]]
          exact hnb.1
        · rw [show ledW (sw ++ [(l, m')]) = ledW sw ++ [(l.fl, [m'])] by simp [ledW]]
          exact hnb.2
      try rw [setCells_comm (fun e => hgb e.symm) (o + 325)]
      generalize (w5.setCells g2 (n * 326) U).setCell ⟨b, o + 325, none⟩ (.slice (some ⟨g2, 0, none⟩) (n + 1) cap2) = w6 at *
      go_wp2
      exact HWZ.out
    · have c6 : (w5.setCells g2 (n * 326) U).cell? ⟨b, o + 325, none⟩ = some (.slice sa n sc) := by rw [World.cell?_setCells_out g2 U (n * 326) w5 ⟨b, o + 325, none⟩ (fun e => absurd e (fun e => hgb e.symm))]; exact c5
      have f6 : (w5.setCells g2 (n * 326) U).frozen? ⟨b, o + 325, none⟩ = false := by rw [World.frozen?_setCells]; exact f5
      go_simp
      refine hK.out _ _ ?_ (fun hHeld => ?_)
      · first | exact range_set_ne HRU5.out HYb.out _ _ | exact range_set_ne (World.rangeAt_setCells_apart HRU5.out g2 (n * 326) U (.inl (fun e => hgY e.symm))) HYb.out _ _
      clear hK K
      try simp only [Act.put, List.getElem_toArray, List.getElem_cons_zero, List.getElem_cons_succ, List.setIfInBounds_toArray, List.set_cons_zero, List.set_cons_succ]
      refine wpAnyH_ready (rs := [9]) (by kernel_rfl) (by simp) ?_
      refine (AllReadyH.cons rfl (fun K hK => ?_) AllReadyH.nil)
      refine step_storeM rfl 50 (.tmp 23) (.tmp 19) rfl g2 (n * 326) U rfl rfl (by rw [HUl.out]; first | exact HT5.out | exact there_set HT5.out _ _) (by rw [HUl.out]; exact Try.sz50) HU1.out ?_
      refine hK.out _ _ ?_ (fun hHeld => ?_)
      · first | exact World.rangeAt_setCells_apart HRU5.out g2 (n * 326) U (.inl (fun e => hgY e.symm)) | exact World.rangeAt_setCells_apart (range_set_ne HRU5.out HYb.out _ _) g2 (n * 326) U (.inl (fun e => hgY e.symm))
      clear hK K
      try simp only [Act.put, List.getElem_toArray, List.getElem_cons_zero, List.getElem_cons_succ, List.setIfInBounds_toArray, List.set_cons_zero, List.set_cons_succ]
      refine wpAnyH_done (by kernel_rfl) ?_ _
      have HWZ : Hid (R (.returned (.int .i64 0)) ((w5.setCells g2 (n * 326) U).setCell ⟨b, o + 325, none⟩ (.slice (some ⟨g2, 0, none⟩) (n + 1) cap2))) := by
        rw [← HR.out]
        have hcv := HP5.out.1
        have hcg : Cg b o 326 B w (w5.setCells g2 (n * 326) U) := by
          refine HCg5.out.grown (row := some g2) ⟨?_, ?_, ?_, ?_, ?_⟩ (fun j hj => by cases hj; exact hgB) HBL.out (by simpa using hgb)
          · exact (Ex.sets (S := fun j => j = g2) rfl U (n * 326) w5 (Ex.refl _ _)).os
          · exact (Ex.sets (S := fun j => j = g2) rfl U (n * 326) w5 (Ex.refl _ _)).tape
          · exact (Ex.sets (S := fun j => j = g2) rfl U (n * 326) w5 (Ex.refl _ _)).output
          · exact (Ex.sets (S := fun j => j = g2) rfl U (n * 326) w5 (Ex.refl _ _)).size
          · exact fun k hk hne => (Ex.sets (S := fun j => j = g2) rfl U (n * 326) w5 (Ex.refl _ _)).block k hk (fun e => hne (by rw [e]))
        have hnb : b ∉ blks ([m] ++ Value.slice (some ⟨g2, 0, none⟩) (n + 1) cap2 :: (ledW sw ++ [(l.fl, [m'])]).flatMap (·.2)) ∧ ∀ j, j ∈ blks ([m] ++ Value.slice (some ⟨g2, 0, none⟩) (n + 1) cap2 :: (ledW sw ++ [(l.fl, [m'])]).flatMap (·.2)) → j ∈ B ∨ w.heap.size ≤ j := by
          have key : ∀ j, j ∈ blks ([m] ++ Value.slice (some ⟨g2, 0, none⟩) (n + 1) cap2 :: (ledW sw ++ [(l.fl, [m'])]).flatMap (·.2)) → (j ∈ B ∨ w.heap.size ≤ j) := fun j hj => by
            obtain ⟨v, hv, ev⟩ := mem_blks.1 hj
            simp only [List.mem_append, List.mem_cons, List.not_mem_nil, or_false, List.flatMap_append, List.flatMap_cons, List.flatMap_nil, List.append_nil] at hv
            rcases hv with rfl | rfl | hv | rfl
            · exact .inl (HCA.out.bl ▸ mem_blks.2 ⟨_, by simp, ev⟩)
            · have e : g2 = j := by simpa [Value.ownBlock] using ev
              rw [← e]; exact hgB
            · exact .inl (HCA.out.bl ▸ mem_blks.2 ⟨v, List.mem_append_right _ (List.mem_cons_of_mem _ hv), ev⟩)
            · exact .inr (HNB.out j ev)
          refine ⟨fun hj => ?_, key⟩
          rcases key b hj with z | z
          · exact HBB.out z
          · have := HBL.out; omega
        have exs := Ex.sets (S := fun j => j = g2) rfl U (n * 326) w5 (Ex.refl _ _)
        have hb5 : b < w5.heap.size := World.block_lt_of_cell? _ _ c5
        refine ⟨rfl, hcg.set (by omega) _, _, ⟨sw ++ [(l, m')], m, .slice (some ⟨g2, 0, none⟩) (n + 1) cap2, by simp [HSW.out], ⟨?_, ?_, there_set (there_ex HTH5.out hb5 exs (fun e => hgb e.symm)) _ _, rfl⟩, HO.out, ?_, ?_, ?_⟩, ?_⟩
        · rw [show ledW (sw ++ [(l, m')]) = ledW sw ++ [(l.fl, [m'])] by simp [ledW]]
          exact hcv.keep (S := fun k => k = b) ((Ex.refl (fun k => k = b) _).set rfl _) (fun k hk e => hnb.1 (e ▸ hk))
        · have := range_set (range_ex HRG5.out hb5 exs (fun e => hgb e.symm)) 325 (.slice (some ⟨g2, 0, none⟩) (n + 1) cap2)
          rw [Led0.set325 HO.out] at this
          exact this
        · intro x hx
          rcases List.mem_append.1 hx with hx | hx
          · exact HSO.out x hx
          · have e : x = l := by simpa using hx
            rw [e]; exact HO.out
        · have h1 := (hcg.set (j := 325) (by omega) (.slice (some ⟨g2, 0, none⟩) (n + 1) cap2)).ex.size
          have := HBL.out
          omega
        · rw [show ledW (sw ++ [(l, m')]) = ledW sw ++ [(l.fl, [m'])] by simp [ledW]]
          exact hnb.1
        · rw [show ledW (sw ++ [(l, m')]) = ledW sw ++ [(l.fl, [m'])] by simp [ledW]]
          exact hnb.2
      try rw [setCells_comm (fun e => hgb e.symm) (o + 325)]
      generalize (w5.setCells g2 (n * 326) U).setCell ⟨b, o + 325, none⟩ (.slice (some ⟨g2, 0, none⟩) (n + 1) cap2) = w6 at *
      go_wp2
      exact HWZ.out
  · refine step_buildS rfl 48 50 _ rfl Try.zeroCells50.toList rfl i5 _ 326 2640 Try.underlying48 HI5.out.1 HI5.out.2.1 HI5.out.2.2.1 HI5.out.2.2.2 zl50.1 (by decide) (by decide) ?_
    have b4 := (Below.trans (B := w3.heap.size) ((Below.refl w3.heap.size w3).drew) (be1 w3.drew (.cells Try.zeroCells50.toList.toArray 50)))
    have HB4 := hide b4
    have HC4 := hide (HC3.out.below (Nat.lt_of_lt_of_le HBL.out HB3.out.size) b4)
    have HF4 := hide (HF3.out.keep (S := fun _ => False) (Ex.of b4) (fun _ _ e => e))
    have HZ4 := hide (newR w3.drew Try.zeroCells50.toList 50)
    have c4 : (w3.drew.alloc (.cells Try.zeroCells50.toList.toArray 50)).cell? ⟨b, o + 325, none⟩ = some (.slice sa n sc) := HC4.out.rg 325 _ (Led0.at325 HO.out _ _)
    clear b4
    refine hK.out _ _ ?_ (fun hHeld => ?_)
    · exact range_below HRU.out HYl.out HB4.out
    clear hK K
    try simp only [Act.put, List.getElem_toArray, List.getElem_cons_zero, List.getElem_cons_succ, List.setIfInBounds_toArray, List.set_cons_zero, List.set_cons_succ]
    generalize w3.drew.alloc (.cells Try.zeroCells50.toList.toArray 50) = w4 at *
    refine wpAnyH_ready (rs := [3]) (by kernel_rfl) (by simp) ?_
    refine (AllReadyH.cons rfl (fun K hK => ?_) AllReadyH.nil)
    go_simp
    refine hK.out _ _ ?_ (fun hHeld => ?_)
    · first | exact HRU.out | exact range_below HRU.out HYl.out HB4.out
    clear hK K
    try simp only [Act.put, List.getElem_toArray, List.getElem_cons_zero, List.getElem_cons_succ, List.setIfInBounds_toArray, List.set_cons_zero, List.set_cons_succ]
    refine wpAnyH_take (i := 5) (v := ?_) rfl (by kernel_rfl) (by kernel_rfl) (by kernel_rfl) (fun _ _ _ h => h) (Or.inl ⟨by rfl, ?_⟩) (by assumption) ?_
    rotate_left
    · (intro w hSw; (try dsimp only at hSw); go_simp; try (with_reducible rfl))
    try simp only [Act.put, List.getElem_toArray, List.getElem_cons_zero, List.getElem_cons_succ, List.setIfInBounds_toArray, List.set_cons_zero, List.set_cons_succ]
    refine wpAnyH_ready (rs := [7]) (by kernel_rfl) (by simp) ?_
    refine (AllReadyH.cons rfl (fun K hK => ?_) AllReadyH.nil)
    refine step_append_lies _ rfl (.tmp 18) (.tmp 21) 48 rfl 0 50 i5 _ 326 2640 Try.underlying48 HI5.out.1 HI5.out.2.1 HI5.out.2.2.1 HI5.out.2.2.2 Try.zs50 (by decide) (.slice sa n sc) (ledW sw).length _ rfl HC4.out.cv.sl ⟨w3.drew.heap.size, 0, none⟩ 1 1 Try.zeroCells50.toList rfl (by rw [zl50.1]) (fun j u hj => by rw [Addr.add_mid]; exact HZ4.out j u hj) zl50.2 (by decide) (by rw [HLW.out]; unfold maxLen; omega) (by rw [HLW.out]; omega) (Nat.zero_le _) _ rfl ?_
    intro g2 cap2 w5 hown hgrow hat hlt2
    have HUV : Hid (l.fl.lay [m'] nilS = U) := HUe.out
    have hp := CV.pushed (q := l.fl) (us := [m']) HC4.out.cv hgrow hown hat HF4.out (by rw [blks_cons]; cases m'.ownBlock <;> simp [blks]) (fun j hj hx => by
      obtain ⟨v, hv, ev⟩ := mem_blks.1 hj
      have e : v = m' := by simpa using hv
      subst e
      have h1 := HNB.out j ev
      have h2 := HCA.out.cv.lt hx
      omega) (fun p hp => by
        obtain ⟨y, hy, rfl⟩ := List.mem_map.1 hp
        exact Led0.len (HSO.out y.1 (by rw [← HSW.out]; exact List.mem_map_of_mem hy)) _ _) (by rw [HUV.out, HUl.out, zl50.1])
    rw [HUV.out, HLW.out] at hp
    have HP5 := hide hp
    have hgb : g2 ≠ b := by
      rcases hat with z | z
      · intro e
        refine HBB.out (HCA.out.bl ▸ mem_blks.2 ⟨.slice sa n sc, by simp, ?_⟩)
        rw [z, e]
      · intro e; have h1 := HBL.out; have h2 := HB3.out.size; have h3 := HB4.out.size; omega
    have hgB : g2 ∈ B ∨ w.heap.size ≤ g2 := by
      rcases hat with z | z
      · exact .inl (HCA.out.bl ▸ mem_blks.2 ⟨.slice sa n sc, by simp, z⟩)
      · have h2 := HB3.out.size; have h3 := HB4.out.size; right; omega
    have hgY : g2 ≠ Y := by
      rcases hat with z | z
      · intro e; exact HYr.out g2 (HCA.out.bl ▸ mem_blks.2 ⟨.slice sa n sc, by simp, z⟩) e
      · have h1 := HYl.out; have h3 := HB4.out.size; omega
    have hcap : n < cap2 ∨ n < cap2 := by
      rcases hown.2 with ⟨e, _⟩ | ⟨g', cap, cur, e, _, _, hn, _⟩
      · cases e
      · injection e with _ _ e; subst e; rw [HLW.out] at hn; omega
    have HRU5 : Hid (w5.rangeAt Y 0 U) := range_ex (range_below HRU.out HYl.out HB4.out) (Nat.lt_of_lt_of_le HYl.out HB4.out.size) (Ex.ofGrown (S := fun k => (Value.slice sa n sc).ownBlock = some k) hgrow (fun k e => e.symm)) (fun e => HYr.out Y (HCA.out.bl ▸ mem_blks.2 ⟨.slice sa n sc, by simp, e⟩) rfl)
    have HT5 : Hid (w5.there g2 (n * 326) 326) := by
      intro j hj
      have hq : ∃ u, (List.flatMap (fun p => p.1.lay p.2 nilS) (ledW sw) ++ Try.zeroCells50.toList)[n * 326 + j]? = some u := by
        refine ⟨_, List.getElem?_eq_getElem ?_⟩
        have h0 := hown.1
        rw [h0, HLW.out]; omega
      obtain ⟨u, hu⟩ := hq
      have hc := hown.cells rfl _ u hu
      rw [Addr.add_mid, Nat.zero_add] at hc
      refine ⟨by rw [hc]; rfl, ?_⟩
      have hnn : (Value.slice (some ⟨g2, 0, none⟩) ((ledW sw).length + 1) cap2) = (Value.slice (some ⟨g2, 0, none⟩) ((ledW sw).length + 1) cap2) := rfl
      exact hown.frozenAt _
    have c5 : w5.cell? ⟨b, o + 325, none⟩ = some (.slice sa n sc) := hgrow.cell c4 (fun e => HBB.out (HCA.out.bl ▸ mem_blks.2 ⟨.slice sa n sc, by simp, e.symm⟩))
    have f5 : w5.frozen? ⟨b, o + 325, none⟩ = false := by rw [World.frozen?_of_block (hgrow.block b (World.block_lt_of_cell? _ _ c4) (fun e => HBB.out (HCA.out.bl ▸ mem_blks.2 ⟨.slice sa n sc, by simp, e.symm⟩)))]; exact (HC4.out.th 325 (by omega)).2
    have HCg5 := hide ((Cg.below (o := o) (n := 326) (B := B) (lec HB3.out HB4.out) HBL.out).grown hgrow (fun j hj => .inl (HCA.out.bl ▸ mem_blks.2 ⟨.slice sa n sc, by simp, hj⟩)) HBL.out (fun e => HBB.out (HCA.out.bl ▸ mem_blks.2 ⟨.slice sa n sc, by simp, e⟩)))
    have HTH5 : Hid (w5.there b o 326) := there_ex HC4.out.th (World.block_lt_of_cell? _ _ c4) (Ex.ofGrown (S := fun k => (Value.slice sa n sc).ownBlock = some k) hgrow (fun k e => e.symm)) (fun e => HBB.out (HCA.out.bl ▸ mem_blks.2 ⟨.slice sa n sc, by simp, e⟩))
    have HRG5 : Hid (w5.rangeAt b o (l.vals m (.slice sa n sc))) := range_ex HC4.out.rg (World.block_lt_of_cell? _ _ c4) (Ex.ofGrown (S := fun k => (Value.slice sa n sc).ownBlock = some k) hgrow (fun k e => e.symm)) (fun e => HBB.out (HCA.out.bl ▸ mem_blks.2 ⟨.slice sa n sc, by simp, e⟩))
    rw [HLW.out]
    clear hown hgrow hat hp c4
    refine hK.out _ _ ?_ (fun hHeld => ?_)
    · exact HRU5.out
    clear hK K
    try simp only [Act.put, List.getElem_toArray, List.getElem_cons_zero, List.getElem_cons_succ, List.setIfInBounds_toArray, List.set_cons_zero, List.set_cons_succ]
    refine wpAnyH_take (i := 8) (v := ?_) rfl (by kernel_rfl) (by kernel_rfl) (by kernel_rfl) (fun _ _ _ h => h) (Or.inl ⟨by rfl, ?_⟩) (by assumption) ?_
    rotate_left
    · (intro w hSw; (try dsimp only at hSw); have hz := Try.sizeOf50; have hltn : (n : Int) < n + 1 := (by omega); go_simp; try (with_reducible rfl))
    try simp only [Act.put, List.getElem_toArray, List.getElem_cons_zero, List.getElem_cons_succ, List.setIfInBounds_toArray, List.set_cons_zero, List.set_cons_succ]
    refine wpAnyH_take (i := 10) (v := ?_) rfl (by kernel_rfl) (by kernel_rfl) (by kernel_rfl) (fun _ _ _ h => h) (Or.inl ⟨by rfl, ?_⟩) (by assumption) ?_
    rotate_left
    · (intro w hSw; (try dsimp only at hSw); go_simp; try (with_reducible rfl))
    try simp only [Act.put, List.getElem_toArray, List.getElem_cons_zero, List.getElem_cons_succ, List.setIfInBounds_toArray, List.set_cons_zero, List.set_cons_succ]
    refine wpAnyH_take (i := 11) (v := ?_) rfl (by kernel_rfl) (by kernel_rfl) (by kernel_rfl) (fun _ _ _ h => h) (Or.inl ⟨by rfl, ?_⟩) (by assumption) ?_
    rotate_left
    · (intro w hSw; (try dsimp only at hSw); go_simp; try (with_reducible rfl))
    try simp only [Act.put, List.getElem_toArray, List.getElem_cons_zero, List.getElem_cons_succ, List.setIfInBounds_toArray, List.set_cons_zero, List.set_cons_succ]
    refine wpAnyH_ready (rs := [9, 12]) (by kernel_rfl) (by simp) ?_
    refine (AllReadyH.cons rfl (fun K hK => ?_) (AllReadyH.cons rfl (fun K hK => ?_) AllReadyH.nil))
    · refine step_storeM rfl 50 (.tmp 23) (.tmp 19) rfl g2 (n * 326) U rfl rfl (by rw [HUl.out]; first | exact HT5.out | exact there_set HT5.out _ _) (by rw [HUl.out]; exact Try.sz50) HU1.out ?_
      refine hK.out _ _ ?_ (fun hHeld => ?_)
      · first | exact World.rangeAt_setCells_apart HRU5.out g2 (n * 326) U (.inl (fun e => hgY e.symm)) | exact World.rangeAt_setCells_apart (range_set_ne HRU5.out HYb.out _ _) g2 (n * 326) U (.inl (fun e => hgY e.symm))
      clear hK K
      try simp only [Act.put, List.getElem_toArray, List.getElem_cons_zero, List.getElem_cons_succ, List.setIfInBounds_toArray, List.set_cons_zero, List.set_cons_succ]
      refine wpAnyH_ready (rs := [12]) (by kernel_rfl) (by simp) ?_
      refine (AllReadyH.cons rfl (fun K hK => ?_) AllReadyH.nil)
      have c6 : (w5.setCells g2 (n * 326) U).cell? ⟨b, o + 325, none⟩ = some (.slice sa n sc) := by rw [World.cell?_setCells_out g2 U (n * 326) w5 ⟨b, o + 325, none⟩ (fun e => absurd e (fun e => hgb e.symm))]; exact c5
      have f6 : (w5.setCells g2 (n * 326) U).frozen? ⟨b, o + 325, none⟩ = false := by rw [World.frozen?_setCells]; exact f5
      go_simp
      refine hK.out _ _ ?_ (fun hHeld => ?_)
      · first | exact range_set_ne HRU5.out HYb.out _ _ | exact range_set_ne (World.rangeAt_setCells_apart HRU5.out g2 (n * 326) U (.inl (fun e => hgY e.symm))) HYb.out _ _
      clear hK K
      try simp only [Act.put, List.getElem_toArray, List.getElem_cons_zero, List.getElem_cons_succ, List.setIfInBounds_toArray, List.set_cons_zero, List.set_cons_succ]
      refine wpAnyH_done (by kernel_rfl) ?_ _
      have HWZ : Hid (R (.returned (.int .i64 0)) ((w5.setCells g2 (n * 326) U).setCell ⟨b, o + 325, none⟩ (.slice (some ⟨g2, 0, none⟩) (n + 1) cap2))) := by
        rw [← HR.out]
        have hcv := HP5.out.1
        have hcg : Cg b o 326 B w (w5.setCells g2 (n * 326) U) := by
          refine HCg5.out.grown (row := some g2) ⟨?_, ?_, ?_, ?_, ?_⟩ (fun j hj => by cases hj; exact hgB) HBL.out (by simpa using hgb)
          · exact (Ex.sets (S := fun j => j = g2) rfl U (n * 326) w5 (Ex.refl _ _)).os
          · exact (Ex.sets (S := fun j => j = g2) rfl U (n * 326) w5 (Ex.refl _ _)).tape
          · exact (Ex.sets (S := fun j => j = g2) rfl U (n * 326) w5 (Ex.refl _ _)).output
          · exact (Ex.sets (S := fun j => j = g2) rfl U (n * 326) w5 (Ex.refl _ _)).size
          · exact fun k hk hne => (Ex.sets (S := fun j => j = g2) rfl U (n * 326) w5 (Ex.refl _ _)).block k hk (fun e => hne (by rw [e]))
        have hnb : b ∉ blks ([m] ++ Value.slice (some ⟨g2, 0, none⟩) (n + 1) cap2 :: (ledW sw ++ [(l.fl, [m'])]).flatMap (·.2)) ∧ ∀ j, j ∈ blks ([m] ++ Value.slice (some ⟨g2, 0, none⟩) (n + 1) cap2 :: (ledW sw ++ [(l.fl, [m'])]).flatMap (·.2)) → j ∈ B ∨ w.heap.size ≤ j := by
          have key : ∀ j, j ∈ blks ([m] ++ Value.slice (some ⟨g2, 0, none⟩) (n + 1) cap2 :: (ledW sw ++ [(l.fl, [m'])]).flatMap (·.2)) → (j ∈ B ∨ w.heap.size ≤ j) := fun j hj => by
            obtain ⟨v, hv, ev⟩ := mem_blks.1 hj
            simp only [List.mem_append, List.mem_cons, List.not_mem_nil, or_false, List.flatMap_append, List.flatMap_cons, List.flatMap_nil, List.append_nil] at hv
            rcases hv with rfl | rfl | hv | rfl
            · exact .inl (HCA.out.bl ▸ mem_blks.2 ⟨_, by simp, ev⟩)
            · have e : g2 = j := by simpa [Value.ownBlock] using ev
              rw [← e]; exact hgB
            · exact .inl (HCA.out.bl ▸ mem_blks.2 ⟨v, List.mem_append_right _ (List.mem_cons_of_mem _ hv), ev⟩)
            · exact .inr (HNB.out j ev)
          refine ⟨fun hj => ?_, key⟩
          rcases key b hj with z | z
          · exact HBB.out z
          · have := HBL.out; omega
        have exs := Ex.sets (S := fun j => j = g2) rfl U (n * 326) w5 (Ex.refl _ _)
        have hb5 : b < w5.heap.size := World.block_lt_of_cell? _ _ c5
        refine ⟨rfl, hcg.set (by omega) _, _, ⟨sw ++ [(l, m')], m, .slice (some ⟨g2, 0, none⟩) (n + 1) cap2, by simp [HSW.out], ⟨?_, ?_, there_set (there_ex HTH5.out hb5 exs (fun e => hgb e.symm)) _ _, rfl⟩, HO.out, ?_, ?_, ?_⟩, ?_⟩
        · rw [show ledW (sw ++ [(l, m')]) = ledW sw ++ [(l.fl, [m'])] by simp [ledW]]
          exact hcv.keep (S := fun k => k = b) ((Ex.refl (fun k => k = b) _).set rfl _) (fun k hk e => hnb.1 (e ▸ hk))
        · have := range_set (range_ex HRG5.out hb5 exs (fun e => hgb e.symm)) 325 (.slice (some ⟨g2, 0, none⟩) (n + 1) cap2)
          rw [Led0.set325 HO.out] at this
          exact this
        · intro x hx
          rcases List.mem_append.1 hx with hx | hx
          · exact HSO.out x hx
          · have e : x = l := by simpa using hx
            rw [e]; exact HO.out
        · have h1 := (hcg.set (j := 325) (by omega) (.slice (some ⟨g2, 0, none⟩) (n + 1) cap2)).ex.size
          have := HBL.out
          omega
        · rw [show ledW (sw ++ [(l, m')]) = ledW sw ++ [(l.fl, [m'])] by simp [ledW]]
          exact hnb.1
        · rw [show ledW (sw ++ [(l, m')]) = ledW sw ++ [(l.fl, [m'])] by simp [ledW]]
          exact hnb.2
      try rw [setCells_comm (fun e => hgb e.symm) (o + 325)]
      generalize (w5.setCells g2 (n * 326) U).setCell ⟨b, o + 325, none⟩ (.slice (some ⟨g2, 0, none⟩) (n + 1) cap2) = w6 at *
      go_wp2
      exact HWZ.out
    · have c6 : (w5.setCells g2 (n * 326) U).cell? ⟨b, o + 325, none⟩ = some (.slice sa n sc) := by rw [World.cell?_setCells_out g2 U (n * 326) w5 ⟨b, o + 325, none⟩ (fun e => absurd e (fun e => hgb e.symm))]; exact c5
      have f6 : (w5.setCells g2 (n * 326) U).frozen? ⟨b, o + 325, none⟩ = false := by rw [World.frozen?_setCells]; exact f5
      go_simp
      refine hK.out _ _ ?_ (fun hHeld => ?_)
      · first | exact range_set_ne HRU5.out HYb.out _ _ | exact range_set_ne (World.rangeAt_setCells_apart HRU5.out g2 (n * 326) U (.inl (fun e => hgY e.symm))) HYb.out _ _
      clear hK K
      try simp only [Act.put, List.getElem_toArray, List.getElem_cons_zero, List.getElem_cons_succ, List.setIfInBounds_toArray, List.set_cons_zero, List.set_cons_succ]
      refine wpAnyH_ready (rs := [9]) (by kernel_rfl) (by simp) ?_
      refine (AllReadyH.cons rfl (fun K hK => ?_) AllReadyH.nil)
      refine step_storeM rfl 50 (.tmp 23) (.tmp 19) rfl g2 (n * 326) U rfl rfl (by rw [HUl.out]; first | exact HT5.out | exact there_set HT5.out _ _) (by rw [HUl.out]; exact Try.sz50) HU1.out ?_
      refine hK.out _ _ ?_ (fun hHeld => ?_)
      · first | exact World.rangeAt_setCells_apart HRU5.out g2 (n * 326) U (.inl (fun e => hgY e.symm)) | exact World.rangeAt_setCells_apart (range_set_ne HRU5.out HYb.out _ _) g2 (n * 326) U (.inl (fun e => hgY e.symm))
      clear hK K
      try simp only [Act.put, List.getElem_toArray, List.getElem_cons_zero, List.getElem_cons_succ, List.setIfInBounds_toArray, List.set_cons_zero, List.set_cons_succ]
      refine wpAnyH_done (by kernel_rfl) ?_ _
      have HWZ : Hid (R (.returned (.int .i64 0)) ((w5.setCells g2 (n * 326) U).setCell ⟨b, o + 325, none⟩ (.slice (some ⟨g2, 0, none⟩) (n + 1) cap2))) := by
        rw [← HR.out]
        have hcv := HP5.out.1
        have hcg : Cg b o 326 B w (w5.setCells g2 (n * 326) U) := by
          refine HCg5.out.grown (row := some g2) ⟨?_, ?_, ?_, ?_, ?_⟩ (fun j hj => by cases hj; exact hgB) HBL.out (by simpa using hgb)
          · exact (Ex.sets (S := fun j => j = g2) rfl U (n * 326) w5 (Ex.refl _ _)).os
          · exact (Ex.sets (S := fun j => j = g2) rfl U (n * 326) w5 (Ex.refl _ _)).tape
          · exact (Ex.sets (S := fun j => j = g2) rfl U (n * 326) w5 (Ex.refl _ _)).output
          · exact (Ex.sets (S := fun j => j = g2) rfl U (n * 326) w5 (Ex.refl _ _)).size
          · exact fun k hk hne => (Ex.sets (S := fun j => j = g2) rfl U (n * 326) w5 (Ex.refl _ _)).block k hk (fun e => hne (by rw [e]))
        have hnb : b ∉ blks ([m] ++ Value.slice (some ⟨g2, 0, none⟩) (n + 1) cap2 :: (ledW sw ++ [(l.fl, [m'])]).flatMap (·.2)) ∧ ∀ j, j ∈ blks ([m] ++ Value.slice (some ⟨g2, 0, none⟩) (n + 1) cap2 :: (ledW sw ++ [(l.fl, [m'])]).flatMap (·.2)) → j ∈ B ∨ w.heap.size ≤ j := by
          have key : ∀ j, j ∈ blks ([m] ++ Value.slice (some ⟨g2, 0, none⟩) (n + 1) cap2 :: (ledW sw ++ [(l.fl, [m'])]).flatMap (·.2)) → (j ∈ B ∨ w.heap.size ≤ j) := fun j hj => by
            obtain ⟨v, hv, ev⟩ := mem_blks.1 hj
            simp only [List.mem_append, List.mem_cons, List.not_mem_nil, or_false, List.flatMap_append, List.flatMap_cons, List.flatMap_nil, List.append_nil] at hv
            rcases hv with rfl | rfl | hv | rfl
            · exact .inl (HCA.out.bl ▸ mem_blks.2 ⟨_, by simp, ev⟩)
            · have e : g2 = j := by simpa [Value.ownBlock] using ev
              rw [← e]; exact hgB
            · exact .inl (HCA.out.bl ▸ mem_blks.2 ⟨v, List.mem_append_right _ (List.mem_cons_of_mem _ hv), ev⟩)
            · exact .inr (HNB.out j ev)
          refine ⟨fun hj => ?_, key⟩
          rcases key b hj with z | z
          · exact HBB.out z
          · have := HBL.out; omega
        have exs := Ex.sets (S := fun j => j = g2) rfl U (n * 326) w5 (Ex.refl _ _)
        have hb5 : b < w5.heap.size := World.block_lt_of_cell? _ _ c5
        refine ⟨rfl, hcg.set (by omega) _, _, ⟨sw ++ [(l, m')], m, .slice (some ⟨g2, 0, none⟩) (n + 1) cap2, by simp [HSW.out], ⟨?_, ?_, there_set (there_ex HTH5.out hb5 exs (fun e => hgb e.symm)) _ _, rfl⟩, HO.out, ?_, ?_, ?_⟩, ?_⟩
        · rw [show ledW (sw ++ [(l, m')]) = ledW sw ++ [(l.fl, [m'])] by simp [ledW]]
          exact hcv.keep (S := fun k => k = b) ((Ex.refl (fun k => k = b) _).set rfl _) (fun k hk e => hnb.1 (e ▸ hk))
        · have := range_set (range_ex HRG5.out hb5 exs (fun e => hgb e.symm)) 325 (.slice (some ⟨g2, 0, none⟩) (n + 1) cap2)
          rw [Led0.set325 HO.out] at this
          exact this
        · intro x hx
          rcases List.mem_append.1 hx with hx | hx
          · exact HSO.out x hx
          · have e : x = l := by simpa using hx
            rw [e]; exact HO.out
        · have h1 := (hcg.set (j := 325) (by omega) (.slice (some ⟨g2, 0, none⟩) (n + 1) cap2)).ex.size
          have := HBL.out
          omega
        · rw [show ledW (sw ++ [(l, m')]) = ledW sw ++ [(l.fl, [m'])] by simp [ledW]]
          exact hnb.1
        · rw [show ledW (sw ++ [(l, m')]) = ledW sw ++ [(l.fl, [m'])] by simp [ledW]]
          exact hnb.2
      try rw [setCells_comm (fun e => hgb e.symm) (o + 325)]
      generalize (w5.setCells g2 (n * 326) U).setCell ⟨b, o + 325, none⟩ (.slice (some ⟨g2, 0, none⟩) (n + 1) cap2) = w6 at *
      go_wp2
      exact HWZ.out
end Go.Proofs.Qxb6500784a
