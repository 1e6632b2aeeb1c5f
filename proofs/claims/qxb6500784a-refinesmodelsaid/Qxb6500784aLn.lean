import Derived.Test.Qxb6500784aLm
namespace Go.Proofs.Qxb6500784a
open Go.RowKit

theorem step_storeM {P : Program} {w : World} {ops : Array Oper} {op : Oper} {a : Act} {K : Act → World → Prop} {Q : Exit → Act → World → Prop} {E : Prop} (hg : op.guard = none) (ty : TypeId) (x y : Operand) (ho : op.op = .store ty x y)
    (b o : Nat) (cs : List Value) (hx : a.eval x = .pointer (some ⟨b, o, none⟩)) (hy : a.eval y = .agg cs.toArray) (ht : w.there b o cs.length) (hi : (P.info? ty).map (·.size) = some cs.length) (h1 : ∀ u ∈ cs, u.oneCell' = true)
    (h : K (a.put op.dst undef) (w.setCells b o cs)) : if Region.wanted op (yielded ops a.tmps) = true then Oper.wp P op a w K Q else E := by
  rw [if_pos (by simp [Region.wanted, hg])]
  exact wp_store_mid ty x y ho b o cs.toArray hx hy (by simpa using ht) (by simpa using hi) (all_oneCell_toArray h1) (by simpa using h)
/-- What the last checkpoint holds. -/
theorem LA.back {w : World} {b o : Nat} {l : Led0} {sv : List Led0} {x : Led0} {B : List Nat} (h : LA w b o l (sv ++ [x]) B) : ∃ g c P B', w.cell? ⟨b, o + 325, none⟩ = some (.slice (some ⟨g, 0, none⟩) (sv.length + 1) c) ∧ sv.length + 1 ≤ c ∧ g ≠ b ∧ P.length = 326 ∧ (∀ u ∈ P, u.oneCell' = true) ∧ w.rangeAt g (sv.length * 326) P ∧ w.there b o 326 ∧
    P[325]? = some nilS ∧ LA ((w.setCells b o P).setCell ⟨b, o + 325, none⟩ (.slice (some ⟨g, 0, none⟩) sv.length c)) b o x sv B' ∧ ∀ j, j ∈ B' → j ∈ B := by
  obtain ⟨sw, m, s, h1, h2, h3, h4, h5, h6⟩ := h
  obtain ⟨sw', p, rfl, e1, rfl⟩ := split_last h1
  obtain ⟨hc, hr, ht, rfl⟩ := h2
  have hlw : (ledW sw').length = sv.length := by rw [← e1]; simp [ledW]
  have hlp : ledW (sw' ++ [p]) = ledW sw' ++ [(p.1.fl, [p.2])] := by simp [ledW]
  rw [hlp] at hc h6 ⊢
  have hl : (ledW sw' ++ [(p.1.fl, [p.2])]).length = sv.length + 1 := by rw [List.length_append, hlw]; rfl
  obtain ⟨g, c, hs⟩ := own_some hc.sl (by rw [hl]; omega)
  rw [hl] at hs
  subst hs
  have hcap : sv.length + 1 ≤ c := by
    rcases hc.sl.2 with ⟨e, _⟩ | ⟨g', cap, cur, e, _, _, hn, _⟩
    · cases e
    · injection e with _ _ e; subst e; rw [hl] at hn; exact hn
  have hpo : p.1.Ok := h4 p.1 (by simp)
  have hlen : ∀ q, q ∈ ledW sw' ++ [(p.1.fl, [p.2])] → (q.1.lay q.2 nilS).length = 326 := fun q hq => by
    rcases List.mem_append.1 hq with hq | hq
    · obtain ⟨y, hy, rfl⟩ := List.mem_map.1 hq
      exact Led0.len (h4 y.1 (by rw [← e1]; exact List.mem_append_left _ (List.mem_map_of_mem hy))) _ _
    · have e : q = (p.1.fl, [p.2]) := by simpa using hq
      subst e
      exact Led0.len hpo _ _
  have hgb : g ≠ b := fun e => h6 (mem_blks.2 ⟨_, List.mem_append_right _ (List.mem_cons_self ..), by simp [Value.ownBlock, e]⟩)
  have hrg : w.rangeAt g (sv.length * 326) (p.1.vals p.2 nilS) := by
    have := range_flat (k := 326) hlen (own_range hc.sl) (i := sv.length) (x := (p.1.fl, [p.2])) (by rw [← hlw]; simp)
    exact this
  have hone : ∀ u ∈ p.1.vals p.2 nilS, u.oneCell' = true := Led0.one p.1 (own_one ((hc.ea (p.1.fl, [p.2]) (by simp)).2 0 _ p.2 rfl rfl)) rfl
  rw [← hlw] at hc h6 hr ⊢
  obtain ⟨hp, hsub⟩ := hc.back (fun q hq => hlen q (List.mem_append_left _ hq))
  have hk := hp.keep (S := fun k => k = b) ((Ex.sets (S := fun k => k = b) rfl (p.1.vals p.2 nilS) o w (Ex.refl _ _)).set (j := o + 325) rfl (.slice (some ⟨g, 0, none⟩) (ledW sw').length c)) (fun k hk e => h6 (e ▸ hsub k hk))
  have htl : w.there b o (p.1.vals p.2 nilS).length := by rw [Led0.len hpo]; exact ht
  refine ⟨g, c, p.1.vals p.2 nilS, _, hr 325 _ (Led0.at325 h3 _ _), by omega, hgb, Led0.len hpo _ _, hone, by rw [hlw]; exact hrg, ht, Led0.at325 hpo _ _, ⟨sw', p.2, .slice (some ⟨g, 0, none⟩) (ledW sw').length c, e1, ⟨hk, ?_, there_set (World.there_setCells ht _ _ _) _ _, rfl⟩, hpo, fun y hy => h4 y (List.mem_append_left _ hy), ?_, fun e => h6 (hsub b e)⟩, hsub⟩
  · have := range_set (World.rangeAt_setCells_same w b o _ htl) 325 (.slice (some ⟨g, 0, none⟩) (ledW sw').length c)
    rw [Led0.set325 hpo] at this
    exact this
  · exact Nat.lt_of_lt_of_le h5 ((Ex.sets (S := fun k => k = b) rfl (p.1.vals p.2 nilS) o w (Ex.refl _ _)).set (j := o + 325) rfl (.slice (some ⟨g, 0, none⟩) (ledW sw').length c)).size
attribute [-simp] Try.isAgg92 Try.sizeOf92 Try.typeInfo92 Try.isAgg50 Try.sizeOf50 Try.typeInfo50 Try.isAgg54 Try.sizeOf54 Try.typeInfo54 Try.isAgg68 Try.sizeOf68 Try.typeInfo68
set_option linter.unusedSimpArgs false in
set_option maxRecDepth 100000 in
set_option maxHeartbeats 4000000 in
/-- State.Revert -/
theorem revertL_any (w : World) (b o : Nat) (l : Led0) (sv : List Led0) (x : Led0) (B : List Nat) (h : LA w b o l (sv ++ [x]) B) (hl : sv.length ≤ 1000) :
    Calls Try.prog 95 #[.pointer (some ⟨b, o, none⟩)] w (LStep w b o B (.int .i64 0) x sv) := by
  have bd : Below w.heap.size w w.drew.drew := ((Below.refl _ _).drew).drew
  obtain ⟨g, c, P, B', c1, hcap, hgb, hPl, hP1, hPr, hth, hP5, h2, h3⟩ := (h.below bd).back
  have c0 : w.cell? ⟨b, o + 325, none⟩ = some (.slice (some ⟨g, 0, none⟩) (sv.length + 1) c) := c1
  have HR : Hid (LStep w b o B (.int .i64 0) x sv (.returned (.int .i64 0)) ((w.drew.drew.setCells b o P).setCell ⟨b, o + 325, none⟩ (.slice (some ⟨g, 0, none⟩) sv.length c))) :=
    ⟨rfl, ((Cg.below bd h.bl.1).sets P (by omega)).set (by omega) _, B', h2, fun j hj => .inl (h3 j hj)⟩
  have HPl := hide hPl
  have HP1 := hide hP1
  have HPr := hide hPr
  have HTH := hide hth
  have c5 : (w.drew.drew.setCells b o P).cell? ⟨b, o + 325, none⟩ = some nilS := World.rangeAt_setCells_same w.drew.drew b o P (by rw [hPl]; exact hth) 325 nilS hP5
  have f5 : (w.drew.drew.setCells b o P).frozen? ⟨b, o + 325, none⟩ = false := by rw [World.frozen?_setCells]; exact (hth 325 (by omega)).2
  generalize LStep w b o B (.int .i64 0) x sv = R at *
  generalize sv.length = n at *
  clear h h2 h3 c1 bd hPl hP1 hPr hth hP5
  have hz := Try.sizeOf50
  have hw : IntKind.i64.wrap (n : Int) = n := by simp [IntKind.wrap, IntKind.signed, IntKind.bits]; omega
  have hlt1 : (n : Int) < n + 1 := by omega
  go_enter Try.func95, Try.ntmps95
  go_upto_region 3 with fail
  go_region
  go_upto_region 4 with fail
  refine wp_region_held_drew (S := fun w' => w'.rangeAt g (n * 326) P) (by kernel_rfl) HPr.out (fun hHeld => ?_)

  refine wpAnyH_take (i := 0) (v := ?_) rfl (by kernel_rfl) (by kernel_rfl) (by kernel_rfl) (fun _ _ _ h => h) (Or.inl ⟨by rfl, ?_⟩) (by assumption) ?_
  rotate_left
  · (intro w hSw; (try dsimp only at hSw); go_simp; try (with_reducible rfl))
  try simp only [Act.put, List.getElem_toArray, List.getElem_cons_zero, List.getElem_cons_succ, List.setIfInBounds_toArray, List.set_cons_zero, List.set_cons_succ]
  refine wpAnyH_take (i := 1) (v := ?_) rfl (by kernel_rfl) (by kernel_rfl) (by kernel_rfl) (fun _ _ _ h => h) (Or.inl ⟨by rfl, ?_⟩) (by assumption) ?_
  rotate_left
  · (intro w hSw; (try dsimp only at hSw); go_simp; try (with_reducible rfl))
  try simp only [Act.put, List.getElem_toArray, List.getElem_cons_zero, List.getElem_cons_succ, List.setIfInBounds_toArray, List.set_cons_zero, List.set_cons_succ]
  refine wpAnyH_take (i := 2) (v := ?_) rfl (by kernel_rfl) (by kernel_rfl) (by kernel_rfl) (fun _ _ _ h => h) (Or.inl ⟨by rfl, ?_⟩) (by assumption) ?_
  rotate_left
  · (intro w hSw; (try dsimp only at hSw); go_simp; try (with_reducible rfl))
  try simp only [Act.put, List.getElem_toArray, List.getElem_cons_zero, List.getElem_cons_succ, List.setIfInBounds_toArray, List.set_cons_zero, List.set_cons_succ]
  refine wpAnyH_take (i := 3) (v := ?_) rfl (by kernel_rfl) (by kernel_rfl) (by kernel_rfl) (fun _ _ _ h => h) (Or.inl ⟨by rfl, ?_⟩) (by assumption) ?_
  rotate_left
  · (intro w hSw; (try dsimp only at hSw); go_simp; try (with_reducible rfl))
  try simp only [Act.put, List.getElem_toArray, List.getElem_cons_zero, List.getElem_cons_succ, List.setIfInBounds_toArray, List.set_cons_zero, List.set_cons_succ]
  refine wpAnyH_take (i := 5) (v := ?_) rfl (by kernel_rfl) (by kernel_rfl) (by kernel_rfl) (fun _ _ _ h => h) (Or.inl ⟨by rfl, ?_⟩) (by assumption) ?_
  rotate_left
  · (intro w hSw; (try dsimp only at hSw); go_simp; try (with_reducible rfl))
  try simp only [Act.put, List.getElem_toArray, List.getElem_cons_zero, List.getElem_cons_succ, List.setIfInBounds_toArray, List.set_cons_zero, List.set_cons_succ]
  refine wpAnyH_take (i := 6) (v := ?_) rfl (by kernel_rfl) (by kernel_rfl) (by kernel_rfl) (fun _ _ _ h => h) (Or.inl ⟨by rfl, ?_⟩) (by assumption) ?_
  rotate_left
  · (intro w hSw; (try dsimp only at hSw); go_simp; try (with_reducible rfl))
  try simp only [Act.put, List.getElem_toArray, List.getElem_cons_zero, List.getElem_cons_succ, List.setIfInBounds_toArray, List.set_cons_zero, List.set_cons_succ]
  refine wpAnyH_take (i := 7) (v := ?_) rfl (by kernel_rfl) (by kernel_rfl) (by kernel_rfl) (fun _ _ _ h => h) (Or.inl ⟨by rfl, ?_⟩) (by assumption) ?_
  rotate_left
  · (intro w hSw; (try dsimp only at hSw); go_simp; try (with_reducible rfl))
  try simp only [Act.put, List.getElem_toArray, List.getElem_cons_zero, List.getElem_cons_succ, List.setIfInBounds_toArray, List.set_cons_zero, List.set_cons_succ]
  refine wpAnyH_ready (rs := [4, 8]) (by kernel_rfl) (by simp) ?_
  refine (AllReadyH.cons rfl (fun K hK => ?_) (AllReadyH.cons rfl (fun K hK => ?_) AllReadyH.nil))
  · go_simp
    refine hK.out _ _ ?_ (fun hHeld => ?_)
    · exact HPr.out
    clear hK K
    try simp only [Act.put, List.getElem_toArray, List.getElem_cons_zero, List.getElem_cons_succ, List.setIfInBounds_toArray, List.set_cons_zero, List.set_cons_succ]
    refine wpAnyH_ready (rs := [8]) (by kernel_rfl) (by simp) ?_
    refine (AllReadyH.cons rfl (fun K hK => ?_) AllReadyH.nil)
    go_simp
    refine hK.out _ _ ?_ (fun hHeld => ?_)
    · exact HPr.out
    clear hK K
    try simp only [Act.put, List.getElem_toArray, List.getElem_cons_zero, List.getElem_cons_succ, List.setIfInBounds_toArray, List.set_cons_zero, List.set_cons_succ]
    refine wpAnyH_take (i := 9) (v := ?_) rfl (by kernel_rfl) (by kernel_rfl) (by kernel_rfl) (fun _ _ _ h => h) (Or.inl ⟨by rfl, ?_⟩) (by assumption) ?_
    rotate_left
    · (intro w hSw; (try dsimp only at hSw); go_simp; try (with_reducible rfl))
    try simp only [Act.put, List.getElem_toArray, List.getElem_cons_zero, List.getElem_cons_succ, List.setIfInBounds_toArray, List.set_cons_zero, List.set_cons_succ]
    refine wpAnyH_take (i := 10) (v := ?_) rfl (by kernel_rfl) (by kernel_rfl) (by kernel_rfl) (fun _ _ _ h => h) (Or.inl ⟨by rfl, ?_⟩) (by assumption) ?_
    rotate_left
    · (intro w hSw; (try dsimp only at hSw); go_simp; try (with_reducible rfl))
    try simp only [Act.put, List.getElem_toArray, List.getElem_cons_zero, List.getElem_cons_succ, List.setIfInBounds_toArray, List.set_cons_zero, List.set_cons_succ]
    refine wpAnyH_take (i := 11) (v := ?_) rfl (by kernel_rfl) (by kernel_rfl) (by kernel_rfl) (fun _ _ _ h => h) (Or.inl ⟨by rfl, ?_⟩) (by assumption) ?_
    rotate_left
    · (intro w hSw; (try dsimp only at hSw); go_simp; try (with_reducible rfl))
    try simp only [Act.put, List.getElem_toArray, List.getElem_cons_zero, List.getElem_cons_succ, List.setIfInBounds_toArray, List.set_cons_zero, List.set_cons_succ]
    refine wpAnyH_take (i := 12) rfl (by kernel_rfl) (by kernel_rfl) (by kernel_rfl) (fun _ _ _ h => h) (yieldsIf_load_mid (by rfl) 50 (.tmp 32) rfl g (n * 326) rfl P _ (fun w hSw => hSw) Try.underlying50 rfl (by rw [HPl.out]; exact Try.sz50)) (by assumption) ?_
    try simp only [Act.put, List.getElem_toArray, List.getElem_cons_zero, List.getElem_cons_succ, List.setIfInBounds_toArray, List.set_cons_zero, List.set_cons_succ]
    refine wpAnyH_take (i := 13) (v := ?_) rfl (by kernel_rfl) (by kernel_rfl) (by kernel_rfl) (fun _ _ _ h => h) (Or.inl ⟨by rfl, ?_⟩) (by assumption) ?_
    rotate_left
    · (intro w hSw; (try dsimp only at hSw); go_simp; try (with_reducible rfl))
    try simp only [Act.put, List.getElem_toArray, List.getElem_cons_zero, List.getElem_cons_succ, List.setIfInBounds_toArray, List.set_cons_zero, List.set_cons_succ]
    refine wpAnyH_ready (rs := [14]) (by kernel_rfl) (by simp) ?_
    refine (AllReadyH.cons rfl (fun K hK => ?_) AllReadyH.nil)
    refine step_storeM rfl 50 (.tmp 34) (.tmp 33) rfl b o P rfl rfl (by rw [HPl.out]; exact HTH.out) (by rw [HPl.out]; exact Try.sz50) HP1.out ?_
    refine hK.out _ _ ?_ (fun hHeld => ?_)
    · exact World.rangeAt_setCells_apart HPr.out b o P (.inl hgb)
    clear hK K
    try simp only [Act.put, List.getElem_toArray, List.getElem_cons_zero, List.getElem_cons_succ, List.setIfInBounds_toArray, List.set_cons_zero, List.set_cons_succ]
    refine wpAnyH_done (by kernel_rfl) ?_ _
    generalize w.drew.drew.setCells b o P = w2 at *
    go_wp2
    exact HR.out
  · go_simp
    refine hK.out _ _ ?_ (fun hHeld => ?_)
    · exact HPr.out
    clear hK K
    try simp only [Act.put, List.getElem_toArray, List.getElem_cons_zero, List.getElem_cons_succ, List.setIfInBounds_toArray, List.set_cons_zero, List.set_cons_succ]
    refine wpAnyH_take (i := 9) (v := ?_) rfl (by kernel_rfl) (by kernel_rfl) (by kernel_rfl) (fun _ _ _ h => h) (Or.inl ⟨by rfl, ?_⟩) (by assumption) ?_
    rotate_left
    · (intro w hSw; (try dsimp only at hSw); go_simp; try (with_reducible rfl))
    try simp only [Act.put, List.getElem_toArray, List.getElem_cons_zero, List.getElem_cons_succ, List.setIfInBounds_toArray, List.set_cons_zero, List.set_cons_succ]
    refine wpAnyH_take (i := 10) (v := ?_) rfl (by kernel_rfl) (by kernel_rfl) (by kernel_rfl) (fun _ _ _ h => h) (Or.inl ⟨by rfl, ?_⟩) (by assumption) ?_
    rotate_left
    · (intro w hSw; (try dsimp only at hSw); go_simp; try (with_reducible rfl))
    try simp only [Act.put, List.getElem_toArray, List.getElem_cons_zero, List.getElem_cons_succ, List.setIfInBounds_toArray, List.set_cons_zero, List.set_cons_succ]
    refine wpAnyH_ready (rs := [4]) (by kernel_rfl) (by simp) ?_
    refine (AllReadyH.cons rfl (fun K hK => ?_) AllReadyH.nil)
    go_simp
    refine hK.out _ _ ?_ (fun hHeld => ?_)
    · exact HPr.out
    clear hK K
    try simp only [Act.put, List.getElem_toArray, List.getElem_cons_zero, List.getElem_cons_succ, List.setIfInBounds_toArray, List.set_cons_zero, List.set_cons_succ]
    refine wpAnyH_take (i := 11) (v := ?_) rfl (by kernel_rfl) (by kernel_rfl) (by kernel_rfl) (fun _ _ _ h => h) (Or.inl ⟨by rfl, ?_⟩) (by assumption) ?_
    rotate_left
    · (intro w hSw; (try dsimp only at hSw); go_simp; try (with_reducible rfl))
    try simp only [Act.put, List.getElem_toArray, List.getElem_cons_zero, List.getElem_cons_succ, List.setIfInBounds_toArray, List.set_cons_zero, List.set_cons_succ]
    refine wpAnyH_take (i := 12) rfl (by kernel_rfl) (by kernel_rfl) (by kernel_rfl) (fun _ _ _ h => h) (yieldsIf_load_mid (by rfl) 50 (.tmp 32) rfl g (n * 326) rfl P _ (fun w hSw => hSw) Try.underlying50 rfl (by rw [HPl.out]; exact Try.sz50)) (by assumption) ?_
    try simp only [Act.put, List.getElem_toArray, List.getElem_cons_zero, List.getElem_cons_succ, List.setIfInBounds_toArray, List.set_cons_zero, List.set_cons_succ]
    refine wpAnyH_take (i := 13) (v := ?_) rfl (by kernel_rfl) (by kernel_rfl) (by kernel_rfl) (fun _ _ _ h => h) (Or.inl ⟨by rfl, ?_⟩) (by assumption) ?_
    rotate_left
    · (intro w hSw; (try dsimp only at hSw); go_simp; try (with_reducible rfl))
    try simp only [Act.put, List.getElem_toArray, List.getElem_cons_zero, List.getElem_cons_succ, List.setIfInBounds_toArray, List.set_cons_zero, List.set_cons_succ]
    refine wpAnyH_ready (rs := [14]) (by kernel_rfl) (by simp) ?_
    refine (AllReadyH.cons rfl (fun K hK => ?_) AllReadyH.nil)
    refine step_storeM rfl 50 (.tmp 34) (.tmp 33) rfl b o P rfl rfl (by rw [HPl.out]; exact HTH.out) (by rw [HPl.out]; exact Try.sz50) HP1.out ?_
    refine hK.out _ _ ?_ (fun hHeld => ?_)
    · exact World.rangeAt_setCells_apart HPr.out b o P (.inl hgb)
    clear hK K
    try simp only [Act.put, List.getElem_toArray, List.getElem_cons_zero, List.getElem_cons_succ, List.setIfInBounds_toArray, List.set_cons_zero, List.set_cons_succ]
    refine wpAnyH_done (by kernel_rfl) ?_ _
    generalize w.drew.drew.setCells b o P = w2 at *
    go_wp2
    exact HR.out
end Go.Proofs.Qxb6500784a
