import Derived.Test.Qxb6500784aLc
namespace Go.Proofs.Qxb6500784a
open Go.RowKit

def BStep (w : World) (b o : Nat) (B : List Nat) (v : Value) (l' : Box0) (sv' : List Box0) (e : Ending) (w' : World) : Prop :=
  e = .returned v ∧ Cg b o 5 B w w' ∧ ∃ B', BA w' b o l' sv' B' ∧ ∀ j, j ∈ B' → j ∈ B ∨ w.heap.size ≤ j
theorem BA.cell {w : World} {b o : Nat} {l : Box0} {sv : List Box0} {B : List Nat} (h : BA w b o l sv B) {j : Nat} {u : Value} (hj : ∀ x y s, (l.vals x y s)[j]? = some u) : w.cell? ⟨b, o + j, none⟩ = some u := by
  obtain ⟨sw, m, v, s, h1, h2, h3, h4, h5, h6⟩ := h
  exact h2.rg j u (hj m v s)
theorem BA.fz {w : World} {b o : Nat} {l : Box0} {sv : List Box0} {B : List Nat} (h : BA w b o l sv B) {j : Nat} (hj : j < 5) : w.frozen? ⟨b, o + j, none⟩ = false := by
  obtain ⟨sw, m, v, s, h1, h2, h3, h4, h5, h6⟩ := h
  exact (h2.th j hj).2
theorem BA.ok {w : World} {b o : Nat} {l : Box0} {sv : List Box0} {B : List Nat} (h : BA w b o l sv B) : l.Ok := by
  obtain ⟨sw, m, v, s, h1, h2, h3, h4, h5, h6⟩ := h
  exact h3
theorem BA.bl {w : World} {b o : Nat} {l : Box0} {sv : List Box0} {B : List Nat} (h : BA w b o l sv B) : b < w.heap.size ∧ b ∉ B := by
  obtain ⟨sw, m, v, s, h1, h2, h3, h4, h5, h6⟩ := h
  exact ⟨h5, h6⟩
theorem BA.sav {w : World} {b o : Nat} {l : Box0} {sv : List Box0} {B : List Nat} (h : BA w b o l sv B) : ∃ a c, w.cell? ⟨b, o + 4, none⟩ = some (.slice a sv.length c) := by
  obtain ⟨sw, m, v, s, h1, h2, h3, h4, h5, h6⟩ := h
  obtain ⟨a, c, e⟩ := own_form h2.cv.sl
  refine ⟨a, c, ?_⟩
  have := h2.rg 4 s rfl
  rw [this, e, ← h1]
  simp [boxW]
theorem Box0.len (l : Box0) (u v s : Value) : (l.vals u v s).length = 5 := rfl
theorem Box0.at4 (l : Box0) (u v s : Value) : (l.vals u v s)[4]? = some s := rfl
theorem Box0.set4 (l : Box0) (u v s x : Value) : (l.vals u v s).set 4 x = l.vals u v x := rfl

def SmallB (l : Box0) (sv : List Box0) : Prop := (l.out.length ≤ 1000000000000 ∧ l.inb.length ≤ 1000000000000) ∧ (∀ x, x ∈ sv → x.out.length ≤ 1000000000000 ∧ x.inb.length ≤ 1000000000000) ∧ sv.length ≤ 1000
theorem zl54 : (#[.int .u8 0, .slice none 0 0, .slice none 0 0, .int .i64 0, .slice none 0 0] : Array Value).toList.length = 5 ∧ ∀ u ∈ (#[.int .u8 0, .slice none 0 0, .slice none 0 0, .int .i64 0, .slice none 0 0] : Array Value).toList, u.oneCell' = true := by
  refine ⟨rfl, fun u hu => ?_⟩
  simp only [List.mem_cons, List.not_mem_nil, or_false] at hu
  rcases hu with rfl | rfl | rfl | rfl | rfl <;> rfl
theorem BA.pop {w : World} {b o : Nat} {l : Box0} {sv : List Box0} {x : Box0} {B : List Nat} (h : BA w b o l (sv ++ [x]) B) : ∃ a c B', w.cell? ⟨b, o + 4, none⟩ = some (.slice a (sv.length + 1) c) ∧ sv.length + 1 ≤ c ∧ BA (w.setCell ⟨b, o + 4, none⟩ (.slice a sv.length c)) b o l sv B' ∧ ∀ j, j ∈ B' → j ∈ B := by
  obtain ⟨sw, m, mq, s, h1, h2, h3, h4, h5, h6⟩ := h
  obtain ⟨sw', p, rfl, e1, _⟩ := split_last h1
  obtain ⟨hc, hr, ht, rfl⟩ := h2
  have hlw : (boxW sw').length = sv.length := by rw [← e1]; simp [boxW]
  have hlp : boxW (sw' ++ [p]) = boxW sw' ++ [(p.1.fl, [p.2.1, p.2.2])] := by simp [boxW]
  rw [hlp] at hc h6 ⊢
  have hl : (boxW sw' ++ [(p.1.fl, [p.2.1, p.2.2])]).length = sv.length + 1 := by rw [List.length_append, hlw]; rfl
  obtain ⟨g, c, hs⟩ := own_some hc.sl (by rw [hl]; omega)
  rw [hl] at hs
  subst hs
  have hcap : sv.length + 1 ≤ c := by
    rcases hc.sl.2 with ⟨e, _⟩ | ⟨g', cap, cur, e, _, _, hn, _⟩
    · cases e
    · injection e with _ _ e; subst e; rw [hl] at hn; exact hn
  have hlen : ∀ q, q ∈ boxW sw' → (q.1.lay q.2 nilS).length = 5 := fun q hq => by
    obtain ⟨y, hy, rfl⟩ := List.mem_map.1 hq
    exact Box0.len _ _ _ _
  rw [← hlw] at hc h6 ⊢
  obtain ⟨hp, hsub⟩ := hc.pop hlen
  have hk := hp.keep (S := fun k => k = b) ((Ex.refl (fun k => k = b) _).set (j := o + 4) rfl (.slice (some ⟨g, 0, none⟩) (boxW sw').length c)) (fun k hk e => h6 (e ▸ hsub k hk))
  refine ⟨some ⟨g, 0, none⟩, c, _, hr 4 _ ?_, by omega, ⟨sw', m, mq, .slice (some ⟨g, 0, none⟩) (boxW sw').length c, e1, ⟨hk, ?_, there_set ht _ _, rfl⟩, h3, fun y hy => h4 y (List.mem_append_left _ hy), by simpa using h5, fun e => h6 (hsub b e)⟩, hsub⟩
  · rw [hlw]; exact Box0.at4 _ _ _ _
  · have := range_set hr 4 (.slice (some ⟨g, 0, none⟩) (boxW sw').length c)
    rw [show l.fl.lay [m, mq] (Value.slice (some ⟨g, 0, none⟩) (sv.length + 1) c) = l.vals m mq (Value.slice (some ⟨g, 0, none⟩) (sv.length + 1) c) from rfl, Box0.set4] at this
    exact this
set_option maxRecDepth 100000 in
set_option maxHeartbeats 4000000 in
/-- State.Commit -/
theorem commitB_any (w : World) (b o : Nat) (l : Box0) (sv : List Box0) (x : Box0) (B : List Nat) (h : BA w b o l (sv ++ [x]) B) (hl : sv.length ≤ 1000) :
    Calls Try.prog 68 #[.pointer (some ⟨b, o, none⟩)] w (BStep w b o B (.int .i64 0) l sv) := by
  have bd : Below w.heap.size w w.drew := (Below.refl _ _).drew
  obtain ⟨a, c, B', c1, hcap, h2, h3⟩ := (h.below bd).pop
  have c0 : w.cell? ⟨b, o + 4, none⟩ = some (.slice a (sv.length + 1) c) := c1
  have f1 := h.fz (j := 4) (by omega)
  have HR : Hid (BStep w b o B (.int .i64 0) l sv (.returned (.int .i64 0)) (w.drew.setCell ⟨b, o + 4, none⟩ (.slice a sv.length c))) :=
    ⟨rfl, (Cg.below bd h.bl.1).set (by omega) _, B', h2, fun j hj => .inl (h3 j hj)⟩
  generalize BStep w b o B (.int .i64 0) l sv = R at *
  generalize sv.length = n at *
  clear h h2 h3 c1 bd
  have hz := Try.sizeOf54
  go_enter Try.func68, Try.ntmps68
  go_upto_region 3 with fail
  go_region
  go_wp2
  exact HR.out
/-- What the last checkpoint holds. -/
theorem BA.back {w : World} {b o : Nat} {l : Box0} {sv : List Box0} {x : Box0} {B : List Nat} (h : BA w b o l (sv ++ [x]) B) : ∃ g c P B', w.cell? ⟨b, o + 4, none⟩ = some (.slice (some ⟨g, 0, none⟩) (sv.length + 1) c) ∧ sv.length + 1 ≤ c ∧ g ≠ b ∧ P.length = 5 ∧ (∀ u ∈ P, u.oneCell' = true) ∧ w.rangeAt g (sv.length * 5) P ∧ w.there b o 5 ∧
    P[4]? = some nilS ∧ BA ((w.setCells b o P).setCell ⟨b, o + 4, none⟩ (.slice (some ⟨g, 0, none⟩) sv.length c)) b o x sv B' ∧ ∀ j, j ∈ B' → j ∈ B := by
  obtain ⟨sw, m, mq, s, h1, h2, h3, h4, h5, h6⟩ := h
  obtain ⟨sw', p, rfl, e1, rfl⟩ := split_last h1
  obtain ⟨hc, hr, ht, rfl⟩ := h2
  have hlw : (boxW sw').length = sv.length := by rw [← e1]; simp [boxW]
  have hlp : boxW (sw' ++ [p]) = boxW sw' ++ [(p.1.fl, [p.2.1, p.2.2])] := by simp [boxW]
  rw [hlp] at hc h6 ⊢
  have hl : (boxW sw' ++ [(p.1.fl, [p.2.1, p.2.2])]).length = sv.length + 1 := by rw [List.length_append, hlw]; rfl
  obtain ⟨g, c, hs⟩ := own_some hc.sl (by rw [hl]; omega)
  rw [hl] at hs
  subst hs
  have hcap : sv.length + 1 ≤ c := by
    rcases hc.sl.2 with ⟨e, _⟩ | ⟨g', cap, cur, e, _, _, hn, _⟩
    · cases e
    · injection e with _ _ e; subst e; rw [hl] at hn; exact hn
  have hpo : p.1.Ok := h4 p.1 (by simp)
  have hlen : ∀ q, q ∈ boxW sw' ++ [(p.1.fl, [p.2.1, p.2.2])] → (q.1.lay q.2 nilS).length = 5 := fun q hq => by
    rcases List.mem_append.1 hq with hq | hq
    · obtain ⟨y, hy, rfl⟩ := List.mem_map.1 hq
      exact Box0.len _ _ _ _
    · have e : q = (p.1.fl, [p.2.1, p.2.2]) := by simpa using hq
      subst e
      exact Box0.len _ _ _ _
  have hgb : g ≠ b := fun e => h6 (mem_blks.2 ⟨_, List.mem_append_right _ (List.mem_cons_self ..), by simp [Value.ownBlock, e]⟩)
  have hrg : w.rangeAt g (sv.length * 5) (p.1.vals p.2.1 p.2.2 nilS) := by
    have := range_flat (k := 5) hlen (own_range hc.sl) (i := sv.length) (x := (p.1.fl, [p.2.1, p.2.2])) (by rw [← hlw]; simp)
    exact this
  have hone : ∀ u ∈ p.1.vals p.2.1 p.2.2 nilS, u.oneCell' = true := Box0.one p.1 (own_one ((hc.ea (p.1.fl, [p.2.1, p.2.2]) (by simp)).2 0 _ p.2.1 rfl rfl)) (own_one ((hc.ea (p.1.fl, [p.2.1, p.2.2]) (by simp)).2 1 _ p.2.2 rfl rfl)) rfl
  rw [← hlw] at hc h6 hr ⊢
  obtain ⟨hp, hsub⟩ := hc.back (fun q hq => hlen q (List.mem_append_left _ hq))
  have hk := hp.keep (S := fun k => k = b) ((Ex.sets (S := fun k => k = b) rfl (p.1.vals p.2.1 p.2.2 nilS) o w (Ex.refl _ _)).set (j := o + 4) rfl (.slice (some ⟨g, 0, none⟩) (boxW sw').length c)) (fun k hk e => h6 (e ▸ hsub k hk))
  have htl : w.there b o (p.1.vals p.2.1 p.2.2 nilS).length := by rw [Box0.len]; exact ht
  refine ⟨g, c, p.1.vals p.2.1 p.2.2 nilS, _, hr 4 _ (Box0.at4 _ _ _ _), by omega, hgb, Box0.len _ _ _ _, hone, by rw [hlw]; exact hrg, ht, Box0.at4 _ _ _ _, ⟨sw', p.2.1, p.2.2, .slice (some ⟨g, 0, none⟩) (boxW sw').length c, e1, ⟨hk, ?_, there_set (World.there_setCells ht _ _ _) _ _, rfl⟩, hpo, fun y hy => h4 y (List.mem_append_left _ hy), ?_, fun e => h6 (hsub b e)⟩, hsub⟩
  · have := range_set (World.rangeAt_setCells_same w b o _ htl) 4 (.slice (some ⟨g, 0, none⟩) (boxW sw').length c)
    rw [Box0.set4] at this
    exact this
  · exact Nat.lt_of_lt_of_le h5 ((Ex.sets (S := fun k => k = b) rfl (p.1.vals p.2.1 p.2.2 nilS) o w (Ex.refl _ _)).set (j := o + 4) rfl (.slice (some ⟨g, 0, none⟩) (boxW sw').length c)).size
attribute [-simp] Try.isAgg92 Try.sizeOf92 Try.typeInfo92 Try.isAgg50 Try.sizeOf50 Try.typeInfo50 Try.isAgg54 Try.sizeOf54 Try.typeInfo54 Try.isAgg68 Try.sizeOf68 Try.typeInfo68
set_option linter.unusedSimpArgs false in
set_option maxRecDepth 100000 in
set_option maxHeartbeats 4000000 in
/-- State.Revert -/
theorem revertB_any (w : World) (b o : Nat) (l : Box0) (sv : List Box0) (x : Box0) (B : List Nat) (h : BA w b o l (sv ++ [x]) B) (hl : sv.length ≤ 1000) :
    Calls Try.prog 94 #[.pointer (some ⟨b, o, none⟩)] w (BStep w b o B (.int .i64 0) x sv) := by
  have bd : Below w.heap.size w w.drew.drew := ((Below.refl _ _).drew).drew
  obtain ⟨g, c, P, B', c1, hcap, hgb, hPl, hP1, hPr, hth, hP5, h2, h3⟩ := (h.below bd).back
  have c0 : w.cell? ⟨b, o + 4, none⟩ = some (.slice (some ⟨g, 0, none⟩) (sv.length + 1) c) := c1
  have HR : Hid (BStep w b o B (.int .i64 0) x sv (.returned (.int .i64 0)) ((w.drew.drew.setCells b o P).setCell ⟨b, o + 4, none⟩ (.slice (some ⟨g, 0, none⟩) sv.length c))) :=
    ⟨rfl, ((Cg.below bd h.bl.1).sets P (by omega)).set (by omega) _, B', h2, fun j hj => .inl (h3 j hj)⟩
  have HPl := hide hPl
  have HP1 := hide hP1
  have HPr := hide hPr
  have HTH := hide hth
  have c5 : (w.drew.drew.setCells b o P).cell? ⟨b, o + 4, none⟩ = some nilS := World.rangeAt_setCells_same w.drew.drew b o P (by rw [hPl]; exact hth) 4 nilS hP5
  have f5 : (w.drew.drew.setCells b o P).frozen? ⟨b, o + 4, none⟩ = false := by rw [World.frozen?_setCells]; exact (hth 4 (by omega)).2
  generalize BStep w b o B (.int .i64 0) x sv = R at *
  generalize sv.length = n at *
  clear h h2 h3 c1 bd hPl hP1 hPr hth hP5
  have hz := Try.sizeOf54
  have hw : IntKind.i64.wrap (n : Int) = n := by simp [IntKind.wrap, IntKind.signed, IntKind.bits]; omega
  have hlt1 : (n : Int) < n + 1 := by omega
  go_enter Try.func94, Try.ntmps94
  go_upto_region 3 with fail
  go_region
  go_upto_region 4 with fail
  refine wp_region_held_drew (S := fun w' => w'.rangeAt g (n * 5) P) (by kernel_rfl) HPr.out (fun hHeld => ?_)

  refine wpAnyH_take (i := 0) (v := ?_) rfl (by kernel_rfl) (by kernel_rfl) (by kernel_rfl) (fun _ _ _ h => h) (Or.inl ⟨by rfl, ?_⟩) (by assumption) ?_
  rotate_left
  · (intro w hSw; (try dsimp only at hSw); go_simp; try (with_reducible rfl))
  try simp only [Act.put, List.getElem_toArray, List.getElem_cons_zero, List.getElem_cons_succ, List.setIfInBounds_toArray, List.set_cons_zero, List.set_cons_succ]
  refine wpAnyH_take (i := 1) (v := ?_) rfl (by kernel_rfl) (by kernel_rfl) (by kernel_rfl) (fun _ _ _ h => h) (Or.inl ⟨by rfl, ?_⟩) (by assumption) ?_
  rotate_left
  · (intro w hSw; (try dsimp only at hSw); go_simp; try (with_reducible rfl))
  try simp only [Act.put, List.getElem_toArray, List.getElem_cons_zero, List.getElem_cons_succ, List.setIfInBounds_toArray, List.set_cons_zero, List.set_cons_succ]
  refine wpAnyH_take (i := 2) (v := ?_) rfl (by kernel_rfl) (by kernel_rfl) (by kernel_rfl) (fun _ _ _ h => h) (Or.inl ⟨by rfl, ?_⟩) (by assumption) ?_
  rotate_left
  · (intro w hSw; (try dsimp only at hSw); go_simp; try (with_reducible rfl))
  try simp only [Act.put, List.getElem_toArray, List.getElem_cons_zero, List.getElem_cons_succ, List.setIfInBounds_toArray, List.set_cons_zero, List.set_cons_succ]
  refine wpAnyH_take (i := 3) (v := ?_) rfl (by kernel_rfl) (by kernel_rfl) (by kernel_rfl) (fun _ _ _ h => h) (Or.inl ⟨by rfl, ?_⟩) (by assumption) ?_
  rotate_left
  · (intro w hSw; (try dsimp only at hSw); go_simp; try (with_reducible rfl))
  try simp only [Act.put, List.getElem_toArray, List.getElem_cons_zero, List.getElem_cons_succ, List.setIfInBounds_toArray, List.set_cons_zero, List.set_cons_succ]
  refine wpAnyH_take (i := 5) (v := ?_) rfl (by kernel_rfl) (by kernel_rfl) (by kernel_rfl) (fun _ _ _ h => h) (Or.inl ⟨by rfl, ?_⟩) (by assumption) ?_
  rotate_left
  · (intro w hSw; (try dsimp only at hSw); go_simp; try (with_reducible rfl))
  try simp only [Act.put, List.getElem_toArray, List.getElem_cons_zero, List.getElem_cons_succ, List.setIfInBounds_toArray, List.set_cons_zero, List.set_cons_succ]
  refine wpAnyH_take (i := 6) (v := ?_) rfl (by kernel_rfl) (by kernel_rfl) (by kernel_rfl) (fun _ _ _ h => h) (Or.inl ⟨by rfl, ?_⟩) (by assumption) ?_
  rotate_left
  · (intro w hSw; (try dsimp only at hSw); go_simp; try (with_reducible rfl))
  try simp only [Act.put, List.getElem_toArray, List.getElem_cons_zero, List.getElem_cons_succ, List.setIfInBounds_toArray, List.set_cons_zero, List.set_cons_succ]
  refine wpAnyH_take (i := 7) (v := ?_) rfl (by kernel_rfl) (by kernel_rfl) (by kernel_rfl) (fun _ _ _ h => h) (Or.inl ⟨by rfl, ?_⟩) (by assumption) ?_
  rotate_left
  · (intro w hSw; (try dsimp only at hSw); go_simp; try (with_reducible rfl))
  try simp only [Act.put, List.getElem_toArray, List.getElem_cons_zero, List.getElem_cons_succ, List.setIfInBounds_toArray, List.set_cons_zero, List.set_cons_succ]
  refine wpAnyH_ready (rs := [4, 8]) (by kernel_rfl) (by simp) ?_
  refine (AllReadyH.cons rfl (fun K hK => ?_) (AllReadyH.cons rfl (fun K hK => ?_) AllReadyH.nil))
  · go_simp
    refine hK.out _ _ ?_ (fun hHeld => ?_)
    · exact HPr.out
    clear hK K
    try simp only [Act.put, List.getElem_toArray, List.getElem_cons_zero, List.getElem_cons_succ, List.setIfInBounds_toArray, List.set_cons_zero, List.set_cons_succ]
    refine wpAnyH_ready (rs := [8]) (by kernel_rfl) (by simp) ?_
    refine (AllReadyH.cons rfl (fun K hK => ?_) AllReadyH.nil)
    go_simp
    refine hK.out _ _ ?_ (fun hHeld => ?_)
    · exact HPr.out
    clear hK K
    try simp only [Act.put, List.getElem_toArray, List.getElem_cons_zero, List.getElem_cons_succ, List.setIfInBounds_toArray, List.set_cons_zero, List.set_cons_succ]
    refine wpAnyH_take (i := 9) (v := ?_) rfl (by kernel_rfl) (by kernel_rfl) (by kernel_rfl) (fun _ _ _ h => h) (Or.inl ⟨by rfl, ?_⟩) (by assumption) ?_
    rotate_left
    · (intro w hSw; (try dsimp only at hSw); go_simp; try (with_reducible rfl))
    try simp only [Act.put, List.getElem_toArray, List.getElem_cons_zero, List.getElem_cons_succ, List.setIfInBounds_toArray, List.set_cons_zero, List.set_cons_succ]
    refine wpAnyH_take (i := 10) (v := ?_) rfl (by kernel_rfl) (by kernel_rfl) (by kernel_rfl) (fun _ _ _ h => h) (Or.inl ⟨by rfl, ?_⟩) (by assumption) ?_
    rotate_left
    · (intro w hSw; (try dsimp only at hSw); go_simp; try (with_reducible rfl))
    try simp only [Act.put, List.getElem_toArray, List.getElem_cons_zero, List.getElem_cons_succ, List.setIfInBounds_toArray, List.set_cons_zero, List.set_cons_succ]
    refine wpAnyH_take (i := 11) (v := ?_) rfl (by kernel_rfl) (by kernel_rfl) (by kernel_rfl) (fun _ _ _ h => h) (Or.inl ⟨by rfl, ?_⟩) (by assumption) ?_
    rotate_left
    · (intro w hSw; (try dsimp only at hSw); go_simp; try (with_reducible rfl))
    try simp only [Act.put, List.getElem_toArray, List.getElem_cons_zero, List.getElem_cons_succ, List.setIfInBounds_toArray, List.set_cons_zero, List.set_cons_succ]
    refine wpAnyH_take (i := 12) rfl (by kernel_rfl) (by kernel_rfl) (by kernel_rfl) (fun _ _ _ h => h) (yieldsIf_load_mid (by rfl) 54 (.tmp 32) rfl g (n * 5) rfl P _ (fun w hSw => hSw) Try.underlying54 rfl (by rw [HPl.out]; exact Try.sz54)) (by assumption) ?_
    try simp only [Act.put, List.getElem_toArray, List.getElem_cons_zero, List.getElem_cons_succ, List.setIfInBounds_toArray, List.set_cons_zero, List.set_cons_succ]
    refine wpAnyH_take (i := 13) (v := ?_) rfl (by kernel_rfl) (by kernel_rfl) (by kernel_rfl) (fun _ _ _ h => h) (Or.inl ⟨by rfl, ?_⟩) (by assumption) ?_
    rotate_left
    · (intro w hSw; (try dsimp only at hSw); go_simp; try (with_reducible rfl))
    try simp only [Act.put, List.getElem_toArray, List.getElem_cons_zero, List.getElem_cons_succ, List.setIfInBounds_toArray, List.set_cons_zero, List.set_cons_succ]
    refine wpAnyH_ready (rs := [14]) (by kernel_rfl) (by simp) ?_
    refine (AllReadyH.cons rfl (fun K hK => ?_) AllReadyH.nil)
    refine step_storeM rfl 54 (.tmp 34) (.tmp 33) rfl b o P rfl rfl (by rw [HPl.out]; exact HTH.out) (by rw [HPl.out]; exact Try.sz54) HP1.out ?_
    refine hK.out _ _ ?_ (fun hHeld => ?_)
    · exact World.rangeAt_setCells_apart HPr.out b o P (.inl hgb)
    clear hK K
    try simp only [Act.put, List.getElem_toArray, List.getElem_cons_zero, List.getElem_cons_succ, List.setIfInBounds_toArray, List.set_cons_zero, List.set_cons_succ]
    refine wpAnyH_done (by kernel_rfl) ?_ _
    generalize w.drew.drew.setCells b o P = w2 at *
    go_wp2
    exact HR.out
  · go_simp
    refine hK.out _ _ ?_ (fun hHeld => ?_)
    · exact HPr.out
    clear hK K
    try simp only [Act.put, List.getElem_toArray, List.getElem_cons_zero, List.getElem_cons_succ, List.setIfInBounds_toArray, List.set_cons_zero, List.set_cons_succ]
    refine wpAnyH_take (i := 9) (v := ?_) rfl (by kernel_rfl) (by kernel_rfl) (by kernel_rfl) (fun _ _ _ h => h) (Or.inl ⟨by rfl, ?_⟩) (by assumption) ?_
    rotate_left
    · (intro w hSw; (try dsimp only at hSw); go_simp; try (with_reducible rfl))
    try simp only [Act.put, List.getElem_toArray, List.getElem_cons_zero, List.getElem_cons_succ, List.setIfInBounds_toArray, List.set_cons_zero, List.set_cons_succ]
    refine wpAnyH_take (i := 10) (v := ?_) rfl (by kernel_rfl) (by kernel_rfl) (by kernel_rfl) (fun _ _ _ h => h) (Or.inl ⟨by rfl, ?_⟩) (by assumption) ?_
    rotate_left
    · (intro w hSw; (try dsimp only at hSw); go_simp; try (with_reducible rfl))
    try simp only [Act.put, List.getElem_toArray, List.getElem_cons_zero, List.getElem_cons_succ, List.setIfInBounds_toArray, List.set_cons_zero, List.set_cons_succ]
    refine wpAnyH_ready (rs := [4]) (by kernel_rfl) (by simp) ?_
    refine (AllReadyH.cons rfl (fun K hK => ?_) AllReadyH.nil)
    go_simp
    refine hK.out _ _ ?_ (fun hHeld => ?_)
    · exact HPr.out
    clear hK K
    try simp only [Act.put, List.getElem_toArray, List.getElem_cons_zero, List.getElem_cons_succ, List.setIfInBounds_toArray, List.set_cons_zero, List.set_cons_succ]
    refine wpAnyH_take (i := 11) (v := ?_) rfl (by kernel_rfl) (by kernel_rfl) (by kernel_rfl) (fun _ _ _ h => h) (Or.inl ⟨by rfl, ?_⟩) (by assumption) ?_
    rotate_left
    · (intro w hSw; (try dsimp only at hSw); go_simp; try (with_reducible rfl))
    try simp only [Act.put, List.getElem_toArray, List.getElem_cons_zero, List.getElem_cons_succ, List.setIfInBounds_toArray, List.set_cons_zero, List.set_cons_succ]
    refine wpAnyH_take (i := 12) rfl (by kernel_rfl) (by kernel_rfl) (by kernel_rfl) (fun _ _ _ h => h) (yieldsIf_load_mid (by rfl) 54 (.tmp 32) rfl g (n * 5) rfl P _ (fun w hSw => hSw) Try.underlying54 rfl (by rw [HPl.out]; exact Try.sz54)) (by assumption) ?_
    try simp only [Act.put, List.getElem_toArray, List.getElem_cons_zero, List.getElem_cons_succ, List.setIfInBounds_toArray, List.set_cons_zero, List.set_cons_succ]
    refine wpAnyH_take (i := 13) (v := ?_) rfl (by kernel_rfl) (by kernel_rfl) (by kernel_rfl) (fun _ _ _ h => h) (Or.inl ⟨by rfl, ?_⟩) (by assumption) ?_
    rotate_left
    · (intro w hSw; (try dsimp only at hSw); go_simp; try (with_reducible rfl))
    try simp only [Act.put, List.getElem_toArray, List.getElem_cons_zero, List.getElem_cons_succ, List.setIfInBounds_toArray, List.set_cons_zero, List.set_cons_succ]
    refine wpAnyH_ready (rs := [14]) (by kernel_rfl) (by simp) ?_
    refine (AllReadyH.cons rfl (fun K hK => ?_) AllReadyH.nil)
    refine step_storeM rfl 54 (.tmp 34) (.tmp 33) rfl b o P rfl rfl (by rw [HPl.out]; exact HTH.out) (by rw [HPl.out]; exact Try.sz54) HP1.out ?_
    refine hK.out _ _ ?_ (fun hHeld => ?_)
    · exact World.rangeAt_setCells_apart HPr.out b o P (.inl hgb)
    clear hK K
    try simp only [Act.put, List.getElem_toArray, List.getElem_cons_zero, List.getElem_cons_succ, List.setIfInBounds_toArray, List.set_cons_zero, List.set_cons_succ]
    refine wpAnyH_done (by kernel_rfl) ?_ _
    generalize w.drew.drew.setCells b o P = w2 at *
    go_wp2
    exact HR.out
set_option linter.unusedSimpArgs false in
set_option maxRecDepth 100000 in
set_option maxHeartbeats 4000000 in
/-- State.Checkpoint, at the limit. -/
theorem checkB_deep (w : World) (b o : Nat) (l : Box0) (sv : List Box0) (B : List Nat) (h : BA w b o l sv B) (hl : 8 ≤ sv.length) (hl2 : sv.length ≤ 1000) :
    Calls Try.prog 66 #[.pointer (some ⟨b, o, none⟩)] w (BStep w b o B (.int .i64 34) l sv) := by
  obtain ⟨a, c, c1⟩ := h.sav
  have HR : Hid (BStep w b o B (.int .i64 34) l sv (.returned (.int .i64 34)) w) := ⟨rfl, Cg.refl _ _ _ _ _, B, h, fun j hj => .inl hj⟩
  generalize BStep w b o B (.int .i64 34) l sv = R at *
  generalize sv.length = n at *
  clear h
  have d : decide (8 ≤ (n : Int)) = true := by simp; omega
  go_enter Try.func66, Try.ntmps66
  go_wp2
  exact HR.out
set_option linter.unusedSimpArgs false in
set_option maxRecDepth 100000 in
set_option maxHeartbeats 4000000 in
/-- State.Checkpoint -/
theorem checkB_any (w : World) (b o : Nat) (l : Box0) (sv : List Box0) (B : List Nat) (h : BA w b o l sv B) (hl : sv.length < 8) (hsm : SmallB l sv) :
    Calls Try.prog 66 #[.pointer (some ⟨b, o, none⟩)] w (BStep w b o B (.int .i64 0) l (sv ++ [l])) := by
  have HBA := hide h
  obtain ⟨sw, m, mq, s, h1, h2, h3, h4, h5, h6⟩ := h
  have HO := hide h3
  have HSO := hide h4
  have HSW := hide h1
  have HCA := hide h2
  have HBB := hide h6
  have HBL := hide h5
  have HSM := hide hsm
  clear h1 h2 h3 h4 h6 hsm h5
  obtain ⟨i5, hi5, hz5, hy5, hb5⟩ := info_parts Try.inf54
  have HI5 := hide (show Try.prog.info? 54 = some i5 ∧ i5.zero = some (.agg (#[.int .u8 0, .slice none 0 0, .slice none 0 0, .int .i64 0, .slice none 0 0] : Array Value)) ∧ i5.size = 5 ∧ i5.bytes = 88 from ⟨hi5, hz5, hy5, hb5⟩)
  clear hi5 hz5 hy5 hb5
  have HCP := hide (copyB_any w l sw m mq s HCA.out.cv HSM.out.1 (fun p hp => HSM.out.2.1 p.1 (by rw [← HSW.out]; exact List.mem_map_of_mem hp)) (by have := HSM.out.2.2; have e := congrArg List.length HSW.out; simp at e; omega))
  obtain ⟨sa, sc, hse⟩ := own_form HCA.out.cv.sl
  obtain ⟨n, hn⟩ : ∃ n, sv.length = n := ⟨_, rfl⟩
  have hlw : (boxW sw).length = n := by have e := congrArg List.length HSW.out; simp at e; simp [boxW, e, hn]
  have HLW := hide hlw
  rw [hlw] at hse
  subst hse
  rw [hn] at hl
  have HN := hide hn
  clear hn hlw
  obtain ⟨V, hV⟩ : ∃ V, l.vals m mq (.slice sa n sc) = V := ⟨_, rfl⟩
  have HVl : Hid (V.length = 5) := by rw [← hV]; exact Box0.len _ _ _ _
  have HVr : Hid (w.rangeAt b o V) := by rw [← hV]; exact HCA.out.rg
  rw [hV] at HCP
  have HVe := hide hV
  clear hV
  obtain ⟨R, hR⟩ : ∃ R, BStep w b o B (.int .i64 0) l (sv ++ [l]) = R := ⟨_, rfl⟩
  rw [hR]
  have HR := hide hR
  clear hR
  have c0 : w.cell? ⟨b, o + 4, none⟩ = some (.slice sa n sc) := HCA.out.rg 4 _ (Box0.at4 _ _ _ _)
  have d : decide (8 ≤ (n : Int)) = false := by simp; omega
  go_enter Try.func66, Try.ntmps66
  go_upto_region 3 with fail
  go_wp2_with fail
  simp only [Try.isAgg54, Try.sizeOf54, Result.andThen, ↓reduceIte, ldC w b o V 5 HVl.out HVr.out]
  rw [Oper.upon_value]
  go_wp2_with fail
  refine HCP.out.mono ?_
  rintro e w1 ⟨m', n', s', sw', rfl, b1, e1, cv1, nb1, _⟩
  have HB1 := hide b1
  have HM1 : Hid (w1.ownsRow 0 68 41 m' l.out.length (l.out.flatMap msv)) := cv1.fl.2 0 _ m' rfl rfl
  have HN1 : Hid (w1.ownsRow 0 68 41 n' l.inb.length (l.inb.flatMap msv)) := cv1.fl.2 1 _ n' rfl rfl
  have HND : Hid ((blks [m', n']).Nodup) := by have := cv1.nd; rw [blks_append] at this; exact (List.nodup_append.1 this).1
  have HNB : Hid (∀ j, m'.ownBlock = some j ∨ n'.ownBlock = some j → w.heap.size ≤ j) := fun j hj => nb1 j (by rcases hj with hj | hj; exact mem_blks.2 ⟨m', by simp, hj⟩; exact mem_blks.2 ⟨n', by simp, hj⟩)
  have HS1 : Hid (s'.oneCell' = true) := own_one cv1.sl
  clear b1 e1 cv1 nb1 HCP
  obtain ⟨F, hF⟩ : ∃ F, l.vals m' n' s' = F := ⟨_, rfl⟩
  have HFl : Hid (F.length = 5) := by rw [← hF]; exact Box0.len _ _ _ _
  have HF1 : Hid (∀ u ∈ F, u.oneCell' = true) := by rw [← hF]; exact Box0.one l (own_one HM1.out) (own_one HN1.out) HS1.out
  rw [hF]
  have HFe := hide hF
  clear hF
  go_wp2_with fail
  simp only [Try.sizeOf54, Result.andThen, HFl.out, ↓reduceIte, stNew w1 54 (#[.int .u8 0, .slice none 0 0, .slice none 0 0, .int .i64 0, .slice none 0 0] : Array Value) F 5 Try.sz54 rfl HFl.out HF1.out]
  rw [Oper.upon_skip]
  go_upto_region 4 with fail
  have RX := hide (newR w1 F 54)
  have TX := hide (newT w1 F 54)
  have HB2 := hide (lec HB1.out (be1 w1 (.cells F.toArray 54)))
  have HM2 := hide (own_kept (S := fun _ => False) HM1.out (Ex.of (be1 w1 (.cells F.toArray 54))) (fun _ _ e => e))
  have HN2 := hide (own_kept (S := fun _ => False) HN1.out (Ex.of (be1 w1 (.cells F.toArray 54))) (fun _ _ e => e))
  have HNN : Hid (n'.ownBlock ≠ some w1.heap.size) := fun e => by have := (HN1.out.lt _ e).2; omega
  have HYg : Hid (w.heap.size ≤ w1.heap.size) := HB1.out.size
  have HNM : Hid (m'.ownBlock ≠ some w1.heap.size) := fun e => by have := (HM1.out.lt _ e).2; omega
  generalize w1.alloc (.cells F.toArray 54) = w2 at *
  obtain ⟨Y, hY⟩ : ∃ Y, w1.heap.size = Y := ⟨_, rfl⟩
  rw [hY] at RX TX HYg HNM HNN ⊢
  clear hY HM1 HN1 HB1 c0
  have c1 : w2.cell? ⟨Y, 4, none⟩ = some s' := by have := RX.out 4 s' (by rw [← HFe.out]; exact Box0.at4 _ _ _ _); simpa using this
  have f1 : w2.frozen? ⟨Y, 4, none⟩ = false := by have := (TX.out 4 (by rw [HFl.out]; omega)).2; simpa using this
  obtain ⟨s2, hs2⟩ : ∃ s2, s' = s2 := ⟨_, rfl⟩
  go_upto_region 5 with fail
  obtain ⟨U, hU⟩ : ∃ U, l.vals m' n' nilS = U := ⟨_, rfl⟩
  have HRU : Hid ((w2.setCell ⟨Y, 4, none⟩ nilS).rangeAt Y 0 U) := by
    have := range_set RX.out 4 nilS
    rw [← HFe.out, Box0.set4, Nat.zero_add, hU] at this
    exact this
  have HUl : Hid (U.length = 5) := by rw [← hU]; exact Box0.len _ _ _ _
  have HU1 : Hid (∀ u ∈ U, u.oneCell' = true) := by rw [← hU]; exact Box0.one l (own_one HM2.out) (own_one HN2.out) rfl
  have HUe := hide hU
  clear hU
  have HB3 : Hid (Below w.heap.size w (w2.setCell ⟨Y, 4, none⟩ nilS)) := HB2.out.setCell (p := ⟨Y, 4, none⟩) (by show w.heap.size ≤ Y; exact HYg.out) nilS
  have HM3 : Hid ((w2.setCell ⟨Y, 4, none⟩ nilS).ownsRow 0 68 41 m' l.out.length (l.out.flatMap msv)) := own_kept HM2.out (S := fun k => k = Y) ((Ex.refl (fun k => k = Y) _).set rfl _) (fun k hk e => HNM.out (by rw [hk, e]))
  have HN3 : Hid ((w2.setCell ⟨Y, 4, none⟩ nilS).ownsRow 0 68 41 n' l.inb.length (l.inb.flatMap msv)) := own_kept HN2.out (S := fun k => k = Y) ((Ex.refl (fun k => k = Y) _).set rfl _) (fun k hk e => HNN.out (by rw [hk, e]))
  generalize w2.setCell ⟨Y, 4, none⟩ nilS = w3 at *
  clear c1 f1 RX TX HM2 HN2 HB2 w2 hs2 s2
  have HC3 := hide (HCA.out.below HBL.out HB3.out)
  have HF3 : Hid (FlV w3 l.fl [m', n']) := boxFl HM3.out HN3.out
  have c3 : w3.cell? ⟨b, o + 4, none⟩ = some (.slice sa n sc) := HC3.out.rg 4 _ (Box0.at4 _ _ _ _)
  have HYb : Hid (Y ≠ b) := by have := HYg.out; have := HBL.out; intro e; omega
  have HYr : Hid (∀ j, j ∈ B → j ≠ Y) := fun j hj e => by have := HCA.out.lt hj; have := HYg.out; omega
  have HYl : Hid (Y < w3.heap.size) := World.block_lt_of_cell? _ _ (HRU.out 0 _ (by rw [← HUe.out]; rfl))
  refine wp_region_held_drew (S := fun w' => w'.rangeAt Y 0 U) (by kernel_rfl) HRU.out (fun hHeld => ?_)

  refine wpAnyH_take (i := 0) (v := ?_) rfl (by kernel_rfl) (by kernel_rfl) (by kernel_rfl) (fun _ _ _ h => h) (Or.inl ⟨by rfl, ?_⟩) (by assumption) ?_
  rotate_left
  · (intro w hSw; (try dsimp only at hSw); go_simp; try (with_reducible rfl))
  try simp only [Act.put, List.getElem_toArray, List.getElem_cons_zero, List.getElem_cons_succ, List.setIfInBounds_toArray, List.set_cons_zero, List.set_cons_succ]
  refine wpAnyH_take (i := 1) (v := ?_) rfl (by kernel_rfl) (by kernel_rfl) (by kernel_rfl) (fun _ _ _ h => h) (Or.inl ⟨by rfl, ?_⟩) (by assumption) ?_
  rotate_left
  · (intro w hSw; (try dsimp only at hSw); go_simp; try (with_reducible rfl))
  try simp only [Act.put, List.getElem_toArray, List.getElem_cons_zero, List.getElem_cons_succ, List.setIfInBounds_toArray, List.set_cons_zero, List.set_cons_succ]
  refine wpAnyH_take (i := 2) (v := ?_) rfl (by kernel_rfl) (by kernel_rfl) (by kernel_rfl) (fun _ _ _ h => h) (Or.inl ⟨by rfl, ?_⟩) (by assumption) ?_
  rotate_left
  · (intro w hSw; (try dsimp only at hSw); go_simp; try (with_reducible rfl))
  try simp only [Act.put, List.getElem_toArray, List.getElem_cons_zero, List.getElem_cons_succ, List.setIfInBounds_toArray, List.set_cons_zero, List.set_cons_succ]
  refine wpAnyH_take (i := 4) rfl (by kernel_rfl) (by kernel_rfl) (by kernel_rfl) (fun _ _ _ h => h) (yieldsIf_load_mid (by rfl) 54 (.tmp 3) rfl Y 0 rfl U _ (fun w hSw => hSw) Try.underlying54 rfl (by rw [HUl.out]; exact Try.sz54)) (by assumption) ?_
  try simp only [Act.put, List.getElem_toArray, List.getElem_cons_zero, List.getElem_cons_succ, List.setIfInBounds_toArray, List.set_cons_zero, List.set_cons_succ]
  refine wpAnyH_ready (rs := [3, 6]) (by kernel_rfl) (by simp) ?_
  refine (AllReadyH.cons rfl (fun K hK => ?_) (AllReadyH.cons rfl (fun K hK => ?_) AllReadyH.nil))
  · go_simp
    refine hK.out _ _ ?_ (fun hHeld => ?_)
    · first | exact HRU.out | exact range_below HRU.out HYl.out HB4.out
    clear hK K
    try simp only [Act.put, List.getElem_toArray, List.getElem_cons_zero, List.getElem_cons_succ, List.setIfInBounds_toArray, List.set_cons_zero, List.set_cons_succ]
    refine wpAnyH_take (i := 5) (v := ?_) rfl (by kernel_rfl) (by kernel_rfl) (by kernel_rfl) (fun _ _ _ h => h) (Or.inl ⟨by rfl, ?_⟩) (by assumption) ?_
    rotate_left
    · (intro w hSw; (try dsimp only at hSw); go_simp; try (with_reducible rfl))
    try simp only [Act.put, List.getElem_toArray, List.getElem_cons_zero, List.getElem_cons_succ, List.setIfInBounds_toArray, List.set_cons_zero, List.set_cons_succ]
    refine wpAnyH_ready (rs := [6]) (by kernel_rfl) (by simp) ?_
    refine (AllReadyH.cons rfl (fun K hK => ?_) AllReadyH.nil)
    refine step_buildS rfl 52 54 _ rfl (#[.int .u8 0, .slice none 0 0, .slice none 0 0, .int .i64 0, .slice none 0 0] : Array Value).toList rfl i5 _ 5 88 Try.underlying52 HI5.out.1 HI5.out.2.1 HI5.out.2.2.1 HI5.out.2.2.2 zl54.1 (by decide) (by decide) ?_
    have b4 := (Below.trans (B := w3.heap.size) ((Below.refl w3.heap.size w3).drew) (be1 w3.drew (.cells (#[.int .u8 0, .slice none 0 0, .slice none 0 0, .int .i64 0, .slice none 0 0] : Array Value).toList.toArray 54)))
    have HB4 := hide b4
    have HC4 := hide (HC3.out.below (Nat.lt_of_lt_of_le HBL.out HB3.out.size) b4)
    have HF4 := hide (HF3.out.keep (S := fun _ => False) (Ex.of b4) (fun _ _ e => e))
    have HZ4 := hide (newR w3.drew (#[.int .u8 0, .slice none 0 0, .slice none 0 0, .int .i64 0, .slice none 0 0] : Array Value).toList 54)
    have c4 : (w3.drew.alloc (.cells (#[.int .u8 0, .slice none 0 0, .slice none 0 0, .int .i64 0, .slice none 0 0] : Array Value).toList.toArray 54)).cell? ⟨b, o + 4, none⟩ = some (.slice sa n sc) := HC4.out.rg 4 _ (Box0.at4 _ _ _ _)
    clear b4
    refine hK.out _ _ ?_ (fun hHeld => ?_)
    · exact range_below HRU.out HYl.out HB4.out
    clear hK K
    try simp only [Act.put, List.getElem_toArray, List.getElem_cons_zero, List.getElem_cons_succ, List.setIfInBounds_toArray, List.set_cons_zero, List.set_cons_succ]
    generalize w3.drew.alloc (.cells (#[.int .u8 0, .slice none 0 0, .slice none 0 0, .int .i64 0, .slice none 0 0] : Array Value).toList.toArray 54) = w4 at *
    refine wpAnyH_ready (rs := [7]) (by kernel_rfl) (by simp) ?_
    refine (AllReadyH.cons rfl (fun K hK => ?_) AllReadyH.nil)
    refine step_append_lies _ rfl (.tmp 18) (.tmp 21) 52 rfl 0 54 i5 _ 5 88 Try.underlying52 HI5.out.1 HI5.out.2.1 HI5.out.2.2.1 HI5.out.2.2.2 rfl (by decide) (.slice sa n sc) (boxW sw).length _ rfl HC4.out.cv.sl ⟨w3.drew.heap.size, 0, none⟩ 1 1 (#[.int .u8 0, .slice none 0 0, .slice none 0 0, .int .i64 0, .slice none 0 0] : Array Value).toList rfl (by rw [zl54.1]) (fun j u hj => by rw [Addr.add_mid]; exact HZ4.out j u hj) zl54.2 (by decide) (by rw [HLW.out]; unfold maxLen; omega) (by rw [HLW.out]; omega) (Nat.zero_le _) _ rfl ?_
    intro g2 cap2 w5 hown hgrow hat hlt2
    have HUV : Hid (l.fl.lay [m', n'] nilS = U) := HUe.out
    have hp := CV.pushed (q := l.fl) (us := [m', n']) HC4.out.cv hgrow hown hat HF4.out HND.out (fun j hj hx => by
      obtain ⟨v, hv, ev⟩ := mem_blks.1 hj
      have e : v = m' ∨ v = n' := by simpa using hv
      have h1 := HNB.out j (by rcases e with rfl | rfl; exact .inl ev; exact .inr ev)
      have h2 := HCA.out.cv.lt hx
      omega) (fun p hp => by
        obtain ⟨y, hy, rfl⟩ := List.mem_map.1 hp
        exact Box0.len _ _ _ _) (by rw [HUV.out, HUl.out, zl54.1])
    rw [HUV.out, HLW.out] at hp
    have HP5 := hide hp
    have hgb : g2 ≠ b := by
      rcases hat with z | z
      · intro e
        refine HBB.out (HCA.out.bl ▸ mem_blks.2 ⟨.slice sa n sc, by simp, ?_⟩)
        rw [z, e]
      · intro e; have h1 := HBL.out; have h2 := HB3.out.size; have h3 := HB4.out.size; omega
    have hgB : g2 ∈ B ∨ w.heap.size ≤ g2 := by
      rcases hat with z | z
      · exact .inl (HCA.out.bl ▸ mem_blks.2 ⟨.slice sa n sc, by simp, z⟩)
      · have h2 := HB3.out.size; have h3 := HB4.out.size; right; omega
    have hgY : g2 ≠ Y := by
      rcases hat with z | z
      · intro e; exact HYr.out g2 (HCA.out.bl ▸ mem_blks.2 ⟨.slice sa n sc, by simp, z⟩) e
      · have h1 := HYl.out; have h3 := HB4.out.size; omega
    have hcap : n < cap2 ∨ n < cap2 := by
      rcases hown.2 with ⟨e, _⟩ | ⟨g', cap, cur, e, _, _, hn, _⟩
      · cases e
      · injection e with _ _ e; subst e; rw [HLW.out] at hn; omega
    have HRU5 : Hid (w5.rangeAt Y 0 U) := range_ex (range_below HRU.out HYl.out HB4.out) (Nat.lt_of_lt_of_le HYl.out HB4.out.size) (Ex.ofGrown (S := fun k => (Value.slice sa n sc).ownBlock = some k) hgrow (fun k e => e.symm)) (fun e => HYr.out Y (HCA.out.bl ▸ mem_blks.2 ⟨.slice sa n sc, by simp, e⟩) rfl)
    have HT5 : Hid (w5.there g2 (n * 5) 5) := by
      intro j hj
      have hq : ∃ u, (List.flatMap (fun p => p.1.lay p.2 nilS) (boxW sw) ++ (#[.int .u8 0, .slice none 0 0, .slice none 0 0, .int .i64 0, .slice none 0 0] : Array Value).toList)[n * 5 + j]? = some u := by
        refine ⟨_, List.getElem?_eq_getElem ?_⟩
        have h0 := hown.1
        rw [h0, HLW.out]; omega
      obtain ⟨u, hu⟩ := hq
      have hc := hown.cells rfl _ u hu
      rw [Addr.add_mid, Nat.zero_add] at hc
      refine ⟨by rw [hc]; rfl, ?_⟩
      have hnn : (Value.slice (some ⟨g2, 0, none⟩) ((boxW sw).length + 1) cap2) = (Value.slice (some ⟨g2, 0, none⟩) ((boxW sw).length + 1) cap2) := rfl
      exact hown.frozenAt _
    have c5 : w5.cell? ⟨b, o + 4, none⟩ = some (.slice sa n sc) := hgrow.cell c4 (fun e => HBB.out (HCA.out.bl ▸ mem_blks.2 ⟨.slice sa n sc, by simp, e.symm⟩))
    have f5 : w5.frozen? ⟨b, o + 4, none⟩ = false := by rw [World.frozen?_of_block (hgrow.block b (World.block_lt_of_cell? _ _ c4) (fun e => HBB.out (HCA.out.bl ▸ mem_blks.2 ⟨.slice sa n sc, by simp, e.symm⟩)))]; exact (HC4.out.th 4 (by omega)).2
    have HCg5 := hide ((Cg.below (o := o) (n := 5) (B := B) (lec HB3.out HB4.out) HBL.out).grown hgrow (fun j hj => .inl (HCA.out.bl ▸ mem_blks.2 ⟨.slice sa n sc, by simp, hj⟩)) HBL.out (fun e => HBB.out (HCA.out.bl ▸ mem_blks.2 ⟨.slice sa n sc, by simp, e⟩)))
    have HTH5 : Hid (w5.there b o 5) := there_ex HC4.out.th (World.block_lt_of_cell? _ _ c4) (Ex.ofGrown (S := fun k => (Value.slice sa n sc).ownBlock = some k) hgrow (fun k e => e.symm)) (fun e => HBB.out (HCA.out.bl ▸ mem_blks.2 ⟨.slice sa n sc, by simp, e⟩))
    have HRG5 : Hid (w5.rangeAt b o (l.vals m mq (.slice sa n sc))) := range_ex HC4.out.rg (World.block_lt_of_cell? _ _ c4) (Ex.ofGrown (S := fun k => (Value.slice sa n sc).ownBlock = some k) hgrow (fun k e => e.symm)) (fun e => HBB.out (HCA.out.bl ▸ mem_blks.2 ⟨.slice sa n sc, by simp, e⟩))
    rw [HLW.out]
    clear hown hgrow hat hp c4
    refine hK.out _ _ ?_ (fun hHeld => ?_)
    · exact HRU5.out
    clear hK K
    try simp only [Act.put, List.getElem_toArray, List.getElem_cons_zero, List.getElem_cons_succ, List.setIfInBounds_toArray, List.set_cons_zero, List.set_cons_succ]
    refine wpAnyH_take (i := 8) (v := ?_) rfl (by kernel_rfl) (by kernel_rfl) (by kernel_rfl) (fun _ _ _ h => h) (Or.inl ⟨by rfl, ?_⟩) (by assumption) ?_
    rotate_left
    · (intro w hSw; (try dsimp only at hSw); have hz := Try.sizeOf54; have hltn : (n : Int) < n + 1 := (by omega); go_simp; try (with_reducible rfl))
    try simp only [Act.put, List.getElem_toArray, List.getElem_cons_zero, List.getElem_cons_succ, List.setIfInBounds_toArray, List.set_cons_zero, List.set_cons_succ]
    refine wpAnyH_take (i := 10) (v := ?_) rfl (by kernel_rfl) (by kernel_rfl) (by kernel_rfl) (fun _ _ _ h => h) (Or.inl ⟨by rfl, ?_⟩) (by assumption) ?_
    rotate_left
    · (intro w hSw; (try dsimp only at hSw); go_simp; try (with_reducible rfl))
    try simp only [Act.put, List.getElem_toArray, List.getElem_cons_zero, List.getElem_cons_succ, List.setIfInBounds_toArray, List.set_cons_zero, List.set_cons_succ]
    refine wpAnyH_take (i := 11) (v := ?_) rfl (by kernel_rfl) (by kernel_rfl) (by kernel_rfl) (fun _ _ _ h => h) (Or.inl ⟨by rfl, ?_⟩) (by assumption) ?_
    rotate_left
    · (intro w hSw; (try dsimp only at hSw); go_simp; try (with_reducible rfl))
    try simp only [Act.put, List.getElem_toArray, List.getElem_cons_zero, List.getElem_cons_succ, List.setIfInBounds_toArray, List.set_cons_zero, List.set_cons_succ]
    refine wpAnyH_ready (rs := [9, 12]) (by kernel_rfl) (by simp) ?_
    refine (AllReadyH.cons rfl (fun K hK => ?_) (AllReadyH.cons rfl (fun K hK => ?_) AllReadyH.nil))
    · refine step_storeM rfl 54 (.tmp 23) (.tmp 19) rfl g2 (n * 5) U rfl rfl (by rw [HUl.out]; first | exact HT5.out | exact there_set HT5.out _ _) (by rw [HUl.out]; exact Try.sz54) HU1.out ?_
      refine hK.out _ _ ?_ (fun hHeld => ?_)
      · first | exact World.rangeAt_setCells_apart HRU5.out g2 (n * 5) U (.inl (fun e => hgY e.symm)) | exact World.rangeAt_setCells_apart (range_set_ne HRU5.out HYb.out _ _) g2 (n * 5) U (.inl (fun e => hgY e.symm))
      clear hK K
      try simp only [Act.put, List.getElem_toArray, List.getElem_cons_zero, List.getElem_cons_succ, List.setIfInBounds_toArray, List.set_cons_zero, List.set_cons_succ]
      refine wpAnyH_ready (rs := [12]) (by kernel_rfl) (by simp) ?_
      refine (AllReadyH.cons rfl (fun K hK => ?_) AllReadyH.nil)
      have c6 : (w5.setCells g2 (n * 5) U).cell? ⟨b, o + 4, none⟩ = some (.slice sa n sc) := by rw [World.cell?_setCells_out g2 U (n * 5) w5 ⟨b, o + 4, none⟩ (fun e => absurd e (fun e => hgb e.symm))]; exact c5
      have f6 : (w5.setCells g2 (n * 5) U).frozen? ⟨b, o + 4, none⟩ = false := by rw [World.frozen?_setCells]; exact f5
      go_simp
      refine hK.out _ _ ?_ (fun hHeld => ?_)
      · first | exact range_set_ne HRU5.out HYb.out _ _ | exact range_set_ne (World.rangeAt_setCells_apart HRU5.out g2 (n * 5) U (.inl (fun e => hgY e.symm))) HYb.out _ _
      clear hK K
      try simp only [Act.put, List.getElem_toArray, List.getElem_cons_zero, List.getElem_cons_succ, List.setIfInBounds_toArray, List.set_cons_zero, List.set_cons_succ]
      refine wpAnyH_done (by kernel_rfl) ?_ _
      have HWZ : Hid (R (.returned (.int .i64 0)) ((w5.setCells g2 (n * 5) U).setCell ⟨b, o + 4, none⟩ (.slice (some ⟨g2, 0, none⟩) (n + 1) cap2))) := by
        rw [← HR.out]
        have hcv := HP5.out.1
        have hcg : Cg b o 5 B w (w5.setCells g2 (n * 5) U) := by
          refine HCg5.out.grown (row := some g2) ⟨?_, ?_, ?_, ?_, ?_⟩ (fun j hj => by cases hj; exact hgB) HBL.out (by simpa using hgb)
          · exact (Ex.sets (S := fun j => j = g2) rfl U (n * 5) w5 (Ex.refl _ _)).os
          · exact (Ex.sets (S := fun j => j = g2) rfl U (n * 5) w5 (Ex.refl _ _)).tape
          · exact (Ex.sets (S := fun j => j = g2) rfl U (n * 5) w5 (Ex.refl _ _)).output
          · exact (Ex.sets (S := fun j => j = g2) rfl U (n * 5) w5 (Ex.refl _ _)).size
          · exact fun k hk hne => (Ex.sets (S := fun j => j = g2) rfl U (n * 5) w5 (Ex.refl _ _)).block k hk (fun e => hne (by rw [e]))
        have hnb : b ∉ blks ([m, mq] ++ Value.slice (some ⟨g2, 0, none⟩) (n + 1) cap2 :: (boxW sw ++ [(l.fl, [m', n'])]).flatMap (·.2)) ∧ ∀ j, j ∈ blks ([m, mq] ++ Value.slice (some ⟨g2, 0, none⟩) (n + 1) cap2 :: (boxW sw ++ [(l.fl, [m', n'])]).flatMap (·.2)) → j ∈ B ∨ w.heap.size ≤ j := by
          have key : ∀ j, j ∈ blks ([m, mq] ++ Value.slice (some ⟨g2, 0, none⟩) (n + 1) cap2 :: (boxW sw ++ [(l.fl, [m', n'])]).flatMap (·.2)) → (j ∈ B ∨ w.heap.size ≤ j) := fun j hj => by
            obtain ⟨v, hv, ev⟩ := mem_blks.1 hj
            simp only [List.mem_append, List.mem_cons, List.not_mem_nil, or_false, List.flatMap_append, List.flatMap_cons, List.flatMap_nil, List.append_nil] at hv
            rcases hv with (rfl | rfl) | rfl | hv | rfl | rfl
            · exact .inl (HCA.out.bl ▸ mem_blks.2 ⟨_, by simp, ev⟩)
            · exact .inl (HCA.out.bl ▸ mem_blks.2 ⟨_, by simp, ev⟩)
            · have e : g2 = j := by simpa [Value.ownBlock] using ev
              rw [← e]; exact hgB
            · exact .inl (HCA.out.bl ▸ mem_blks.2 ⟨v, List.mem_append_right _ (List.mem_cons_of_mem _ hv), ev⟩)
            · exact .inr (HNB.out j (.inl ev))
            · exact .inr (HNB.out j (.inr ev))
          refine ⟨fun hj => ?_, key⟩
          rcases key b hj with z | z
          · exact HBB.out z
          · have := HBL.out; omega
        have exs := Ex.sets (S := fun j => j = g2) rfl U (n * 5) w5 (Ex.refl _ _)
        have hb5 : b < w5.heap.size := World.block_lt_of_cell? _ _ c5
        refine ⟨rfl, hcg.set (by omega) _, _, ⟨sw ++ [(l, m', n')], m, mq, .slice (some ⟨g2, 0, none⟩) (n + 1) cap2, by simp [HSW.out], ⟨?_, ?_, there_set (there_ex HTH5.out hb5 exs (fun e => hgb e.symm)) _ _, rfl⟩, HO.out, ?_, ?_, ?_⟩, ?_⟩
        · rw [show boxW (sw ++ [(l, m', n')]) = boxW sw ++ [(l.fl, [m', n'])] by simp [boxW]]
          exact hcv.keep (S := fun k => k = b) ((Ex.refl (fun k => k = b) _).set rfl _) (fun k hk e => hnb.1 (e ▸ hk))
        · have := range_set (range_ex HRG5.out hb5 exs (fun e => hgb e.symm)) 4 (.slice (some ⟨g2, 0, none⟩) (n + 1) cap2)
          rw [Box0.set4] at this
          exact this
        · intro x hx
          rcases List.mem_append.1 hx with hx | hx
          · exact HSO.out x hx
          · have e : x = l := by simpa using hx
            rw [e]; exact HO.out
        · have h1 := (hcg.set (j := 4) (by omega) (.slice (some ⟨g2, 0, none⟩) (n + 1) cap2)).ex.size
          have := HBL.out
          omega
        · rw [show boxW (sw ++ [(l, m', n')]) = boxW sw ++ [(l.fl, [m', n'])] by simp [boxW]]
          exact hnb.1
        · rw [show boxW (sw ++ [(l, m', n')]) = boxW sw ++ [(l.fl, [m', n'])] by simp [boxW]]
          exact hnb.2
      try rw [setCells_comm (fun e => hgb e.symm) (o + 4)]
      generalize (w5.setCells g2 (n * 5) U).setCell ⟨b, o + 4, none⟩ (.slice (some ⟨g2, 0, none⟩) (n + 1) cap2) = w6 at *
      go_wp2
      exact HWZ.out
    · have c6 : (w5.setCells g2 (n * 5) U).cell? ⟨b, o + 4, none⟩ = some (.slice sa n sc) := by rw [World.cell?_setCells_out g2 U (n * 5) w5 ⟨b, o + 4, none⟩ (fun e => absurd e (fun e => hgb e.symm))]; exact c5
      have f6 : (w5.setCells g2 (n * 5) U).frozen? ⟨b, o + 4, none⟩ = false := by rw [World.frozen?_setCells]; exact f5
      go_simp
      refine hK.out _ _ ?_ (fun hHeld => ?_)
      · first | exact range_set_ne HRU5.out HYb.out _ _ | exact range_set_ne (World.rangeAt_setCells_apart HRU5.out g2 (n * 5) U (.inl (fun e => hgY e.symm))) HYb.out _ _
      clear hK K
      try simp only [Act.put, List.getElem_toArray, List.getElem_cons_zero, List.getElem_cons_succ, List.setIfInBounds_toArray, List.set_cons_zero, List.set_cons_succ]
      refine wpAnyH_ready (rs := [9]) (by kernel_rfl) (by simp) ?_
      refine (AllReadyH.cons rfl (fun K hK => ?_) AllReadyH.nil)
      refine step_storeM rfl 54 (.tmp 23) (.tmp 19) rfl g2 (n * 5) U rfl rfl (by rw [HUl.out]; first | exact HT5.out | exact there_set HT5.out _ _) (by rw [HUl.out]; exact Try.sz54) HU1.out ?_
      refine hK.out _ _ ?_ (fun hHeld => ?_)
      · first | exact World.rangeAt_setCells_apart HRU5.out g2 (n * 5) U (.inl (fun e => hgY e.symm)) | exact World.rangeAt_setCells_apart (range_set_ne HRU5.out HYb.out _ _) g2 (n * 5) U (.inl (fun e => hgY e.symm))
      clear hK K
      try simp only [Act.put, List.getElem_toArray, List.getElem_cons_zero, List.getElem_cons_succ, List.setIfInBounds_toArray, List.set_cons_zero, List.set_cons_succ]
      refine wpAnyH_done (by kernel_rfl) ?_ _
      have HWZ : Hid (R (.returned (.int .i64 0)) ((w5.setCells g2 (n * 5) U).setCell ⟨b, o + 4, none⟩ (.slice (some ⟨g2, 0, none⟩) (n + 1) cap2))) := by
        rw [← HR.out]
        have hcv := HP5.out.1
        have hcg : Cg b o 5 B w (w5.setCells g2 (n * 5) U) := by
          refine HCg5.out.grown (row := some g2) ⟨?_, ?_, ?_, ?_, ?_⟩ (fun j hj => by cases hj; exact hgB) HBL.out (by simpa using hgb)
          · exact (Ex.sets (S := fun j => j = g2) rfl U (n * 5) w5 (Ex.refl _ _)).os
          · exact (Ex.sets (S := fun j => j = g2) rfl U (n * 5) w5 (Ex.refl _ _)).tape
          · exact (Ex.sets (S := fun j => j = g2) rfl U (n * 5) w5 (Ex.refl _ _)).output
          · exact (Ex.sets (S := fun j => j = g2) rfl U (n * 5) w5 (Ex.refl _ _)).size
          · exact fun k hk hne => (Ex.sets (S := fun j => j = g2) rfl U (n * 5) w5 (Ex.refl _ _)).block k hk (fun e => hne (by rw [e]))
        have hnb : b ∉ blks ([m, mq] ++ Value.slice (some ⟨g2, 0, none⟩) (n + 1) cap2 :: (boxW sw ++ [(l.fl, [m', n'])]).flatMap (·.2)) ∧ ∀ j, j ∈ blks ([m, mq] ++ Value.slice (some ⟨g2, 0, none⟩) (n + 1) cap2 :: (boxW sw ++ [(l.fl, [m', n'])]).flatMap (·.2)) → j ∈ B ∨ w.heap.size ≤ j := by
          have key : ∀ j, j ∈ blks ([m, mq] ++ Value.slice (some ⟨g2, 0, none⟩) (n + 1) cap2 :: (boxW sw ++ [(l.fl, [m', n'])]).flatMap (·.2)) → (j ∈ B ∨ w.heap.size ≤ j) := fun j hj => by
            obtain ⟨v, hv, ev⟩ := mem_blks.1 hj
            simp only [List.mem_append, List.mem_cons, List.not_mem_nil, or_false, List.flatMap_append, List.flatMap_cons, List.flatMap_nil, List.append_nil] at hv
            rcases hv with (rfl | rfl) | rfl | hv | rfl | rfl
            · exact .inl (HCA.out.bl ▸ mem_blks.2 ⟨_, by simp, ev⟩)
            · exact .inl (HCA.out.bl ▸ mem_blks.2 ⟨_, by simp, ev⟩)
            · have e : g2 = j := by simpa [Value.ownBlock] using ev
              rw [← e]; exact hgB
            · exact .inl (HCA.out.bl ▸ mem_blks.2 ⟨v, List.mem_append_right _ (List.mem_cons_of_mem _ hv), ev⟩)
            · exact .inr (HNB.out j (.inl ev))
            · exact .inr (HNB.out j (.inr ev))
          refine ⟨fun hj => ?_, key⟩
          rcases key b hj with z | z
          · exact HBB.out z
          · have := HBL.out; omega
        have exs := Ex.sets (S := fun j => j = g2) rfl U (n * 5) w5 (Ex.refl _ _)
        have hb5 : b < w5.heap.size := World.block_lt_of_cell? _ _ c5
        refine ⟨rfl, hcg.set (by omega) _, _, ⟨sw ++ [(l, m', n')], m, mq, .slice (some ⟨g2, 0, none⟩) (n + 1) cap2, by simp [HSW.out], ⟨?_, ?_, there_set (there_ex HTH5.out hb5 exs (fun e => hgb e.symm)) _ _, rfl⟩, HO.out, ?_, ?_, ?_⟩, ?_⟩
        · rw [show boxW (sw ++ [(l, m', n')]) = boxW sw ++ [(l.fl, [m', n'])] by simp [boxW]]
          exact hcv.keep (S := fun k => k = b) ((Ex.refl (fun k => k = b) _).set rfl _) (fun k hk e => hnb.1 (e ▸ hk))
        · have := range_set (range_ex HRG5.out hb5 exs (fun e => hgb e.symm)) 4 (.slice (some ⟨g2, 0, none⟩) (n + 1) cap2)
          rw [Box0.set4] at this
          exact this
        · intro x hx
          rcases List.mem_append.1 hx with hx | hx
          · exact HSO.out x hx
          · have e : x = l := by simpa using hx
            rw [e]; exact HO.out
        · have h1 := (hcg.set (j := 4) (by omega) (.slice (some ⟨g2, 0, none⟩) (n + 1) cap2)).ex.size
          have := HBL.out
          omega
        · rw [show boxW (sw ++ [(l, m', n')]) = boxW sw ++ [(l.fl, [m', n'])] by simp [boxW]]
          exact hnb.1
        · rw [show boxW (sw ++ [(l, m', n')]) = boxW sw ++ [(l.fl, [m', n'])] by simp [boxW]]
          exact hnb.2
      try rw [setCells_comm (fun e => hgb e.symm) (o + 4)]
      generalize (w5.setCells g2 (n * 5) U).setCell ⟨b, o + 4, none⟩ (.slice (some ⟨g2, 0, none⟩) (n + 1) cap2) = w6 at *
      go_wp2
      exact HWZ.out
  · refine step_buildS rfl 52 54 _ rfl (#[.int .u8 0, .slice none 0 0, .slice none 0 0, .int .i64 0, .slice none 0 0] : Array Value).toList rfl i5 _ 5 88 Try.underlying52 HI5.out.1 HI5.out.2.1 HI5.out.2.2.1 HI5.out.2.2.2 zl54.1 (by decide) (by decide) ?_
    have b4 := (Below.trans (B := w3.heap.size) ((Below.refl w3.heap.size w3).drew) (be1 w3.drew (.cells (#[.int .u8 0, .slice none 0 0, .slice none 0 0, .int .i64 0, .slice none 0 0] : Array Value).toList.toArray 54)))
    have HB4 := hide b4
    have HC4 := hide (HC3.out.below (Nat.lt_of_lt_of_le HBL.out HB3.out.size) b4)
    have HF4 := hide (HF3.out.keep (S := fun _ => False) (Ex.of b4) (fun _ _ e => e))
    have HZ4 := hide (newR w3.drew (#[.int .u8 0, .slice none 0 0, .slice none 0 0, .int .i64 0, .slice none 0 0] : Array Value).toList 54)
    have c4 : (w3.drew.alloc (.cells (#[.int .u8 0, .slice none 0 0, .slice none 0 0, .int .i64 0, .slice none 0 0] : Array Value).toList.toArray 54)).cell? ⟨b, o + 4, none⟩ = some (.slice sa n sc) := HC4.out.rg 4 _ (Box0.at4 _ _ _ _)
    clear b4
    refine hK.out _ _ ?_ (fun hHeld => ?_)
    · exact range_below HRU.out HYl.out HB4.out
    clear hK K
    try simp only [Act.put, List.getElem_toArray, List.getElem_cons_zero, List.getElem_cons_succ, List.setIfInBounds_toArray, List.set_cons_zero, List.set_cons_succ]
    generalize w3.drew.alloc (.cells (#[.int .u8 0, .slice none 0 0, .slice none 0 0, .int .i64 0, .slice none 0 0] : Array Value).toList.toArray 54) = w4 at *
    refine wpAnyH_ready (rs := [3]) (by kernel_rfl) (by simp) ?_
    refine (AllReadyH.cons rfl (fun K hK => ?_) AllReadyH.nil)
    go_simp
    refine hK.out _ _ ?_ (fun hHeld => ?_)
    · first | exact HRU.out | exact range_below HRU.out HYl.out HB4.out
    clear hK K
    try simp only [Act.put, List.getElem_toArray, List.getElem_cons_zero, List.getElem_cons_succ, List.setIfInBounds_toArray, List.set_cons_zero, List.set_cons_succ]
    refine wpAnyH_take (i := 5) (v := ?_) rfl (by kernel_rfl) (by kernel_rfl) (by kernel_rfl) (fun _ _ _ h => h) (Or.inl ⟨by rfl, ?_⟩) (by assumption) ?_
    rotate_left
    · (intro w hSw; (try dsimp only at hSw); go_simp; try (with_reducible rfl))
    try simp only [Act.put, List.getElem_toArray, List.getElem_cons_zero, List.getElem_cons_succ, List.setIfInBounds_toArray, List.set_cons_zero, List.set_cons_succ]
    refine wpAnyH_ready (rs := [7]) (by kernel_rfl) (by simp) ?_
    refine (AllReadyH.cons rfl (fun K hK => ?_) AllReadyH.nil)
    refine step_append_lies _ rfl (.tmp 18) (.tmp 21) 52 rfl 0 54 i5 _ 5 88 Try.underlying52 HI5.out.1 HI5.out.2.1 HI5.out.2.2.1 HI5.out.2.2.2 rfl (by decide) (.slice sa n sc) (boxW sw).length _ rfl HC4.out.cv.sl ⟨w3.drew.heap.size, 0, none⟩ 1 1 (#[.int .u8 0, .slice none 0 0, .slice none 0 0, .int .i64 0, .slice none 0 0] : Array Value).toList rfl (by rw [zl54.1]) (fun j u hj => by rw [Addr.add_mid]; exact HZ4.out j u hj) zl54.2 (by decide) (by rw [HLW.out]; unfold maxLen; omega) (by rw [HLW.out]; omega) (Nat.zero_le _) _ rfl ?_
    intro g2 cap2 w5 hown hgrow hat hlt2
    have HUV : Hid (l.fl.lay [m', n'] nilS = U) := HUe.out
    have hp := CV.pushed (q := l.fl) (us := [m', n']) HC4.out.cv hgrow hown hat HF4.out HND.out (fun j hj hx => by
      obtain ⟨v, hv, ev⟩ := mem_blks.1 hj
      have e : v = m' ∨ v = n' := by simpa using hv
      have h1 := HNB.out j (by rcases e with rfl | rfl; exact .inl ev; exact .inr ev)
      have h2 := HCA.out.cv.lt hx
      omega) (fun p hp => by
        obtain ⟨y, hy, rfl⟩ := List.mem_map.1 hp
        exact Box0.len _ _ _ _) (by rw [HUV.out, HUl.out, zl54.1])
    rw [HUV.out, HLW.out] at hp
    have HP5 := hide hp
    have hgb : g2 ≠ b := by
      rcases hat with z | z
      · intro e
        refine HBB.out (HCA.out.bl ▸ mem_blks.2 ⟨.slice sa n sc, by simp, ?_⟩)
        rw [z, e]
      · intro e; have h1 := HBL.out; have h2 := HB3.out.size; have h3 := HB4.out.size; omega
    have hgB : g2 ∈ B ∨ w.heap.size ≤ g2 := by
      rcases hat with z | z
      · exact .inl (HCA.out.bl ▸ mem_blks.2 ⟨.slice sa n sc, by simp, z⟩)
      · have h2 := HB3.out.size; have h3 := HB4.out.size; right; omega
    have hgY : g2 ≠ Y := by
      rcases hat with z | z
      · intro e; exact HYr.out g2 (HCA.out.bl ▸ mem_blks.2 ⟨.slice sa n sc, by simp, z⟩) e
      · have h1 := HYl.out; have h3 := HB4.out.size; omega
    have hcap : n < cap2 ∨ n < cap2 := by
      rcases hown.2 with ⟨e, _⟩ | ⟨g', cap, cur, e, _, _, hn, _⟩
      · cases e
      · injection e with _ _ e; subst e; rw [HLW.out] at hn; omega
    have HRU5 : Hid (w5.rangeAt Y 0 U) := range_ex (range_below HRU.out HYl.out HB4.out) (Nat.lt_of_lt_of_le HYl.out HB4.out.size) (Ex.ofGrown (S := fun k => (Value.slice sa n sc).ownBlock = some k) hgrow (fun k e => e.symm)) (fun e => HYr.out Y (HCA.out.bl ▸ mem_blks.2 ⟨.slice sa n sc, by simp, e⟩) rfl)
    have HT5 : Hid (w5.there g2 (n * 5) 5) := by
      intro j hj
      have hq : ∃ u, (List.flatMap (fun p => p.1.lay p.2 nilS) (boxW sw) ++ (#[.int .u8 0, .slice none 0 0, .slice none 0 0, .int .i64 0, .slice none 0 0] : Array Value).toList)[n * 5 + j]? = some u := by
        refine ⟨_, List.getElem?_eq_getElem ?_⟩
        have h0 := hown.1
        rw [h0, HLW.out]; omega
      obtain ⟨u, hu⟩ := hq
      have hc := hown.cells rfl _ u hu
      rw [Addr.add_mid, Nat.zero_add] at hc
      refine ⟨by rw [hc]; rfl, ?_⟩
      have hnn : (Value.slice (some ⟨g2, 0, none⟩) ((boxW sw).length + 1) cap2) = (Value.slice (some ⟨g2, 0, none⟩) ((boxW sw).length + 1) cap2) := rfl
      exact hown.frozenAt _
    have c5 : w5.cell? ⟨b, o + 4, none⟩ = some (.slice sa n sc) := hgrow.cell c4 (fun e => HBB.out (HCA.out.bl ▸ mem_blks.2 ⟨.slice sa n sc, by simp, e.symm⟩))
    have f5 : w5.frozen? ⟨b, o + 4, none⟩ = false := by rw [World.frozen?_of_block (hgrow.block b (World.block_lt_of_cell? _ _ c4) (fun e => HBB.out (HCA.out.bl ▸ mem_blks.2 ⟨.slice sa n sc, by simp, e.symm⟩)))]; exact (HC4.out.th 4 (by omega)).2
    have HCg5 := hide ((Cg.below (o := o) (n := 5) (B := B) (lec HB3.out HB4.out) HBL.out).grown hgrow (fun j hj => .inl (HCA.out.bl ▸ mem_blks.2 ⟨.slice sa n sc, by simp, hj⟩)) HBL.out (fun e => HBB.out (HCA.out.bl ▸ mem_blks.2 ⟨.slice sa n sc, by simp, e⟩)))
    have HTH5 : Hid (w5.there b o 5) := there_ex HC4.out.th (World.block_lt_of_cell? _ _ c4) (Ex.ofGrown (S := fun k => (Value.slice sa n sc).ownBlock = some k) hgrow (fun k e => e.symm)) (fun e => HBB.out (HCA.out.bl ▸ mem_blks.2 ⟨.slice sa n sc, by simp, e⟩))
    have HRG5 : Hid (w5.rangeAt b o (l.vals m mq (.slice sa n sc))) := range_ex HC4.out.rg (World.block_lt_of_cell? _ _ c4) (Ex.ofGrown (S := fun k => (Value.slice sa n sc).ownBlock = some k) hgrow (fun k e => e.symm)) (fun e => HBB.out (HCA.out.bl ▸ mem_blks.2 ⟨.slice sa n sc, by simp, e⟩))
    rw [HLW.out]
    clear hown hgrow hat hp c4
    refine hK.out _ _ ?_ (fun hHeld => ?_)
    · exact HRU5.out
    clear hK K
    try simp only [Act.put, List.getElem_toArray, List.getElem_cons_zero, List.getElem_cons_succ, List.setIfInBounds_toArray, List.set_cons_zero, List.set_cons_succ]
    refine wpAnyH_take (i := 8) (v := ?_) rfl (by kernel_rfl) (by kernel_rfl) (by kernel_rfl) (fun _ _ _ h => h) (Or.inl ⟨by rfl, ?_⟩) (by assumption) ?_
    rotate_left
    · (intro w hSw; (try dsimp only at hSw); have hz := Try.sizeOf54; have hltn : (n : Int) < n + 1 := (by omega); go_simp; try (with_reducible rfl))
    try simp only [Act.put, List.getElem_toArray, List.getElem_cons_zero, List.getElem_cons_succ, List.setIfInBounds_toArray, List.set_cons_zero, List.set_cons_succ]
    refine wpAnyH_take (i := 10) (v := ?_) rfl (by kernel_rfl) (by kernel_rfl) (by kernel_rfl) (fun _ _ _ h => h) (Or.inl ⟨by rfl, ?_⟩) (by assumption) ?_
    rotate_left
    · (intro w hSw; (try dsimp only at hSw); go_simp; try (with_reducible rfl))
    try simp only [Act.put, List.getElem_toArray, List.getElem_cons_zero, List.getElem_cons_succ, List.setIfInBounds_toArray, List.set_cons_zero, List.set_cons_succ]
    refine wpAnyH_take (i := 11) (v := ?_) rfl (by kernel_rfl) (by kernel_rfl) (by kernel_rfl) (fun _ _ _ h => h) (Or.inl ⟨by rfl, ?_⟩) (by assumption) ?_
    rotate_left
    · (intro w hSw; (try dsimp only at hSw); go_simp; try (with_reducible rfl))
    try simp only [Act.put, List.getElem_toArray, List.getElem_cons_zero, List.getElem_cons_succ, List.setIfInBounds_toArray, List.set_cons_zero, List.set_cons_succ]
    refine wpAnyH_ready (rs := [9, 12]) (by kernel_rfl) (by simp) ?_
    refine (AllReadyH.cons rfl (fun K hK => ?_) (AllReadyH.cons rfl (fun K hK => ?_) AllReadyH.nil))
    · refine step_storeM rfl 54 (.tmp 23) (.tmp 19) rfl g2 (n * 5) U rfl rfl (by rw [HUl.out]; first | exact HT5.out | exact there_set HT5.out _ _) (by rw [HUl.out]; exact Try.sz54) HU1.out ?_
      refine hK.out _ _ ?_ (fun hHeld => ?_)
      · first | exact World.rangeAt_setCells_apart HRU5.out g2 (n * 5) U (.inl (fun e => hgY e.symm)) | exact World.rangeAt_setCells_apart (range_set_ne HRU5.out HYb.out _ _) g2 (n * 5) U (.inl (fun e => hgY e.symm))
      clear hK K
      try simp only [Act.put, List.getElem_toArray, List.getElem_cons_zero, List.getElem_cons_succ, List.setIfInBounds_toArray, List.set_cons_zero, List.set_cons_succ]
      refine wpAnyH_ready (rs := [12]) (by kernel_rfl) (by simp) ?_
      refine (AllReadyH.cons rfl (fun K hK => ?_) AllReadyH.nil)
      have c6 : (w5.setCells g2 (n * 5) U).cell? ⟨b, o + 4, none⟩ = some (.slice sa n sc) := by rw [World.cell?_setCells_out g2 U (n * 5) w5 ⟨b, o + 4, none⟩ (fun e => absurd e (fun e => hgb e.symm))]; exact c5
      have f6 : (w5.setCells g2 (n * 5) U).frozen? ⟨b, o + 4, none⟩ = false := by rw [World.frozen?_setCells]; exact f5
      go_simp
      refine hK.out _ _ ?_ (fun hHeld => ?_)
      · first | exact range_set_ne HRU5.out HYb.out _ _ | exact range_set_ne (World.rangeAt_setCells_apart HRU5.out g2 (n * 5) U (.inl (fun e => hgY e.symm))) HYb.out _ _
      clear hK K
      try simp only [Act.put, List.getElem_toArray, List.getElem_cons_zero, List.getElem_cons_succ, List.setIfInBounds_toArray, List.set_cons_zero, List.set_cons_succ]
      refine wpAnyH_done (by kernel_rfl) ?_ _
      have HWZ : Hid (R (.returned (.int .i64 0)) ((w5.setCells g2 (n * 5) U).setCell ⟨b, o + 4, none⟩ (.slice (some ⟨g2, 0, none⟩) (n + 1) cap2))) := by
        rw [← HR.out]
        have hcv := HP5.out.1
        have hcg : Cg b o 5 B w (w5.setCells g2 (n * 5) U) := by
          refine HCg5.out.grown (row := some g2) ⟨?_, ?_, ?_, ?_, ?_⟩ (fun j hj => by cases hj; exact hgB) HBL.out (by simpa using hgb)
          · exact (Ex.sets (S := fun j => j = g2) rfl U (n * 5) w5 (Ex.refl _ _)).os
          · exact (Ex.sets (S := fun j => j = g2) rfl U (n * 5) w5 (Ex.refl _ _)).tape
          · exact (Ex.sets (S := fun j => j = g2) rfl U (n * 5) w5 (Ex.refl _ _)).output
          · exact (Ex.sets (S := fun j => j = g2) rfl U (n * 5) w5 (Ex.refl _ _)).size
          · exact fun k hk hne => (Ex.sets (S := fun j => j = g2) rfl U (n * 5) w5 (Ex.refl _ _)).block k hk (fun e => hne (by rw [e]))
        have hnb : b ∉ blks ([m, mq] ++ Value.slice (some ⟨g2, 0, none⟩) (n + 1) cap2 :: (boxW sw ++ [(l.fl, [m', n'])]).flatMap (·.2)) ∧ ∀ j, j ∈ blks ([m, mq] ++ Value.slice (some ⟨g2, 0, none⟩) (n + 1) cap2 :: (boxW sw ++ [(l.fl, [m', n'])]).flatMap (·.2)) → j ∈ B ∨ w.heap.size ≤ j := by
          have key : ∀ j, j ∈ blks ([m, mq] ++ Value.slice (some ⟨g2, 0, none⟩) (n + 1) cap2 :: (boxW sw ++ [(l.fl, [m', n'])]).flatMap (·.2)) → (j ∈ B ∨ w.heap.size ≤ j) := fun j hj => by
            obtain ⟨v, hv, ev⟩ := mem_blks.1 hj
            simp only [List.mem_append, List.mem_cons, List.not_mem_nil, or_false, List.flatMap_append, List.flatMap_cons, List.flatMap_nil, List.append_nil] at hv
            rcases hv with (rfl | rfl) | rfl | hv | rfl | rfl
            · exact .inl (HCA.out.bl ▸ mem_blks.2 ⟨_, by simp, ev⟩)
            · exact .inl (HCA.out.bl ▸ mem_blks.2 ⟨_, by simp, ev⟩)
            · have e : g2 = j := by simpa [Value.ownBlock] using ev
              rw [← e]; exact hgB
            · exact .inl (HCA.out.bl ▸ mem_blks.2 ⟨v, List.mem_append_right _ (List.mem_cons_of_mem _ hv), ev⟩)
            · exact .inr (HNB.out j (.inl ev))
            · exact .inr (HNB.out j (.inr ev))
          refine ⟨fun hj => ?_, key⟩
          rcases key b hj with z | z
          · exact HBB.out z
          · have := HBL.out; omega
        have exs := Ex.sets (S := fun j => j = g2) rfl U (n * 5) w5 (Ex.refl _ _)
        have hb5 : b < w5.heap.size := World.block_lt_of_cell? _ _ c5
        refine ⟨rfl, hcg.set (by omega) _, _, ⟨sw ++ [(l, m', n')], m, mq, .slice (some ⟨g2, 0, none⟩) (n + 1) cap2, by simp [HSW.out], ⟨?_, ?_, there_set (there_ex HTH5.out hb5 exs (fun e => hgb e.symm)) _ _, rfl⟩, HO.out, ?_, ?_, ?_⟩, ?_⟩
        · rw [show boxW (sw ++ [(l, m', n')]) = boxW sw ++ [(l.fl, [m', n'])] by simp [boxW]]
          exact hcv.keep (S := fun k => k = b) ((Ex.refl (fun k => k = b) _).set rfl _) (fun k hk e => hnb.1 (e ▸ hk))
        · have := range_set (range_ex HRG5.out hb5 exs (fun e => hgb e.symm)) 4 (.slice (some ⟨g2, 0, none⟩) (n + 1) cap2)
          rw [Box0.set4] at this
          exact this
        · intro x hx
          rcases List.mem_append.1 hx with hx | hx
          · exact HSO.out x hx
          · have e : x = l := by simpa using hx
            rw [e]; exact HO.out
        · have h1 := (hcg.set (j := 4) (by omega) (.slice (some ⟨g2, 0, none⟩) (n + 1) cap2)).ex.size
          have := HBL.out
          omega
        · rw [show boxW (sw ++ [(l, m', n')]) = boxW sw ++ [(l.fl, [m', n'])] by simp [boxW]]
          exact hnb.1
        · rw [show boxW (sw ++ [(l, m', n')]) = boxW sw ++ [(l.fl, [m', n'])] by simp [boxW]]
          exact hnb.2
      try rw [setCells_comm (fun e => hgb e.symm) (o + 4)]
      generalize (w5.setCells g2 (n * 5) U).setCell ⟨b, o + 4, none⟩ (.slice (some ⟨g2, 0, none⟩) (n + 1) cap2) = w6 at *
      go_wp2
      exact HWZ.out
    · have c6 : (w5.setCells g2 (n * 5) U).cell? ⟨b, o + 4, none⟩ = some (.slice sa n sc) := by rw [World.cell?_setCells_out g2 U (n * 5) w5 ⟨b, o + 4, none⟩ (fun e => absurd e (fun e => hgb e.symm))]; exact c5
      have f6 : (w5.setCells g2 (n * 5) U).frozen? ⟨b, o + 4, none⟩ = false := by rw [World.frozen?_setCells]; exact f5
      go_simp
      refine hK.out _ _ ?_ (fun hHeld => ?_)
      · first | exact range_set_ne HRU5.out HYb.out _ _ | exact range_set_ne (World.rangeAt_setCells_apart HRU5.out g2 (n * 5) U (.inl (fun e => hgY e.symm))) HYb.out _ _
      clear hK K
      try simp only [Act.put, List.getElem_toArray, List.getElem_cons_zero, List.getElem_cons_succ, List.setIfInBounds_toArray, List.set_cons_zero, List.set_cons_succ]
      refine wpAnyH_ready (rs := [9]) (by kernel_rfl) (by simp) ?_
      refine (AllReadyH.cons rfl (fun K hK => ?_) AllReadyH.nil)
      refine step_storeM rfl 54 (.tmp 23) (.tmp 19) rfl g2 (n * 5) U rfl rfl (by rw [HUl.out]; first | exact HT5.out | exact there_set HT5.out _ _) (by rw [HUl.out]; exact Try.sz54) HU1.out ?_
      refine hK.out _ _ ?_ (fun hHeld => ?_)
      · first | exact World.rangeAt_setCells_apart HRU5.out g2 (n * 5) U (.inl (fun e => hgY e.symm)) | exact World.rangeAt_setCells_apart (range_set_ne HRU5.out HYb.out _ _) g2 (n * 5) U (.inl (fun e => hgY e.symm))
      clear hK K
      try simp only [Act.put, List.getElem_toArray, List.getElem_cons_zero, List.getElem_cons_succ, List.setIfInBounds_toArray, List.set_cons_zero, List.set_cons_succ]
      refine wpAnyH_done (by kernel_rfl) ?_ _
      have HWZ : Hid (R (.returned (.int .i64 0)) ((w5.setCells g2 (n * 5) U).setCell ⟨b, o + 4, none⟩ (.slice (some ⟨g2, 0, none⟩) (n + 1) cap2))) := by
        rw [← HR.out]
        have hcv := HP5.out.1
        have hcg : Cg b o 5 B w (w5.setCells g2 (n * 5) U) := by
          refine HCg5.out.grown (row := some g2) ⟨?_, ?_, ?_, ?_, ?_⟩ (fun j hj => by cases hj; exact hgB) HBL.out (by simpa using hgb)
          · exact (Ex.sets (S := fun j => j = g2) rfl U (n * 5) w5 (Ex.refl _ _)).os
          · exact (Ex.sets (S := fun j => j = g2) rfl U (n * 5) w5 (Ex.refl _ _)).tape
          · exact (Ex.sets (S := fun j => j = g2) rfl U (n * 5) w5 (Ex.refl _ _)).output
          · exact (Ex.sets (S := fun j => j = g2) rfl U (n * 5) w5 (Ex.refl _ _)).size
          · exact fun k hk hne => (Ex.sets (S := fun j => j = g2) rfl U (n * 5) w5 (Ex.refl _ _)).block k hk (fun e => hne (by rw [e]))
        have hnb : b ∉ blks ([m, mq] ++ Value.slice (some ⟨g2, 0, none⟩) (n + 1) cap2 :: (boxW sw ++ [(l.fl, [m', n'])]).flatMap (·.2)) ∧ ∀ j, j ∈ blks ([m, mq] ++ Value.slice (some ⟨g2, 0, none⟩) (n + 1) cap2 :: (boxW sw ++ [(l.fl, [m', n'])]).flatMap (·.2)) → j ∈ B ∨ w.heap.size ≤ j := by
          have key : ∀ j, j ∈ blks ([m, mq] ++ Value.slice (some ⟨g2, 0, none⟩) (n + 1) cap2 :: (boxW sw ++ [(l.fl, [m', n'])]).flatMap (·.2)) → (j ∈ B ∨ w.heap.size ≤ j) := fun j hj => by
            obtain ⟨v, hv, ev⟩ := mem_blks.1 hj
            simp only [List.mem_append, List.mem_cons, List.not_mem_nil, or_false, List.flatMap_append, List.flatMap_cons, List.flatMap_nil, List.append_nil] at hv
            rcases hv with (rfl | rfl) | rfl | hv | rfl | rfl
            · exact .inl (HCA.out.bl ▸ mem_blks.2 ⟨_, by simp, ev⟩)
            · exact .inl (HCA.out.bl ▸ mem_blks.2 ⟨_, by simp, ev⟩)
            · have e : g2 = j := by simpa [Value.ownBlock] using ev
              rw [← e]; exact hgB
            · exact .inl (HCA.out.bl ▸ mem_blks.2 ⟨v, List.mem_append_right _ (List.mem_cons_of_mem _ hv), ev⟩)
            · exact .inr (HNB.out j (.inl ev))
            · exact .inr (HNB.out j (.inr ev))
          refine ⟨fun hj => ?_, key⟩
          rcases key b hj with z | z
          · exact HBB.out z
          · have := HBL.out; omega
        have exs := Ex.sets (S := fun j => j = g2) rfl U (n * 5) w5 (Ex.refl _ _)
        have hb5 : b < w5.heap.size := World.block_lt_of_cell? _ _ c5
        refine ⟨rfl, hcg.set (by omega) _, _, ⟨sw ++ [(l, m', n')], m, mq, .slice (some ⟨g2, 0, none⟩) (n + 1) cap2, by simp [HSW.out], ⟨?_, ?_, there_set (there_ex HTH5.out hb5 exs (fun e => hgb e.symm)) _ _, rfl⟩, HO.out, ?_, ?_, ?_⟩, ?_⟩
        · rw [show boxW (sw ++ [(l, m', n')]) = boxW sw ++ [(l.fl, [m', n'])] by simp [boxW]]
          exact hcv.keep (S := fun k => k = b) ((Ex.refl (fun k => k = b) _).set rfl _) (fun k hk e => hnb.1 (e ▸ hk))
        · have := range_set (range_ex HRG5.out hb5 exs (fun e => hgb e.symm)) 4 (.slice (some ⟨g2, 0, none⟩) (n + 1) cap2)
          rw [Box0.set4] at this
          exact this
        · intro x hx
          rcases List.mem_append.1 hx with hx | hx
          · exact HSO.out x hx
          · have e : x = l := by simpa using hx
            rw [e]; exact HO.out
        · have h1 := (hcg.set (j := 4) (by omega) (.slice (some ⟨g2, 0, none⟩) (n + 1) cap2)).ex.size
          have := HBL.out
          omega
        · rw [show boxW (sw ++ [(l, m', n')]) = boxW sw ++ [(l.fl, [m', n'])] by simp [boxW]]
          exact hnb.1
        · rw [show boxW (sw ++ [(l, m', n')]) = boxW sw ++ [(l.fl, [m', n'])] by simp [boxW]]
          exact hnb.2
      try rw [setCells_comm (fun e => hgb e.symm) (o + 4)]
      generalize (w5.setCells g2 (n * 5) U).setCell ⟨b, o + 4, none⟩ (.slice (some ⟨g2, 0, none⟩) (n + 1) cap2) = w6 at *
      go_wp2
      exact HWZ.out
end Go.Proofs.Qxb6500784a
