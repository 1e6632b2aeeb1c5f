import Derived.Test.Qxb6500784aSq
namespace Go.Proofs.Qxb6500784a
open Go.RowKit

/-! ### A checkpoint is a part without checkpoints -/
theorem own_there {w : World} {B e s n g c : Nat} {xs : List Value} (h : w.ownsRow B e s (.slice (some ⟨g, 0, none⟩) n c) n xs) {i : Nat} (hi : i < n) : w.there g (i * s) s := by
  intro j hj
  have hl : i * s + j < xs.length := by
    rw [h.1]
    have : (i + 1) * s ≤ n * s := Nat.mul_le_mul_right s hi
    rw [Nat.succ_mul] at this
    omega
  have hc := h.cells rfl _ _ (List.getElem?_eq_getElem hl)
  rw [Addr.add_mid, Nat.zero_add] at hc
  exact ⟨by rw [hc]; rfl, h.frozenAt _⟩
theorem CV.ck {w : World} {T k : Nat} {f : Fl} {sw : List (Fl × List Value)} {vs : List Value} {s : Value} (h : CV w T k f sw vs s) (hl : ∀ q, q ∈ sw → (q.1.lay q.2 nilS).length = k) {i : Nat} {p : Fl × List Value} (hp : sw[i]? = some p) :
    ∃ g c, s = .slice (some ⟨g, 0, none⟩) sw.length c ∧ CA w T k g (i * k) p.1 [] p.2 nilS (blks p.2) ∧ g < w.heap.size ∧ g ∉ blks p.2 := by
  have hi : i < sw.length := (List.getElem?_eq_some_iff.1 hp).1
  obtain ⟨g, c, rfl⟩ := own_some h.sl (by omega)
  have hpm := List.mem_of_getElem? hp
  have hsub : (blks p.2).Sublist (blks (sw.flatMap (·.2))) := by
    refine List.Sublist.filterMap _ ?_
    rw [List.flatMap_def]
    exact List.sublist_flatten_of_mem (List.mem_map_of_mem hpm)
  have nd := h.nd
  rw [blks3] at nd
  obtain ⟨_, n2, _⟩ := List.nodup_append.1 nd
  obtain ⟨_, n3, n4⟩ := List.nodup_append.1 n2
  have e0 : blks (p.2 ++ [nilS]) = blks p.2 := by rw [blks_append]; simp [blks, Value.ownBlock]
  refine ⟨g, c, rfl, ⟨⟨h.ea p hpm, World.ownsRow_nil _ _ _ _, fun q hq => (by cases hq), ?_⟩, range_flat (k := k) hl (own_range h.sl) hp, own_there h.sl hi, ?_⟩, (h.sl.lt g rfl).2, fun hg => n4 g (by simp [Value.ownBlock]) g (hsub.subset hg) rfl⟩
  · rw [List.flatMap_nil, e0]
    exact hsub.nodup n3
  · rw [List.flatMap_nil, e0]
theorem LA.ck {w : World} {b o : Nat} {l : Led0} {sv : List Led0} {B : List Nat} (h : LA w b o l sv B) {i : Nat} {x : Led0} (hx : sv[i]? = some x) :
    ∃ g c B', w.cell? ⟨b, o + 325, none⟩ = some (.slice (some ⟨g, 0, none⟩) sv.length c) ∧ LA w g (i * 326) x [] B' := by
  obtain ⟨sw, m, s, rfl, h2, h3, h4, h5, h6⟩ := h
  rw [List.getElem?_map] at hx
  obtain ⟨p, hp, rfl⟩ := Option.map_eq_some_iff.1 hx
  have hlen : ∀ q, q ∈ ledW sw → (q.1.lay q.2 nilS).length = 326 := fun q hq => by
    obtain ⟨y, hy, rfl⟩ := List.mem_map.1 hq
    exact Led0.len (h4 y.1 (List.mem_map_of_mem hy)) _ _
  obtain ⟨g, c, rfl, hca, hg, hgb⟩ := h2.cv.ck hlen (i := i) (p := (p.1.fl, [p.2])) (by rw [ledW, List.getElem?_map, hp]; rfl)
  have hc := h2.rg 325 _ (Led0.at325 h3 _ _)
  rw [show (ledW sw).length = (sw.map (·.1)).length by simp [ledW]] at hc
  exact ⟨g, c, _, hc, [], p.2, nilS, rfl, hca, h4 p.1 (List.mem_map_of_mem (List.mem_of_getElem? hp)), fun y hy => (by cases hy), hg, hgb⟩
theorem BA.ck {w : World} {b o : Nat} {l : Box0} {sv : List Box0} {B : List Nat} (h : BA w b o l sv B) {i : Nat} {x : Box0} (hx : sv[i]? = some x) :
    ∃ g c B', w.cell? ⟨b, o + 4, none⟩ = some (.slice (some ⟨g, 0, none⟩) sv.length c) ∧ BA w g (i * 5) x [] B' := by
  obtain ⟨sw, u, v, s, rfl, h2, h3, h4, h5, h6⟩ := h
  rw [List.getElem?_map] at hx
  obtain ⟨p, hp, rfl⟩ := Option.map_eq_some_iff.1 hx
  have hlen : ∀ q, q ∈ boxW sw → (q.1.lay q.2 nilS).length = 5 := fun q hq => by
    obtain ⟨y, hy, rfl⟩ := List.mem_map.1 hq
    rfl
  obtain ⟨g, c, rfl, hca, hg, hgb⟩ := h2.cv.ck hlen (i := i) (p := (p.1.fl, [p.2.1, p.2.2])) (by rw [boxW, List.getElem?_map, hp]; rfl)
  have hc := h2.rg 4 _ rfl
  rw [show (boxW sw).length = (sw.map (·.1)).length by simp [boxW]] at hc
  exact ⟨g, c, _, hc, [], p.2.1, p.2.2, nilS, rfl, hca, h4 p.1 (List.mem_map_of_mem (List.mem_of_getElem? hp)), fun y hy => (by cases hy), hg, hgb⟩
end Go.Proofs.Qxb6500784a
