import Derived.Test.Qxb6500784aMem
namespace Go.Proofs.Qxb6500784a
open Go.RowKit

/-! ### Cells -/
abbrev nilS : Value := .slice none 0 0
/-- What a part holds but for its open checkpoints: its cells (given the values of its lists), and its lists. -/
structure Row where
  e : Nat
  k : Nat
  n : Nat
  xs : List Value
structure Fl where
  lay : List Value → Value → List Value
  rows : List Row
def FlV (w : World) (f : Fl) (vs : List Value) : Prop :=
  vs.length = f.rows.length ∧ ∀ (i : Nat) (r : Row) (v : Value), f.rows[i]? = some r → vs[i]? = some v → w.ownsRow 0 r.e r.k v r.n r.xs
def blks (vs : List Value) : List Nat := vs.filterMap Value.ownBlock
/-- A part with its open checkpoints. -/
structure CV (w : World) (T : Nat) (k : Nat) (f : Fl) (sw : List (Fl × List Value)) (vs : List Value) (s : Value) : Prop where
  fl : FlV w f vs
  sl : w.ownsRow 0 T k s sw.length (sw.flatMap fun p => p.1.lay p.2 nilS)
  ea : ∀ p, p ∈ sw → FlV w p.1 p.2
  nd : (blks (vs ++ s :: sw.flatMap (·.2))).Nodup
theorem mem_blks {vs : List Value} {k : Nat} : k ∈ blks vs ↔ ∃ v, v ∈ vs ∧ v.ownBlock = some k := List.mem_filterMap
theorem FlV.lt {w : World} {f : Fl} {vs : List Value} (h : FlV w f vs) {k : Nat} (hk : k ∈ blks vs) : k < w.heap.size := by
  obtain ⟨v, hv, e⟩ := mem_blks.1 hk
  obtain ⟨i, hi⟩ := List.mem_iff_getElem?.1 hv
  have hl : i < f.rows.length := by rw [← h.1]; exact (List.getElem?_eq_some_iff.1 hi).1
  exact ((h.2 i _ v (List.getElem?_eq_getElem hl) hi).lt k e).2
theorem FlV.keep {w w' : World} {f : Fl} {vs : List Value} {S : Nat → Prop} (h : FlV w f vs) (ex : Ex S w w') (hS : ∀ k, k ∈ blks vs → ¬ S k) : FlV w' f vs :=
  ⟨h.1, fun i r v hr hv => own_kept (h.2 i r v hr hv) ex fun k hk => hS k (mem_blks.2 ⟨v, List.mem_of_getElem? hv, hk⟩)⟩
theorem blks_append (a b : List Value) : blks (a ++ b) = blks a ++ blks b := List.filterMap_append
theorem CV.lt {w : World} {T k : Nat} {f : Fl} {sw : List (Fl × List Value)} {vs : List Value} {s : Value} (h : CV w T k f sw vs s) {j : Nat} (hj : j ∈ blks (vs ++ s :: sw.flatMap (·.2))) : j < w.heap.size := by
  obtain ⟨v, hv, e⟩ := mem_blks.1 hj
  rcases List.mem_append.1 hv with hv | hv
  · exact h.fl.lt (mem_blks.2 ⟨v, hv, e⟩)
  · rcases List.mem_cons.1 hv with rfl | hv
    · exact (h.sl.lt j e).2
    · obtain ⟨p, hp, hv⟩ := List.mem_flatMap.1 hv
      exact (h.ea p hp).lt (mem_blks.2 ⟨v, hv, e⟩)
theorem CV.keep {w w' : World} {T k : Nat} {f : Fl} {sw : List (Fl × List Value)} {vs : List Value} {s : Value} {S : Nat → Prop} (h : CV w T k f sw vs s) (ex : Ex S w w')
    (hS : ∀ k, k ∈ blks (vs ++ s :: sw.flatMap (·.2)) → ¬ S k) : CV w' T k f sw vs s := by
  have m1 : ∀ v, v ∈ vs ++ s :: sw.flatMap (·.2) → ∀ j, v.ownBlock = some j → ¬ S j := fun v hv j hj => hS j (mem_blks.2 ⟨v, hv, hj⟩)
  refine ⟨h.fl.keep ex fun j hj => ?_, own_kept h.sl ex fun j hj => m1 s (by simp) j hj, fun p hp => (h.ea p hp).keep ex fun j hj => ?_, h.nd⟩
  · obtain ⟨v, hv, e⟩ := mem_blks.1 hj
    exact m1 v (List.mem_append_left _ hv) j e
  · obtain ⟨v, hv, e⟩ := mem_blks.1 hj
    exact m1 v (List.mem_append_right _ (List.mem_cons_of_mem _ (List.mem_flatMap.2 ⟨p, hp, hv⟩))) j e
/-- A part in memory, at an offset of a block. -/
def CAt (w : World) (T k b o : Nat) (f : Fl) (sv : List Fl) (B : List Nat) : Prop :=
  ∃ sw vs s, sw.map (·.1) = sv ∧ CV w T k f sw vs s ∧ w.rangeAt b o (f.lay vs s) ∧ w.there b o k ∧ B = blks (vs ++ s :: sw.flatMap (·.2))
/-- Of block b only n cells from o on, and the blocks B, have turned. -/
structure Cg (b o n : Nat) (B : List Nat) (w w' : World) : Prop where
  ex : Ex (fun k => k = b ∨ k ∈ B) w w'
  ce : ∀ j, j < o ∨ o + n ≤ j → w'.cell? ⟨b, j, none⟩ = w.cell? ⟨b, j, none⟩
  so : ∀ j, (w.cell? ⟨b, j, none⟩).isSome = true → (w'.cell? ⟨b, j, none⟩).isSome = true
  fz : ∀ j, w'.frozen? ⟨b, j, none⟩ = w.frozen? ⟨b, j, none⟩
theorem Cg.refl (b o n : Nat) (B : List Nat) (w : World) : Cg b o n B w w := ⟨Ex.refl _ _, fun _ _ => rfl, fun _ h => h, fun _ => rfl⟩
theorem Cg.trans {b o n : Nat} {B B' : List Nat} {w w' w'' : World} (h : Cg b o n B w w') (k : Cg b o n B' w' w'') (hB : ∀ j, j ∈ B' → j ∈ B ∨ w.heap.size ≤ j) : Cg b o n B w w'' :=
  ⟨h.ex.trans2 k.ex fun j hj => by rcases hj with rfl | hj; exact .inl (.inl rfl); rcases hB j hj with z | z; exact .inl (.inr z); exact .inr z,
   fun j hj => (k.ce j hj).trans (h.ce j hj), fun j hj => k.so j (h.so j hj), fun j => (k.fz j).trans (h.fz j)⟩
theorem Cg.mono {b o n : Nat} {B B' : List Nat} {w w' : World} (h : Cg b o n B w w') (hB : ∀ j, j ∈ B → j ∈ B') : Cg b o n B' w w' :=
  ⟨h.ex.mono fun j hj => by rcases hj with rfl | hj; exact .inl rfl; exact .inr (hB j hj), h.ce, h.so, h.fz⟩
/-- What touches neither the block nor what it holds. -/
theorem Cg.of {b o n : Nat} {B : List Nat} {w w' : World} {S : Nat → Prop} (ex : Ex S w w') (hb : b < w.heap.size) (h1 : ¬ S b) (h2 : ∀ k, S k → k ∈ B) : Cg b o n B w w' := by
  have e := ex.block b hb h1
  refine ⟨ex.mono fun j hj => .inr (h2 j hj), fun j _ => World.cell?_of_block e, fun j hj => ?_, fun j => World.frozen?_of_block e⟩
  rw [World.cell?_of_block e]; exact hj
theorem Cg.below {b o n : Nat} {B : List Nat} {w w' : World} (h : Below w.heap.size w w') (hb : b < w.heap.size) : Cg b o n B w w' :=
  Cg.of (S := fun _ => False) (Ex.of h) hb (fun e => e) (fun _ e => e.elim)
theorem rangeAt_keep {w w' : World} {b o : Nat} {cs : List Value} (h : w.rangeAt b o cs) (hc : ∀ j, j < cs.length → w'.cell? ⟨b, o + j, none⟩ = w.cell? ⟨b, o + j, none⟩) : w'.rangeAt b o cs := fun j v hv => by
  rw [hc j (List.getElem?_eq_some_iff.1 hv).1]; exact h j v hv
theorem CAt.lt {w : World} {T k b o : Nat} {f : Fl} {sv : List Fl} {B : List Nat} (h : CAt w T k b o f sv B) {j : Nat} (hj : j ∈ B) : j < w.heap.size := by
  obtain ⟨sw, vs, s, _, hc, _, _, rfl⟩ := h
  exact hc.lt hj
theorem CAt.keep {w w' : World} {T k b o : Nat} {f : Fl} {sv : List Fl} {B : List Nat} (h : CAt w T k b o f sv B) (hl : ∀ vs s, (f.lay vs s).length ≤ k) {b' o' n' : Nat} {B' : List Nat} (hg : Cg b' o' n' B' w w')
    (hap : b ≠ b' ∨ o + k ≤ o' ∨ o' + n' ≤ o) (hB : ∀ j, j ∈ B → j ∉ B' ∧ j ≠ b') (hb : b < w.heap.size) (hbB : b ∉ B') : CAt w' T k b o f sv B := by
  obtain ⟨sw, vs, s, h1, hc, hr, ht, rfl⟩ := h
  have hcell : ∀ j, j < k → w'.cell? ⟨b, o + j, none⟩ = w.cell? ⟨b, o + j, none⟩ := fun j hj => by
    by_cases e : b = b'
    · subst e
      exact hg.ce _ (by rcases hap with z | z | z; exact absurd rfl z; left; omega; right; omega)
    · exact World.cell?_of_block (hg.ex.block b hb (by rintro (z | z); exact e z; exact hbB z))
  refine ⟨sw, vs, s, h1, hc.keep hg.ex fun j hj => ?_, rangeAt_keep hr fun j hj => hcell j (Nat.lt_of_lt_of_le hj (hl vs s)), fun j hj => ?_, rfl⟩
  · obtain ⟨z1, z2⟩ := hB j hj
    rintro (z | z)
    · exact z2 z
    · exact z1 z
  · refine ⟨by rw [hcell j hj]; exact (ht j hj).1, ?_⟩
    by_cases e : b = b'
    · subst e
      rw [hg.fz]; exact (ht j hj).2
    · rw [World.frozen?_of_block (hg.ex.block b hb (by rintro (z | z); exact e z; exact hbB z))]; exact (ht j hj).2
theorem CAt.below {w w' : World} {T k b o : Nat} {f : Fl} {sv : List Fl} {B : List Nat} (h : CAt w T k b o f sv B) (hb : b < w.heap.size) (hw : Below w.heap.size w w') : CAt w' T k b o f sv B := by
  obtain ⟨sw, vs, s, h1, hc, hr, ht, rfl⟩ := h
  have e := hw.block b hb
  refine ⟨sw, vs, s, h1, hc.keep (S := fun _ => False) (Ex.of hw) fun _ _ z => z, rangeAt_keep hr fun j _ => World.cell?_of_block e, fun j hj => ?_, rfl⟩
  exact ⟨by rw [World.cell?_of_block e]; exact (ht j hj).1, by rw [World.frozen?_of_block e]; exact (ht j hj).2⟩
end Go.Proofs.Qxb6500784a
