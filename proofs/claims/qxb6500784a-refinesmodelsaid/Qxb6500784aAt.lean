import Derived.Test.Qxb6500784aCq
namespace Go.Proofs.Qxb6500784a
open Go.RowKit

/-! ### A part in memory -/
structure CA (w : World) (T k b o : Nat) (f : Fl) (sw : List (Fl × List Value)) (vs : List Value) (s : Value) (B : List Nat) : Prop where
  cv : CV w T k f sw vs s
  rg : w.rangeAt b o (f.lay vs s)
  th : w.there b o k
  bl : B = blks (vs ++ s :: sw.flatMap (·.2))
theorem CA.lt {w : World} {T k b o : Nat} {f : Fl} {sw : List (Fl × List Value)} {vs : List Value} {s : Value} {B : List Nat} (h : CA w T k b o f sw vs s B) {j : Nat} (hj : j ∈ B) : j < w.heap.size := h.cv.lt (h.bl ▸ hj)
theorem CA.keep {w w' : World} {T k b o : Nat} {f : Fl} {sw : List (Fl × List Value)} {vs : List Value} {s : Value} {B : List Nat} (h : CA w T k b o f sw vs s B) (hl : (f.lay vs s).length ≤ k) {b' o' n' : Nat} {B' : List Nat} (hg : Cg b' o' n' B' w w')
    (hap : b ≠ b' ∨ o + k ≤ o' ∨ o' + n' ≤ o) (hB : ∀ j, j ∈ B → j ∉ B' ∧ j ≠ b') (hb : b < w.heap.size) (hbB : b ∉ B') : CA w' T k b o f sw vs s B := by
  obtain ⟨hc, hr, ht, rfl⟩ := h
  have hcell : ∀ j, j < k → w'.cell? ⟨b, o + j, none⟩ = w.cell? ⟨b, o + j, none⟩ := fun j hj => by
    by_cases e : b = b'
    · subst e
      exact hg.ce _ (by rcases hap with z | z | z; exact absurd rfl z; left; omega; right; omega)
    · exact World.cell?_of_block (hg.ex.block b hb (by rintro (z | z); exact e z; exact hbB z))
  refine ⟨hc.keep hg.ex fun j hj => ?_, rangeAt_keep hr fun j hj => hcell j (Nat.lt_of_lt_of_le hj hl), fun j hj => ?_, rfl⟩
  · obtain ⟨z1, z2⟩ := hB j hj
    rintro (z | z)
    · exact z2 z
    · exact z1 z
  · refine ⟨by rw [hcell j hj]; exact (ht j hj).1, ?_⟩
    by_cases e : b = b'
    · subst e
      rw [hg.fz]; exact (ht j hj).2
    · rw [World.frozen?_of_block (hg.ex.block b hb (by rintro (z | z); exact e z; exact hbB z))]; exact (ht j hj).2
theorem CA.ex {w w' : World} {T k b o : Nat} {f : Fl} {sw : List (Fl × List Value)} {vs : List Value} {s : Value} {B : List Nat} {S : Nat → Prop} (h : CA w T k b o f sw vs s B) (hb : b < w.heap.size) (ex : Ex S w w') (h1 : ¬ S b) (h2 : ∀ j, j ∈ B → ¬ S j) : CA w' T k b o f sw vs s B := by
  obtain ⟨hc, hr, ht, rfl⟩ := h
  exact ⟨hc.keep ex h2, range_ex hr hb ex h1, there_ex ht hb ex h1, rfl⟩
theorem CA.below {w w' : World} {T k b o : Nat} {f : Fl} {sw : List (Fl × List Value)} {vs : List Value} {s : Value} {B : List Nat} (h : CA w T k b o f sw vs s B) (hb : b < w.heap.size) (hw : Below w.heap.size w w') : CA w' T k b o f sw vs s B :=
  h.ex (S := fun _ => False) hb (Ex.of hw) (fun e => e) (fun _ _ e => e)
/-- The ledger l with the checkpoints sv, at offset o of block b; B: the blocks of its lists. -/
def LA (w : World) (b o : Nat) (l : Led0) (sv : List Led0) (B : List Nat) : Prop :=
  ∃ sw m s, sw.map (·.1) = sv ∧ CA w 50 326 b o l.fl (ledW sw) [m] s B ∧ l.Ok ∧ (∀ x, x ∈ sv → x.Ok) ∧ b < w.heap.size ∧ b ∉ B
def BA (w : World) (b o : Nat) (x : Box0) (sv : List Box0) (B : List Nat) : Prop :=
  ∃ sw u v s, sw.map (·.1) = sv ∧ CA w 54 5 b o x.fl (boxW sw) [u, v] s B ∧ x.Ok ∧ (∀ y, y ∈ sv → y.Ok) ∧ b < w.heap.size ∧ b ∉ B
theorem LA.keep {w w' : World} {b o : Nat} {l : Led0} {sv : List Led0} {B : List Nat} (h : LA w b o l sv B) {b' o' n' : Nat} {B' : List Nat} (hg : Cg b' o' n' B' w w')
    (hap : b ≠ b' ∨ o + 326 ≤ o' ∨ o' + n' ≤ o) (hB : ∀ j, j ∈ B → j ∉ B' ∧ j ≠ b') (hbB : b ∉ B') : LA w' b o l sv B := by
  obtain ⟨sw, m, s, h1, h2, h3, h4, h5, h6⟩ := h
  exact ⟨sw, m, s, h1, h2.keep (Nat.le_of_eq (Led0.flen h3 _ _)) hg hap hB h5 hbB, h3, h4, Nat.lt_of_lt_of_le h5 hg.ex.size, h6⟩
theorem LA.below {w w' : World} {b o : Nat} {l : Led0} {sv : List Led0} {B : List Nat} (h : LA w b o l sv B) (hw : Below w.heap.size w w') : LA w' b o l sv B := by
  obtain ⟨sw, m, s, h1, h2, h3, h4, h5, h6⟩ := h
  exact ⟨sw, m, s, h1, h2.below h5 hw, h3, h4, Nat.lt_of_lt_of_le h5 hw.size, h6⟩
theorem LA.lt {w : World} {b o : Nat} {l : Led0} {sv : List Led0} {B : List Nat} (h : LA w b o l sv B) {j : Nat} (hj : j ∈ B) : j < w.heap.size := by
  obtain ⟨sw, m, s, h1, h2, _⟩ := h
  exact h2.lt hj
theorem BA.keep {w w' : World} {b o : Nat} {l : Box0} {sv : List Box0} {B : List Nat} (h : BA w b o l sv B) {b' o' n' : Nat} {B' : List Nat} (hg : Cg b' o' n' B' w w')
    (hap : b ≠ b' ∨ o + 5 ≤ o' ∨ o' + n' ≤ o) (hB : ∀ j, j ∈ B → j ∉ B' ∧ j ≠ b') (hbB : b ∉ B') : BA w' b o l sv B := by
  obtain ⟨sw, m, u, s, h1, h2, h3, h4, h5, h6⟩ := h
  exact ⟨sw, m, u, s, h1, h2.keep (Nat.le_refl _) hg hap hB h5 hbB, h3, h4, Nat.lt_of_lt_of_le h5 hg.ex.size, h6⟩
theorem BA.below {w w' : World} {b o : Nat} {l : Box0} {sv : List Box0} {B : List Nat} (h : BA w b o l sv B) (hw : Below w.heap.size w w') : BA w' b o l sv B := by
  obtain ⟨sw, m, u, s, h1, h2, h3, h4, h5, h6⟩ := h
  exact ⟨sw, m, u, s, h1, h2.below h5 hw, h3, h4, Nat.lt_of_lt_of_le h5 hw.size, h6⟩
theorem BA.lt {w : World} {b o : Nat} {l : Box0} {sv : List Box0} {B : List Nat} (h : BA w b o l sv B) {j : Nat} (hj : j ∈ B) : j < w.heap.size := by
  obtain ⟨sw, m, u, s, h1, h2, _⟩ := h
  exact h2.lt hj
/-! ### A checkpoint is closed -/
theorem blks3 (vs : List Value) (s : Value) (r : List Value) : blks (vs ++ s :: r) = blks vs ++ (s.ownBlock.toList ++ blks r) := by rw [blks_append, blks_cons]
theorem flat_lenM {α : Type} (f : α → List Value) (m : Nat) : ∀ (L : List α) (_ : ∀ x, x ∈ L → (f x).length = m), (L.flatMap f).length = L.length * m
  | [], _ => by simp
  | y :: C, h => by rw [List.flatMap_cons, List.length_append, h y (by simp), flat_lenM f m C (fun x hx => h x (List.mem_cons_of_mem _ hx)), List.length_cons, Nat.succ_mul]; omega
theorem CV.pop {w : World} {T k : Nat} {f : Fl} {sw : List (Fl × List Value)} {p : Fl × List Value} {vs : List Value} {g c : Nat} (h : CV w T k f (sw ++ [p]) vs (.slice (some ⟨g, 0, none⟩) (sw.length + 1) c)) (hl : ∀ q, q ∈ sw → (q.1.lay q.2 nilS).length = k) :
    CV w T k f sw vs (.slice (some ⟨g, 0, none⟩) sw.length c) ∧ ∀ j, j ∈ blks (vs ++ Value.slice (some ⟨g, 0, none⟩) sw.length c :: sw.flatMap (·.2)) → j ∈ blks (vs ++ Value.slice (some ⟨g, 0, none⟩) (sw.length + 1) c :: (sw ++ [p]).flatMap (·.2)) := by
  have e : blks (vs ++ Value.slice (some ⟨g, 0, none⟩) (sw.length + 1) c :: (sw ++ [p]).flatMap (·.2)) = blks (vs ++ Value.slice (some ⟨g, 0, none⟩) sw.length c :: sw.flatMap (·.2)) ++ blks p.2 := by
    rw [blks3, blks3, List.flatMap_append, blks_append]
    simp [Value.ownBlock]
  refine ⟨⟨h.fl, ?_, fun q hq => h.ea q (List.mem_append_left _ hq), ?_⟩, fun j hj => by rw [e]; exact List.mem_append_left _ hj⟩
  · have := h.sl
    rw [List.length_append, List.flatMap_append] at this
    exact ownsRow_pop (flat_lenM _ k sw hl) this
  · have := h.nd
    rw [e] at this
    exact (List.nodup_append.1 this).1
theorem CV.back {w : World} {T k : Nat} {f : Fl} {sw : List (Fl × List Value)} {p : Fl × List Value} {vs : List Value} {g c : Nat} (h : CV w T k f (sw ++ [p]) vs (.slice (some ⟨g, 0, none⟩) (sw.length + 1) c)) (hl : ∀ q, q ∈ sw → (q.1.lay q.2 nilS).length = k) :
    CV w T k p.1 sw p.2 (.slice (some ⟨g, 0, none⟩) sw.length c) ∧ ∀ j, j ∈ blks (p.2 ++ Value.slice (some ⟨g, 0, none⟩) sw.length c :: sw.flatMap (·.2)) → j ∈ blks (vs ++ Value.slice (some ⟨g, 0, none⟩) (sw.length + 1) c :: (sw ++ [p]).flatMap (·.2)) := by
  obtain ⟨hp, _⟩ := h.pop hl
  have nd := h.nd
  rw [blks3, List.flatMap_append, blks_append, show ([p].flatMap (·.2)) = p.2 by simp] at nd
  obtain ⟨_, n2, _⟩ := List.nodup_append.1 nd
  refine ⟨⟨h.ea p (by simp), hp.sl, hp.ea, ?_⟩, fun j hj => ?_⟩
  · rw [blks3]
    rw [← List.append_assoc] at n2
    obtain ⟨a1, a2, a3⟩ := List.nodup_append.1 n2
    exact List.nodup_append.2 ⟨a2, a1, fun x hx y hy e => a3 y hy x hx e.symm⟩
  · rw [blks3] at hj
    rw [blks3, List.flatMap_append, blks_append, show ([p].flatMap (·.2)) = p.2 by simp]
    simp only [List.mem_append] at hj ⊢
    rcases hj with hj | hj | hj
    · exact .inr (.inr (.inr hj))
    · exact .inr (.inl hj)
    · exact .inr (.inr (.inl hj))
/-- The cells of a part are set one by one. -/
theorem Cg.set {b o n : Nat} {B : List Nat} {w w' : World} (h : Cg b o n B w w') {j : Nat} (hj : j < n) (u : Value) : Cg b o n B w (w'.setCell ⟨b, o + j, none⟩ u) := by
  refine ⟨h.ex.set (.inl rfl) u, fun i hi => ?_, fun i hi => ?_, fun i => by rw [set_frozen]; exact h.fz i⟩
  · rw [World.cell?_setCell_other _ _ _ _ (by simp)]; exact h.ce i hi
  · have := h.so i hi
    obtain ⟨v, hv⟩ := Option.isSome_iff_exists.1 this
    by_cases e : o + j = i
    · subst e; rw [World.cell?_setCell_same _ _ _ hv]; rfl
    · rw [World.cell?_setCell_other _ _ _ _ (by simp), hv]; rfl
theorem Cg.sets {b o n : Nat} {B : List Nat} {w w' : World} (h : Cg b o n B w w') (cs : List Value) (hl : cs.length ≤ n) : Cg b o n B w (w'.setCells b o cs) := by
  refine ⟨Ex.sets (.inl rfl) cs o w' h.ex, fun i hi => ?_, fun i hi => World.isSome_setCells b cs o w' _ (h.so i hi), fun i => by rw [World.frozen?_setCells]; exact h.fz i⟩
  rw [World.cell?_setCells_out b cs o w' ⟨b, i, none⟩ (fun _ _ => by show i < o ∨ o + cs.length ≤ i; omega)]
  exact h.ce i hi
/-- What an append does: the row s, or a new block. -/
theorem Cg.grown {b o n : Nat} {B : List Nat} {w w' w'' : World} (h : Cg b o n B w w') {row : Option Nat} (hg : w'.grownBy w'' row) (hrow : ∀ j, row = some j → j ∈ B ∨ w.heap.size ≤ j) (hb : b < w.heap.size) (hnb : row ≠ some b) : Cg b o n B w w'' := by
  have hb' : b < w'.heap.size := Nat.lt_of_lt_of_le hb h.ex.size
  have e := hg.block b hb' (fun z => hnb z.symm)
  refine ⟨h.ex.trans2 (Ex.ofGrown (S := fun k => row = some k) hg fun k z => z.symm) fun j hj => (hrow j hj).imp .inr id, fun j hj => ?_, fun j hj => ?_, fun j => ?_⟩
  · rw [World.cell?_of_block e]; exact h.ce j hj
  · rw [World.cell?_of_block e]; exact h.so j hj
  · rw [World.frozen?_of_block e]; exact h.fz j
theorem Cg.below' {b o n : Nat} {B : List Nat} {w w' w'' : World} (h : Cg b o n B w w') (k : Below w'.heap.size w' w'') (hb : b < w.heap.size) : Cg b o n B w w'' := by
  have := h.grown (row := none) ⟨k.os, k.tape, k.output, k.size, fun j hj _ => k.block j hj⟩ (fun j e => by cases e) hb (by simp)
  exact this
end Go.Proofs.Qxb6500784a
