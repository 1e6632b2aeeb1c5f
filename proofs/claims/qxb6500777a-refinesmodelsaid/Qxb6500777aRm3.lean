import Derived.Test.Qxb6500777aRm2
import Derived.Deep.AppendLies
import Derived.Deep.OwnRows
namespace Go.Proofs.Qxb6500777a
open Go.RowKit

/-! ### Rows of entries -/
def ERow (w : World) (B : Nat) (v : Value) (L : List Slt) : Prop := w.ownsRow B 113 9 v L.length (L.flatMap Ev)
theorem ERow.below {w w' : World} {b : Nat} {v : Value} {L : List Slt} (h : ERow w b v L) (hb : Below w.heap.size w w') : ERow w' b v L := own_kept h (Ex.of (S := fun _ => False) hb) (fun _ _ e => e)
theorem ERow.keep {w w' : World} {B : Nat} {v : Value} {L : List Slt} (h : ERow w B v L) {S : Nat → Prop} (k : Ex S w w') (hs : ∀ g, v.ownBlock = some g → ¬ S g) : ERow w' B v L := own_kept h k (fun g hg e => hs g hg e)
theorem bel_grownE {w W w3 : World} {v : Value} {L : List Slt} (h : Below w.heap.size w W) (hr : ERow W w.heap.size v L) (hg : W.grownBy w3 v.ownBlock) : Below w.heap.size w w3 := by
  refine h.trans ⟨hg.os, hg.tape, hg.output, hg.size, fun k hk => ?_⟩
  refine hg.block k (by have := h.size; omega) fun e => ?_
  have := (hr.lt k e.symm).1
  omega
theorem ERow.at {w : World} {B g c : Nat} {L : List Slt} (h : ERow w B (.slice (some ⟨g, 0, none⟩) L.length c) L) {i : Nat} {t : Slt} (hi : L[i]? = some t) : RA w g (i * 9) (Ev t) := by
  refine ⟨fun j v hv => ?_, fun j => h.frozenAt j⟩
  have hj : j < 9 := (List.getElem?_eq_some_iff.1 hv).1
  have := h.cells (g := g) rfl (i * 9 + j) v (by rw [flat_at Ev 9 Ev.len L i t hi j hj]; exact hv)
  rw [Addr.add_mid, Nat.zero_add] at this
  exact this
theorem ERow.get {w : World} {B n c : Nat} {a : Option Addr} {L : List Slt} (h : ERow w B (.slice a n c) L) (hn : n = L.length) {i : Nat} {t : Slt} (hi : L[i]? = some t) : ∃ g, a = some ⟨g, 0, none⟩ ∧ RA w g (i * 9) (Ev t) := by
  subst hn
  obtain ⟨g, c9, e⟩ := own_some h (by have := (List.getElem?_eq_some_iff.1 hi).1; omega)
  cases e
  exact ⟨g, rfl, h.at hi⟩
theorem ERow.own {w : World} {B n c : Nat} {a : Option Addr} {L : List Slt} (h : ERow w B (.slice a n c) L) {g : Nat} (hg : (Value.slice a n c).ownBlock = some g) : B ≤ g ∧ g < w.heap.size := h.lt g hg
/-- n entries in a made block. -/
structure AA (w : World) (g n : Nat) (A : Nat → Slt) : Prop where
  c : ∀ i, i < n → RA w g (i * 9) (Ev (A i))
  f : ∀ j, w.frozen? ⟨g, j, none⟩ = false
section
variable {w w' : World} {g n : Nat} {A : Nat → Slt}
theorem AA.below (h : AA w g n A) (hg : g < w.heap.size) (k : Below w.heap.size w w') : AA w' g n A := ⟨fun i hi => (h.c i hi).below hg k, fun j => (World.frozen?_of_block (k.block g hg)).trans (h.f j)⟩
theorem AA.congr (h : AA w g n A) {A' : Nat → Slt} (e : ∀ i, i < n → A i = A' i) : AA w g n A' := ⟨fun i hi => by rw [← e i hi]; exact h.c i hi, h.f⟩
theorem AA.keep (h : AA w g n A) (hg : g < w.heap.size) {b lo m : Nat} (k : Fr b lo m w w') (hb : g ≠ b) : AA w' g n A := ⟨fun i hi => (h.c i hi).keep k hg (.inl hb), fun j => (k.ex.frozen hb hg).trans (h.f j)⟩
theorem AA.fill (h : AA w g n A) (hg : g < w.heap.size) {i : Nat} (hi : i < n) (s : Slt) : AA (w.setCells g (i * 9) (Ev s)) g n (upd A i s) ∧ Fr g (i * 9) 9 w (w.setCells g (i * 9) (Ev s)) := by
  have k : Fr g (i * 9) 9 w (w.setCells g (i * 9) (Ev s)) := Fr.sets (Ev s) _ _ (Fr.refl _ _ _ _) (Nat.le_refl _) (by rw [Ev.len]; omega)
  refine ⟨⟨fun j hj => ?_, fun j => by rw [World.frozen?_setCells]; exact h.f j⟩, k⟩
  by_cases e : j = i
  · subst e; rw [upd_same]; exact (h.c j hj).fill (by rw [Ev.len, Ev.len])
  · rw [upd_ne _ _ e]
    refine (h.c j hj).keep k hg (.inr ?_)
    rw [Ev.len]
    rcases Nat.lt_or_gt_of_ne e with z | z
    · left; omega
    · right; omega
theorem AA.num (h : AA w g n A) (hg : g < w.heap.size) {i : Nat} (hi : i < n) (u : Int) : AA (w.setCell ⟨g, i * 9 + 2, none⟩ (.int .i64 u)) g n (upd A i (numd (A i) u)) ∧ Fr g (i * 9) 9 w (w.setCell ⟨g, i * 9 + 2, none⟩ (.int .i64 u)) := by
  have k : Fr g (i * 9) 9 w (w.setCell ⟨g, i * 9 + 2, none⟩ (.int .i64 u)) := (Fr.refl _ _ _ _).set (by omega) (by omega) _
  refine ⟨⟨fun j hj => ?_, fun j => by rw [set_frozen]; exact h.f j⟩, k⟩
  by_cases e : j = i
  · subst e; rw [upd_same]; exact (h.c j hj).put (k := 2) (.int .i64 u) (by rw [Ev.len]; omega)
  · rw [upd_ne _ _ e]
    refine (h.c j hj).keep k hg (.inr ?_)
    rw [Ev.len]
    rcases Nat.lt_or_gt_of_ne e with z | z
    · left; omega
    · right; omega
end
theorem new_aa (w : World) (n : Nat) : AA (w.alloc (.cells (madeCells #[.int .i64 0, .int .i64 0, .int .i64 0, .int .i64 0, .int .i64 0, .int .i64 0, .int .i64 0, .int .i64 0, .int .i64 0] (n * 9)) 113)) w.heap.size n (fun _ => slt0) := by
  refine ⟨fun i hi => ⟨fun j v hv => ?_, fun j => by simp [go_sem]⟩, fun j => by simp [go_sem]⟩
  have hj : j < 9 := (List.getElem?_eq_some_iff.1 hv).1
  have e : v = .int .i64 0 := by
    rcases (by omega : j = 0 ∨ j = 1 ∨ j = 2 ∨ j = 3 ∨ j = 4 ∨ j = 5 ∨ j = 6 ∨ j = 7 ∨ j = 8) with rfl | rfl | rfl | rfl | rfl | rfl | rfl | rfl | rfl <;> (cases hv; rfl)
  subst e
  have hl : i * 9 + j < n * 9 := by omega
  have hm : (i * 9 + j) % 9 = j := by omega
  have hc : (madeCells #[.int .i64 0, .int .i64 0, .int .i64 0, .int .i64 0, .int .i64 0, .int .i64 0, .int .i64 0, .int .i64 0, .int .i64 0] (n * 9)).toList[i * 9 + j]? = some (.int .i64 0) := by
    unfold madeCells
    rw [Array.getElem?_toList, Array.getElem?_map, Array.getElem?_range, if_pos hl]
    show some (#[.int .i64 0, .int .i64 0, .int .i64 0, .int .i64 0, .int .i64 0, .int .i64 0, .int .i64 0, .int .i64 0, .int .i64 0][(i * 9 + j) % 9]! : Value) = _
    rw [hm]
    rcases (by omega : j = 0 ∨ j = 1 ∨ j = 2 ∨ j = 3 ∨ j = 4 ∨ j = 5 ∨ j = 6 ∨ j = 7 ∨ j = 8) with rfl | rfl | rfl | rfl | rfl | rfl | rfl | rfl | rfl <;> rfl
  have := new_cells w (madeCells #[.int .i64 0, .int .i64 0, .int .i64 0, .int .i64 0, .int .i64 0, .int .i64 0, .int .i64 0, .int .i64 0, .int .i64 0] (n * 9)).toList 113 (i * 9 + j) (.int .i64 0) hc
  rw [Addr.add_mid, Nat.zero_add] at this
  simpa using this
theorem ERow.aa {w : World} {B g c n : Nat} {L : List Slt} (hn : n = L.length) (h : ERow w B (.slice (some ⟨g, 0, none⟩) n c) L) : AA w g n (atM L) := by
  subst hn
  refine ⟨fun i hi => ?_, fun j => h.frozenAt j⟩
  have e : L[i]? = some (atM L i) := by unfold atM; rw [List.getElem?_eq_getElem hi]; rfl
  exact h.at e
/-- A view in memory. -/
structure VA (w : World) (mb o B : Nat) (a : Option Addr) (n c : Nat) (E : List Slt) (nx : Int) : Prop where
  c0 : w.cell? ⟨mb, o, none⟩ = some (.slice a n c)
  c1 : w.cell? ⟨mb, o + 1, none⟩ = some (.int .i64 nx)
  f : ∀ j, w.frozen? ⟨mb, j, none⟩ = false
  row : ERow w B (.slice a n c) E
  len : n = E.length
  lt : mb < B
section
variable {w w' : World} {mb o B n c : Nat} {a : Option Addr} {E : List Slt} {nx : Int}
theorem VA.ml (h : VA w mb o B a n c E nx) : mb < w.heap.size := World.block_lt_of_cell? _ _ h.c0
theorem VA.below (h : VA w mb o B a n c E nx) (k : Below w.heap.size w w') : VA w' mb o B a n c E nx := ⟨cellKeep k h.c0, cellKeep k h.c1, fun j => (World.frozen?_of_block (k.block mb h.ml)).trans (h.f j), h.row.below k, h.len, h.lt⟩
theorem VA.keep (h : VA w mb o B a n c E nx) {b lo m : Nat} (k : Fr b lo m w w') (h1 : mb ≠ b) (h2 : b < B ∨ (Value.slice a n c).ownBlock ≠ some b) : VA w' mb o B a n c E nx :=
  ⟨k.ex.cell h1 h.c0, k.ex.cell h1 h.c1, fun j => (k.ex.frozen h1 h.ml).trans (h.f j), h.row.keep k.ex (fun g hg e => by
    rcases h2 with z | z
    · have := (h.row.own hg).1; omega
    · exact z (by rw [← e]; exact hg)), h.len, h.lt⟩
/-- The view's list is set. -/
theorem VA.put (h : VA w mb o B a n c E nx) {a' : Option Addr} {n' c' : Nat} {E' : List Slt} (hr : ERow w B (.slice a' n' c') E') (hn : n' = E'.length) : VA (w.setCell ⟨mb, o, none⟩ (.slice a' n' c')) mb o B a' n' c' E' nx ∧ Fr mb o 2 w (w.setCell ⟨mb, o, none⟩ (.slice a' n' c')) := by
  have k : Fr mb o 2 w (w.setCell ⟨mb, o, none⟩ (.slice a' n' c')) := (Fr.refl _ _ _ _).set (by omega) (by omega) _
  refine ⟨⟨World.cell?_setCell_same _ _ _ h.c0, ?_, fun j => by rw [set_frozen]; exact h.f j, hr.keep k.ex (fun g hg e => by have := (hr.own hg).1; have := h.lt; omega), hn, h.lt⟩, k⟩
  rw [World.cell?_setCell_other _ _ _ _ (by simp)]
  exact h.c1
theorem VA.next (h : VA w mb o B a n c E nx) (u : Int) : VA (w.setCell ⟨mb, o + 1, none⟩ (.int .i64 u)) mb o B a n c E u ∧ Fr mb o 2 w (w.setCell ⟨mb, o + 1, none⟩ (.int .i64 u)) := by
  have k : Fr mb o 2 w (w.setCell ⟨mb, o + 1, none⟩ (.int .i64 u)) := (Fr.refl _ _ _ _).set (by omega) (by omega) _
  refine ⟨⟨?_, World.cell?_setCell_same _ _ _ h.c1, fun j => by rw [set_frozen]; exact h.f j, h.row.keep k.ex (fun g hg e => by have := (h.row.own hg).1; have := h.lt; omega), h.len, h.lt⟩, k⟩
  rw [World.cell?_setCell_other _ _ _ _ (by simp)]
  exact h.c0
end
end Go.Proofs.Qxb6500777a
