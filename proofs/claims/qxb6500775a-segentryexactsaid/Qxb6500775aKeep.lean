import Derived.Test.Qxb6500775aModel
namespace Go.Proofs.Qxb6500775a
open Go.RowKit

theorem IsI.al {N : Nat} {w : World} {neg : Bool} {a : Option Addr} {n cap : Nat} {z : Int} (h : IsI N w neg a n cap z) (o : Obj) : IsI N (w.alloc o) neg a n cap z := h.below ((Below.refl _ _).alloc (Nat.le_refl _) o)
theorem IsI.dr {N : Nat} {w : World} {neg : Bool} {a : Option Addr} {n cap : Nat} {z : Int} (h : IsI N w neg a n cap z) : IsI N w.drew neg a n cap z := h.below (Below.refl _ _).drew
theorem cellAl {w : World} {p : Addr} {v : Value} (o : Obj) (h : w.cell? p = some v) : (w.alloc o).cell? p = some v := cellKeep ((Below.refl _ _).alloc (Nat.le_refl _) o) h
theorem lecB {a b c : World} (h : Below a.heap.size a b) (k : Below b.heap.size b c) : Below a.heap.size a c := h.trans (k.mono h.size)
theorem belAl {a b : World} (h : Below a.heap.size a b) (o : Obj) : Below a.heap.size a (b.alloc o) := h.alloc h.size o
theorem cellNew0 (w : World) : (w.alloc (.cells #[.bool false, .slice none 0 0] 26)).cell? ⟨w.heap.size, 0, none⟩ = some (.bool false) := by simp [go_sem]
theorem cellNew1 (w : World) : (w.alloc (.cells #[.bool false, .slice none 0 0] 26)).cell? ⟨w.heap.size, 1, none⟩ = some (.slice none 0 0) := by simp [go_sem]
theorem frozNew (w : World) (i : Nat) : (w.alloc (.cells #[.bool false, .slice none 0 0] 26)).frozen? ⟨w.heap.size, i, none⟩ = false := by simp [go_sem]
theorem blkNe {w : World} {p : Addr} {v : Value} (h : w.cell? p = some v) : ¬ w.heap.size = p.block := fun e => by have := World.block_lt_of_cell? _ _ h; omega

/-- A variable that holds the number z. -/
def VarI (N : Nat) (w : World) (p : Nat) (z : Int) : Prop :=
  ∃ s a n c, w.cell? ⟨p, 0, none⟩ = some (.bool s) ∧ w.cell? ⟨p, 1, none⟩ = some (.slice a n c) ∧ IsI N w s a n c z
theorem VarI.below {N : Nat} {w w' : World} {p : Nat} {z : Int} (h : VarI N w p z) (hb : Below w.heap.size w w') : VarI N w' p z := by
  obtain ⟨s, a, n, c, h0, h1, h2⟩ := h
  exact ⟨s, a, n, c, cellKeep hb h0, cellKeep hb h1, h2.below hb⟩
theorem varNew {N : Nat} {w : World} {s : Bool} {a : Option Addr} {n c : Nat} {z : Int} (h : IsI N w s a n c z) : VarI N (w.alloc (.cells #[.bool s, .slice a n c] 26)) w.heap.size z :=
  ⟨s, a, n, c, by simp [go_sem], by simp [go_sem], h.al _⟩
theorem varSet {N : Nat} {w : World} {p : Nat} {s : Bool} {a : Option Addr} {n c : Nat} {z : Int} (h : IsI N w s a n c z) (h0 : w.cell? ⟨p, 0, none⟩ = some (.bool false)) (h1 : w.cell? ⟨p, 1, none⟩ = some (.slice none 0 0)) :
    VarI N ((w.setCell ⟨p, 0, none⟩ (.bool s)).setCell ⟨p, 1, none⟩ (.slice a n c)) p z := by
  have e1 : (w.setCell ⟨p, 0, none⟩ (.bool s)).cell? ⟨p, 1, none⟩ = some (.slice none 0 0) := by rw [World.cell?_setCell_other]; exact h1; simp
  refine ⟨s, a, n, c, ?_, World.cell?_setCell_same _ _ _ e1, (h.setCell _ _ _ h0 (by simp)).setCell _ _ _ e1 (by simp)⟩
  rw [World.cell?_setCell_other]
  · exact World.cell?_setCell_same _ _ _ h0
  · simp
theorem belSet2 {a b : World} {p : Nat} {u v : Value} (h : Below a.heap.size a b) (hp : a.heap.size ≤ p) : Below a.heap.size a ((b.setCell ⟨p, 0, none⟩ u).setCell ⟨p, 1, none⟩ v) := (h.setCell hp _).setCell hp _

end Go.Proofs.Qxb6500775a
