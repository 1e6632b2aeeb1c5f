import Derived.Test.Qxb6500774aMem
import Derived.Test.Qxb6500774aLx2
namespace Go.Proofs.Qxb6500774a
open Go.RowKit
variable {R : Nat → Option Value}

theorem Ex.cell_eq {S : Nat → Prop} {a b : World} (h : Ex S a b) {q : Nat} (hq : ¬ S q) (hl : q < a.heap.size) (j : Nat) : b.cell? ⟨q, j, none⟩ = a.cell? ⟨q, j, none⟩ := World.cell?_of_block (h.block q hl hq)
/-! ### The lexer in memory -/
structure Lx (R : Nat → Option Value) (w : World) (p : Nat) (a : Option Addr) (cp : Nat) (s : List Int) (o : Nat) (l : Int) (b : Nat) : Prop where
  c0 : w.cell? ⟨p, 0, none⟩ = some (.slice a s.length cp)
  c1 : w.cell? ⟨p, 1, none⟩ = some (.int .i64 o)
  c2 : w.cell? ⟨p, 2, none⟩ = some (.int .i64 l)
  c3 : w.cell? ⟨p, 3, none⟩ = some (.int .i64 b)
  f1 : w.frozen? ⟨p, 1, none⟩ = false
  f2 : w.frozen? ⟨p, 2, none⟩ = false
  f3 : w.frozen? ⟨p, 3, none⟩ = false
  src : SrcAt w a s
  ap : ∀ (i : Nat) c, s[i]? = some c → ∀ g off, a = some ⟨g, off, none⟩ → g ≠ p
  hi : ∀ j, 4 ≤ j → w.cell? ⟨p, j, none⟩ = R j
  fz : ∀ j, w.frozen? ⟨p, j, none⟩ = false
theorem SrcAt.set {w : World} {a : Option Addr} {s : List Int} {p : Nat} (h : SrcAt w a s) (ap : ∀ (i : Nat) c, s[i]? = some c → ∀ g off, a = some ⟨g, off, none⟩ → g ≠ p) (j : Nat) (v : Value) : SrcAt (w.setCell ⟨p, j, none⟩ v) a s := fun i c hc => by
  obtain ⟨g, off, e, hx⟩ := h i c hc
  exact ⟨g, off, e, ((Ex.refl (fun k => k = p) w).set (j := j) rfl v).cell (ap i c hc g off e) hx⟩
theorem set_cell_low (w : World) (p : Nat) {i j : Nat} (h : i ≠ j) (v : Value) : (w.setCell ⟨p, i, none⟩ v).cell? ⟨p, j, none⟩ = w.cell? ⟨p, j, none⟩ := by
  simp [go_sem]
theorem Lx.off {w : World} {p : Nat} {a : Option Addr} {cp : Nat} {s : List Int} {o : Nat} {l : Int} {b : Nat} (h : Lx R w p a cp s o l b) (o' : Nat) : Lx R (w.setCell ⟨p, 1, none⟩ (.int .i64 o')) p a cp s o' l b :=
  ⟨by simp [go_sem, h.c0], by simp [go_sem, h.c1], by simp [go_sem, h.c2], by simp [go_sem, h.c3], by simp [go_sem, h.f1], by simp [go_sem, h.f2], by simp [go_sem, h.f3], h.src.set h.ap _ _, h.ap, fun j hj => by rw [set_cell_low _ _ (by omega)]; exact h.hi j hj, fun j => by simp [go_sem, h.fz j]⟩
end Go.Proofs.Qxb6500774a
