import Derived.Test.Qxb6500774aLx9
import Derived.Deep.CutBlock
namespace Go.Proofs.Qxb6500774a
open Go.RowKit
variable {R : Nat → Option Value}

/-- A token in a block of its own (at the first cell). -/
structure TB (w : World) (r : Nat) (k : Int) (x : ByteArray) (v e l c : Int) : Prop where
  c0 : w.cell? ⟨r, 0, none⟩ = some (.int .i64 k)
  c1 : w.cell? ⟨r, 1, none⟩ = some (.string x)
  c2 : w.cell? ⟨r, 2, none⟩ = some (.int .i64 v)
  c3 : w.cell? ⟨r, 3, none⟩ = some (.int .i64 e)
  c4 : w.cell? ⟨r, 4, none⟩ = some (.int .i64 l)
  c5 : w.cell? ⟨r, 5, none⟩ = some (.int .i64 c)
  f0 : w.frozen? ⟨r, 0, none⟩ = false
  f1 : w.frozen? ⟨r, 1, none⟩ = false
  f2 : w.frozen? ⟨r, 2, none⟩ = false
  f3 : w.frozen? ⟨r, 3, none⟩ = false
  f4 : w.frozen? ⟨r, 4, none⟩ = false
  f5 : w.frozen? ⟨r, 5, none⟩ = false
section
variable {w w' : World} {r : Nat} {k : Int} {x : ByteArray} {v e l c : Int}
theorem TB.put0 (h : TB w r k x v e l c) (k' : Int) : TB (w.setCell ⟨r, 0, none⟩ (.int .i64 k')) r k' x v e l c := by
  constructor <;> simp [go_sem, h.c0, h.c1, h.c2, h.c3, h.c4, h.c5, h.f0, h.f1, h.f2, h.f3, h.f4, h.f5]
theorem TB.put1 (h : TB w r k x v e l c) (x' : ByteArray) : TB (w.setCell ⟨r, 1, none⟩ (.string x')) r k x' v e l c := by
  constructor <;> simp [go_sem, h.c0, h.c1, h.c2, h.c3, h.c4, h.c5, h.f0, h.f1, h.f2, h.f3, h.f4, h.f5]
theorem TB.put2 (h : TB w r k x v e l c) (v' : Int) : TB (w.setCell ⟨r, 2, none⟩ (.int .i64 v')) r k x v' e l c := by
  constructor <;> simp [go_sem, h.c0, h.c1, h.c2, h.c3, h.c4, h.c5, h.f0, h.f1, h.f2, h.f3, h.f4, h.f5]
theorem TB.keep (h : TB w r k x v e l c) {S : Nat → Prop} (ex : Ex S w w') (hr : ¬ S r) : TB w' r k x v e l c :=
  have hl : r < w.heap.size := World.block_lt_of_cell? _ _ h.c0
  ⟨ex.cell hr h.c0, ex.cell hr h.c1, ex.cell hr h.c2, ex.cell hr h.c3, ex.cell hr h.c4, ex.cell hr h.c5, (ex.frozen hr hl).trans h.f0, (ex.frozen hr hl).trans h.f1, (ex.frozen hr hl).trans h.f2, (ex.frozen hr hl).trans h.f3, (ex.frozen hr hl).trans h.f4, (ex.frozen hr hl).trans h.f5⟩
end
theorem TB.new (w : World) (k : Int) (x : ByteArray) (v e l c : Int) : TB (w.alloc (.cells #[.int .i64 k, .string x, .int .i64 v, .int .i64 e, .int .i64 l, .int .i64 c] 81)) w.heap.size k x v e l c := by
  have n := fun j u h => new_cells w [.int .i64 k, .string x, .int .i64 v, .int .i64 e, .int .i64 l, .int .i64 c] 81 j u h
  exact ⟨n 0 _ rfl, n 1 _ rfl, n 2 _ rfl, n 3 _ rfl, n 4 _ rfl, n 5 _ rfl, by simp [go_sem], by simp [go_sem], by simp [go_sem], by simp [go_sem], by simp [go_sem], by simp [go_sem]⟩
theorem Lx.otherN {w w0 : World} {p : Nat} {a : Option Addr} {cp : Nat} {s : List Int} {o o0 : Nat} {l l0 : Int} {b b0 : Nat} (h : Lx R w p a cp s o l b) (h0 : Lx R w0 p a cp s o0 l0 b0) {g : Nat} (hg : w0.heap.size ≤ g) (j : Nat) (v : Value) : Lx R (w.setCell ⟨g, j, none⟩ v) p a cp s o l b :=
  have e := (Ex.refl (fun k => k = g) w).set (j := j) rfl v
  have hp : p < w.heap.size := World.block_lt_of_cell? _ _ h.c0
  have hp0 : p < w0.heap.size := World.block_lt_of_cell? _ _ h0.c0
  have hg2 : ¬ p = g := by omega
  ⟨e.cell hg2 h.c0, e.cell hg2 h.c1, e.cell hg2 h.c2, e.cell hg2 h.c3, (e.frozen hg2 hp).trans h.f1, (e.frozen hg2 hp).trans h.f2, (e.frozen hg2 hp).trans h.f3, fun i c hc => by
    obtain ⟨b, off, e', hx⟩ := h.src i c hc
    obtain ⟨b1, off1, e1, hx1⟩ := h0.src i c hc
    rw [e'] at e1
    injection e1 with e1
    injection e1 with e2 e3
    subst e2
    have := World.block_lt_of_cell? _ _ hx1
    have hlt : b < w0.heap.size := this
    exact ⟨b, off, e', e.cell (by omega) hx⟩, h.ap, fun j hj => (e.cell_eq hg2 hp j).trans (h.hi j hj), fun j => (e.frozen hg2 hp).trans (h.fz j)⟩
end Go.Proofs.Qxb6500774a
