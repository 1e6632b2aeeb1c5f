import Derived.Test.Qxb6500774aGb1
namespace Go.Proofs.Qxb6500774a
open Go.RowKit
set_option linter.unusedVariables false
set_option linter.unusedSimpArgs false

def aL (y : XP × SLc) : List Value := xL y.1 ++ [slV y.2]
def gL (y : ByteArray × XP) : List Value := .string y.1 :: xL y.2
theorem aL_len (L : List (XP × SLc)) : ∀ V ∈ L.map aL, V.length = 8 := fun V h => by
  obtain ⟨f, _, rfl⟩ := List.mem_map.1 h
  rfl
theorem gL_len (L : List (ByteArray × XP)) : ∀ V ∈ L.map gL, V.length = 8 := fun V h => by
  obtain ⟨f, _, rfl⟩ := List.mem_map.1 h
  rfl
theorem RW.row {α : Type} {w : World} {L : List α} {F : α → List Value} {g n c : Nat} (h : RW w ND (L.map F) ⟨some ⟨g, 0, none⟩, n, c⟩) {k : Nat} {f : α} (hk : L[k]? = some f) : RV w g (L.map F).flatten ∧ (L.map F)[k]? = some (F f) := by
  have hlt := (List.getElem?_eq_some_iff.1 hk).1
  obtain ⟨g', e1, e2, e3⟩ := h.2.2 (by have := h.1; rw [List.length_map] at this; show 0 < n; have : n = L.length := this; omega)
  injection e1 with e1
  injection e1 with e1
  subst e1
  exact ⟨e3, by rw [List.getElem?_map, hk]; rfl⟩
theorem RW.len {α : Type} {w : World} {L : List α} {F : α → List Value} {v : SLc} (h : RW w ND (L.map F) v) : v.n = L.length ∧ v.n ≤ maxLen := by
  have := h.1
  rw [List.length_map] at this
  exact ⟨this, Nat.le_trans h.2.1.1 h.2.1.2⟩
/-- an arm in a box, an argument in a box -/
def aO (y : XP × SLc) : Obj := .cells #[.int .i64 y.1.k, .string y.1.x, .int .i64 y.1.n, .string y.1.m, .slice y.1.q y.1.ql y.1.qc, .int .i64 y.1.li, .int .i64 y.1.co, .slice y.2.q y.2.n y.2.c] 117
def gO (t : Nat) (y : ByteArray × XP) : Obj := .cells #[.string y.1, .int .i64 y.2.k, .string y.2.x, .int .i64 y.2.n, .string y.2.m, .slice y.2.q y.2.ql y.2.qc, .int .i64 y.2.li, .int .i64 y.2.co] t
theorem aO_new (w : World) (y : XP × SLc) : RV (w.alloc (aO y)) w.heap.size (aL y) := fun j v h => by
  have e : (⟨w.heap.size, 0, none⟩ : Addr).add j = ⟨w.heap.size, j, none⟩ := by simp [Addr.add]; omega
  rw [← e]
  exact new_cells w (aL y) 117 j v h
theorem gO_new (w : World) (t : Nat) (y : ByteArray × XP) : RV (w.alloc (gO t y)) w.heap.size (gL y) := fun j v h => by
  have e : (⟨w.heap.size, 0, none⟩ : Addr).add j = ⟨w.heap.size, j, none⟩ := by simp [Addr.add]; omega
  rw [← e]
  exact new_cells w (gL y) t j v h
/-- each kind of statement, as GoodStmt asks -/
def GK (f : SP) (XS : List XP) : Prop :=
  (∃ g f1 f2 l c, f = ⟨0, nb, ⟨some ⟨g, 0, none⟩, 2, 2⟩, nl, nl, nl, nl, nl, l, c⟩ ∧ XS = [f1, f2] ∧ (decide (f1.k = 3) || decide (f1.k = 4) || decide (f1.k = 5)) = true) ∨
  (∃ x v l c, f = ⟨1, x, nl, nl, nl, nl, v, nl, l, c⟩ ∧ gN x = true ∧ x.size ≤ 4611686018427387904) ∨
  (∃ va vl l c, f = ⟨2, nb, nl, va, vl, nl, nl, nl, l, c⟩ ∧ 1 ≤ va.n) ∨
  (∃ x g vl l c, f = ⟨3, x, ⟨some ⟨g, 0, none⟩, 2, 2⟩, nl, nl, vl, nl, nl, l, c⟩ ∧ gN x = true ∧ x.size ≤ 4611686018427387904) ∨
  (∃ g v l c, f = ⟨4, nb, ⟨some ⟨g, 0, none⟩, 1, 1⟩, nl, nl, nl, nl, v, l, c⟩ ∧ 1 ≤ v.n)
end Go.Proofs.Qxb6500774a
