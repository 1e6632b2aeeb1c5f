import Derived.Test.Qxb6500778aData
namespace Go.Proofs.Qxb6500778a
open Go.RowKit

/-- w' is w but for new blocks, and for what lies in the blocks S. -/
structure Ex (S : Nat → Prop) (w w' : World) : Prop where
  os : w'.os = w.os
  tape : w'.tape = w.tape
  output : w'.output = w.output
  size : w.heap.size ≤ w'.heap.size
  block : ∀ k, k < w.heap.size → ¬ S k → w'.heap[k]? = w.heap[k]?
theorem Ex.refl (S : Nat → Prop) (w : World) : Ex S w w := ⟨rfl, rfl, rfl, Nat.le_refl _, fun _ _ _ => rfl⟩
theorem Ex.trans {S : Nat → Prop} {a b c : World} (h : Ex S a b) (k : Ex S b c) : Ex S a c :=
  ⟨k.os.trans h.os, k.tape.trans h.tape, k.output.trans h.output, Nat.le_trans h.size k.size, fun j hj hs => (k.block j (Nat.lt_of_lt_of_le hj h.size) hs).trans (h.block j hj hs)⟩
theorem Ex.mono {S S' : Nat → Prop} {a b : World} (h : Ex S a b) (hs : ∀ k, S k → S' k) : Ex S' a b := ⟨h.os, h.tape, h.output, h.size, fun j hj hn => h.block j hj fun e => hn (hs j e)⟩
theorem Ex.drew {S : Nat → Prop} {a b : World} (h : Ex S a b) : Ex S a b.drew := ⟨h.os, h.tape, h.output, h.size, h.block⟩
theorem Ex.drewN {S : Nat → Prop} {a b : World} (h : Ex S a b) (k : Nat) : Ex S a (b.drewN k) := by
  induction k with
  | zero => exact h
  | succ k ih => exact ih.drew
theorem Ex.of_drew {S : Nat → Prop} {a b : World} (h : Ex S a.drew b) : Ex S a b := ⟨h.os, h.tape, h.output, h.size, h.block⟩
theorem Ex.alloc {S : Nat → Prop} {a b : World} (h : Ex S a b) (o : Obj) : Ex S a (b.alloc o) :=
  h.trans ⟨rfl, rfl, rfl, by simp, fun k hk _ => Below.heap_alloc b o k hk⟩
theorem Ex.set {S : Nat → Prop} {a b : World} (h : Ex S a b) {p j : Nat} (hp : S p) (u : Value) : Ex S a (b.setCell ⟨p, j, none⟩ u) :=
  h.trans ⟨rfl, rfl, rfl, by simp, fun k _ hn => Below.heap_setCell b _ u k fun e => hn (by rw [e]; exact hp)⟩
/-- .. or in a block that is new since a. -/
theorem Ex.setNew {S : Nat → Prop} {a b : World} (h : Ex S a b) {p j : Nat} (hp : a.heap.size ≤ p) (u : Value) : Ex S a (b.setCell ⟨p, j, none⟩ u) :=
  ⟨h.os, h.tape, h.output, by simpa using h.size, fun k hk hn => (Below.heap_setCell b _ u k fun e => by simp at e; omega).trans (h.block k hk hn)⟩
theorem Ex.below {S : Nat → Prop} {a b : World} (h : Ex S a b) {B : Nat} (hB : B ≤ a.heap.size) (hs : ∀ k, k < B → ¬ S k) : Below B a b := ⟨h.os, h.tape, h.output, h.size, fun k hk => h.block k (by omega) (hs k hk)⟩
theorem Ex.ofBelow {S : Nat → Prop} {a b : World} {B : Nat} (h : Below B a b) (hs : ∀ k, k < a.heap.size → B ≤ k → S k) : Ex S a b :=
  ⟨h.os, h.tape, h.output, h.size, fun k hk hn => h.block k (Nat.lt_of_not_le fun e => hn (hs k hk e))⟩
theorem Ex.cell {S : Nat → Prop} {a b : World} (h : Ex S a b) {q j : Nat} {v : Value} (hq : ¬ S q) (hc : a.cell? ⟨q, j, none⟩ = some v) : b.cell? ⟨q, j, none⟩ = some v :=
  (World.cell?_of_block (h.block q (World.block_lt_of_cell? _ _ hc) hq)).trans hc
theorem Ex.frozen {S : Nat → Prop} {a b : World} (h : Ex S a b) {q j : Nat} (hq : ¬ S q) (hl : q < a.heap.size) : b.frozen? ⟨q, j, none⟩ = a.frozen? ⟨q, j, none⟩ :=
  World.frozen?_of_block (h.block q hl hq)
/-- The parser at block p over the text a, n, c. -/
structure PS (w : World) (p : Nat) (a : Option Addr) (n c : Nat) (pos : Nat) (k tp : Int) (s : ByteArray) (v er at_ : Int) : Prop where
  c0 : w.cell? ⟨p, 0, none⟩ = some (.slice a n c)
  c1 : w.cell? ⟨p, 1, none⟩ = some (.int .i64 (pos : Nat))
  c2 : w.cell? ⟨p, 2, none⟩ = some (.int .i64 k)
  c3 : w.cell? ⟨p, 3, none⟩ = some (.int .i64 tp)
  c4 : w.cell? ⟨p, 4, none⟩ = some (.string s)
  c5 : w.cell? ⟨p, 5, none⟩ = some (.int .i64 v)
  c6 : w.cell? ⟨p, 6, none⟩ = some (.int .i64 er)
  c7 : w.cell? ⟨p, 7, none⟩ = some (.int .i64 at_)
  fr : ∀ j, w.frozen? ⟨p, j, none⟩ = false
  by_ : BytesAt w a n
  le : pos ≤ n
  nc : n ≤ c
  n16 : n ≤ 9223372036854775807
  low : 0 < n → ∀ b off, a = some ⟨b, off, none⟩ → b < p
theorem PS.put1 {w : World} {p : Nat} {a : Option Addr} {n c : Nat} {pos : Nat} {k tp : Int} {s : ByteArray} {v er at_ : Int} {pos' : Nat} (h : PS w p a n c pos k tp s v er at_) (hle : pos' ≤ n) : PS (w.setCell ⟨p, 1, none⟩ (.int .i64 (pos' : Nat))) p a n c pos' k tp s v er at_ := by
  refine ⟨?_, ?_, ?_, ?_, ?_, ?_, ?_, ?_, fun i => by simpa [go_sem] using h.fr i, fun i hi => ?_, hle, h.nc, h.n16, h.low⟩
  · rw [World.cell?_setCell_other _ _ _ _ (by simp)]; exact h.c0
  · exact World.cell?_setCell_same _ _ _ h.c1
  · rw [World.cell?_setCell_other _ _ _ _ (by simp)]; exact h.c2
  · rw [World.cell?_setCell_other _ _ _ _ (by simp)]; exact h.c3
  · rw [World.cell?_setCell_other _ _ _ _ (by simp)]; exact h.c4
  · rw [World.cell?_setCell_other _ _ _ _ (by simp)]; exact h.c5
  · rw [World.cell?_setCell_other _ _ _ _ (by simp)]; exact h.c6
  · rw [World.cell?_setCell_other _ _ _ _ (by simp)]; exact h.c7
  · obtain ⟨b, off, z, ha, hc, hr⟩ := h.by_ i hi
    have := h.low (by omega) b off ha
    exact ⟨b, off, z, ha, by rw [World.cell?_setCell_other _ _ _ _ (by simp <;> omega)]; exact hc, hr⟩
theorem PS.put2 {w : World} {p : Nat} {a : Option Addr} {n c : Nat} {pos : Nat} {k tp : Int} {s : ByteArray} {v er at_ : Int} {k' : Int} (h : PS w p a n c pos k tp s v er at_) : PS (w.setCell ⟨p, 2, none⟩ (.int .i64 k')) p a n c pos k' tp s v er at_ := by
  refine ⟨?_, ?_, ?_, ?_, ?_, ?_, ?_, ?_, fun i => by simpa [go_sem] using h.fr i, fun i hi => ?_, h.le, h.nc, h.n16, h.low⟩
  · rw [World.cell?_setCell_other _ _ _ _ (by simp)]; exact h.c0
  · rw [World.cell?_setCell_other _ _ _ _ (by simp)]; exact h.c1
  · exact World.cell?_setCell_same _ _ _ h.c2
  · rw [World.cell?_setCell_other _ _ _ _ (by simp)]; exact h.c3
  · rw [World.cell?_setCell_other _ _ _ _ (by simp)]; exact h.c4
  · rw [World.cell?_setCell_other _ _ _ _ (by simp)]; exact h.c5
  · rw [World.cell?_setCell_other _ _ _ _ (by simp)]; exact h.c6
  · rw [World.cell?_setCell_other _ _ _ _ (by simp)]; exact h.c7
  · obtain ⟨b, off, z, ha, hc, hr⟩ := h.by_ i hi
    have := h.low (by omega) b off ha
    exact ⟨b, off, z, ha, by rw [World.cell?_setCell_other _ _ _ _ (by simp <;> omega)]; exact hc, hr⟩
theorem PS.put3 {w : World} {p : Nat} {a : Option Addr} {n c : Nat} {pos : Nat} {k tp : Int} {s : ByteArray} {v er at_ : Int} {tp' : Int} (h : PS w p a n c pos k tp s v er at_) : PS (w.setCell ⟨p, 3, none⟩ (.int .i64 tp')) p a n c pos k tp' s v er at_ := by
  refine ⟨?_, ?_, ?_, ?_, ?_, ?_, ?_, ?_, fun i => by simpa [go_sem] using h.fr i, fun i hi => ?_, h.le, h.nc, h.n16, h.low⟩
  · rw [World.cell?_setCell_other _ _ _ _ (by simp)]; exact h.c0
  · rw [World.cell?_setCell_other _ _ _ _ (by simp)]; exact h.c1
  · rw [World.cell?_setCell_other _ _ _ _ (by simp)]; exact h.c2
  · exact World.cell?_setCell_same _ _ _ h.c3
  · rw [World.cell?_setCell_other _ _ _ _ (by simp)]; exact h.c4
  · rw [World.cell?_setCell_other _ _ _ _ (by simp)]; exact h.c5
  · rw [World.cell?_setCell_other _ _ _ _ (by simp)]; exact h.c6
  · rw [World.cell?_setCell_other _ _ _ _ (by simp)]; exact h.c7
  · obtain ⟨b, off, z, ha, hc, hr⟩ := h.by_ i hi
    have := h.low (by omega) b off ha
    exact ⟨b, off, z, ha, by rw [World.cell?_setCell_other _ _ _ _ (by simp <;> omega)]; exact hc, hr⟩
theorem PS.put4 {w : World} {p : Nat} {a : Option Addr} {n c : Nat} {pos : Nat} {k tp : Int} {s : ByteArray} {v er at_ : Int} {s' : ByteArray} (h : PS w p a n c pos k tp s v er at_) : PS (w.setCell ⟨p, 4, none⟩ (.string s')) p a n c pos k tp s' v er at_ := by
  refine ⟨?_, ?_, ?_, ?_, ?_, ?_, ?_, ?_, fun i => by simpa [go_sem] using h.fr i, fun i hi => ?_, h.le, h.nc, h.n16, h.low⟩
  · rw [World.cell?_setCell_other _ _ _ _ (by simp)]; exact h.c0
  · rw [World.cell?_setCell_other _ _ _ _ (by simp)]; exact h.c1
  · rw [World.cell?_setCell_other _ _ _ _ (by simp)]; exact h.c2
  · rw [World.cell?_setCell_other _ _ _ _ (by simp)]; exact h.c3
  · exact World.cell?_setCell_same _ _ _ h.c4
  · rw [World.cell?_setCell_other _ _ _ _ (by simp)]; exact h.c5
  · rw [World.cell?_setCell_other _ _ _ _ (by simp)]; exact h.c6
  · rw [World.cell?_setCell_other _ _ _ _ (by simp)]; exact h.c7
  · obtain ⟨b, off, z, ha, hc, hr⟩ := h.by_ i hi
    have := h.low (by omega) b off ha
    exact ⟨b, off, z, ha, by rw [World.cell?_setCell_other _ _ _ _ (by simp <;> omega)]; exact hc, hr⟩
theorem PS.put5 {w : World} {p : Nat} {a : Option Addr} {n c : Nat} {pos : Nat} {k tp : Int} {s : ByteArray} {v er at_ : Int} {v' : Int} (h : PS w p a n c pos k tp s v er at_) : PS (w.setCell ⟨p, 5, none⟩ (.int .i64 v')) p a n c pos k tp s v' er at_ := by
  refine ⟨?_, ?_, ?_, ?_, ?_, ?_, ?_, ?_, fun i => by simpa [go_sem] using h.fr i, fun i hi => ?_, h.le, h.nc, h.n16, h.low⟩
  · rw [World.cell?_setCell_other _ _ _ _ (by simp)]; exact h.c0
  · rw [World.cell?_setCell_other _ _ _ _ (by simp)]; exact h.c1
  · rw [World.cell?_setCell_other _ _ _ _ (by simp)]; exact h.c2
  · rw [World.cell?_setCell_other _ _ _ _ (by simp)]; exact h.c3
  · rw [World.cell?_setCell_other _ _ _ _ (by simp)]; exact h.c4
  · exact World.cell?_setCell_same _ _ _ h.c5
  · rw [World.cell?_setCell_other _ _ _ _ (by simp)]; exact h.c6
  · rw [World.cell?_setCell_other _ _ _ _ (by simp)]; exact h.c7
  · obtain ⟨b, off, z, ha, hc, hr⟩ := h.by_ i hi
    have := h.low (by omega) b off ha
    exact ⟨b, off, z, ha, by rw [World.cell?_setCell_other _ _ _ _ (by simp <;> omega)]; exact hc, hr⟩
theorem PS.put6 {w : World} {p : Nat} {a : Option Addr} {n c : Nat} {pos : Nat} {k tp : Int} {s : ByteArray} {v er at_ : Int} {er' : Int} (h : PS w p a n c pos k tp s v er at_) : PS (w.setCell ⟨p, 6, none⟩ (.int .i64 er')) p a n c pos k tp s v er' at_ := by
  refine ⟨?_, ?_, ?_, ?_, ?_, ?_, ?_, ?_, fun i => by simpa [go_sem] using h.fr i, fun i hi => ?_, h.le, h.nc, h.n16, h.low⟩
  · rw [World.cell?_setCell_other _ _ _ _ (by simp)]; exact h.c0
  · rw [World.cell?_setCell_other _ _ _ _ (by simp)]; exact h.c1
  · rw [World.cell?_setCell_other _ _ _ _ (by simp)]; exact h.c2
  · rw [World.cell?_setCell_other _ _ _ _ (by simp)]; exact h.c3
  · rw [World.cell?_setCell_other _ _ _ _ (by simp)]; exact h.c4
  · rw [World.cell?_setCell_other _ _ _ _ (by simp)]; exact h.c5
  · exact World.cell?_setCell_same _ _ _ h.c6
  · rw [World.cell?_setCell_other _ _ _ _ (by simp)]; exact h.c7
  · obtain ⟨b, off, z, ha, hc, hr⟩ := h.by_ i hi
    have := h.low (by omega) b off ha
    exact ⟨b, off, z, ha, by rw [World.cell?_setCell_other _ _ _ _ (by simp <;> omega)]; exact hc, hr⟩
theorem PS.put7 {w : World} {p : Nat} {a : Option Addr} {n c : Nat} {pos : Nat} {k tp : Int} {s : ByteArray} {v er at_ : Int} {at_' : Int} (h : PS w p a n c pos k tp s v er at_) : PS (w.setCell ⟨p, 7, none⟩ (.int .i64 at_')) p a n c pos k tp s v er at_' := by
  refine ⟨?_, ?_, ?_, ?_, ?_, ?_, ?_, ?_, fun i => by simpa [go_sem] using h.fr i, fun i hi => ?_, h.le, h.nc, h.n16, h.low⟩
  · rw [World.cell?_setCell_other _ _ _ _ (by simp)]; exact h.c0
  · rw [World.cell?_setCell_other _ _ _ _ (by simp)]; exact h.c1
  · rw [World.cell?_setCell_other _ _ _ _ (by simp)]; exact h.c2
  · rw [World.cell?_setCell_other _ _ _ _ (by simp)]; exact h.c3
  · rw [World.cell?_setCell_other _ _ _ _ (by simp)]; exact h.c4
  · rw [World.cell?_setCell_other _ _ _ _ (by simp)]; exact h.c5
  · rw [World.cell?_setCell_other _ _ _ _ (by simp)]; exact h.c6
  · exact World.cell?_setCell_same _ _ _ h.c7
  · obtain ⟨b, off, z, ha, hc, hr⟩ := h.by_ i hi
    have := h.low (by omega) b off ha
    exact ⟨b, off, z, ha, by rw [World.cell?_setCell_other _ _ _ _ (by simp <;> omega)]; exact hc, hr⟩
theorem PS.other {w : World} {p : Nat} {a : Option Addr} {n c : Nat} {pos : Nat} {k tp : Int} {s : ByteArray} {v er at_ : Int} {S : Nat → Prop} {w' : World} (h : PS w p a n c pos k tp s v er at_) (e : Ex S w w') (hp : ∀ k, k ≤ p → ¬ S k) : PS w' p a n c pos k tp s v er at_ := by
  have hl : p < w.heap.size := World.block_lt_of_cell? _ _ h.c0
  have hn := hp p (Nat.le_refl _)
  refine ⟨e.cell hn h.c0, e.cell hn h.c1, e.cell hn h.c2, e.cell hn h.c3, e.cell hn h.c4, e.cell hn h.c5, e.cell hn h.c6, e.cell hn h.c7, fun j => (e.frozen hn hl).trans (h.fr j), fun i hi => ?_, h.le, h.nc, h.n16, h.low⟩
  obtain ⟨b, off, z, ha, hc, hr⟩ := h.by_ i hi
  have := h.low (by omega) b off ha
  exact ⟨b, off, z, ha, e.cell (hp b (by omega)) hc, hr⟩
theorem PS.drewN {w : World} {p : Nat} {a : Option Addr} {n c : Nat} {pos : Nat} {k tp : Int} {s : ByteArray} {v er at_ : Int} (h : PS w p a n c pos k tp s v er at_) (q : Nat) : PS (w.drewN q) p a n c pos k tp s v er at_ := h.other (S := fun _ => False) ((Ex.refl _ _).drewN q) (fun _ _ h => h)
theorem PS.alloc {w : World} {p : Nat} {a : Option Addr} {n c : Nat} {pos : Nat} {k tp : Int} {s : ByteArray} {v er at_ : Int} (h : PS w p a n c pos k tp s v er at_) (o : Obj) : PS (w.alloc o) p a n c pos k tp s v er at_ := h.other (S := fun _ => False) ((Ex.refl _ _).alloc o) (fun _ _ h => h)
/-- The parser in order, its first fault er. -/
def PI (w : World) (p : Nat) (a : Option Addr) (n c : Nat) (er : Int) : Prop :=
  ∃ pos k tp s v at_, PS w p a n c pos k tp s v er at_ ∧ (0 ≤ tp ∧ tp ≤ n) ∧ (0 ≤ v ∧ v ≤ 1000000) ∧ (0 ≤ at_ ∧ at_ ≤ n)
theorem PI.other {w w' : World} {p : Nat} {a : Option Addr} {n c : Nat} {er : Int} {S : Nat → Prop} (h : PI w p a n c er) (e : Ex S w w') (hp : ∀ k, k ≤ p → ¬ S k) : PI w' p a n c er := by
  obtain ⟨pos, k, tp, s, v, at_, h1, h2⟩ := h
  exact ⟨pos, k, tp, s, v, at_, h1.other e hp, h2⟩
def Is (p : Nat) : Nat → Prop := fun k => k = p
end Go.Proofs.Qxb6500778a
