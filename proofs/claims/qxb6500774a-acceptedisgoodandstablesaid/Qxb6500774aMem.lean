import Derived.Test.Qxb6500774aProg
import Derived.WalkKit
import Derived.WalkSpells
import Derived.WalkLawsBesides
import Derived.Handy
import Derived.Deep.OwnRows
import Derived.Deep.RegionHeld3
import Derived.Deep.RegionLaw
import Derived.BigQuiet
import Derived.Deep.DeepCutAuto
import Derived.Deep.MidRow
import Derived.Maps.AppendAt
import Derived.WalkSmall
import Derived.Deep.AppendLies
namespace Go.Proofs.Qxb6500774a
open Go.RowKit

theorem hide {p : Prop} (h : p) : Hid p := h
theorem ret_int {k : IntKind} {a b : Int} (h : a = b) : Ending.returned (.int k a) = .returned (.int k b) := by rw [h]
theorem ret_bool {a b : Bool} (h : a = b) : Ending.returned (.bool a) = .returned (.bool b) := by rw [h]
theorem be1 (w : World) (o : Obj) : Below w.heap.size w (w.alloc o) := (Below.refl _ _).alloc (Nat.le_refl _) o
theorem be2 (w : World) (o p : Obj) : Below w.heap.size w ((w.alloc o).alloc p) := ((Below.refl _ _).alloc (Nat.le_refl _) o).alloc (by simp) p
theorem lec {a b c : World} (h : Below a.heap.size a b) (k : Below b.heap.size b c) : Below a.heap.size a c := h.trans (k.mono h.size)
theorem cellKeep {w w' : World} (hb : Below w.heap.size w w') {p : Addr} {v : Value} (h : w.cell? p = some v) : w'.cell? p = some v := (hb.cell (World.block_lt_of_cell? _ _ h)).trans h
theorem of_drew {w w' : World} (h : Below w.drew.heap.size w.drew w') : Below w.heap.size w w' := ((Below.refl w.heap.size w).drew).trans h
theorem step_call {P : Program} {w : World} {ops : Array Oper} {o : Oper} {a : Act} {K : Act → World → Prop} {Q : Exit → Act → World → Prop} {E : Prop} (hg : o.guard = none)
    (f : FuncId) (args : Array Value) (hrun : (execOp a.eval o).run P w = .ok (.enter f args) w) {Post : Ending → World → Prop} (hc : Calls P f args w Post)
    (h : ∀ e w', Post e w' → ∃ v, e = .returned v ∧ K (a.put o.dst v) w') :
    if Region.wanted o (yielded ops a.tmps) = true then Oper.wp P o a w K Q else E := by
  rw [if_pos (by simp [Region.wanted, hg])]
  unfold Oper.wp
  rw [hrun, Oper.upon_enter]
  refine hc.mono fun e w' hh => ?_
  obtain ⟨v, rfl, hK⟩ := h e w' hh
  exact hK
/-- A call behind a guard that holds. -/
theorem step_call_g {P : Program} {w : World} {ops : Array Oper} {o : Oper} {a : Act} {K : Act → World → Prop} {Q : Exit → Act → World → Prop} {E : Prop} (hg : Region.wanted o (yielded ops a.tmps) = true)
    (f : FuncId) (args : Array Value) (hrun : (execOp a.eval o).run P w = .ok (.enter f args) w) {Post : Ending → World → Prop} (hc : Calls P f args w Post)
    (h : ∀ e w', Post e w' → ∃ v, e = .returned v ∧ K (a.put o.dst v) w') :
    if Region.wanted o (yielded ops a.tmps) = true then Oper.wp P o a w K Q else E := by
  rw [if_pos hg]
  unfold Oper.wp
  rw [hrun, Oper.upon_enter]
  refine hc.mono fun e w' hh => ?_
  obtain ⟨v, rfl, hK⟩ := h e w' hh
  exact hK
/-- w' is w but for new blocks, and for what lies in the blocks S. -/
structure Ex (S : Nat → Prop) (w w' : World) : Prop where
  os : w'.os = w.os
  tape : w'.tape = w.tape
  output : w'.output = w.output
  size : w.heap.size ≤ w'.heap.size
  block : ∀ k, k < w.heap.size → ¬ S k → w'.heap[k]? = w.heap[k]?
theorem Ex.refl (S : Nat → Prop) (w : World) : Ex S w w := ⟨rfl, rfl, rfl, Nat.le_refl _, fun _ _ _ => rfl⟩
theorem Ex.trans {S : Nat → Prop} {a b c : World} (h : Ex S a b) (k : Ex S b c) : Ex S a c :=
  ⟨k.os.trans h.os, k.tape.trans h.tape, k.output.trans h.output, Nat.le_trans h.size k.size, fun j hj hs => (k.block j (Nat.lt_of_lt_of_le hj h.size) hs).trans (h.block j hj hs)⟩
theorem Ex.mono {S S' : Nat → Prop} {a b : World} (h : Ex S a b) (hs : ∀ k, S k → S' k) : Ex S' a b := ⟨h.os, h.tape, h.output, h.size, fun j hj hn => h.block j hj fun e => hn (hs j e)⟩
/-- .. where S' may also let go of what is new. -/
theorem Ex.trans2 {S S' : Nat → Prop} {a b c : World} (h : Ex S a b) (k : Ex S' b c) (hs : ∀ j, S' j → S j ∨ a.heap.size ≤ j) : Ex S a c :=
  ⟨k.os.trans h.os, k.tape.trans h.tape, k.output.trans h.output, Nat.le_trans h.size k.size, fun j hj hn => (k.block j (Nat.lt_of_lt_of_le hj h.size) (fun e => by rcases hs j e with z | z; exact hn z; omega)).trans (h.block j hj hn)⟩
theorem Ex.drew {S : Nat → Prop} {a b : World} (h : Ex S a b) : Ex S a b.drew := ⟨h.os, h.tape, h.output, h.size, h.block⟩
theorem Ex.drewN {S : Nat → Prop} {a b : World} (h : Ex S a b) (k : Nat) : Ex S a (b.drewN k) := by
  induction k with
  | zero => exact h
  | succ k ih => exact ih.drew
theorem Ex.of_drew {S : Nat → Prop} {a b : World} (h : Ex S a.drew b) : Ex S a b := ⟨h.os, h.tape, h.output, h.size, h.block⟩
theorem Ex.alloc {S : Nat → Prop} {a b : World} (h : Ex S a b) (o : Obj) : Ex S a (b.alloc o) :=
  h.trans ⟨rfl, rfl, rfl, by simp, fun k hk _ => Below.heap_alloc b o k hk⟩
theorem Ex.set {S : Nat → Prop} {a b : World} (h : Ex S a b) {p j : Nat} (hp : S p) (u : Value) : Ex S a (b.setCell ⟨p, j, none⟩ u) :=
  h.trans ⟨rfl, rfl, rfl, by simp, fun k _ hn => Below.heap_setCell b _ u k fun e => hn (by rw [e]; exact hp)⟩
/-- .. or in a block that is new since a. -/
theorem Ex.setNew {S : Nat → Prop} {a b : World} (h : Ex S a b) {p j : Nat} (hp : a.heap.size ≤ p) (u : Value) : Ex S a (b.setCell ⟨p, j, none⟩ u) :=
  ⟨h.os, h.tape, h.output, by simpa using h.size, fun k hk hn => (Below.heap_setCell b _ u k fun e => by simp at e; omega).trans (h.block k hk hn)⟩
theorem Ex.sets {S : Nat → Prop} {a : World} {p : Nat} (hp : S p) : ∀ (vs : List Value) (o : Nat) (b : World), Ex S a b → Ex S a (b.setCells p o vs)
  | [], _, _, h => h
  | v :: r, o, b, h => by rw [World.setCells]; exact Ex.sets hp r (o + 1) _ (h.set hp v)
theorem Ex.setsNew {S : Nat → Prop} {a : World} {p : Nat} (hp : a.heap.size ≤ p) : ∀ (vs : List Value) (o : Nat) (b : World), Ex S a b → Ex S a (b.setCells p o vs)
  | [], _, _, h => h
  | v :: r, o, b, h => by rw [World.setCells]; exact Ex.setsNew hp r (o + 1) _ (h.setNew hp v)
theorem Ex.below {S : Nat → Prop} {a b : World} (h : Ex S a b) {B : Nat} (hB : B ≤ a.heap.size) (hs : ∀ k, k < B → ¬ S k) : Below B a b := ⟨h.os, h.tape, h.output, h.size, fun k hk => h.block k (by omega) (hs k hk)⟩
theorem Ex.of {S : Nat → Prop} {a b : World} (h : Below a.heap.size a b) : Ex S a b := ⟨h.os, h.tape, h.output, h.size, fun k hk _ => h.block k hk⟩
theorem Ex.cell {S : Nat → Prop} {a b : World} (h : Ex S a b) {q j : Nat} {v : Value} (hq : ¬ S q) (hc : a.cell? ⟨q, j, none⟩ = some v) : b.cell? ⟨q, j, none⟩ = some v :=
  (World.cell?_of_block (h.block q (World.block_lt_of_cell? _ _ hc) hq)).trans hc
theorem Ex.frozen {S : Nat → Prop} {a b : World} (h : Ex S a b) {q j : Nat} (hq : ¬ S q) (hl : q < a.heap.size) : b.frozen? ⟨q, j, none⟩ = a.frozen? ⟨q, j, none⟩ :=
  World.frozen?_of_block (h.block q hl hq)
theorem Ex.grown {S : Nat → Prop} {w w' : World} (e : Ex S w w') {row : Option Nat} (h : ∀ k, S k → some k = row) : w.grownBy w' row :=
  ⟨e.os, e.tape, e.output, e.size, fun k hk hn => e.block k hk fun hs => hn (h k hs)⟩
theorem Ex.ofGrown {S : Nat → Prop} {a b : World} {row : Option Nat} (h : a.grownBy b row) (hs : ∀ k, some k = row → S k) : Ex S a b := ⟨h.os, h.tape, h.output, h.size, fun k hk hn => h.block k hk fun e => hn (hs k e)⟩
theorem grown_drew {a b : World} {row : Option Nat} (h : a.drew.grownBy b row) : a.grownBy b row := ⟨h.os, h.tape, h.output, h.size, h.block⟩
/-- A row is kept where its block is. -/
theorem own_kept {S : Nat → Prop} {w w' : World} {B e s n : Nat} {v : Value} {xs : List Value} (h : w.ownsRow B e s v n xs) (ex : Ex S w w') (hS : ∀ k, v.ownBlock = some k → ¬ S k) : w'.ownsRow B e s v n xs := by
  obtain ⟨h1, h2⟩ := h
  refine ⟨h1, ?_⟩
  rcases h2 with h2 | ⟨g, cap, cur, rfl, hg, hh, hn⟩
  · exact .inl h2
  · refine .inr ⟨g, cap, cur, rfl, hg, ?_, hn⟩
    have hlt : g < w.heap.size := (Array.getElem?_eq_some_iff.1 hh).1
    rw [ex.block g hlt (hS g rfl)]
    exact hh
/-- The type of a row's block. -/
theorem own_ty {w : World} {B e s n : Nat} {v : Value} {xs : List Value} (h : w.ownsRow B e s v n xs) {k : Nat} (hk : v.ownBlock = some k) : ∃ c f, w.heap[k]? = some (.cells c e f) := by
  obtain ⟨_, h2⟩ := h
  rcases h2 with ⟨h2, _⟩ | ⟨g, cap, cur, rfl, _, hh, _⟩
  · rw [h2] at hk; simp [Value.ownBlock] at hk
  · simp [Value.ownBlock] at hk
    subst hk
    exact ⟨_, _, hh⟩
theorem own_form {w : World} {B e s n : Nat} {v : Value} {xs : List Value} (h : w.ownsRow B e s v n xs) : ∃ a c, v = .slice a n c := by
  obtain ⟨_, h2⟩ := h
  rcases h2 with ⟨h2, h3⟩ | ⟨g, cap, cur, h2, _⟩
  · exact ⟨none, 0, by rw [h2, h3]⟩
  · exact ⟨_, cap, h2⟩
/-- Rows of equal elements. -/
theorem flat_at {α : Type} (f : α → List Value) (m : Nat) (hf : ∀ x, (f x).length = m) : ∀ (L : List α) (i : Nat) (x : α), L[i]? = some x → ∀ j, j < m → (L.flatMap f)[i * m + j]? = (f x)[j]?
  | [], i, x, h, _, _ => by simp at h
  | y :: C, 0, x, h, j, hj => by
    simp at h
    subst h
    rw [List.flatMap_cons, Nat.zero_mul, Nat.zero_add, List.getElem?_append_left (by rw [hf]; omega)]
  | y :: C, i + 1, x, h, j, hj => by
    rw [List.flatMap_cons, List.getElem?_append_right (by rw [hf, Nat.succ_mul]; omega)]
    have : (i + 1) * m + j - (f y).length = i * m + j := by rw [hf, Nat.succ_mul]; omega
    rw [this]
    exact flat_at f m hf C i x (by simpa using h) j hj
theorem flat_len {α : Type} (f : α → List Value) (m : Nat) (hf : ∀ x, (f x).length = m) : ∀ (L : List α), (L.flatMap f).length = L.length * m
  | [] => by simp
  | y :: C => by rw [List.flatMap_cons, List.length_append, hf, flat_len f m hf C, List.length_cons, Nat.succ_mul]; omega
theorem flat_set {α : Type} (f : α → List Value) (m : Nat) (hf : ∀ x, (f x).length = m) (u : Value) (j : Nat) (hj : j < m) : ∀ (L : List α) (i : Nat) (x y : α), L[i]? = some x → f y = (f x).set j u → (L.set i y).flatMap f = (L.flatMap f).set (i * m + j) u
  | [], i, x, _, h, _ => by simp at h
  | z :: C, 0, x, y, h, hy => by
    simp at h
    subst h
    rw [List.set_cons_zero, List.flatMap_cons, List.flatMap_cons, Nat.zero_mul, Nat.zero_add, List.set_append_left _ _ (by rw [hf]; exact hj), hy]
  | z :: C, i + 1, x, y, h, hy => by
    rw [List.set_cons_succ, List.flatMap_cons, List.flatMap_cons, List.set_append_right _ _ (by rw [hf, Nat.succ_mul]; omega), hf]
    have : (i + 1) * m + j - m = i * m + j := by rw [Nat.succ_mul]; omega
    rw [this, flat_set f m hf u j hj C i x y (by simpa using h) hy]
theorem own_some {w : World} {B e s n : Nat} {v : Value} {xs : List Value} (h : w.ownsRow B e s v n xs) (hn : 0 < n) : ∃ g c, v = .slice (some ⟨g, 0, none⟩) n c := by
  obtain ⟨_, h2⟩ := h
  rcases h2 with ⟨_, h3⟩ | ⟨g, cap, cur, h2, _⟩
  · omega
  · exact ⟨g, cap, h2⟩
theorem belN (w : World) (k : Nat) : Below w.heap.size w (w.drewN k) := ((Ex.refl (fun _ => False) w).drewN k).below (Nat.le_refl _) (fun _ _ e => e)
theorem set_ty {w : World} {q t : Nat} {c : Array Value} {f : Nat × Nat} (h : w.heap[q]? = some (.cells c t f)) (a : Addr) (u : Value) : ∃ c' f', (w.setCell a u).heap[q]? = some (.cells c' t f') := by
  unfold World.setCell
  simp only [Array.getElem?_modify, h]
  split
  · exact ⟨_, _, rfl⟩
  · exact ⟨_, _, rfl⟩
theorem set_frozen (w : World) (a b : Addr) (u : Value) : (w.setCell a u).frozen? b = w.frozen? b := by simp [go_sem]
theorem set_cell_ne (w : World) (g j q i : Nat) (u : Value) (h : q ≠ g) : (w.setCell ⟨g, j, none⟩ u).cell? ⟨q, i, none⟩ = w.cell? ⟨q, i, none⟩ :=
  World.cell?_of_block (heap_setCell_other w _ q u h)
theorem new_cells (w : World) (cs : List Value) (t : Nat) (j : Nat) (u : Value) (h : cs[j]? = some u) : (w.alloc (.cells cs.toArray t)).cell? ((⟨w.heap.size, 0, none⟩ : Addr).add j) = some u := by
  have hb : (w.alloc (.cells cs.toArray t)).heap[w.heap.size]? = some (.cells cs.toArray t) := heap_alloc_new w _
  rw [Addr.add_mid, Nat.zero_add]
  unfold World.cell?
  simp only [hb]
  simpa using h
end Go.Proofs.Qxb6500774a
