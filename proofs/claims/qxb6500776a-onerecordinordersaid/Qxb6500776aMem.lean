import Derived.Test.Qxb6500776aExc
import Derived.Deep.MidRow
import Derived.Maps.AppendAt
import Derived.WalkSmall
namespace Go.Proofs.Qxb6500776a
open Go.RowKit

/-- w' is w but for new blocks, and for what lies in the blocks S. -/
structure Ex (S : Nat → Prop) (w w' : World) : Prop where
  os : w'.os = w.os
  tape : w'.tape = w.tape
  output : w'.output = w.output
  size : w.heap.size ≤ w'.heap.size
  block : ∀ k, k < w.heap.size → ¬ S k → w'.heap[k]? = w.heap[k]?
theorem Ex.refl (S : Nat → Prop) (w : World) : Ex S w w := ⟨rfl, rfl, rfl, Nat.le_refl _, fun _ _ _ => rfl⟩
theorem Ex.trans {S : Nat → Prop} {a b c : World} (h : Ex S a b) (k : Ex S b c) : Ex S a c :=
  ⟨k.os.trans h.os, k.tape.trans h.tape, k.output.trans h.output, Nat.le_trans h.size k.size, fun j hj hs => (k.block j (Nat.lt_of_lt_of_le hj h.size) hs).trans (h.block j hj hs)⟩
theorem Ex.mono {S S' : Nat → Prop} {a b : World} (h : Ex S a b) (hs : ∀ k, S k → S' k) : Ex S' a b := ⟨h.os, h.tape, h.output, h.size, fun j hj hn => h.block j hj fun e => hn (hs j e)⟩
/-- .. where S' may also let go of what is new. -/
theorem Ex.trans2 {S S' : Nat → Prop} {a b c : World} (h : Ex S a b) (k : Ex S' b c) (hs : ∀ j, S' j → S j ∨ a.heap.size ≤ j) : Ex S a c :=
  ⟨k.os.trans h.os, k.tape.trans h.tape, k.output.trans h.output, Nat.le_trans h.size k.size, fun j hj hn => (k.block j (Nat.lt_of_lt_of_le hj h.size) (fun e => by rcases hs j e with z | z; exact hn z; omega)).trans (h.block j hj hn)⟩
theorem Ex.drew {S : Nat → Prop} {a b : World} (h : Ex S a b) : Ex S a b.drew := ⟨h.os, h.tape, h.output, h.size, h.block⟩
theorem Ex.drewN {S : Nat → Prop} {a b : World} (h : Ex S a b) (k : Nat) : Ex S a (b.drewN k) := by
  induction k with
  | zero => exact h
  | succ k ih => exact ih.drew
theorem Ex.of_drew {S : Nat → Prop} {a b : World} (h : Ex S a.drew b) : Ex S a b := ⟨h.os, h.tape, h.output, h.size, h.block⟩
theorem Ex.alloc {S : Nat → Prop} {a b : World} (h : Ex S a b) (o : Obj) : Ex S a (b.alloc o) :=
  h.trans ⟨rfl, rfl, rfl, by simp, fun k hk _ => Below.heap_alloc b o k hk⟩
theorem Ex.set {S : Nat → Prop} {a b : World} (h : Ex S a b) {p j : Nat} (hp : S p) (u : Value) : Ex S a (b.setCell ⟨p, j, none⟩ u) :=
  h.trans ⟨rfl, rfl, rfl, by simp, fun k _ hn => Below.heap_setCell b _ u k fun e => hn (by rw [e]; exact hp)⟩
/-- .. or in a block that is new since a. -/
theorem Ex.setNew {S : Nat → Prop} {a b : World} (h : Ex S a b) {p j : Nat} (hp : a.heap.size ≤ p) (u : Value) : Ex S a (b.setCell ⟨p, j, none⟩ u) :=
  ⟨h.os, h.tape, h.output, by simpa using h.size, fun k hk hn => (Below.heap_setCell b _ u k fun e => by simp at e; omega).trans (h.block k hk hn)⟩
theorem Ex.sets {S : Nat → Prop} {a : World} {p : Nat} (hp : S p) : ∀ (vs : List Value) (o : Nat) (b : World), Ex S a b → Ex S a (b.setCells p o vs)
  | [], _, _, h => h
  | v :: r, o, b, h => by rw [World.setCells]; exact Ex.sets hp r (o + 1) _ (h.set hp v)
theorem Ex.setsNew {S : Nat → Prop} {a : World} {p : Nat} (hp : a.heap.size ≤ p) : ∀ (vs : List Value) (o : Nat) (b : World), Ex S a b → Ex S a (b.setCells p o vs)
  | [], _, _, h => h
  | v :: r, o, b, h => by rw [World.setCells]; exact Ex.setsNew hp r (o + 1) _ (h.setNew hp v)
theorem Ex.below {S : Nat → Prop} {a b : World} (h : Ex S a b) {B : Nat} (hB : B ≤ a.heap.size) (hs : ∀ k, k < B → ¬ S k) : Below B a b := ⟨h.os, h.tape, h.output, h.size, fun k hk => h.block k (by omega) (hs k hk)⟩
theorem Ex.of {S : Nat → Prop} {a b : World} (h : Below a.heap.size a b) : Ex S a b := ⟨h.os, h.tape, h.output, h.size, fun k hk _ => h.block k hk⟩
theorem Ex.cell {S : Nat → Prop} {a b : World} (h : Ex S a b) {q j : Nat} {v : Value} (hq : ¬ S q) (hc : a.cell? ⟨q, j, none⟩ = some v) : b.cell? ⟨q, j, none⟩ = some v :=
  (World.cell?_of_block (h.block q (World.block_lt_of_cell? _ _ hc) hq)).trans hc
theorem Ex.frozen {S : Nat → Prop} {a b : World} (h : Ex S a b) {q j : Nat} (hq : ¬ S q) (hl : q < a.heap.size) : b.frozen? ⟨q, j, none⟩ = a.frozen? ⟨q, j, none⟩ :=
  World.frozen?_of_block (h.block q hl hq)
theorem Ex.grown {S : Nat → Prop} {w w' : World} (e : Ex S w w') {row : Option Nat} (h : ∀ k, S k → some k = row) : w.grownBy w' row :=
  ⟨e.os, e.tape, e.output, e.size, fun k hk hn => e.block k hk fun hs => hn (h k hs)⟩
theorem Ex.ofGrown {S : Nat → Prop} {a b : World} {row : Option Nat} (h : a.grownBy b row) (hs : ∀ k, some k = row → S k) : Ex S a b := ⟨h.os, h.tape, h.output, h.size, fun k hk hn => h.block k hk fun e => hn (hs k e)⟩
theorem grown_drew {a b : World} {row : Option Nat} (h : a.drew.grownBy b row) : a.grownBy b row := ⟨h.os, h.tape, h.output, h.size, h.block⟩
/-- A row is kept where its block is. -/
theorem own_kept {S : Nat → Prop} {w w' : World} {B e s n : Nat} {v : Value} {xs : List Value} (h : w.ownsRow B e s v n xs) (ex : Ex S w w') (hS : ∀ k, v.ownBlock = some k → ¬ S k) : w'.ownsRow B e s v n xs := by
  obtain ⟨h1, h2⟩ := h
  refine ⟨h1, ?_⟩
  rcases h2 with h2 | ⟨g, cap, cur, rfl, hg, hh, hn⟩
  · exact .inl h2
  · refine .inr ⟨g, cap, cur, rfl, hg, ?_, hn⟩
    have hlt : g < w.heap.size := (Array.getElem?_eq_some_iff.1 hh).1
    rw [ex.block g hlt (hS g rfl)]
    exact hh
/-- The type of a row's block. -/
theorem own_ty {w : World} {B e s n : Nat} {v : Value} {xs : List Value} (h : w.ownsRow B e s v n xs) {k : Nat} (hk : v.ownBlock = some k) : ∃ c f, w.heap[k]? = some (.cells c e f) := by
  obtain ⟨_, h2⟩ := h
  rcases h2 with ⟨h2, _⟩ | ⟨g, cap, cur, rfl, _, hh, _⟩
  · rw [h2] at hk; simp [Value.ownBlock] at hk
  · simp [Value.ownBlock] at hk
    subst hk
    exact ⟨_, _, hh⟩
theorem own_form {w : World} {B e s n : Nat} {v : Value} {xs : List Value} (h : w.ownsRow B e s v n xs) : ∃ a c, v = .slice a n c := by
  obtain ⟨_, h2⟩ := h
  rcases h2 with ⟨h2, h3⟩ | ⟨g, cap, cur, h2, _⟩
  · exact ⟨none, 0, by rw [h2, h3]⟩
  · exact ⟨_, cap, h2⟩
/-- Rows of equal elements. -/
theorem flat_at {α : Type} (f : α → List Value) (m : Nat) (hf : ∀ x, (f x).length = m) : ∀ (L : List α) (i : Nat) (x : α), L[i]? = some x → ∀ j, j < m → (L.flatMap f)[i * m + j]? = (f x)[j]?
  | [], i, x, h, _, _ => by simp at h
  | y :: C, 0, x, h, j, hj => by
    simp at h
    subst h
    rw [List.flatMap_cons, Nat.zero_mul, Nat.zero_add, List.getElem?_append_left (by rw [hf]; omega)]
  | y :: C, i + 1, x, h, j, hj => by
    rw [List.flatMap_cons, List.getElem?_append_right (by rw [hf, Nat.succ_mul]; omega)]
    have : (i + 1) * m + j - (f y).length = i * m + j := by rw [hf, Nat.succ_mul]; omega
    rw [this]
    exact flat_at f m hf C i x (by simpa using h) j hj
theorem flat_len {α : Type} (f : α → List Value) (m : Nat) (hf : ∀ x, (f x).length = m) : ∀ (L : List α), (L.flatMap f).length = L.length * m
  | [] => by simp
  | y :: C => by rw [List.flatMap_cons, List.length_append, hf, flat_len f m hf C, List.length_cons, Nat.succ_mul]; omega
theorem flat_set {α : Type} (f : α → List Value) (m : Nat) (hf : ∀ x, (f x).length = m) (u : Value) (j : Nat) (hj : j < m) : ∀ (L : List α) (i : Nat) (x y : α), L[i]? = some x → f y = (f x).set j u → (L.set i y).flatMap f = (L.flatMap f).set (i * m + j) u
  | [], i, x, _, h, _ => by simp at h
  | z :: C, 0, x, y, h, hy => by
    simp at h
    subst h
    rw [List.set_cons_zero, List.flatMap_cons, List.flatMap_cons, Nat.zero_mul, Nat.zero_add, List.set_append_left _ _ (by rw [hf]; exact hj), hy]
  | z :: C, i + 1, x, y, h, hy => by
    rw [List.set_cons_succ, List.flatMap_cons, List.flatMap_cons, List.set_append_right _ _ (by rw [hf, Nat.succ_mul]; omega), hf]
    have : (i + 1) * m + j - m = i * m + j := by rw [Nat.succ_mul]; omega
    rw [this, flat_set f m hf u j hj C i x y (by simpa using h) hy]
def Shp.vals (s : Shp) : List Value := [.int .i64 s.id, .int .i64 s.team, .int .i64 s.x, .int .i64 s.y, .int .i64 s.depth, .int .i64 s.speed, .int .i64 s.mast, .int .i64 s.noise, .bool s.afloat, .bool s.radar, .bool s.sonar, .bool s.ping]
theorem Shp.vals_len (s : Shp) : s.vals.length = 12 := rfl
structure Smk where
  x : Int
  y : Int
  r : Int
def Smk.vals (s : Smk) : List Value := [.int .i64 s.x, .int .i64 s.y, .int .i64 s.r]
theorem Smk.vals_len (s : Smk) : s.vals.length = 3 := rfl
structure SmkOk (s : Smk) : Prop where
  x : OnM s.x
  y : OnM s.y
  r : 0 ≤ s.r ∧ s.r ≤ 131072
/-- A world. -/
structure WD (w : World) (p : Nat) (v1 v2 : Value) (L : List Shp) (M : List Smk) : Prop where
  c0 : w.cell? ⟨p, 0, none⟩ = some v1
  c1 : w.cell? ⟨p, 1, none⟩ = some v2
  fr : ∀ j, w.frozen? ⟨p, j, none⟩ = false
  ty : ∃ c f, w.heap[p]? = some (.cells c 44 f)
  r1 : w.ownsRow 0 38 12 v1 L.length (L.flatMap Shp.vals)
  r2 : w.ownsRow 0 52 3 v2 M.length (M.flatMap Smk.vals)
structure WOk (L : List Shp) (M : List Smk) : Prop where
  nd : (L.map Shp.id).Nodup
  ok : ∀ s ∈ L, ShpOk s
  ml : M.length ≤ 32
  mo : ∀ s ∈ M, SmkOk s
def Foot (p : Nat) (v1 v2 : Value) (k : Nat) : Prop := k = p ∨ v1.ownBlock = some k ∨ v2.ownBlock = some k
theorem WD.lt {w : World} {p : Nat} {v1 v2 : Value} {L : List Shp} {M : List Smk} (h : WD w p v1 v2 L M) {k : Nat} (hk : Foot p v1 v2 k) : k < w.heap.size := by
  rcases hk with rfl | hk | hk
  · exact World.block_lt_of_cell? _ _ h.c0
  · exact (h.r1.lt k hk).2
  · exact (h.r2.lt k hk).2
theorem WD.keep {w w' : World} {p : Nat} {v1 v2 : Value} {L : List Shp} {M : List Smk} (h : WD w p v1 v2 L M) {S : Nat → Prop} (e : Ex S w w') (hs : ∀ k, Foot p v1 v2 k → ¬ S k) : WD w' p v1 v2 L M := by
  have hp := hs p (.inl rfl)
  have hl := h.lt (.inl rfl)
  refine ⟨e.cell hp h.c0, e.cell hp h.c1, fun j => (e.frozen hp hl).trans (h.fr j), ?_, own_kept h.r1 e fun k hk => hs k (.inr (.inl hk)), own_kept h.r2 e fun k hk => hs k (.inr (.inr hk))⟩
  obtain ⟨c, f, hc⟩ := h.ty
  exact ⟨c, f, (e.block p hl hp).trans hc⟩
theorem WD.n1 {w : World} {p : Nat} {v1 v2 : Value} {L : List Shp} {M : List Smk} (h : WD w p v1 v2 L M) : v1.ownBlock ≠ some p := fun e => by
  obtain ⟨c, f, hc⟩ := h.ty
  obtain ⟨c', f', hc'⟩ := own_ty h.r1 e
  rw [hc] at hc'; simp at hc'
theorem WD.n2 {w : World} {p : Nat} {v1 v2 : Value} {L : List Shp} {M : List Smk} (h : WD w p v1 v2 L M) : v2.ownBlock ≠ some p := fun e => by
  obtain ⟨c, f, hc⟩ := h.ty
  obtain ⟨c', f', hc'⟩ := own_ty h.r2 e
  rw [hc] at hc'; simp at hc'
theorem WD.n12 {w : World} {p : Nat} {v1 v2 : Value} {L : List Shp} {M : List Smk} (h : WD w p v1 v2 L M) {k : Nat} (e : v1.ownBlock = some k) : v2.ownBlock ≠ some k := fun e2 => by
  obtain ⟨c, f, hc⟩ := own_ty h.r1 e
  obtain ⟨c', f', hc'⟩ := own_ty h.r2 e2
  rw [hc] at hc'; simp at hc'
theorem own_some {w : World} {B e s n : Nat} {v : Value} {xs : List Value} (h : w.ownsRow B e s v n xs) (hn : 0 < n) : ∃ g c, v = .slice (some ⟨g, 0, none⟩) n c := by
  obtain ⟨_, h2⟩ := h
  rcases h2 with ⟨_, h3⟩ | ⟨g, cap, cur, h2, _⟩
  · omega
  · exact ⟨g, cap, h2⟩
/-- The cells of ship i. -/
theorem WD.ship {w : World} {p g c : Nat} {n : Nat} {v2 : Value} {L : List Shp} {M : List Smk} (h : WD w p (.slice (some ⟨g, 0, none⟩) n c) v2 L M) {i : Nat} {s : Shp} (hi : L[i]? = some s) (hn : n = L.length) : w.rangeAt g (i * 12) s.vals := fun j v hv => by
  subst hn
  have hil : i < L.length := (List.getElem?_eq_some_iff.1 hi).1
  have hj : j < 12 := (List.getElem?_eq_some_iff.1 hv).1
  rw [h.r1.cellAt (i * 12 + j) (by omega), flat_at _ 12 Shp.vals_len L i s hi j hj, hv]
theorem WD.smoke {w : World} {p g c : Nat} {n : Nat} {v1 : Value} {L : List Shp} {M : List Smk} (h : WD w p v1 (.slice (some ⟨g, 0, none⟩) n c) L M) {i : Nat} {s : Smk} (hi : M[i]? = some s) (hn : n = M.length) : w.rangeAt g (i * 3) s.vals := fun j v hv => by
  subst hn
  have hil : i < M.length := (List.getElem?_eq_some_iff.1 hi).1
  have hj : j < 3 := (List.getElem?_eq_some_iff.1 hv).1
  rw [h.r2.cellAt (i * 3 + j) (by omega), flat_at _ 3 Smk.vals_len M i s hi j hj, hv]
end Go.Proofs.Qxb6500776a
