import Derived.Test.Qxb6500777aTr
namespace Go.Proofs.Qxb6500777a
open Go.RowKit

/-- w' is w but for new blocks and for the n cells from lo on of block b. -/
structure Fr (b lo n : Nat) (w w' : World) : Prop where
  ex : Ex (fun k => k = b) w w'
  cell : ∀ j, (j < lo ∨ lo + n ≤ j) → w'.cell? ⟨b, j, none⟩ = w.cell? ⟨b, j, none⟩
  fr : ∀ j, w'.frozen? ⟨b, j, none⟩ = w.frozen? ⟨b, j, none⟩
  ty : ∀ c t f, w.heap[b]? = some (.cells c t f) → ∃ c' f', w'.heap[b]? = some (.cells c' t f')
section
variable {b lo n : Nat} {w w' w2 : World}
theorem Fr.refl (b lo n : Nat) (w : World) : Fr b lo n w w := ⟨Ex.refl _ _, fun _ _ => rfl, fun _ => rfl, fun c _ f h => ⟨c, f, h⟩⟩
theorem Fr.trans (h : Fr b lo n w w') (k : Fr b lo n w' w2) : Fr b lo n w w2 :=
  ⟨h.ex.trans k.ex, fun j hj => (k.cell j hj).trans (h.cell j hj), fun j => (k.fr j).trans (h.fr j), fun c t f e => by obtain ⟨c', f', e'⟩ := h.ty c t f e; exact k.ty c' t f' e'⟩
theorem Fr.mono {lo' n' : Nat} (h : Fr b lo n w w') (h1 : lo' ≤ lo) (h2 : lo + n ≤ lo' + n') : Fr b lo' n' w w' := ⟨h.ex, fun j hj => h.cell j (by omega), h.fr, h.ty⟩
theorem Fr.of (hb : b < w.heap.size) (h : Below w.heap.size w w') : Fr b lo n w w' :=
  ⟨Ex.of h, fun _ _ => World.cell?_of_block (h.block b hb), fun _ => World.frozen?_of_block (h.block b hb), fun c _ f e => ⟨c, f, (h.block b hb).trans e⟩⟩
theorem Fr.drew (h : Fr b lo n w w') : Fr b lo n w w'.drew := ⟨h.ex.drew, h.cell, h.fr, h.ty⟩
theorem Fr.of_drew (h : Fr b lo n w.drew w') : Fr b lo n w w' := ⟨h.ex.of_drew, h.cell, h.fr, h.ty⟩
theorem Fr.set (h : Fr b lo n w w') {j : Nat} (h0 : lo ≤ j) (h1 : j < lo + n) (u : Value) : Fr b lo n w (w'.setCell ⟨b, j, none⟩ u) :=
  h.trans ⟨(Ex.refl (fun k => k = b) _).set (p := b) rfl u, fun i hi => World.cell?_setCell_other _ _ _ _ (by simp <;> omega), fun i => set_frozen _ _ _ _, fun c t f e => set_ty e _ _⟩
theorem Fr.alloc (h : Fr b lo n w w') (hb : b < w.heap.size) (o : Obj) : Fr b lo n w (w'.alloc o) :=
  h.trans (Fr.of (Nat.lt_of_lt_of_le hb h.ex.size) (be1 _ _))
end
/-- A row of values in block b from o on, that can be written. -/
structure RA (w : World) (b o : Nat) (vs : List Value) : Prop where
  c : ∀ j v, vs[j]? = some v → w.cell? ⟨b, o + j, none⟩ = some v
  f : ∀ j, w.frozen? ⟨b, j, none⟩ = false
section
variable {w w' : World} {b o : Nat} {vs : List Value}
theorem RA.below (h : RA w b o vs) (hb : b < w.heap.size) (k : Below w.heap.size w w') : RA w' b o vs :=
  ⟨fun j v hv => cellKeep k (h.c j v hv), fun j => (World.frozen?_of_block (k.block b hb)).trans (h.f j)⟩
theorem RA.put (h : RA w b o vs) {k : Nat} (u : Value) (hk : k < vs.length) : RA (w.setCell ⟨b, o + k, none⟩ u) b o (vs.set k u) := by
  refine ⟨fun j v hv => ?_, fun j => by rw [set_frozen]; exact h.f j⟩
  rw [List.getElem?_set] at hv
  by_cases e : k = j
  · subst e
    rw [if_pos rfl, if_pos hk] at hv
    cases hv
    exact World.cell?_setCell_same _ _ _ (h.c k vs[k] (List.getElem?_eq_getElem hk))
  · rw [if_neg e] at hv
    rw [World.cell?_setCell_other _ _ _ _ (by simp <;> omega)]
    exact h.c j v hv
theorem RA.keep (h : RA w b o vs) {b' lo n : Nat} (k : Fr b' lo n w w') (hb : b < w.heap.size) (hd : b ≠ b' ∨ o + vs.length ≤ lo ∨ lo + n ≤ o) : RA w' b o vs := by
  refine ⟨fun j v hv => ?_, fun j => ?_⟩
  · by_cases e : b = b'
    · subst e
      have hj := (List.getElem?_eq_some_iff.1 hv).1
      rw [k.cell _ (by omega)]
      exact h.c j v hv
    · exact k.ex.cell e (h.c j v hv)
  · by_cases e : b = b'
    · subst e; rw [k.fr]; exact h.f j
    · exact (k.ex.frozen e hb).trans (h.f j)
theorem RA.lt (h : RA w b o vs) (hn : vs ≠ []) : b < w.heap.size := by
  cases vs with
  | nil => exact absurd rfl hn
  | cons v r => exact World.block_lt_of_cell? _ _ (h.c 0 v rfl)
theorem RA.drew (h : RA w b o vs) : RA w.drew b o vs := ⟨h.c, h.f⟩
theorem RA.drewN (h : RA w b o vs) (n : Nat) : RA (w.drewN n) b o vs := by
  induction n with
  | zero => exact h
  | succ k ih => exact ih.drew
end
theorem Slt.len (s : Slt) : s.vals.length = 10 := rfl
theorem Trk.len (s : Trk) : s.vals.length = 7 := rfl
/-- A team's table. -/
structure Tbl where
  sl : Nat → Slt
  wh : Nat → Int
  held : Int
  next : Int
def upd {α : Type} (f : Nat → α) (i : Nat) (a : α) : Nat → α := fun j => if j = i then a else f j
theorem upd_same {α : Type} (f : Nat → α) (i : Nat) (a : α) : upd f i a i = a := by unfold upd; rw [if_pos rfl]
theorem upd_ne {α : Type} (f : Nat → α) {i j : Nat} (a : α) (h : j ≠ i) : upd f i a j = f j := by unfold upd; rw [if_neg h]
/-- A team's table in block b from o on. -/
structure TA (w : World) (b o : Nat) (t : Tbl) : Prop where
  sl : ∀ i, i < 64 → RA w b (o + i * 10) (t.sl i).vals
  wh : ∀ i, i < 112 → w.cell? ⟨b, o + 640 + i, none⟩ = some (.int .i64 (t.wh i))
  held : w.cell? ⟨b, o + 752, none⟩ = some (.int .i64 t.held)
  next : w.cell? ⟨b, o + 753, none⟩ = some (.int .i64 t.next)
section
variable {w w' : World} {b o : Nat} {t : Tbl}
theorem TA.f (h : TA w b o t) (j : Nat) : w.frozen? ⟨b, j, none⟩ = false := (h.sl 0 (by omega)).f j
theorem TA.lt (h : TA w b o t) : b < w.heap.size := World.block_lt_of_cell? _ _ h.held
theorem TA.below (h : TA w b o t) (k : Below w.heap.size w w') : TA w' b o t :=
  ⟨fun i hi => (h.sl i hi).below h.lt k, fun i hi => cellKeep k (h.wh i hi), cellKeep k h.held, cellKeep k h.next⟩
theorem TA.drew (h : TA w b o t) : TA w.drew b o t := ⟨fun i hi => (h.sl i hi).drew, h.wh, h.held, h.next⟩
theorem TA.drewN (h : TA w b o t) (n : Nat) : TA (w.drewN n) b o t := by
  induction n with
  | zero => exact h
  | succ k ih => exact ih.drew
theorem TA.keep (h : TA w b o t) {b' lo n : Nat} (k : Fr b' lo n w w') (hd : b ≠ b' ∨ o + 754 ≤ lo ∨ lo + n ≤ o) : TA w' b o t := by
  have key : ∀ j v, o ≤ j → j < o + 754 → w.cell? ⟨b, j, none⟩ = some v → w'.cell? ⟨b, j, none⟩ = some v := fun j v h0 h1 hc => by
    by_cases e : b = b'
    · subst e; rw [k.cell _ (by omega)]; exact hc
    · exact k.ex.cell e hc
  exact ⟨fun i hi => (h.sl i hi).keep k h.lt (by rw [Slt.len]; omega), fun i hi => key _ _ (by omega) (by omega) (h.wh i hi), key _ _ (by omega) (by omega) h.held, key _ _ (by omega) (by omega) h.next⟩
/-- A slot turns. -/
theorem TA.slot (h : TA w b o t) {i : Nat} (hi : i < 64) {s : Slt} (k : Fr b (o + i * 10) 10 w w') (hs : RA w' b (o + i * 10) s.vals) : TA w' b o { t with sl := upd t.sl i s } := by
  refine ⟨fun j hj => ?_, fun j hj => ?_, ?_, ?_⟩
  · by_cases e : j = i
    · subst e
      show RA w' b (o + j * 10) (upd t.sl j s j).vals
      rw [upd_same]; exact hs
    · show RA w' b (o + j * 10) (upd t.sl i s j).vals
      rw [upd_ne _ _ e]
      exact (h.sl j hj).keep k h.lt (.inr (by rw [Slt.len]; omega))
  · rw [k.cell _ (by omega)]; exact h.wh j hj
  · rw [k.cell _ (by omega)]; exact h.held
  · rw [k.cell _ (by omega)]; exact h.next
theorem TA.setWh (h : TA w b o t) {i : Nat} (hi : i < 112) (u : Int) : TA (w.setCell ⟨b, o + 640 + i, none⟩ (.int .i64 u)) b o { t with wh := upd t.wh i u } := by
  have k : Fr b (o + 640 + i) 1 w (w.setCell ⟨b, o + 640 + i, none⟩ (.int .i64 u)) := (Fr.refl _ _ _ _).set (by omega) (by omega) _
  refine ⟨fun j hj => (h.sl j hj).keep k h.lt (.inr (by rw [Slt.len]; omega)), fun j hj => ?_, ?_, ?_⟩
  · by_cases e : j = i
    · subst e
      show _ = some (Value.int .i64 (upd t.wh j u j))
      rw [upd_same]; exact World.cell?_setCell_same _ _ _ (h.wh j hj)
    · show _ = some (Value.int .i64 (upd t.wh i u j))
      rw [upd_ne _ _ e, k.cell _ (by omega)]; exact h.wh j hj
  · rw [k.cell _ (by omega)]; exact h.held
  · rw [k.cell _ (by omega)]; exact h.next
theorem TA.setHeld (h : TA w b o t) (u : Int) : TA (w.setCell ⟨b, o + 752, none⟩ (.int .i64 u)) b o { t with held := u } := by
  have k : Fr b (o + 752) 1 w (w.setCell ⟨b, o + 752, none⟩ (.int .i64 u)) := (Fr.refl _ _ _ _).set (by omega) (by omega) _
  exact ⟨fun j hj => (h.sl j hj).keep k h.lt (.inr (by rw [Slt.len]; omega)), fun j hj => by rw [k.cell _ (by omega)]; exact h.wh j hj, World.cell?_setCell_same _ _ _ h.held, by rw [k.cell _ (by omega)]; exact h.next⟩
theorem TA.setNext (h : TA w b o t) (u : Int) : TA (w.setCell ⟨b, o + 753, none⟩ (.int .i64 u)) b o { t with next := u } := by
  have k : Fr b (o + 753) 1 w (w.setCell ⟨b, o + 753, none⟩ (.int .i64 u)) := (Fr.refl _ _ _ _).set (by omega) (by omega) _
  exact ⟨fun j hj => (h.sl j hj).keep k h.lt (.inr (by rw [Slt.len]; omega)), fun j hj => by rw [k.cell _ (by omega)]; exact h.wh j hj, by rw [k.cell _ (by omega)]; exact h.held, World.cell?_setCell_same _ _ _ h.next⟩
end
end Go.Proofs.Qxb6500777a
