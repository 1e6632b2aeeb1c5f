import Derived.Test.Qxb6500773aGreatBn
import Derived.Test.Qxb6500773aGreatOp1
namespace Go.Proofs.Qxb6500773aGreat
open Go.RowKit

/-! ### A step at work -/
structure Ob where
  er : Int
  ln : Int
  col : Int
  n : Int
  m : Int
  X : List Int
def ob0 : Ob := ⟨0, 0, 0, 0, 0, []⟩
def obV (b : Ob) (tv : Value) : Value := .agg #[.int .i64 b.er, .int .i64 b.ln, .int .i64 b.col, .int .i64 b.n, .int .i64 b.m, tv]
def opZ (v : OpV) : Value := .agg #[.int .i64 v.kd, .int .i64 v.a, .slice v.la v.ln v.lc, .slice v.ta v.tn v.tc]
/-- the step's own cells: the op at q, the answer at t, the observation at o -/
structure SC3 (w : World) (q t o : Nat) (v : OpV) (b : Ob) (tv : Value) : Prop where
  q0 : w.cell? ⟨q, 0, none⟩ = some (.int .i64 v.kd)
  q1 : w.cell? ⟨q, 1, none⟩ = some (.int .i64 v.a)
  q2 : w.cell? ⟨q, 2, none⟩ = some (.slice v.la v.ln v.lc)
  q3 : w.cell? ⟨q, 3, none⟩ = some (.slice v.ta v.tn v.tc)
  t0 : w.cell? ⟨t, 0, none⟩ = some (.int .i64 0)
  t1 : w.cell? ⟨t, 1, none⟩ = some (.int .i64 0)
  t2 : w.cell? ⟨t, 2, none⟩ = some (.int .i64 0)
  t3 : w.cell? ⟨t, 3, none⟩ = some (.int .i64 0)
  t4 : w.cell? ⟨t, 4, none⟩ = some (.int .i64 0)
  t5 : w.cell? ⟨t, 5, none⟩ = some (.slice none 0 0)
  tf : ∀ j, w.frozen? ⟨t, j, none⟩ = false
  o0 : w.cell? ⟨o, 0, none⟩ = some (.int .i64 b.er)
  o1 : w.cell? ⟨o, 1, none⟩ = some (.int .i64 b.ln)
  o2 : w.cell? ⟨o, 2, none⟩ = some (.int .i64 b.col)
  o3 : w.cell? ⟨o, 3, none⟩ = some (.int .i64 b.n)
  o4 : w.cell? ⟨o, 4, none⟩ = some (.int .i64 b.m)
  o5 : w.cell? ⟨o, 5, none⟩ = some tv
  of : ∀ j, w.frozen? ⟨o, j, none⟩ = false
theorem SC3.keep {w w' : World} {q t o : Nat} {v : OpV} {b : Ob} {tv : Value} (h : SC3 w q t o v b tv) {T : Nat → Prop} (e : Ex T w w') (h1 : ¬ T q) (h2 : ¬ T t) (h3 : ¬ T o) : SC3 w' q t o v b tv :=
  ⟨e.cell h1 h.q0, e.cell h1 h.q1, e.cell h1 h.q2, e.cell h1 h.q3, e.cell h2 h.t0, e.cell h2 h.t1, e.cell h2 h.t2, e.cell h2 h.t3, e.cell h2 h.t4, e.cell h2 h.t5, fun j => (e.frozen h2 (World.block_lt_of_cell? _ _ h.t0)).trans (h.tf j), e.cell h3 h.o0, e.cell h3 h.o1, e.cell h3 h.o2, e.cell h3 h.o3, e.cell h3 h.o4, e.cell h3 h.o5, fun j => (e.frozen h3 (World.block_lt_of_cell? _ _ h.o0)).trans (h.of j)⟩
/-- the bench's blocks -/
def fp (r : Nat) (S : Nat → Nat → Prop) : Nat → Prop := fun k => k = r ∨ ∃ i, i < 6 ∧ S i k
structure SW (w0 w : World) (R : Nat → Prop) (B r q t o : Nat) (P : Nat → Nat) (S : Nat → Nat → Prop) (s : St) (v : OpV) (b : Ob) (tv : Value) : Prop where
  bn : BN w B r P S (QS B s)
  sc : SC3 w q t o v b tv
  nS : ∀ i, i < 6 → ¬ S i q ∧ ¬ S i t ∧ ¬ S i o
  ne : q ≠ t ∧ q ≠ o ∧ t ≠ o ∧ r ≠ q ∧ r ≠ t ∧ r ≠ o
  tx : w.ownsRow w0.heap.size 5 1 tv b.X.length (b.X.map (Value.int .u8))
  tn : ∀ k, tv.ownBlock = some k → k ≠ q ∧ k ≠ t ∧ k ≠ o ∧ k ≠ r ∧ ∀ i, i < 6 → ¬ S i k
  ex : Ex R w0 w
  rR : R r
  sR : ∀ i, i < 6 → ∀ k, S i k → R k ∨ w0.heap.size ≤ k
  RB : ∀ k, R k → B ≤ k
  hB : B ≤ w0.heap.size
  ge : w0.heap.size ≤ q ∧ w0.heap.size ≤ t ∧ w0.heap.size ≤ o
  lt : q < w.heap.size ∧ t < w.heap.size ∧ o < w.heap.size
section
variable {w0 w w' : World} {R : Nat → Prop} {B r q t o : Nat} {P : Nat → Nat} {S : Nat → Nat → Prop} {s : St} {v : OpV} {b : Ob} {tv : Value}
theorem SW.keep (h : SW w0 w R B r q t o P S s v b tv) {T : Nat → Prop} (e : Ex T w w') (h1 : ¬ T r) (h2 : ∀ i, i < 6 → ∀ k, S i k → ¬ T k) (h3 : ¬ T q ∧ ¬ T t ∧ ¬ T o) (h4 : ∀ k, tv.ownBlock = some k → ¬ T k) (h5 : ∀ k, k < w0.heap.size → T k → R k) : SW w0 w' R B r q t o P S s v b tv :=
  ⟨h.bn.keep e h1 h2, h.sc.keep e h3.1 h3.2.1 h3.2.2, h.nS, h.ne, own_kept h.tx e h4, h.tn, ⟨e.os.trans h.ex.os, e.tape.trans h.ex.tape, e.output.trans h.ex.output, Nat.le_trans h.ex.size e.size, fun k hk hB => (e.block k (Nat.lt_of_lt_of_le hk h.ex.size) (fun z => hB (h5 k hk z))).trans (h.ex.block k hk hB)⟩, h.rR, h.sR, h.RB, h.hB, h.ge, ⟨Nat.lt_of_lt_of_le h.lt.1 e.size, Nat.lt_of_lt_of_le h.lt.2.1 e.size, Nat.lt_of_lt_of_le h.lt.2.2 e.size⟩⟩
theorem SW.exB (h : SW w0 w R B r q t o P S s v b tv) : Ex (fun k => B ≤ k) w0 w := h.ex.mono h.RB
theorem SW.low (h : SW w0 w R B r q t o P S s v b tv) (e : Below w.heap.size w w') : SW w0 w' R B r q t o P S s v b tv :=
  h.keep (Ex.of (S := fun _ => False) e) (fun z => z) (fun _ _ _ _ z => z) ⟨fun z => z, fun z => z, fun z => z⟩ (fun _ _ z => z) (fun _ _ z => z.elim)
theorem SW.lowE (h : SW w0 w R B r q t o P S s v b tv) (e : Ex (fun _ => False) w w') : SW w0 w' R B r q t o P S s v b tv := h.low (e.below (Nat.le_refl _) (fun _ _ z => z))
/-- the object i turns -/
theorem SW.chg (h : SW w0 w R B r q t o P S s v b tv) {i : Nat} (hi : i < 6) (e : Ex (S i) w w') {q' : OQ} {S' : Nat → Prop} (hq : q' w' (P i) S') (hf : Frm q') (hs : ∀ k, S' k → S i k ∨ w.heap.size ≤ k) (hl : ∀ k, S' k → B ≤ k ∧ k < w'.heap.size) {s' : St} (hq' : ∀ j, j < 6 → up (QS B s) i q' j = QS B s' j) : SW w0 w' R B r q t o P (up S i S') s' v b tv := by
  have hn := h.nS i hi
  refine ⟨(h.bn.chg hi e hq hf hs hl).re hq' (frm_s B s'), h.sc.keep e hn.1 hn.2.1 hn.2.2, fun j hj => ?_, h.ne, own_kept h.tx e (fun k hk => (h.tn k hk).2.2.2.2 i hi), fun k hk => ⟨(h.tn k hk).1, (h.tn k hk).2.1, (h.tn k hk).2.2.1, (h.tn k hk).2.2.2.1, fun j hj z => ?_⟩, ⟨e.os.trans h.ex.os, e.tape.trans h.ex.tape, e.output.trans h.ex.output, Nat.le_trans h.ex.size e.size, fun k hk hB => (e.block k (Nat.lt_of_lt_of_le hk h.ex.size) (fun z => hB ((h.sR i hi k z).resolve_right (by omega)))).trans (h.ex.block k hk hB)⟩, h.rR, ?_, h.RB, h.hB, h.ge, ⟨Nat.lt_of_lt_of_le h.lt.1 e.size, Nat.lt_of_lt_of_le h.lt.2.1 e.size, Nat.lt_of_lt_of_le h.lt.2.2 e.size⟩⟩
  · by_cases z : j = i
    · subst z
      rw [up_at]
      have := h.lt
      exact ⟨fun z => (hs _ z).elim hn.1 (fun z => by omega), fun z => (hs _ z).elim hn.2.1 (fun z => by omega), fun z => (hs _ z).elim hn.2.2 (fun z => by omega)⟩
    · rw [up_ne _ _ z]; exact h.nS j hj
  · by_cases z2 : j = i
    · subst z2
      rw [up_at] at z
      rcases hs k z with y | y
      · exact (h.tn k hk).2.2.2.2 j hj y
      · have := (h.tx.lt k hk).2; omega
    · rw [up_ne _ _ z2] at z
      exact (h.tn k hk).2.2.2.2 j hj z
  · intro j hj k hk
    by_cases z : j = i
    · subst z
      rw [up_at] at hk
      rcases hs k hk with y | y
      · exact h.sR j hj k y
      · exact .inr (Nat.le_trans h.ex.size y)
    · rw [up_ne _ _ z] at hk
      exact h.sR j hj k hk
/-- a new object takes the place i -/
theorem SW.new (h : SW w0 w R B r q t o P S s v b tv) {i : Nat} (hi : i < 6) (e : Ex (fun _ => False) w w') {q' : OQ} {b' : Nat} {S' : Nat → Prop} (hq : q' w' b' S') (hf : Frm q') (hs : ∀ k, S' k → w.heap.size ≤ k ∧ B ≤ k ∧ k < w'.heap.size) {s' : St} (hq' : ∀ j, j < 6 → up (QS B s) i q' j = QS B s' j) : SW w0 (w'.setCell ⟨r, i, none⟩ (.pointer (some ⟨b', 0, none⟩))) R B r q t o (up P i b') (up S i S') s' v b tv := by
  have h1 := h.lowE e
  have e2 : Ex (fun k => k = r) w' (w'.setCell ⟨r, i, none⟩ (.pointer (some ⟨b', 0, none⟩))) := (Ex.refl (fun k => k = r) w').set (p := r) rfl _
  have hne := h.ne
  refine ⟨(h.bn.new hi e hq hf hs).re hq' (frm_s B s'), h1.sc.keep e2 (fun z => hne.2.2.2.1 z.symm) (fun z => hne.2.2.2.2.1 z.symm) (fun z => hne.2.2.2.2.2 z.symm), fun j hj => ?_, h.ne, own_kept h1.tx e2 (fun k hk z => (h.tn k hk).2.2.2.1 z), fun k hk => ⟨(h.tn k hk).1, (h.tn k hk).2.1, (h.tn k hk).2.2.1, (h.tn k hk).2.2.2.1, fun j hj z => ?_⟩, ⟨h1.ex.os, h1.ex.tape, h1.ex.output, by simpa using h1.ex.size, fun k hk hB => (e2.block k (Nat.lt_of_lt_of_le hk h1.ex.size) (fun z => hB (by rw [show k = r from z]; exact h.rR))).trans (h1.ex.block k hk hB)⟩, h.rR, ?_, h.RB, h.hB, h.ge, ?_⟩
  · by_cases z : j = i
    · subst z
      rw [up_at]
      have := h.lt
      exact ⟨fun z => by have := (hs _ z).1; omega, fun z => by have := (hs _ z).1; omega, fun z => by have := (hs _ z).1; omega⟩
    · rw [up_ne _ _ z]; exact h.nS j hj
  · by_cases z2 : j = i
    · subst z2
      rw [up_at] at z
      have := (h.tx.lt k hk).2
      have := (hs k z).1
      omega
    · rw [up_ne _ _ z2] at z
      exact (h.tn k hk).2.2.2.2 j hj z
  · intro j hj k hk
    by_cases z : j = i
    · subst z
      rw [up_at] at hk
      exact .inr (Nat.le_trans h.ex.size (hs k hk).1)
    · rw [up_ne _ _ z] at hk
      exact h.sR j hj k hk
  · have := h1.lt
    simpa using this
/-- the observation's cells -/
theorem SW.oset (h : SW w0 w R B r q t o P S s v b tv) (j : Nat) (u : Value) {b' : Ob} {tv' : Value} (hsc : SC3 (w.setCell ⟨o, j, none⟩ u) q t o v b' tv') (hX : b'.X = b.X) (htv : tv' = tv) : SW w0 (w.setCell ⟨o, j, none⟩ u) R B r q t o P S s v b' tv' := by
  have e : Ex (fun k => k = o) w (w.setCell ⟨o, j, none⟩ u) := (Ex.refl (fun k => k = o) w).set (p := o) rfl _
  have hne := h.ne
  subst htv
  have hex : Ex R w0 (w.setCell ⟨o, j, none⟩ u) := h.ex.setNew (p := o) h.ge.2.2 u
  refine ⟨h.bn.keep e (fun z => hne.2.2.2.2.2 z) (fun i hi k hk z => (h.nS i hi).2.2 (by rw [← show k = o from z]; exact hk)), hsc, h.nS, h.ne, by rw [hX]; exact own_kept h.tx e (fun k hk z => (h.tn k hk).2.2.1 z), h.tn, hex, h.rR, h.sR, h.RB, h.hB, h.ge, ?_⟩
  have := h.lt
  simpa using this
theorem set_oth {w : World} {o j a i : Nat} {u x : Value} (h : w.cell? ⟨a, i, none⟩ = some x) (hn : a ≠ o ∨ i ≠ j) : (w.setCell ⟨o, j, none⟩ u).cell? ⟨a, i, none⟩ = some x := by
  rw [World.cell?_setCell_other _ _ _ _ (fun z => by injection z with z1 z2; rcases hn with y | y; exact y z1.symm; exact y z2.symm)]
  exact h
theorem SW.er (h : SW w0 w R B r q t o P S s v b tv) (x : Int) : SW w0 (w.setCell ⟨o, 0, none⟩ (.int .i64 x)) R B r q t o P S s v { b with er := x } tv := by
  have c := h.sc
  have n := h.ne
  exact h.oset 0 _ ⟨set_oth c.q0 (.inl n.2.1), set_oth c.q1 (.inl n.2.1), set_oth c.q2 (.inl n.2.1), set_oth c.q3 (.inl n.2.1), set_oth c.t0 (.inl n.2.2.1), set_oth c.t1 (.inl n.2.2.1), set_oth c.t2 (.inl n.2.2.1), set_oth c.t3 (.inl n.2.2.1), set_oth c.t4 (.inl n.2.2.1), set_oth c.t5 (.inl n.2.2.1), fun j => by rw [set_frozen]; exact c.tf j, World.cell?_setCell_same _ _ _ c.o0, set_oth c.o1 (.inr (by decide)), set_oth c.o2 (.inr (by decide)), set_oth c.o3 (.inr (by decide)), set_oth c.o4 (.inr (by decide)), set_oth c.o5 (.inr (by decide)), fun j => by rw [set_frozen]; exact c.of j⟩ rfl rfl
theorem SW.on (h : SW w0 w R B r q t o P S s v b tv) (x : Int) : SW w0 (w.setCell ⟨o, 3, none⟩ (.int .i64 x)) R B r q t o P S s v { b with n := x } tv := by
  have c := h.sc
  have n := h.ne
  exact h.oset 3 _ ⟨set_oth c.q0 (.inl n.2.1), set_oth c.q1 (.inl n.2.1), set_oth c.q2 (.inl n.2.1), set_oth c.q3 (.inl n.2.1), set_oth c.t0 (.inl n.2.2.1), set_oth c.t1 (.inl n.2.2.1), set_oth c.t2 (.inl n.2.2.1), set_oth c.t3 (.inl n.2.2.1), set_oth c.t4 (.inl n.2.2.1), set_oth c.t5 (.inl n.2.2.1), fun j => by rw [set_frozen]; exact c.tf j, set_oth c.o0 (.inr (by decide)), set_oth c.o1 (.inr (by decide)), set_oth c.o2 (.inr (by decide)), World.cell?_setCell_same _ _ _ c.o3, set_oth c.o4 (.inr (by decide)), set_oth c.o5 (.inr (by decide)), fun j => by rw [set_frozen]; exact c.of j⟩ rfl rfl
theorem SW.om (h : SW w0 w R B r q t o P S s v b tv) (x : Int) : SW w0 (w.setCell ⟨o, 4, none⟩ (.int .i64 x)) R B r q t o P S s v { b with m := x } tv := by
  have c := h.sc
  have n := h.ne
  exact h.oset 4 _ ⟨set_oth c.q0 (.inl n.2.1), set_oth c.q1 (.inl n.2.1), set_oth c.q2 (.inl n.2.1), set_oth c.q3 (.inl n.2.1), set_oth c.t0 (.inl n.2.2.1), set_oth c.t1 (.inl n.2.2.1), set_oth c.t2 (.inl n.2.2.1), set_oth c.t3 (.inl n.2.2.1), set_oth c.t4 (.inl n.2.2.1), set_oth c.t5 (.inl n.2.2.1), fun j => by rw [set_frozen]; exact c.tf j, set_oth c.o0 (.inr (by decide)), set_oth c.o1 (.inr (by decide)), set_oth c.o2 (.inr (by decide)), set_oth c.o3 (.inr (by decide)), World.cell?_setCell_same _ _ _ c.o4, set_oth c.o5 (.inr (by decide)), fun j => by rw [set_frozen]; exact c.of j⟩ rfl rfl
/-- a whole fault -/
theorem SW.fa (h : SW w0 w R B r q t o P S s v b tv) (x y z : Int) : SW w0 (((w.setCell ⟨o, 0, none⟩ (.int .i64 x)).setCell ⟨o, 1, none⟩ (.int .i64 y)).setCell ⟨o, 2, none⟩ (.int .i64 z)) R B r q t o P S s v { b with er := x, ln := y, col := z } tv := by
  have h1 := h.er x
  have c := h1.sc
  have n := h.ne
  have h2 := h1.oset (b' := { b with er := x, ln := y }) (tv' := tv) 1 (.int .i64 y) ⟨set_oth c.q0 (.inl n.2.1), set_oth c.q1 (.inl n.2.1), set_oth c.q2 (.inl n.2.1), set_oth c.q3 (.inl n.2.1), set_oth c.t0 (.inl n.2.2.1), set_oth c.t1 (.inl n.2.2.1), set_oth c.t2 (.inl n.2.2.1), set_oth c.t3 (.inl n.2.2.1), set_oth c.t4 (.inl n.2.2.1), set_oth c.t5 (.inl n.2.2.1), fun j => by rw [set_frozen]; exact c.tf j, set_oth c.o0 (.inr (by decide)), World.cell?_setCell_same _ _ _ c.o1, set_oth c.o2 (.inr (by decide)), set_oth c.o3 (.inr (by decide)), set_oth c.o4 (.inr (by decide)), set_oth c.o5 (.inr (by decide)), fun j => by rw [set_frozen]; exact c.of j⟩ rfl rfl
  have c := h2.sc
  exact h2.oset 2 _ ⟨set_oth c.q0 (.inl n.2.1), set_oth c.q1 (.inl n.2.1), set_oth c.q2 (.inl n.2.1), set_oth c.q3 (.inl n.2.1), set_oth c.t0 (.inl n.2.2.1), set_oth c.t1 (.inl n.2.2.1), set_oth c.t2 (.inl n.2.2.1), set_oth c.t3 (.inl n.2.2.1), set_oth c.t4 (.inl n.2.2.1), set_oth c.t5 (.inl n.2.2.1), fun j => by rw [set_frozen]; exact c.tf j, set_oth c.o0 (.inr (by decide)), set_oth c.o1 (.inr (by decide)), World.cell?_setCell_same _ _ _ c.o2, set_oth c.o3 (.inr (by decide)), set_oth c.o4 (.inr (by decide)), set_oth c.o5 (.inr (by decide)), fun j => by rw [set_frozen]; exact c.of j⟩ rfl rfl
/-- the text, a new row -/
theorem SW.otx (h : SW w0 w R B r q t o P S s v b tv) {W0 : World} (hW : ∀ k, (∃ i, i < 6 ∧ S i k) → k < W0.heap.size) (hW2 : q < W0.heap.size ∧ t < W0.heap.size ∧ o < W0.heap.size ∧ r < W0.heap.size) {tv' : Value} {X : List Int} (hr : w.ownsRow W0.heap.size 5 1 tv' X.length (X.map (Value.int .u8))) (hB : w0.heap.size ≤ W0.heap.size) : SW w0 (w.setCell ⟨o, 5, none⟩ tv') R B r q t o P S s v { b with X := X } tv' := by
  have c := h.sc
  have n := h.ne
  have e : Ex (fun k => k = o) w (w.setCell ⟨o, 5, none⟩ tv') := (Ex.refl (fun k => k = o) w).set (p := o) rfl _
  have hex : Ex R w0 (w.setCell ⟨o, 5, none⟩ tv') := h.ex.setNew (p := o) h.ge.2.2 tv'
  refine ⟨h.bn.keep e (fun z => n.2.2.2.2.2 z) (fun i hi k hk z => (h.nS i hi).2.2 (by rw [← show k = o from z]; exact hk)), ⟨set_oth c.q0 (.inl n.2.1), set_oth c.q1 (.inl n.2.1), set_oth c.q2 (.inl n.2.1), set_oth c.q3 (.inl n.2.1), set_oth c.t0 (.inl n.2.2.1), set_oth c.t1 (.inl n.2.2.1), set_oth c.t2 (.inl n.2.2.1), set_oth c.t3 (.inl n.2.2.1), set_oth c.t4 (.inl n.2.2.1), set_oth c.t5 (.inl n.2.2.1), fun j => by rw [set_frozen]; exact c.tf j, set_oth c.o0 (.inr (by decide)), set_oth c.o1 (.inr (by decide)), set_oth c.o2 (.inr (by decide)), set_oth c.o3 (.inr (by decide)), set_oth c.o4 (.inr (by decide)), World.cell?_setCell_same _ _ _ c.o5, fun j => by rw [set_frozen]; exact c.of j⟩, h.nS, h.ne, own_kept (own_base hB hr) e (fun k hk (z : k = o) => by have := (hr.lt k hk).1; omega), fun k hk => ?_, hex, h.rR, h.sR, h.RB, h.hB, h.ge, ?_⟩
  · have hk2 := (hr.lt k hk).1
    exact ⟨by omega, by omega, by omega, by omega, fun i hi z => by have := hW k ⟨i, hi, z⟩; omega⟩
  · have := h.lt
    simpa using this
end
/-- what a step leaves -/
def SpPost (w0 : World) (R : Nat → Prop) (B r : Nat) (s' : St) (b : Ob) (e : Ending) (w' : World) : Prop := ∃ tv, e = .returned (obV b tv) ∧ (∃ P' S', BN w' B r P' S' (QS B s') ∧ ∀ i, i < 6 → ∀ k, S' i k → R k ∨ w0.heap.size ≤ k) ∧ w'.ownsRow w0.heap.size 5 1 tv b.X.length (b.X.map (Value.int .u8)) ∧ Ex R w0 w'
def fin6 (w : World) (t : Nat) (b : Ob) (tv : Value) : World := ((((((w.setCell ⟨t, 0, none⟩ (.int .i64 b.er)).setCell ⟨t, 1, none⟩ (.int .i64 b.ln)).setCell ⟨t, 2, none⟩ (.int .i64 b.col)).setCell ⟨t, 3, none⟩ (.int .i64 b.n)).setCell ⟨t, 4, none⟩ (.int .i64 b.m)).setCell ⟨t, 5, none⟩ tv)
theorem SW.fin {w0 w : World} {R : Nat → Prop} {B r q t o : Nat} {P : Nat → Nat} {S : Nat → Nat → Prop} {s : St} {v : OpV} {b : Ob} {tv : Value} (h : SW w0 w R B r q t o P S s v b tv) : SpPost w0 R B r s b (.returned (obV b tv)) (fin6 w t b tv) := by
  have e : Ex (fun k => k = t) w (fin6 w t b tv) := ((((((Ex.refl (fun k => k = t) w).set (p := t) rfl _).set (p := t) rfl _).set (p := t) rfl _).set (p := t) rfl _).set (p := t) rfl _).set (p := t) rfl _
  have h' : BN (fin6 w t b tv) B r P S (QS B s) := h.bn.keep e (fun z => h.ne.2.2.2.2.1 z) (fun i hi k hk z => (h.nS i hi).2.1 (by rw [← show k = t from z]; exact hk))
  refine ⟨tv, rfl, ⟨P, S, h', h.sR⟩, own_kept h.tx e (fun k hk z => (h.tn k hk).2.1 z), h.ex.trans2 e (fun j (z : j = t) => .inr (by rw [z]; exact h.ge.2.1))⟩
theorem fin_cells {w : World} {q t o : Nat} {v : OpV} {b : Ob} {tv : Value} (h : SC3 w q t o v b tv) : (fin6 w t b tv).cell? ⟨t, 0, none⟩ = some (.int .i64 b.er) ∧ (fin6 w t b tv).cell? ⟨t, 1, none⟩ = some (.int .i64 b.ln) ∧ (fin6 w t b tv).cell? ⟨t, 2, none⟩ = some (.int .i64 b.col) ∧ (fin6 w t b tv).cell? ⟨t, 3, none⟩ = some (.int .i64 b.n) ∧ (fin6 w t b tv).cell? ⟨t, 4, none⟩ = some (.int .i64 b.m) ∧ (fin6 w t b tv).cell? ⟨t, 5, none⟩ = some tv := by
  have k0 : ∀ u, (w.setCell ⟨t, 0, none⟩ u).cell? ⟨t, 0, none⟩ = some u := fun u => World.cell?_setCell_same _ _ _ h.t0
  unfold fin6
  refine ⟨?_, ?_, ?_, ?_, ?_, ?_⟩
  · exact set_oth (set_oth (set_oth (set_oth (set_oth (k0 _) (.inr (by decide))) (.inr (by decide))) (.inr (by decide))) (.inr (by decide))) (.inr (by decide))
  · exact set_oth (set_oth (set_oth (set_oth (World.cell?_setCell_same _ _ _ (set_oth h.t1 (.inr (by decide)))) (.inr (by decide))) (.inr (by decide))) (.inr (by decide))) (.inr (by decide))
  · exact set_oth (set_oth (set_oth (World.cell?_setCell_same _ _ _ (set_oth (set_oth h.t2 (.inr (by decide))) (.inr (by decide)))) (.inr (by decide))) (.inr (by decide))) (.inr (by decide))
  · exact set_oth (set_oth (World.cell?_setCell_same _ _ _ (set_oth (set_oth (set_oth h.t3 (.inr (by decide))) (.inr (by decide))) (.inr (by decide)))) (.inr (by decide))) (.inr (by decide))
  · exact set_oth (World.cell?_setCell_same _ _ _ (set_oth (set_oth (set_oth (set_oth h.t4 (.inr (by decide))) (.inr (by decide))) (.inr (by decide))) (.inr (by decide)))) (.inr (by decide))
  · exact World.cell?_setCell_same _ _ _ (set_oth (set_oth (set_oth (set_oth (set_oth h.t5 (.inr (by decide))) (.inr (by decide))) (.inr (by decide))) (.inr (by decide))) (.inr (by decide)))
theorem sw_new {w : World} {B r : Nat} {P : Nat → Nat} {S : Nat → Nat → Prop} {s : St} (v : OpV) (h : BN w B r P S (QS B s)) (hB : B ≤ w.heap.size) : SW w (((w.alloc (.cells #[.int .i64 v.kd, .int .i64 v.a, .slice v.la v.ln v.lc, .slice v.ta v.tn v.tc] 37)).alloc (.cells #[.int .i64 0, .int .i64 0, .int .i64 0, .int .i64 0, .int .i64 0, .slice none 0 0] 43)).alloc (.cells #[.int .i64 0, .int .i64 0, .int .i64 0, .int .i64 0, .int .i64 0, .slice none 0 0] 43)) (fp r S) B r w.heap.size (w.heap.size + 1) (w.heap.size + 1 + 1) P S s v ob0 (.slice none 0 0) := by
  have e : Ex (fun _ => False) w (((w.alloc (.cells #[.int .i64 v.kd, .int .i64 v.a, .slice v.la v.ln v.lc, .slice v.ta v.tn v.tc] 37)).alloc (.cells #[.int .i64 0, .int .i64 0, .int .i64 0, .int .i64 0, .int .i64 0, .slice none 0 0] 43)).alloc (.cells #[.int .i64 0, .int .i64 0, .int .i64 0, .int .i64 0, .int .i64 0, .slice none 0 0] 43)) := (((Ex.refl _ w).alloc _).alloc _).alloc _
  have hr := h.rlt
  have hS : ∀ i, i < 6 → ∀ k, S i k → k < w.heap.size := fun i hi k hk => (h.rg i hi k hk).2
  refine ⟨h.keep e (fun z => z) (fun _ _ _ _ z => z), ?_, fun i hi => ⟨fun z => by have := hS i hi _ z; omega, fun z => by have := hS i hi _ z; omega, fun z => by have := hS i hi _ z; omega⟩, by omega, World.ownsRow_nil _ _ _ _, (fun k hk => by cases hk), e.mono (fun _ z => z.elim), .inl rfl, (fun i hi k hk => .inl (.inr ⟨i, hi, hk⟩)), (fun k hk => hk.elim (fun z => by rw [z]; exact h.rB) (fun ⟨i, hi, z⟩ => (h.rg i hi k z).1)), hB, by omega, by simp; omega⟩
  constructor <;> simp [go_sem, ob0]
end Go.Proofs.Qxb6500773aGreat
