import Derived.Test.Qxb6500773aGreatFm1
import Derived.Deep.CutBlock
namespace Go.Proofs.Qxb6500773aGreat
set_option maxRecDepth 100000
open Go.RowKit

/-- A formula in memory. -/
structure FF (w : World) (B b : Nat) (va ve : Value) (nv : Int) (L E : List Int) : Prop where
  ar : AR w B b 1 va ve L E
  c : w.cell? ⟨b, 0, none⟩ = some (.int .i64 nv)
section
variable {w w' : World} {B b : Nat} {va ve : Value} {nv : Int} {L E : List Int}
theorem FF.keep (h : FF w B b va ve nv L E) {S : Nat → Prop} (k : Ex S w w') (h1 : ¬ S b) (h2 : ∀ j, B ≤ j → ¬ S j) : FF w' B b va ve nv L E :=
  ⟨h.ar.keep k h1 (fun j z => h2 j (h.ar.r0.lt j z).1) (fun j z => h2 j (h.ar.r1.lt j z).1), k.cell h1 h.c⟩
theorem FF.below (h : FF w B b va ve nv L E) (k : Below w.heap.size w w') : FF w' B b va ve nv L E := h.keep (Ex.of (S := fun _ => False) k) (fun e => e) (fun _ _ e => e)
theorem FF.base {B' : Nat} (hB : B' ≤ B) (h : FF w B b va ve nv L E) : FF w B' b va ve nv L E :=
  ⟨⟨h.ar.c0, h.ar.c1, h.ar.f, own_base hB h.ar.r0, own_base hB h.ar.r1, h.ar.a0, h.ar.a1, h.ar.a2⟩, h.c⟩
end
theorem ff_new {w : World} {B : Nat} {va ve : Value} {nv : Int} (h1 : w.ownsRow B 64 1 va 0 []) (h2 : w.ownsRow B 3 1 ve 0 []) (d1 : ∀ k, va.ownBlock = some k → ve.ownBlock ≠ some k) :
    FF (w.alloc (.cells #[.int .i64 nv, va, ve] 73)) B w.heap.size va ve nv [] [] :=
  ⟨⟨by simp [go_sem], by simp [go_sem], fun j => by simp [go_sem], h1.alloc _, h2.alloc _, own_far h1 (Nat.le_refl _), own_far h2 (Nat.le_refl _), d1⟩, by simp [go_sem]⟩
def FdPost (w : World) (T : Nat → Int) (n : Nat) (e : Ending) (w' : World) : Prop := Below w.heap.size w w' ∧
  ((∃ er ln col, e = .returned (.tuple #[.pointer none, faV er ln col]) ∧ er ≠ 0 ∧ ((∃ p, hdP T n ⟨0, 1, 0⟩ = .bad er p ∧ ln = p.line ∧ col = colP p) ∨ (∃ hv hc p st, hdP T n ⟨0, 1, 0⟩ = .ok hv hc p ∧ FRun T n hv hc ⟨p, [], []⟩ st ∧ FOk n hv hc st ∧ fStep T n hv hc st = .bad er ln col))) ∨
   (∃ hv hc p st b va ve, hdP T n ⟨0, 1, 0⟩ = .ok hv hc p ∧ FRun T n hv hc ⟨p, [], []⟩ st ∧ FOk n hv hc st ∧ fStep T n hv hc st = .done ∧ e = .returned (.tuple #[.pointer (some ⟨b, 0, none⟩), faV 0 0 0]) ∧ FF w' w.heap.size b va ve hv st.L st.E ∧ w.heap.size ≤ b))
/-- The state of the parse in memory. -/
structure FM (w wr : World) (r s x B b : Nat) (a : Option Addr) (n c : Nat) (T : Nat → Int) (hv hc : Int) (st : FSt) : Prop where
  bl : Below w.heap.size w wr
  sc : SC wr s a n c T st.p.off st.p.line st.p.bol
  ff : ∃ va ve, FF wr B b va ve hv st.L st.E
  r0 : wr.cell? ⟨r, 0, none⟩ = some (.int .i64 0)
  r1 : wr.cell? ⟨r, 1, none⟩ = some (.int .i64 0)
  r2 : wr.cell? ⟨r, 2, none⟩ = some (.int .i64 0)
  rf : ∀ j, wr.frozen? ⟨r, j, none⟩ = false
  h0 : wr.cell? ⟨x, 0, none⟩ = some (.int .i64 hv)
  h1 : wr.cell? ⟨x, 1, none⟩ = some (.int .i64 hc)
  l1 : w.heap.size ≤ r
  l2 : r < s
  l3 : s < x ∧ x < B
  l4 : B ≤ b
  l5 : B ≤ wr.heap.size
  l6 : 0 < n → ∀ g o, a = some ⟨g, o, none⟩ → g < w.heap.size
section
variable {w wr w' : World} {r s x B b : Nat} {a : Option Addr} {n c : Nat} {T : Nat → Int} {hv hc : Int} {st : FSt}
theorem FM.lts (h : FM w wr r s x B b a n c T hv hc st) : w.heap.size ≤ s := by have := h.l1; have := h.l2; omega
theorem FM.below (h : FM w wr r s x B b a n c T hv hc st) (k : Below wr.heap.size wr w') : FM w w' r s x B b a n c T hv hc st := by
  obtain ⟨va, ve, hp⟩ := h.ff
  exact ⟨lec h.bl k, h.sc.below k, ⟨va, ve, hp.below k⟩, cellKeep k h.r0, cellKeep k h.r1, cellKeep k h.r2, fun j => (World.frozen?_of_block (k.block r (World.block_lt_of_cell? _ _ h.r0))).trans (h.rf j), cellKeep k h.h0, cellKeep k h.h1, h.l1, h.l2, h.l3, h.l4, Nat.le_trans h.l5 k.size, h.l6⟩
theorem FM.scan (h : FM w wr r s x B b a n c T hv hc st) (k : Ex (fun k => k = s) wr w') {p : Plc} (hs : SC w' s a n c T p.off p.line p.bol) : FM w w' r s x B b a n c T hv hc ⟨p, st.L, st.E⟩ := by
  obtain ⟨va, ve, hp⟩ := h.ff
  have h1 := h.lts
  have h2 := h.l2
  have h3 := h.l3
  have h4 := h.l4
  have nr : ¬ r = s := by omega
  have nx : ¬ x = s := by omega
  exact ⟨h.bl.trans (k.below h.bl.size (fun j hj e => by omega)), hs, ⟨va, ve, hp.keep k (by show ¬ b = s; omega) (fun j hj e => by omega)⟩, k.cell nr h.r0, k.cell nr h.r1, k.cell nr h.r2, fun j => (k.frozen nr (World.block_lt_of_cell? _ _ h.r0)).trans (h.rf j), k.cell nx h.h0, k.cell nx h.h1, h.l1, h.l2, h.l3, h.l4, Nat.le_trans h.l5 k.size, h.l6⟩
theorem FM.deep (h : FM w wr r s x B b a n c T hv hc st) {S : Nat → Prop} (k : Ex S wr w') (hS : ∀ j, S j → B ≤ j) {L E : List Int} (hp : ∃ va ve, FF w' B b va ve hv L E) : FM w w' r s x B b a n c T hv hc ⟨st.p, L, E⟩ := by
  have h1 := h.lts
  have h2 := h.l2
  have h3 := h.l3
  have h4 := h.l4
  have nr : ¬ S r := fun z => by have := hS r z; omega
  have ns : ¬ S s := fun z => by have := hS s z; omega
  have nx : ¬ S x := fun z => by have := hS x z; omega
  exact ⟨h.bl.trans (k.below h.bl.size (fun j hj e => by have := hS j e; omega)), h.sc.keep k ns (fun hn g o e z => by have := hS g z; have := h.l6 hn g o e; omega), hp, k.cell nr h.r0, k.cell nr h.r1, k.cell nr h.r2, fun j => (k.frozen nr (World.block_lt_of_cell? _ _ h.r0)).trans (h.rf j), k.cell nx h.h0, k.cell nx h.h1, h.l1, h.l2, h.l3, h.l4, Nat.le_trans h.l5 k.size, h.l6⟩
end
theorem fm_new {w w4 w7 : World} {r s x b : Nat} {a : Option Addr} {n c : Nat} {T : Nat → Int} {p : Plc} {hv hc : Int} {va ve : Value} (h0 : Below w.heap.size w w4) (hs : SC w4 s a n c T p.off p.line p.bol) (hq : w4.cell? ⟨r, 0, none⟩ = some (.int .i64 0) ∧ w4.cell? ⟨r, 1, none⟩ = some (.int .i64 0) ∧ w4.cell? ⟨r, 2, none⟩ = some (.int .i64 0) ∧ ∀ j, w4.frozen? ⟨r, j, none⟩ = false) (hg : w4.cell? ⟨x, 0, none⟩ = some (.int .i64 hv) ∧ w4.cell? ⟨x, 1, none⟩ = some (.int .i64 hc)) (hb : Below w4.heap.size w4 w7) (hp : FF w7 w4.heap.size b va ve hv [] []) (l1 : w.heap.size ≤ r) (l2 : r < s) (l3 : s < x ∧ x < w4.heap.size) (l4 : w4.heap.size ≤ b) (l6 : 0 < n → ∀ g o, a = some ⟨g, o, none⟩ → g < w.heap.size) : FM w w7 r s x w4.heap.size b a n c T hv hc ⟨p, [], []⟩ :=
  ⟨lec h0 hb, hs.below hb, ⟨va, ve, hp⟩, cellKeep hb hq.1, cellKeep hb hq.2.1, cellKeep hb hq.2.2.1, fun j => (World.frozen?_of_block (hb.block r (World.block_lt_of_cell? _ _ hq.1))).trans (hq.2.2.2 j), cellKeep hb hg.1, cellKeep hb hg.2, l1, l2, l3, l4, hb.size, l6⟩
set_option linter.unusedSimpArgs false in
set_option maxHeartbeats 2000000 in
/-- cnf.Formula.NumClauses -/
theorem numClauses_any (w : World) (B b : Nat) (va ve : Value) (L E : List Int) (h : AR w B b 1 va ve L E) :
    Calls Tryz.prog 50 #[.pointer (some ⟨b, 0, none⟩)] w fun e w' => e = .returned (.int .i64 E.length) ∧ w' = w := by
  have hc := count_any w B b 1 va ve L E h
  go_enter Tryz.func50, Tryz.ntmps50
  go_wp2_with fail
  refine hc.mono ?_
  rintro e w' ⟨rfl, rfl⟩
  go_wp2
  go_ret
  exact ⟨rfl, rfl⟩
set_option linter.unusedSimpArgs false in
set_option maxHeartbeats 2000000 in
/-- cnf.Lit.Var -/
theorem litVar_any (w : World) (l : Int) (h : 0 ≤ l ∧ l ≤ 2147483647) : Calls Tryz.prog 106 #[.int .i32 l] w fun e w' => e = .returned (.int .i32 (l / 2)) ∧ w' = w := by
  have w3 : IntKind.i32.wrap (l / 2) = l / 2 := by rw [IntKind.wrap_i32]; omega
  go_enter Tryz.func106, Tryz.ntmps106
  go_wp2
  go_ret
  exact ⟨rfl, rfl⟩
end Go.Proofs.Qxb6500773aGreat
