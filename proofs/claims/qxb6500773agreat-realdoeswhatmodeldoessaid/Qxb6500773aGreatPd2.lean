import Derived.Test.Qxb6500773aGreatPd1
import Derived.Deep.CutBlock
namespace Go.Proofs.Qxb6500773aGreat
set_option maxRecDepth 100000
open Go.RowKit

/-- A proof in memory. -/
structure PF (w : World) (B b : Nat) (va ve vd : Value) (L E : List Int) (D : List Bool) : Prop where
  ar : AR w B b 0 va ve L E
  c2 : w.cell? ⟨b, 2, none⟩ = some vd
  r2 : w.ownsRow B 4 1 vd D.length (D.map Value.bool)
  a3 : vd.ownBlock ≠ some b
  a4 : ∀ k, va.ownBlock = some k → vd.ownBlock ≠ some k
  a5 : ∀ k, ve.ownBlock = some k → vd.ownBlock ≠ some k
section
variable {w w' : World} {B b : Nat} {va ve vd : Value} {L E : List Int} {D : List Bool}
theorem PF.keep (h : PF w B b va ve vd L E D) {S : Nat → Prop} (k : Ex S w w') (h1 : ¬ S b) (h2 : ∀ j, B ≤ j → ¬ S j) : PF w' B b va ve vd L E D :=
  ⟨h.ar.keep k h1 (fun j z => h2 j (h.ar.r0.lt j z).1) (fun j z => h2 j (h.ar.r1.lt j z).1), k.cell h1 h.c2, own_kept h.r2 k (fun j z => h2 j (h.r2.lt j z).1), h.a3, h.a4, h.a5⟩
theorem PF.below (h : PF w B b va ve vd L E D) (k : Below w.heap.size w w') : PF w' B b va ve vd L E D := h.keep (Ex.of (S := fun _ => False) k) (fun e => e) (fun _ _ e => e)
theorem PF.put (h : PF w B b va ve vd L E D) {x : Int} {g c : Nat} (k : AR w' B b 0 (.slice (some ⟨g, 0, none⟩) (L ++ [x]).length c) ve (L ++ [x]) E) (ex : Ex (fun k => k = b ∨ va.ownBlock = some k) w w') (hc : w'.cell? ⟨b, 2, none⟩ = some vd) (hg : va.ownBlock = some g ∨ w.heap.size ≤ g) : PF w' B b (.slice (some ⟨g, 0, none⟩) (L ++ [x]).length c) ve vd (L ++ [x]) E D :=
  ⟨k, hc, own_kept h.r2 ex (fun j z e => e.elim (fun e => h.a3 (e ▸ z)) (fun e => h.a4 j e z)), h.a3, fun j z => by cases z; exact hg.elim (h.a4 g) (fun z => own_far h.r2 z), h.a5⟩
theorem PF.fin (h : PF w B b va ve vd L E D) {x : Int} {g c : Nat} (k : AR w' B b 0 va (.slice (some ⟨g, 0, none⟩) (E ++ [x]).length c) L (E ++ [x])) (ex : Ex (fun k => k = b ∨ ve.ownBlock = some k) w w') (hc : w'.cell? ⟨b, 2, none⟩ = some vd) (hg : ve.ownBlock = some g ∨ w.heap.size ≤ g) : PF w' B b va (.slice (some ⟨g, 0, none⟩) (E ++ [x]).length c) vd L (E ++ [x]) D :=
  ⟨k, hc, own_kept h.r2 ex (fun j z e => e.elim (fun e => h.a3 (e ▸ z)) (fun e => h.a5 j e z)), h.a3, h.a4, fun j z => by cases z; exact hg.elim (h.a5 g) (fun z => own_far h.r2 z)⟩
theorem PF.del1 {w1 w2 : World} (h : PF w B b va ve vd L E D) (k1 : Below w.heap.size w w1) {x : Bool} {g cap : Nat} (hr : w2.ownsRow B 4 1 (.slice (some ⟨g, 0, none⟩) (D.length + 1) cap) (D.length + 1) (D.map Value.bool ++ [.bool x])) (hg : w1.grownBy w2 vd.ownBlock) (hat : vd.ownBlock = some g ∨ g = w1.heap.size) :
    PF (w2.setCell ⟨b, 2, none⟩ (.slice (some ⟨g, 0, none⟩) (D.length + 1) cap)) B b va ve (.slice (some ⟨g, 0, none⟩) (D ++ [x]).length cap) L E (D ++ [x]) ∧ Ex (fun k => k = b ∨ vd.ownBlock = some k) w (w2.setCell ⟨b, 2, none⟩ (.slice (some ⟨g, 0, none⟩) (D.length + 1) cap)) := by
  have hsz := k1.size
  have e1 : Ex (fun k => vd.ownBlock = some k) w w2 := (Ex.of k1).trans (Ex.ofGrown hg (fun k z => z.symm))
  have ex : Ex (fun k => k = b ∨ vd.ownBlock = some k) w (w2.setCell ⟨b, 2, none⟩ (.slice (some ⟨g, 0, none⟩) (D.length + 1) cap)) := (e1.mono fun k z => .inr z).set (.inl rfl) _
  have gb : g ≠ b := by
    rcases hat with z | z
    · exact fun e => h.a3 (e ▸ z)
    · have := h.ar.lt; omega
  have gva : va.ownBlock ≠ some g := by
    rcases hat with z | z
    · exact fun e => h.a4 g e z
    · exact own_far h.ar.r0 (by omega)
  have gve : ve.ownBlock ≠ some g := by
    rcases hat with z | z
    · exact fun e => h.a5 g e z
    · exact own_far h.ar.r1 (by omega)
  have c2 : w2.cell? ⟨b, 2, none⟩ = some vd := e1.cell h.a3 h.c2
  have hse : Ex (fun k => k = b) w2 (w2.setCell ⟨b, 2, none⟩ (.slice (some ⟨g, 0, none⟩) (D.length + 1) cap)) := (Ex.refl (fun k => k = b) _).set (p := b) rfl _
  have hl : (D ++ [x]).length = D.length + 1 := by simp
  have ar2 : AR w2 B b 0 va ve L E := h.ar.keep e1 h.a3 (fun j z e => h.a4 j z e) (fun j z e => h.a5 j z e)
  refine ⟨⟨⟨?_, ?_, ?_, ?_, ?_, h.ar.a0, h.ar.a1, h.ar.a2⟩, ?_, ?_, ?_, ?_, ?_⟩, ex⟩
  · rw [World.cell?_setCell_other _ _ _ _ (by simp)]; exact ar2.c0
  · rw [World.cell?_setCell_other _ _ _ _ (by simp)]; exact ar2.c1
  · intro j; rw [set_frozen]; exact ar2.f j
  · exact own_kept ar2.r0 hse (fun k z e => h.ar.a0 (e ▸ z))
  · exact own_kept ar2.r1 hse (fun k z e => h.ar.a1 (e ▸ z))
  · rw [World.cell?_setCell_same _ _ _ c2, hl]
  · rw [hl, List.map_append]; exact own_kept hr hse (fun k z e => gb (by cases z; exact e))
  · intro z; cases z; exact gb rfl
  · intro k z y; cases y; exact gva z
  · intro k z y; cases y; exact gve z
end
/-- A fault as a value. -/
def faV (er line col : Int) : Value := .agg #[.int .i64 er, .int .i64 line, .int .i64 col]
def PdPost (w : World) (T : Nat → Int) (n : Nat) (e : Ending) (w' : World) : Prop := ∃ st, Run T n dst0 st ∧ DOk n st ∧ Below w.heap.size w w' ∧
  ((∃ er ln col, dStep T n st = .bad er ln col ∧ er ≠ 0 ∧ e = .returned (.tuple #[.pointer none, faV er ln col])) ∨
   (dStep T n st = .done ∧ ∃ b va ve vd, e = .returned (.tuple #[.pointer (some ⟨b, 0, none⟩), faV 0 0 0]) ∧ PF w' w.heap.size b va ve vd st.L st.E st.D ∧ w.heap.size ≤ b))
/-- The state of the parse in memory. -/
structure DM (w wr : World) (r s B b : Nat) (a : Option Addr) (n c : Nat) (T : Nat → Int) (st : DSt) : Prop where
  bl : Below w.heap.size w wr
  sc : SC wr s a n c T st.p.off st.p.line st.p.bol
  pf : ∃ va ve vd, PF wr B b va ve vd st.L st.E st.D
  r0 : wr.cell? ⟨r, 0, none⟩ = some (.int .i64 0)
  r1 : wr.cell? ⟨r, 1, none⟩ = some (.int .i64 0)
  r2 : wr.cell? ⟨r, 2, none⟩ = some (.int .i64 0)
  rf : ∀ j, wr.frozen? ⟨r, j, none⟩ = false
  l1 : w.heap.size ≤ r
  l2 : r < s
  l3 : s < B
  l4 : B ≤ b
  l5 : B ≤ wr.heap.size
  l6 : 0 < n → ∀ g o, a = some ⟨g, o, none⟩ → g < w.heap.size
section
variable {w wr w' : World} {r s B b : Nat} {a : Option Addr} {n c : Nat} {T : Nat → Int} {st : DSt}
theorem DM.lts (h : DM w wr r s B b a n c T st) : w.heap.size ≤ s := by have := h.l1; have := h.l2; omega
theorem DM.below (h : DM w wr r s B b a n c T st) (k : Below wr.heap.size wr w') : DM w w' r s B b a n c T st := by
  obtain ⟨va, ve, vd, hp⟩ := h.pf
  exact ⟨lec h.bl k, h.sc.below k, ⟨va, ve, vd, hp.below k⟩, cellKeep k h.r0, cellKeep k h.r1, cellKeep k h.r2, fun j => (World.frozen?_of_block (k.block r (World.block_lt_of_cell? _ _ h.r0))).trans (h.rf j), h.l1, h.l2, h.l3, h.l4, Nat.le_trans h.l5 k.size, h.l6⟩
theorem DM.scan (h : DM w wr r s B b a n c T st) (k : Ex (fun k => k = s) wr w') {p : Plc} (hs : SC w' s a n c T p.off p.line p.bol) : DM w w' r s B b a n c T ⟨p, st.L, st.E, st.D, st.del⟩ := by
  obtain ⟨va, ve, vd, hp⟩ := h.pf
  have h1 := h.lts
  have h2 := h.l2
  have h3 := h.l3
  have h4 := h.l4
  refine ⟨h.bl.trans (k.below h.bl.size (fun j hj e => by omega)), hs, ⟨va, ve, vd, hp.keep k (by show ¬ b = s; omega) (fun j hj e => by omega)⟩, k.cell (by show ¬ r = s; omega) h.r0, k.cell (by show ¬ r = s; omega) h.r1, k.cell (by show ¬ r = s; omega) h.r2, fun j => (k.frozen (by show ¬ r = s; omega) (World.block_lt_of_cell? _ _ h.r0)).trans (h.rf j), h.l1, h.l2, h.l3, h.l4, Nat.le_trans h.l5 k.size, h.l6⟩
theorem DM.deep (h : DM w wr r s B b a n c T st) {S : Nat → Prop} (k : Ex S wr w') (hS : ∀ j, S j → B ≤ j) {L E : List Int} {D : List Bool} {d : Bool} (hp : ∃ va ve vd, PF w' B b va ve vd L E D) : DM w w' r s B b a n c T ⟨st.p, L, E, D, d⟩ := by
  have h1 := h.lts
  have h2 := h.l2
  have h3 := h.l3
  have h4 := h.l4
  have nr : ¬ S r := fun z => by have := hS r z; omega
  have ns : ¬ S s := fun z => by have := hS s z; omega
  exact ⟨h.bl.trans (k.below h.bl.size (fun j hj e => by have := hS j e; omega)), h.sc.keep k ns (fun hn g o e z => by have := hS g z; have := h.l6 hn g o e; omega), hp, k.cell nr h.r0, k.cell nr h.r1, k.cell nr h.r2, fun j => (k.frozen nr (World.block_lt_of_cell? _ _ h.r0)).trans (h.rf j), h.l1, h.l2, h.l3, h.l4, Nat.le_trans h.l5 k.size, h.l6⟩
theorem DM.flag (h : DM w wr r s B b a n c T st) (d : Bool) : DM w wr r s B b a n c T ⟨st.p, st.L, st.E, st.D, d⟩ := ⟨h.bl, h.sc, h.pf, h.r0, h.r1, h.r2, h.rf, h.l1, h.l2, h.l3, h.l4, h.l5, h.l6⟩
end
theorem own_base {w : World} {B B' e z n : Nat} {v : Value} {xs : List Value} (h : B ≤ B') (k : w.ownsRow B' e z v n xs) : w.ownsRow B e z v n xs := by
  refine ⟨k.1, ?_⟩
  rcases k.2 with r | ⟨g, cap, cur, e1, hb, rest⟩
  · exact .inl r
  · exact .inr ⟨g, cap, cur, e1, Nat.le_trans h hb, rest⟩
theorem pf_new {w : World} {B : Nat} {va ve vd : Value} (h1 : w.ownsRow B 64 1 va 0 []) (h2 : w.ownsRow B 3 1 ve 0 []) (h3 : w.ownsRow B 4 1 vd 0 []) (d1 : ∀ k, va.ownBlock = some k → ve.ownBlock ≠ some k) (d2 : ∀ k, va.ownBlock = some k → vd.ownBlock ≠ some k) (d3 : ∀ k, ve.ownBlock = some k → vd.ownBlock ≠ some k) :
    PF (w.alloc (.cells #[va, ve, vd] 79)) B w.heap.size va ve vd [] [] [] :=
  ⟨⟨by simp [go_sem], by simp [go_sem], fun j => by simp [go_sem], h1.alloc _, h2.alloc _, own_far h1 (Nat.le_refl _), own_far h2 (Nat.le_refl _), d1⟩, by simp [go_sem], h3.alloc _, own_far h3 (Nat.le_refl _), d2, d3⟩
theorem dm_new {w w2 w7 : World} {r s b : Nat} {a : Option Addr} {n c : Nat} {T : Nat → Int} {va ve vd : Value} (hs : SC w2 s a n c T 0 1 0) (hq : w2.cell? ⟨r, 0, none⟩ = some (.int .i64 0) ∧ w2.cell? ⟨r, 1, none⟩ = some (.int .i64 0) ∧ w2.cell? ⟨r, 2, none⟩ = some (.int .i64 0) ∧ ∀ j, w2.frozen? ⟨r, j, none⟩ = false) (h0 : Below w.heap.size w w2) (hb : Below w2.heap.size w2 w7) (hp : PF w7 w2.heap.size b va ve vd [] [] []) (l1 : w.heap.size ≤ r) (l2 : r < s) (l3 : s < w2.heap.size) (l4 : w2.heap.size ≤ b) (l6 : 0 < n → ∀ g o, a = some ⟨g, o, none⟩ → g < w.heap.size) : DM w w7 r s w2.heap.size b a n c T dst0 :=
  ⟨lec h0 hb, hs.below hb, ⟨va, ve, vd, hp⟩, cellKeep hb hq.1, cellKeep hb hq.2.1, cellKeep hb hq.2.2.1, fun j => (World.frozen?_of_block (hb.block r (World.block_lt_of_cell? _ _ hq.1))).trans (hq.2.2.2 j), l1, l2, l3, l4, hb.size, l6⟩
theorem set3 {w : World} {r : Nat} {u0 u1 u2 : Value} (v0 v1 v2 : Value) (r0 : w.cell? ⟨r, 0, none⟩ = some u0) (r1 : w.cell? ⟨r, 1, none⟩ = some u1) (r2 : w.cell? ⟨r, 2, none⟩ = some u2) :
    (((w.setCell ⟨r, 0, none⟩ v0).setCell ⟨r, 1, none⟩ v1).setCell ⟨r, 2, none⟩ v2).cell? ⟨r, 0, none⟩ = some v0 ∧ (((w.setCell ⟨r, 0, none⟩ v0).setCell ⟨r, 1, none⟩ v1).setCell ⟨r, 2, none⟩ v2).cell? ⟨r, 1, none⟩ = some v1 ∧ (((w.setCell ⟨r, 0, none⟩ v0).setCell ⟨r, 1, none⟩ v1).setCell ⟨r, 2, none⟩ v2).cell? ⟨r, 2, none⟩ = some v2 := by
  refine ⟨?_, ?_, ?_⟩
  · rw [World.cell?_setCell_other _ _ _ _ (by simp), World.cell?_setCell_other _ _ _ _ (by simp)]
    exact World.cell?_setCell_same _ _ _ r0
  · rw [World.cell?_setCell_other _ _ _ _ (by simp)]
    exact World.cell?_setCell_same _ _ _ (by rw [World.cell?_setCell_other _ _ _ _ (by simp)]; exact r1)
  · exact World.cell?_setCell_same _ _ _ (by rw [World.cell?_setCell_other _ _ _ _ (by simp), World.cell?_setCell_other _ _ _ _ (by simp)]; exact r2)
theorem PF.base {w : World} {B B' b : Nat} {va ve vd : Value} {L E : List Int} {D : List Bool} (hB : B ≤ B') (h : PF w B' b va ve vd L E D) : PF w B b va ve vd L E D :=
  ⟨⟨h.ar.c0, h.ar.c1, h.ar.f, own_base hB h.ar.r0, own_base hB h.ar.r1, h.ar.a0, h.ar.a1, h.ar.a2⟩, h.c2, own_base hB h.r2, h.a3, h.a4, h.a5⟩
theorem faCells {w : World} {l k : Int} : (w.alloc (.cells #[.int .i64 0, .int .i64 l, .int .i64 k] 41)).cell? ⟨w.heap.size, 0, none⟩ = some (.int .i64 0) ∧ (w.alloc (.cells #[.int .i64 0, .int .i64 l, .int .i64 k] 41)).cell? ⟨w.heap.size, 1, none⟩ = some (.int .i64 l) ∧ (w.alloc (.cells #[.int .i64 0, .int .i64 l, .int .i64 k] 41)).cell? ⟨w.heap.size, 2, none⟩ = some (.int .i64 k) ∧ ∀ j, (w.alloc (.cells #[.int .i64 0, .int .i64 l, .int .i64 k] 41)).frozen? ⟨w.heap.size, j, none⟩ = false := ⟨by simp [go_sem], by simp [go_sem], by simp [go_sem], by intro j; simp [go_sem]⟩
set_option linter.unusedSimpArgs false in
set_option maxRecDepth 100000 in
set_option maxHeartbeats 16000000 in
/-- cnf.ParseDrat -/
theorem parseDrat_any (w : World) (a : Option Addr) (n c : Nat) (T : Nat → Int) (h : BT w a n T) (hn : n ≤ 1000000) :
    Calls Tryz.prog 55 #[.slice a n c] w (PdPost w T n) := by
  have hlt : 0 < n → ∀ g o, a = some ⟨g, o, none⟩ → g < w.heap.size := fun hn0 g o e => by
    obtain ⟨g', o', e', hc, -⟩ := h 0 hn0
    rw [e] at e'
    cases e'
    exact World.block_lt_of_cell? _ _ hc
  have HB := hide h
  clear h
  have hln : IntKind.i64.wrap (n : Int) = (n : Int) := by rw [IntKind.wrap_i64]; omega
  obtain ⟨m, hm⟩ : ∃ m, n / 2 + 1 = m := ⟨_, rfl⟩
  have hm2 : (n : Int) / 2 + 1 = (m : Int) := by omega
  have hmk3 := run_make0 (P := Tryz.prog) 77 4 (.bool false) 1 Tryz.underlying77 Tryz.info4 m (by omega) (by omega)
  go_enter Tryz.func55, Tryz.ntmps55
  go_wp2_with fail
  refine (newScanner_any _ a n c).mono ?_
  rintro e w1 ⟨rfl, hb1⟩
  go_upto_region 3 with fail
  have HSC := hide (show SC (w1.alloc (.cells #[.slice a n c, .int .i64 0, .int .i64 1, .int .i64 0] 157)) w1.heap.size a n c T 0 1 0 from by
    have hh : 0 < n → ∀ g o, a = some ⟨g, o, none⟩ → g ≠ w1.heap.size := fun hn0 g o e z => by have := hlt hn0 g o e; have := hb1.size; simp at this; omega
    refine ⟨?_, ?_, ?_, ?_, ?_, ?_, hh⟩
    · simp [go_sem]
    · simp [go_sem]
    · simp [go_sem]
    · simp [go_sem]
    · intro j; simp [go_sem]
    · exact HB.out.below (lec (lec (be1 w _) hb1) (be1 w1 _)))
  have HR := hide (show ∃ q : World, (q.cell? ⟨w.heap.size, 0, none⟩ = some (.int .i64 0) ∧ q.cell? ⟨w.heap.size, 1, none⟩ = some (.int .i64 0) ∧ q.cell? ⟨w.heap.size, 2, none⟩ = some (.int .i64 0) ∧ ∀ j, q.frozen? ⟨w.heap.size, j, none⟩ = false) ∧ w.heap.size < q.heap.size ∧ Below w.heap.size w q ∧ Below q.heap.size q (w1.alloc (.cells #[.slice a n c, .int .i64 0, .int .i64 1, .int .i64 0] 157)) from ⟨_, ⟨by simp [go_sem], by simp [go_sem], by simp [go_sem], by intro j; simp [go_sem]⟩, by simp, be1 w _, lec hb1 (be1 w1 _)⟩)
  have hs1 : w.heap.size < w1.heap.size := by have := hb1.size; simp at this; omega
  clear hb1
  generalize hw2 : w1.alloc (.cells #[.slice a n c, .int .i64 0, .int .i64 1, .int .i64 0] 157) = w2 at *
  have HS2 := hide (show w2.heap.size = w1.heap.size + 1 by rw [← hw2]; simp)
  clear hw2
  generalize w1.heap.size = s at *
  obtain ⟨q, ⟨q0, q1, q2, qf⟩, ql, qb, qk⟩ := HR.out
  have HB0 := hide (lec qb qk)
  have HQ := hide (show w2.cell? ⟨w.heap.size, 0, none⟩ = some (.int .i64 0) ∧ w2.cell? ⟨w.heap.size, 1, none⟩ = some (.int .i64 0) ∧ w2.cell? ⟨w.heap.size, 2, none⟩ = some (.int .i64 0) ∧ ∀ j, w2.frozen? ⟨w.heap.size, j, none⟩ = false from ⟨cellKeep qk q0, cellKeep qk q1, cellKeep qk q2, fun j => (World.frozen?_of_block (qk.block _ ql)).trans (qf j)⟩)
  clear HR q0 q1 q2 qf ql qb qk HB
  go_cut [6] (fun s6 wx => ∃ b, s6 = .pointer (some ⟨b, 0, none⟩) ∧ DM w wx w.heap.size s w2.heap.size b a n c T dst0)
  case first =>
    have nA := fun w5 => hide (newArena_any w5 m m (by omega) (by omega))
    go_region_law (first
      | (refine step_call rfl 115 #[.int .i64 m, .int .i64 m] (by simp [go_sem]) (nA _).out ?_; rintro e w5 ⟨g1, c1, g2, c2, rfl, hr1, hr2, hne, hb5⟩; refine ⟨_, rfl, ?_⟩))
    · have hv := World.ownsRow_made (base := w2.heap.size) (e := 4) (size := 1) w5 (madeCells #[Value.bool false] m) m hb5.size (by unfold maxLen; omega) (by rw [size_madeCells, Nat.mul_one])
      have hB1 : Below w2.heap.size w2 w5 := of_drew hb5
      have hp := pf_new (hr1.alloc (.cells (madeCells #[Value.bool false] m) 4)) (hr2.alloc (.cells (madeCells #[Value.bool false] m) 4)) hv (fun k z y => by cases z; cases y; exact hne rfl) (fun k z y => by cases z; cases y; exact absurd (hr1.lt _ rfl).2 (Nat.lt_irrefl _)) (fun k z y => by cases z; cases y; exact absurd (hr2.lt _ rfl).2 (Nat.lt_irrefl _))
      rw [show (w5.alloc (.cells (madeCells #[Value.bool false] m) 4)).heap.size = w5.heap.size + 1 by simp] at hp
      have hbl := hide (lec (lec hB1 (be1 w5 (.cells (madeCells #[Value.bool false] m) 4))) (be1 _ (.cells #[.slice (some ⟨g1, 0, none⟩) 0 c1, .slice (some ⟨g2, 0, none⟩) 0 c2, .slice (some ⟨w5.heap.size, 0, none⟩) 0 m] 79)))
      have HP := hide hp
      clear hp hr1 hr2 hv hb5 hmk3 nA
      have HD := hide (dm_new HSC.out HQ.out HB0.out hbl.out HP.out (Nat.le_refl _) hs1 (by have := HS2.out; omega) (by have := hB1.size; omega) hlt)
      go_wp2
      go_meet
      exact ⟨_, rfl, HD.out⟩
    · have hv := World.ownsRow_made (base := w2.heap.size) (e := 4) (size := 1) w2 (madeCells #[Value.bool false] m) m (Nat.le_refl _) (by unfold maxLen; omega) (by rw [size_madeCells, Nat.mul_one])
      have hB1 : Below w2.heap.size w2 w5 := lec (be1 w2 _) (of_drew hb5)
      have hle : w2.heap.size ≤ (w2.alloc (.cells (madeCells #[Value.bool false] m) 4)).heap.size := (be1 w2 _).size
      have hv5 := own_kept hv (Ex.of (S := fun _ => False) (of_drew hb5)) (fun _ _ e => e)
      have hp := pf_new (own_base hle hr1) (own_base hle hr2) hv5 (fun k z y => by cases z; cases y; exact hne rfl) (fun k z y => by cases z; cases y; exact absurd (hr1.lt _ rfl).1 (by simp)) (fun k z y => by cases z; cases y; exact absurd (hr2.lt _ rfl).1 (by simp))
      have hbl := hide (lec hB1 (be1 _ (.cells #[.slice (some ⟨g1, 0, none⟩) 0 c1, .slice (some ⟨g2, 0, none⟩) 0 c2, .slice (some ⟨w2.heap.size, 0, none⟩) 0 m] 79)))
      have HP := hide hp
      clear hp hr1 hr2 hv hb5 hmk3 nA hv5
      have HD := hide (dm_new HSC.out HQ.out HB0.out hbl.out HP.out (Nat.le_refl _) hs1 (by have := HS2.out; omega) hB1.size hlt)
      go_wp2
      go_meet
      exact ⟨_, rfl, HD.out⟩
  obtain ⟨b, rfl, hdm⟩ := hcut
  have HDM := hide hdm
  have HNB := hide hn
  clear HSC HQ HB0 HS2 hdm hmk3 hs1 hm2 hm hln
  generalize w2.heap.size = B at *
  obtain ⟨r, hr⟩ : ∃ r, w.heap.size = r := ⟨_, rfl⟩
  rw [hr] at HDM ⊢
  clear hr
  obtain ⟨i0, hi0, hz0, hz1, hz2⟩ := info_of Tryz.info4
  have HI := hide (And.intro hi0 (And.intro hz0 (And.intro hz1 hz2)))
  clear hi0 hz0 hz1 hz2
  go_wp2
  go_loopw [7, 8, 9, 10] (fun s7 _ _ _ wr => ∃ st, s7 = .bool st.del ∧ Hid (Run T n dst0 st) ∧ Hid (DOk n st) ∧ DM w wr r s B b a n c T st) (fun _ _ _ _ wr => offLeft s n wr)
  case atStart => exact ⟨dst0, rfl, hide (.refl _), hide (dok0 n), HDM.out⟩
  case round =>
    clear HDM
    obtain ⟨st, rfl, HRUN, HOK, hdm⟩ := hrel
    have HDM := hide hdm
    have HOL := hide (offLeft_at (n := n) hdm.sc.c1)
    clear hdm
    go_wp2_with fail
    refine (seek_any _ s n c a T st.p HDM.out.sc (by omega) HOK.out.pl).mono ?_
    rintro e w3 ⟨rfl, hsc, hpl, hex⟩
    have HDM3 := hide (HDM.out.scan hex hsc)
    have HPL := hide hpl
    have HRG := hide (seekF_rng T n st.p HOK.out.pl)
    have HST := hide (show dStep T n st = if (seekF T n st.p).1 = true then
      (if ((!st.del && !pendP st.L st.E) && wordB T (seekF T n st.p).2.off (tokE T n (n - (seekF T n st.p).2.off) (seekF T n st.p).2.off) [100]) = true then .go ⟨⟨tokE T n (n - (seekF T n st.p).2.off) (seekF T n st.p).2.off, (seekF T n st.p).2.line, (seekF T n st.p).2.bol⟩, st.L, st.E, st.D, true⟩ else tok1 T n st (seekF T n st.p).2)
      else if (st.del || pendP st.L st.E) = true then .bad 11 (seekF T n st.p).2.line (colP (seekF T n st.p).2) else .done from rfl)
    clear hsc hpl hex HDM
    obtain ⟨R, hR⟩ : ∃ R, seekF T n st.p = R := ⟨_, rfl⟩
    rw [hR] at HDM3 HPL HRG HST ⊢
    clear hR
    obtain ⟨fd, p⟩ := R
    dsimp only at HDM3 HPL HRG HST ⊢
    have HSL := hide (clsP_rng HOK.out)
    have HEL := hide (show st.E.length ≤ 1000000 ∧ st.L.length ≤ 1000000 from by have := HOK.out.len; have := HOK.out.pl.off; have := HNB.out; omega)
    obtain ⟨q, L, E, D, del⟩ := st
    dsimp only at HDM3 HST HOL HSL HEL ⊢
    cases fd
    · rw [if_neg (by decide)] at HST
      cases del
      · go_wp2_with fail
        obtain ⟨va, ve, vd, hpf⟩ := HDM3.out.pf
        refine (pending_any _ B b 0 va ve L E hpf.ar (by have := HEL.out; omega)).mono ?_
        rintro e w4 ⟨rfl, hb4⟩
        replace HDM3 := hide (HDM3.out.below hb4)
        replace hpf := hide (hpf.below hb4)
        clear hb4
        by_cases hpd : clsP E < L.length
        · have hpb : decide (clsP E < L.length) = true := by simpa using hpd
          rw [if_pos (by show (false || decide (clsP E < L.length)) = true; rw [hpb]; rfl)] at HST
          clear hpd hpf
          go_wp2_with fail
          refine (fault_any _ s n c p.off p.bol a T p.line 11 HDM3.out.sc (by omega) HPL.out.off HPL.out.bol).mono ?_
          rintro e w5 ⟨rfl, hb5⟩
          have HDM5 := hide (HDM3.out.below hb5)
          have r0 := HDM5.out.r0
          have r1 := HDM5.out.r1
          have r2 := HDM5.out.r2
          have rf := HDM5.out.rf
          have HRL := hide HDM5.out.l1
          clear HDM3 hb5
          have HPP := hide (show ∀ w', Below w.heap.size w5 w' → PdPost w T n (.returned (.tuple #[.pointer none, faV 11 p.line (colP p)])) w' from fun w' hb => ⟨_, HRUN.out, HOK.out, HDM5.out.bl.trans hb, .inl ⟨_, _, _, HST.out, by decide, rfl⟩⟩)
          go_wp2
          obtain ⟨y0, y1, y2⟩ := set3 (.int .i64 11) (.int .i64 p.line) (.int .i64 ((p.off : Int) - p.bol + 1)) r0 r1 r2
          have HPQ := hide (HPP.out _ ((((Below.refl _ _).setCell (p := ⟨r, 0, none⟩) HRL.out (.int .i64 11)).setCell (p := ⟨r, 1, none⟩) HRL.out (.int .i64 p.line)).setCell (p := ⟨r, 2, none⟩) HRL.out (.int .i64 ((p.off : Int) - p.bol + 1))))
          clear r0 r1 r2 rf
          generalize ((w5.setCell ⟨r, 0, none⟩ (.int .i64 11)).setCell ⟨r, 1, none⟩ (.int .i64 p.line)).setCell ⟨r, 2, none⟩ (.int .i64 ((p.off : Int) - p.bol + 1)) = w9 at *
          exact bodyPost_ret (v := .tuple #[.pointer none, faV 11 p.line (colP p)]) (by simp [results, Tryz.results55, go_sem, faV, colP, y0, y1, y2]) rfl HPQ.out
        · have hpb : decide (clsP E < L.length) = false := by simpa using hpd
          rw [if_neg (by show ¬ (false || decide (clsP E < L.length)) = true; rw [hpb]; decide)] at HST
          clear hpd
          have r0 := HDM3.out.r0
          have r1 := HDM3.out.r1
          have r2 := HDM3.out.r2
          have rf := HDM3.out.rf
          have HRL := hide HDM3.out.l1
          have HPP := hide (show ∀ w', Ex (fun k => k = r) w4 w' → PdPost w T n (.returned (.tuple #[.pointer (some ⟨b, 0, none⟩), faV 0 0 0])) w' from fun w' hb => by
            have l1 := HDM3.out.l1
            have l2 := HDM3.out.l2
            have l3 := HDM3.out.l3
            have l4 := HDM3.out.l4
            refine ⟨_, HRUN.out, HOK.out, HDM3.out.bl.trans (hb.below HDM3.out.bl.size (fun k hk e => by omega)), .inr ⟨HST.out, b, va, ve, vd, rfl, PF.base (by omega) (hpf.out.keep hb (by show ¬ b = r; omega) (fun j hj e => by omega)), by omega⟩⟩)
          go_wp2
          obtain ⟨y0, y1, y2⟩ := set3 (.int .i64 0) (.int .i64 0) (.int .i64 0) r0 r1 r2
          have HPQ := hide (HPP.out _ ((((Ex.refl (fun k => k = r) _).set (p := r) (j := 0) rfl (.int .i64 0)).set (p := r) (j := 1) rfl (.int .i64 0)).set (p := r) (j := 2) rfl (.int .i64 0)))
          clear r0 r1 r2 rf
          generalize ((w4.setCell ⟨r, 0, none⟩ (.int .i64 0)).setCell ⟨r, 1, none⟩ (.int .i64 0)).setCell ⟨r, 2, none⟩ (.int .i64 0) = w9 at *
          exact bodyPost_ret (v := .tuple #[.pointer (some ⟨b, 0, none⟩), faV 0 0 0]) (by simp [results, Tryz.results55, go_sem, faV, colP, y0, y1, y2]) rfl HPQ.out
      · rw [if_pos (by rfl)] at HST
        go_wp2_with fail
        refine (fault_any _ s n c p.off p.bol a T p.line 11 HDM3.out.sc (by omega) HPL.out.off HPL.out.bol).mono ?_
        rintro e w5 ⟨rfl, hb5⟩
        have HDM5 := hide (HDM3.out.below hb5)
        have r0 := HDM5.out.r0
        have r1 := HDM5.out.r1
        have r2 := HDM5.out.r2
        have rf := HDM5.out.rf
        have HRL := hide HDM5.out.l1
        clear HDM3 hb5
        have HPP := hide (show ∀ w', Below w.heap.size w5 w' → PdPost w T n (.returned (.tuple #[.pointer none, faV 11 p.line (colP p)])) w' from fun w' hb => ⟨_, HRUN.out, HOK.out, HDM5.out.bl.trans hb, .inl ⟨_, _, _, HST.out, by decide, rfl⟩⟩)
        go_wp2
        obtain ⟨y0, y1, y2⟩ := set3 (.int .i64 11) (.int .i64 p.line) (.int .i64 ((p.off : Int) - p.bol + 1)) r0 r1 r2
        have HPQ := hide (HPP.out _ ((((Below.refl _ _).setCell (p := ⟨r, 0, none⟩) HRL.out (.int .i64 11)).setCell (p := ⟨r, 1, none⟩) HRL.out (.int .i64 p.line)).setCell (p := ⟨r, 2, none⟩) HRL.out (.int .i64 ((p.off : Int) - p.bol + 1))))
        clear r0 r1 r2 rf
        generalize ((w5.setCell ⟨r, 0, none⟩ (.int .i64 11)).setCell ⟨r, 1, none⟩ (.int .i64 p.line)).setCell ⟨r, 2, none⟩ (.int .i64 ((p.off : Int) - p.bol + 1)) = w9 at *
        exact bodyPost_ret (v := .tuple #[.pointer none, faV 11 p.line (colP p)]) (by simp [results, Tryz.results55, go_sem, faV, colP, y0, y1, y2]) rfl HPQ.out
    · rw [if_pos rfl] at HST
      have hpo := HRG.out.2.2 rfl
      cases del
      · go_wp2_with fail
        obtain ⟨va, ve, vd, hpf⟩ := HDM3.out.pf
        refine (pending_any _ B b 0 va ve L E hpf.ar (by have := HEL.out; omega)).mono ?_
        rintro e w4 ⟨rfl, hb4⟩
        replace HDM3 := hide (HDM3.out.below hb4)
        clear hb4 hpf
        by_cases hpd : clsP E < L.length
        · have hpb : decide (clsP E < L.length) = true := by simpa using hpd
          replace HST := hide (show dStep T n ⟨q, L, E, D, false⟩ = tok1 T n ⟨q, L, E, D, false⟩ p from by rw [HST.out, if_neg (by unfold pendP; rw [hpb]; simp)])
          clear hpd
          go_wp2_with fail
          refine (fault_any _ s n c p.off p.bol a T p.line 0 HDM3.out.sc (by omega) HPL.out.off HPL.out.bol).mono ?_
          rintro e w5 ⟨rfl, hb5⟩
          go_upto_region 9 with fail
          have HX := hide (faCells (w := w5) (l := p.line) (k := (p.off : Int) - p.bol + 1))
          have HXL := hide (show w.heap.size ≤ w5.heap.size ∧ s < w5.heap.size ∧ r < w5.heap.size from by
            have h1 := HDM3.out.lts
            have h2 := HDM3.out.sc.lt
            have h3 := hb5.size
            have h4 := HDM3.out.l2
            omega)
          have HDM5 := hide ((HDM3.out.below hb5).below (be1 w5 (.cells #[.int .i64 0, .int .i64 p.line, .int .i64 ((p.off : Int) - p.bol + 1)] 41)))
          clear HDM3 hb5
          generalize w5.alloc (.cells #[.int .i64 0, .int .i64 p.line, .int .i64 ((p.off : Int) - p.bol + 1)] 41) = w6 at *
          generalize w5.heap.size = x at *
          go_wp2_with fail
          refine (literal_any _ s n c p.off p.bol a T p.line HDM5.out.sc (by omega) HPL.out.off).mono ?_
          rintro e w7 ⟨rfl, hsc, hex⟩
          have HTE := hide (tokE_rng T n (n - p.off) p.off HPL.out.off)
          obtain ⟨te, hte⟩ : ∃ te, tokE T n (n - p.off) p.off = te := ⟨_, rfl⟩
          have HTK := hide (show dStep T n ⟨q, L, E, D, false⟩ = (if (litP (numP T p.off te 16777215 true)).2 = 0 then (if (litP (numP T p.off te 16777215 true)).1 = 0 then .go ⟨⟨if (numP T p.off te 16777215 true).2 = 2 then te else p.off, p.line, p.bol⟩, L, E ++ [(L.length : Int)], D ++ [false], false⟩ else .go ⟨⟨if (numP T p.off te 16777215 true).2 = 2 then te else p.off, p.line, p.bol⟩, L ++ [(litP (numP T p.off te 16777215 true)).1], E, D, false⟩) else .bad (litP (numP T p.off te 16777215 true)).2 p.line (colP p)) from by rw [← hte]; exact HST.out)
          have HLO := hide (fun z => litP_ok (numP_cls T p.off te 16777215 true) z (fun z => (numP_rng T p.off te 16777215 true (by decide) (hte ▸ HTE.out.1) z).2))
          rw [hte] at hsc ⊢
          clear HST HTE hte
          generalize numP T p.off te 16777215 true = N at *
          obtain ⟨p2, hp2⟩ : ∃ p2 : Plc, (⟨if N.2 = 2 then te else p.off, p.line, p.bol⟩ : Plc) = p2 := ⟨_, rfl⟩
          have HDM7 := hide (HDM5.out.scan hex (p := p2) (by rw [← hp2]; exact hsc))
          rw [hp2] at HTK
          have HX7 := hide (show (w7.cell? ⟨x, 0, none⟩ = some (.int .i64 0) ∧ w7.cell? ⟨x, 1, none⟩ = some (.int .i64 p.line) ∧ w7.cell? ⟨x, 2, none⟩ = some (.int .i64 ((p.off : Int) - p.bol + 1)) ∧ ∀ j, w7.frozen? ⟨x, j, none⟩ = false) from by
            have hxs : x ≠ s := by have := HXL.out; omega
            have hx := HX.out
            exact ⟨hex.cell hxs hx.1, hex.cell hxs hx.2.1, hex.cell hxs hx.2.2.1, fun j => (hex.frozen hxs (World.block_lt_of_cell? _ _ hx.1)).trans (hx.2.2.2 j)⟩)
          clear hsc hex HX HDM5 hp2
          generalize litP N = X at *
          obtain ⟨v, er⟩ := X
          dsimp only at HTK HLO ⊢
          by_cases her : er = 0
          · have heb : (er == 0) = true := by simpa using her
            rw [if_pos her] at HTK
            by_cases hv : v = 0
            · have hvb : (v == 0) = true := by simpa using hv
              rw [if_pos hv] at HTK
              have HNX := hide (HOK.out.step HTK.out)
              have HR2 := hide (HRUN.out.snoc HTK.out)
              clear her hv
              go_wp2_with fail
              obtain ⟨va, ve, vd, hpf⟩ := HDM7.out.pf
              obtain ⟨ad, cd, rfl⟩ := own_form hpf.r2
              refine (finish_any _ B b 0 va ve L E hpf.ar HDM7.out.l5 (by have := HEL.out; omega)).mono ?_
              rintro e w8 ⟨rfl, g8, c8, har, hex, hg8, hkp⟩
              have HPF8 := hide (hpf.fin har hex (hkp 2 _ (by omega) hpf.c2) hg8)
              have HDM8 := hide (HDM7.out.deep (d := false) hex (by rintro j (z | z); rw [z]; exact HDM7.out.l4; exact (hpf.ar.r1.lt j z).1) ⟨_, _, _, HPF8.out⟩)
              clear har hex hg8 hkp hpf HDM7 HX7
              have HDL := hide (show D.length ≤ 1000000 from by have := HOK.out.dl; have := HEL.out; dsimp only at *; omega)
              have z2 := HPF8.out.c2
              have zf := HPF8.out.ar.f
              have HPW := hide (HPF8.out.below (be1 w8 (.cells #[.bool false] 4)))
              have HSZ := hide (show B ≤ (w8.alloc (.cells #[.bool false] 4)).heap.size from Nat.le_trans HDM8.out.l5 (be1 w8 _).size)
              have HNC := hide (show ∀ (j : Nat) (u : Value), [Value.bool false][j]? = some u → (w8.alloc (.cells #[.bool false] 4)).cell? ((⟨w8.heap.size, 0, none⟩ : Addr).add j) = some u from fun j u hj => new_cells w8 [.bool false] 4 j u hj)
              go_wp2_with (at_builtin; go_loud (refine wpList_append_lies _ rfl (.tmp 62) (.tmp 64) 77 rfl B 4 i0 _ 1 1 Tryz.underlying77 HI.out.1 HI.out.2.1 HI.out.2.2.1 HI.out.2.2.2 rfl (by decide) (.slice ad D.length cd) D.length (D.map Value.bool) rfl HPW.out.r2 ⟨w8.heap.size, 0, none⟩ 1 1 [.bool false] rfl rfl HNC.out (fun u hu => by simp at hu; subst hu; rfl) (by decide) (by have := HDL.out; unfold maxLen; omega) (by have := HDL.out; omega) HSZ.out _ rfl ?_; intro g cap w9 hr hg hat hlt2; have HP := hide (HPF8.out.del1 (be1 w8 (.cells #[.bool false] 4)) hr hg hat); have z2' := (show w9.cell? ⟨b, 2, none⟩ = some (.slice ad D.length cd) from (Ex.ofGrown hg (S := fun k => Value.ownBlock (.slice ad D.length cd) = some k) (fun k z => z.symm)).cell HPW.out.a3 HPW.out.c2); have zf' := (show w9.frozen? ⟨b, 2, none⟩ = false from ((Ex.ofGrown hg (S := fun k => Value.ownBlock (.slice ad D.length cd) = some k) (fun k z => z.symm)).frozen HPW.out.a3 HPW.out.ar.lt).trans (HPW.out.ar.f 2)); clear hr hg hat))
              have HDM9 := hide (HDM8.out.deep (d := false) HP.out.2 (by rintro j (z | z); rw [z]; exact HDM8.out.l4; exact (HPF8.out.r2.lt j z).1) ⟨_, _, _, HP.out.1⟩)
              have HO2 := hide (offLeft_at (n := n) HDM9.out.sc.c1)
              clear HPF8 HPW HSZ HNC HP z2 zf z2' zf' HDM8
              go_roundw
              case rel => exact ⟨_, rfl, HR2, HNX.out.1, HDM9.out⟩
              case measure => rw [HOL.out, HO2.out]; have := HNX.out.2; have := HNX.out.1.pl.off; dsimp only at *; omega
            · have hvb : (v == 0) = false := by simpa using hv
              rw [if_neg hv] at HTK
              have HNX := hide (HOK.out.step HTK.out)
              have HR2 := hide (HRUN.out.snoc HTK.out)
              clear her hv
              go_wp2_with fail
              obtain ⟨va, ve, vd, hpf⟩ := HDM7.out.pf
              refine (put_any _ B b 0 va ve L E v hpf.ar HDM7.out.l5 (by have := HEL.out; omega)).mono ?_
              rintro e w8 ⟨rfl, g8, c8, har, hex, hg8, hkp⟩
              have HDM8 := hide (HDM7.out.deep (d := false) hex (by rintro j (z | z); rw [z]; exact HDM7.out.l4; exact (hpf.ar.r0.lt j z).1) ⟨_, _, _, hpf.put har hex (hkp 2 _ (by omega) hpf.c2) hg8⟩)
              have HO2 := hide (offLeft_at (n := n) HDM8.out.sc.c1)
              clear har hex hg8 hkp hpf HDM7 HX7
              go_wp2
              go_roundw
              case rel => exact ⟨_, rfl, HR2, HNX.out.1, HDM8.out⟩
              case measure => rw [HOL.out, HO2.out]; have := HNX.out.2; have := HNX.out.1.pl.off; dsimp only at *; omega
          · have heb : (er == 0) = false := by simpa using her
            rw [if_neg her] at HTK
            obtain ⟨x0, x1, x2, xf⟩ := HX7.out
            go_upto_region 12 with fail
            have hxr : r ≠ x := by have := HXL.out; omega
            have HB8 := hide (show Below w.heap.size w (w7.setCell ⟨x, 0, none⟩ (.int .i64 er)) from HDM7.out.bl.setCell (p := ⟨x, 0, none⟩) HXL.out.1 _)
            have y0 : (w7.setCell ⟨x, 0, none⟩ (.int .i64 er)).cell? ⟨x, 0, none⟩ = some (.int .i64 er) := World.cell?_setCell_same _ _ _ x0
            have y1 : (w7.setCell ⟨x, 0, none⟩ (.int .i64 er)).cell? ⟨x, 1, none⟩ = some (.int .i64 p.line) := by rw [World.cell?_setCell_other _ _ _ _ (by simp)]; exact x1
            have y2 : (w7.setCell ⟨x, 0, none⟩ (.int .i64 er)).cell? ⟨x, 2, none⟩ = some (.int .i64 ((p.off : Int) - p.bol + 1)) := by rw [World.cell?_setCell_other _ _ _ _ (by simp)]; exact x2
            have r0 := (set_cell_ne w7 x 0 r 0 (.int .i64 er) hxr).trans HDM7.out.r0
            have r1 := (set_cell_ne w7 x 0 r 1 (.int .i64 er) hxr).trans HDM7.out.r1
            have r2 := (set_cell_ne w7 x 0 r 2 (.int .i64 er) hxr).trans HDM7.out.r2
            have rf := fun j => (set_frozen w7 ⟨x, 0, none⟩ ⟨r, j, none⟩ (.int .i64 er)).trans (HDM7.out.rf j)
            have HRL := hide HDM7.out.l1
            clear x0 x1 x2 xf HX7 HDM7
            generalize w7.setCell ⟨x, 0, none⟩ (.int .i64 er) = w8 at *
            have HPP := hide (show ∀ w', Below w.heap.size w8 w' → PdPost w T n (.returned (.tuple #[.pointer none, faV er p.line (colP p)])) w' from fun w' hb => ⟨_, HRUN.out, HOK.out, HB8.out.trans hb, .inl ⟨_, _, _, HTK.out, her, rfl⟩⟩)
            go_region
            all_goals
              go_wp2
              obtain ⟨y0, y1, y2⟩ := set3 (.int .i64 er) (.int .i64 p.line) (.int .i64 ((p.off : Int) - p.bol + 1)) r0 r1 r2
              have HPQ := hide (HPP.out _ ((((Below.refl _ _).setCell (p := ⟨r, 0, none⟩) HRL.out (.int .i64 er)).setCell (p := ⟨r, 1, none⟩) HRL.out (.int .i64 p.line)).setCell (p := ⟨r, 2, none⟩) HRL.out (.int .i64 ((p.off : Int) - p.bol + 1))).drew)
              clear r0 r1 r2 rf
              generalize ((w8.setCell ⟨r, 0, none⟩ (.int .i64 er)).setCell ⟨r, 1, none⟩ (.int .i64 p.line)).setCell ⟨r, 2, none⟩ (.int .i64 ((p.off : Int) - p.bol + 1)) = w9 at *
              exact bodyPost_ret (v := .tuple #[.pointer none, faV er p.line (colP p)]) (by simp [results, Tryz.results55, go_sem, faV, colP, y0, y1, y2]) rfl HPQ.out
        · have hpb : decide (clsP E < L.length) = false := by simpa using hpd
          clear hpd
          go_wp2_with fail
          refine (word_any _ s n c p.off p.bol a T p.line ⟨#[100]⟩ (by decide) HDM3.out.sc (by omega) HPL.out.off).mono ?_
          rintro e w5 ⟨rfl, hsc, hex⟩
          rw [show (ByteArray.mk #[100]).data.toList.map UInt8.toNat = [100] from rfl] at hsc ⊢
          by_cases hwd : wordB T p.off (tokE T n (n - p.off) p.off) [100] = true
          · replace HST := hide (show dStep T n ⟨q, L, E, D, false⟩ = .go ⟨⟨tokE T n (n - p.off) p.off, p.line, p.bol⟩, L, E, D, true⟩ from by rw [HST.out, if_pos (by unfold pendP; rw [hpb, hwd]; rfl)])
            have HNX := hide (HOK.out.step HST.out)
            have HR2 := hide (HRUN.out.snoc HST.out)
            rw [if_pos hwd] at hsc
            have HDM5 := hide ((HDM3.out.scan hex (p := ⟨tokE T n (n - p.off) p.off, p.line, p.bol⟩) hsc).flag true)
            have HO2 := hide (offLeft_at (n := n) HDM5.out.sc.c1)
            rw [hwd]
            clear hsc hex HDM3 hwd
            go_wp2
            go_roundw
            case rel => exact ⟨_, rfl, HR2, HNX.out.1, HDM5.out⟩
            case measure => rw [HOL.out, HO2.out]; have := HNX.out.2; have := HNX.out.1.pl.off; dsimp only at *; omega
          · have hwb : wordB T p.off (tokE T n (n - p.off) p.off) [100] = false := by simpa using hwd
            replace HST := hide (show dStep T n ⟨q, L, E, D, false⟩ = tok1 T n ⟨q, L, E, D, false⟩ p from by rw [HST.out, if_neg (by rw [hwb]; simp)])
            rw [if_neg hwd] at hsc
            replace HDM3 := hide (HDM3.out.scan hex (p := p) hsc)
            rw [hwb]
            clear hsc hex hwd hwb hpb
            go_wp2_with fail
            refine (fault_any _ s n c p.off p.bol a T p.line 0 HDM3.out.sc (by omega) HPL.out.off HPL.out.bol).mono ?_
            rintro e w5 ⟨rfl, hb5⟩
            go_upto_region 9 with fail
            have HX := hide (faCells (w := w5) (l := p.line) (k := (p.off : Int) - p.bol + 1))
            have HXL := hide (show w.heap.size ≤ w5.heap.size ∧ s < w5.heap.size ∧ r < w5.heap.size from by
              have h1 := HDM3.out.lts
              have h2 := HDM3.out.sc.lt
              have h3 := hb5.size
              have h4 := HDM3.out.l2
              omega)
            have HDM5 := hide ((HDM3.out.below hb5).below (be1 w5 (.cells #[.int .i64 0, .int .i64 p.line, .int .i64 ((p.off : Int) - p.bol + 1)] 41)))
            clear HDM3 hb5
            generalize w5.alloc (.cells #[.int .i64 0, .int .i64 p.line, .int .i64 ((p.off : Int) - p.bol + 1)] 41) = w6 at *
            generalize w5.heap.size = x at *
            go_wp2_with fail
            refine (literal_any _ s n c p.off p.bol a T p.line HDM5.out.sc (by omega) HPL.out.off).mono ?_
            rintro e w7 ⟨rfl, hsc, hex⟩
            have HTE := hide (tokE_rng T n (n - p.off) p.off HPL.out.off)
            obtain ⟨te, hte⟩ : ∃ te, tokE T n (n - p.off) p.off = te := ⟨_, rfl⟩
            have HTK := hide (show dStep T n ⟨q, L, E, D, false⟩ = (if (litP (numP T p.off te 16777215 true)).2 = 0 then (if (litP (numP T p.off te 16777215 true)).1 = 0 then .go ⟨⟨if (numP T p.off te 16777215 true).2 = 2 then te else p.off, p.line, p.bol⟩, L, E ++ [(L.length : Int)], D ++ [false], false⟩ else .go ⟨⟨if (numP T p.off te 16777215 true).2 = 2 then te else p.off, p.line, p.bol⟩, L ++ [(litP (numP T p.off te 16777215 true)).1], E, D, false⟩) else .bad (litP (numP T p.off te 16777215 true)).2 p.line (colP p)) from by rw [← hte]; exact HST.out)
            have HLO := hide (fun z => litP_ok (numP_cls T p.off te 16777215 true) z (fun z => (numP_rng T p.off te 16777215 true (by decide) (hte ▸ HTE.out.1) z).2))
            rw [hte] at hsc ⊢
            clear HST HTE hte
            generalize numP T p.off te 16777215 true = N at *
            obtain ⟨p2, hp2⟩ : ∃ p2 : Plc, (⟨if N.2 = 2 then te else p.off, p.line, p.bol⟩ : Plc) = p2 := ⟨_, rfl⟩
            have HDM7 := hide (HDM5.out.scan hex (p := p2) (by rw [← hp2]; exact hsc))
            rw [hp2] at HTK
            have HX7 := hide (show (w7.cell? ⟨x, 0, none⟩ = some (.int .i64 0) ∧ w7.cell? ⟨x, 1, none⟩ = some (.int .i64 p.line) ∧ w7.cell? ⟨x, 2, none⟩ = some (.int .i64 ((p.off : Int) - p.bol + 1)) ∧ ∀ j, w7.frozen? ⟨x, j, none⟩ = false) from by
              have hxs : x ≠ s := by have := HXL.out; omega
              have hx := HX.out
              exact ⟨hex.cell hxs hx.1, hex.cell hxs hx.2.1, hex.cell hxs hx.2.2.1, fun j => (hex.frozen hxs (World.block_lt_of_cell? _ _ hx.1)).trans (hx.2.2.2 j)⟩)
            clear hsc hex HX HDM5 hp2
            generalize litP N = X at *
            obtain ⟨v, er⟩ := X
            dsimp only at HTK HLO ⊢
            by_cases her : er = 0
            · have heb : (er == 0) = true := by simpa using her
              rw [if_pos her] at HTK
              by_cases hv : v = 0
              · have hvb : (v == 0) = true := by simpa using hv
                rw [if_pos hv] at HTK
                have HNX := hide (HOK.out.step HTK.out)
                have HR2 := hide (HRUN.out.snoc HTK.out)
                clear her hv
                go_wp2_with fail
                obtain ⟨va, ve, vd, hpf⟩ := HDM7.out.pf
                obtain ⟨ad, cd, rfl⟩ := own_form hpf.r2
                refine (finish_any _ B b 0 va ve L E hpf.ar HDM7.out.l5 (by have := HEL.out; omega)).mono ?_
                rintro e w8 ⟨rfl, g8, c8, har, hex, hg8, hkp⟩
                have HPF8 := hide (hpf.fin har hex (hkp 2 _ (by omega) hpf.c2) hg8)
                have HDM8 := hide (HDM7.out.deep (d := false) hex (by rintro j (z | z); rw [z]; exact HDM7.out.l4; exact (hpf.ar.r1.lt j z).1) ⟨_, _, _, HPF8.out⟩)
                clear har hex hg8 hkp hpf HDM7 HX7
                have HDL := hide (show D.length ≤ 1000000 from by have := HOK.out.dl; have := HEL.out; dsimp only at *; omega)
                have z2 := HPF8.out.c2
                have zf := HPF8.out.ar.f
                have HPW := hide (HPF8.out.below (be1 w8 (.cells #[.bool false] 4)))
                have HSZ := hide (show B ≤ (w8.alloc (.cells #[.bool false] 4)).heap.size from Nat.le_trans HDM8.out.l5 (be1 w8 _).size)
                have HNC := hide (show ∀ (j : Nat) (u : Value), [Value.bool false][j]? = some u → (w8.alloc (.cells #[.bool false] 4)).cell? ((⟨w8.heap.size, 0, none⟩ : Addr).add j) = some u from fun j u hj => new_cells w8 [.bool false] 4 j u hj)
                go_wp2_with (at_builtin; go_loud (refine wpList_append_lies _ rfl (.tmp 62) (.tmp 64) 77 rfl B 4 i0 _ 1 1 Tryz.underlying77 HI.out.1 HI.out.2.1 HI.out.2.2.1 HI.out.2.2.2 rfl (by decide) (.slice ad D.length cd) D.length (D.map Value.bool) rfl HPW.out.r2 ⟨w8.heap.size, 0, none⟩ 1 1 [.bool false] rfl rfl HNC.out (fun u hu => by simp at hu; subst hu; rfl) (by decide) (by have := HDL.out; unfold maxLen; omega) (by have := HDL.out; omega) HSZ.out _ rfl ?_; intro g cap w9 hr hg hat hlt2; have HP := hide (HPF8.out.del1 (be1 w8 (.cells #[.bool false] 4)) hr hg hat); have z2' := (show w9.cell? ⟨b, 2, none⟩ = some (.slice ad D.length cd) from (Ex.ofGrown hg (S := fun k => Value.ownBlock (.slice ad D.length cd) = some k) (fun k z => z.symm)).cell HPW.out.a3 HPW.out.c2); have zf' := (show w9.frozen? ⟨b, 2, none⟩ = false from ((Ex.ofGrown hg (S := fun k => Value.ownBlock (.slice ad D.length cd) = some k) (fun k z => z.symm)).frozen HPW.out.a3 HPW.out.ar.lt).trans (HPW.out.ar.f 2)); clear hr hg hat))
                have HDM9 := hide (HDM8.out.deep (d := false) HP.out.2 (by rintro j (z | z); rw [z]; exact HDM8.out.l4; exact (HPF8.out.r2.lt j z).1) ⟨_, _, _, HP.out.1⟩)
                have HO2 := hide (offLeft_at (n := n) HDM9.out.sc.c1)
                clear HPF8 HPW HSZ HNC HP z2 zf z2' zf' HDM8
                go_roundw
                case rel => exact ⟨_, rfl, HR2, HNX.out.1, HDM9.out⟩
                case measure => rw [HOL.out, HO2.out]; have := HNX.out.2; have := HNX.out.1.pl.off; dsimp only at *; omega
              · have hvb : (v == 0) = false := by simpa using hv
                rw [if_neg hv] at HTK
                have HNX := hide (HOK.out.step HTK.out)
                have HR2 := hide (HRUN.out.snoc HTK.out)
                clear her hv
                go_wp2_with fail
                obtain ⟨va, ve, vd, hpf⟩ := HDM7.out.pf
                refine (put_any _ B b 0 va ve L E v hpf.ar HDM7.out.l5 (by have := HEL.out; omega)).mono ?_
                rintro e w8 ⟨rfl, g8, c8, har, hex, hg8, hkp⟩
                have HDM8 := hide (HDM7.out.deep (d := false) hex (by rintro j (z | z); rw [z]; exact HDM7.out.l4; exact (hpf.ar.r0.lt j z).1) ⟨_, _, _, hpf.put har hex (hkp 2 _ (by omega) hpf.c2) hg8⟩)
                have HO2 := hide (offLeft_at (n := n) HDM8.out.sc.c1)
                clear har hex hg8 hkp hpf HDM7 HX7
                go_wp2
                go_roundw
                case rel => exact ⟨_, rfl, HR2, HNX.out.1, HDM8.out⟩
                case measure => rw [HOL.out, HO2.out]; have := HNX.out.2; have := HNX.out.1.pl.off; dsimp only at *; omega
            · have heb : (er == 0) = false := by simpa using her
              rw [if_neg her] at HTK
              obtain ⟨x0, x1, x2, xf⟩ := HX7.out
              go_upto_region 12 with fail
              have hxr : r ≠ x := by have := HXL.out; omega
              have HB8 := hide (show Below w.heap.size w (w7.setCell ⟨x, 0, none⟩ (.int .i64 er)) from HDM7.out.bl.setCell (p := ⟨x, 0, none⟩) HXL.out.1 _)
              have y0 : (w7.setCell ⟨x, 0, none⟩ (.int .i64 er)).cell? ⟨x, 0, none⟩ = some (.int .i64 er) := World.cell?_setCell_same _ _ _ x0
              have y1 : (w7.setCell ⟨x, 0, none⟩ (.int .i64 er)).cell? ⟨x, 1, none⟩ = some (.int .i64 p.line) := by rw [World.cell?_setCell_other _ _ _ _ (by simp)]; exact x1
              have y2 : (w7.setCell ⟨x, 0, none⟩ (.int .i64 er)).cell? ⟨x, 2, none⟩ = some (.int .i64 ((p.off : Int) - p.bol + 1)) := by rw [World.cell?_setCell_other _ _ _ _ (by simp)]; exact x2
              have r0 := (set_cell_ne w7 x 0 r 0 (.int .i64 er) hxr).trans HDM7.out.r0
              have r1 := (set_cell_ne w7 x 0 r 1 (.int .i64 er) hxr).trans HDM7.out.r1
              have r2 := (set_cell_ne w7 x 0 r 2 (.int .i64 er) hxr).trans HDM7.out.r2
              have rf := fun j => (set_frozen w7 ⟨x, 0, none⟩ ⟨r, j, none⟩ (.int .i64 er)).trans (HDM7.out.rf j)
              have HRL := hide HDM7.out.l1
              clear x0 x1 x2 xf HX7 HDM7
              generalize w7.setCell ⟨x, 0, none⟩ (.int .i64 er) = w8 at *
              have HPP := hide (show ∀ w', Below w.heap.size w8 w' → PdPost w T n (.returned (.tuple #[.pointer none, faV er p.line (colP p)])) w' from fun w' hb => ⟨_, HRUN.out, HOK.out, HB8.out.trans hb, .inl ⟨_, _, _, HTK.out, her, rfl⟩⟩)
              go_region
              all_goals
                go_wp2
                obtain ⟨y0, y1, y2⟩ := set3 (.int .i64 er) (.int .i64 p.line) (.int .i64 ((p.off : Int) - p.bol + 1)) r0 r1 r2
                have HPQ := hide (HPP.out _ ((((Below.refl _ _).setCell (p := ⟨r, 0, none⟩) HRL.out (.int .i64 er)).setCell (p := ⟨r, 1, none⟩) HRL.out (.int .i64 p.line)).setCell (p := ⟨r, 2, none⟩) HRL.out (.int .i64 ((p.off : Int) - p.bol + 1))).drew)
                clear r0 r1 r2 rf
                generalize ((w8.setCell ⟨r, 0, none⟩ (.int .i64 er)).setCell ⟨r, 1, none⟩ (.int .i64 p.line)).setCell ⟨r, 2, none⟩ (.int .i64 ((p.off : Int) - p.bol + 1)) = w9 at *
                exact bodyPost_ret (v := .tuple #[.pointer none, faV er p.line (colP p)]) (by simp [results, Tryz.results55, go_sem, faV, colP, y0, y1, y2]) rfl HPQ.out
      · replace HST := hide (show dStep T n ⟨q, L, E, D, true⟩ = tok1 T n ⟨q, L, E, D, true⟩ p from HST.out)
        go_wp2_with fail
        refine (fault_any _ s n c p.off p.bol a T p.line 0 HDM3.out.sc (by omega) HPL.out.off HPL.out.bol).mono ?_
        rintro e w5 ⟨rfl, hb5⟩
        go_upto_region 9 with fail
        have HX := hide (faCells (w := w5) (l := p.line) (k := (p.off : Int) - p.bol + 1))
        have HXL := hide (show w.heap.size ≤ w5.heap.size ∧ s < w5.heap.size ∧ r < w5.heap.size from by
          have h1 := HDM3.out.lts
          have h2 := HDM3.out.sc.lt
          have h3 := hb5.size
          have h4 := HDM3.out.l2
          omega)
        have HDM5 := hide ((HDM3.out.below hb5).below (be1 w5 (.cells #[.int .i64 0, .int .i64 p.line, .int .i64 ((p.off : Int) - p.bol + 1)] 41)))
        clear HDM3 hb5
        generalize w5.alloc (.cells #[.int .i64 0, .int .i64 p.line, .int .i64 ((p.off : Int) - p.bol + 1)] 41) = w6 at *
        generalize w5.heap.size = x at *
        go_wp2_with fail
        refine (literal_any _ s n c p.off p.bol a T p.line HDM5.out.sc (by omega) HPL.out.off).mono ?_
        rintro e w7 ⟨rfl, hsc, hex⟩
        have HTE := hide (tokE_rng T n (n - p.off) p.off HPL.out.off)
        obtain ⟨te, hte⟩ : ∃ te, tokE T n (n - p.off) p.off = te := ⟨_, rfl⟩
        have HTK := hide (show dStep T n ⟨q, L, E, D, true⟩ = (if (litP (numP T p.off te 16777215 true)).2 = 0 then (if (litP (numP T p.off te 16777215 true)).1 = 0 then .go ⟨⟨if (numP T p.off te 16777215 true).2 = 2 then te else p.off, p.line, p.bol⟩, L, E ++ [(L.length : Int)], D ++ [true], false⟩ else .go ⟨⟨if (numP T p.off te 16777215 true).2 = 2 then te else p.off, p.line, p.bol⟩, L ++ [(litP (numP T p.off te 16777215 true)).1], E, D, true⟩) else .bad (litP (numP T p.off te 16777215 true)).2 p.line (colP p)) from by rw [← hte]; exact HST.out)
        have HLO := hide (fun z => litP_ok (numP_cls T p.off te 16777215 true) z (fun z => (numP_rng T p.off te 16777215 true (by decide) (hte ▸ HTE.out.1) z).2))
        rw [hte] at hsc ⊢
        clear HST HTE hte
        generalize numP T p.off te 16777215 true = N at *
        obtain ⟨p2, hp2⟩ : ∃ p2 : Plc, (⟨if N.2 = 2 then te else p.off, p.line, p.bol⟩ : Plc) = p2 := ⟨_, rfl⟩
        have HDM7 := hide (HDM5.out.scan hex (p := p2) (by rw [← hp2]; exact hsc))
        rw [hp2] at HTK
        have HX7 := hide (show (w7.cell? ⟨x, 0, none⟩ = some (.int .i64 0) ∧ w7.cell? ⟨x, 1, none⟩ = some (.int .i64 p.line) ∧ w7.cell? ⟨x, 2, none⟩ = some (.int .i64 ((p.off : Int) - p.bol + 1)) ∧ ∀ j, w7.frozen? ⟨x, j, none⟩ = false) from by
          have hxs : x ≠ s := by have := HXL.out; omega
          have hx := HX.out
          exact ⟨hex.cell hxs hx.1, hex.cell hxs hx.2.1, hex.cell hxs hx.2.2.1, fun j => (hex.frozen hxs (World.block_lt_of_cell? _ _ hx.1)).trans (hx.2.2.2 j)⟩)
        clear hsc hex HX HDM5 hp2
        generalize litP N = X at *
        obtain ⟨v, er⟩ := X
        dsimp only at HTK HLO ⊢
        by_cases her : er = 0
        · have heb : (er == 0) = true := by simpa using her
          rw [if_pos her] at HTK
          by_cases hv : v = 0
          · have hvb : (v == 0) = true := by simpa using hv
            rw [if_pos hv] at HTK
            have HNX := hide (HOK.out.step HTK.out)
            have HR2 := hide (HRUN.out.snoc HTK.out)
            clear her hv
            go_wp2_with fail
            obtain ⟨va, ve, vd, hpf⟩ := HDM7.out.pf
            obtain ⟨ad, cd, rfl⟩ := own_form hpf.r2
            refine (finish_any _ B b 0 va ve L E hpf.ar HDM7.out.l5 (by have := HEL.out; omega)).mono ?_
            rintro e w8 ⟨rfl, g8, c8, har, hex, hg8, hkp⟩
            have HPF8 := hide (hpf.fin har hex (hkp 2 _ (by omega) hpf.c2) hg8)
            have HDM8 := hide (HDM7.out.deep (d := true) hex (by rintro j (z | z); rw [z]; exact HDM7.out.l4; exact (hpf.ar.r1.lt j z).1) ⟨_, _, _, HPF8.out⟩)
            clear har hex hg8 hkp hpf HDM7 HX7
            have HDL := hide (show D.length ≤ 1000000 from by have := HOK.out.dl; have := HEL.out; dsimp only at *; omega)
            have z2 := HPF8.out.c2
            have zf := HPF8.out.ar.f
            have HPW := hide (HPF8.out.below (be1 w8 (.cells #[.bool true] 4)))
            have HSZ := hide (show B ≤ (w8.alloc (.cells #[.bool true] 4)).heap.size from Nat.le_trans HDM8.out.l5 (be1 w8 _).size)
            have HNC := hide (show ∀ (j : Nat) (u : Value), [Value.bool true][j]? = some u → (w8.alloc (.cells #[.bool true] 4)).cell? ((⟨w8.heap.size, 0, none⟩ : Addr).add j) = some u from fun j u hj => new_cells w8 [.bool true] 4 j u hj)
            go_wp2_with (at_builtin; go_loud (refine wpList_append_lies _ rfl (.tmp 62) (.tmp 64) 77 rfl B 4 i0 _ 1 1 Tryz.underlying77 HI.out.1 HI.out.2.1 HI.out.2.2.1 HI.out.2.2.2 rfl (by decide) (.slice ad D.length cd) D.length (D.map Value.bool) rfl HPW.out.r2 ⟨w8.heap.size, 0, none⟩ 1 1 [.bool true] rfl rfl HNC.out (fun u hu => by simp at hu; subst hu; rfl) (by decide) (by have := HDL.out; unfold maxLen; omega) (by have := HDL.out; omega) HSZ.out _ rfl ?_; intro g cap w9 hr hg hat hlt2; have HP := hide (HPF8.out.del1 (be1 w8 (.cells #[.bool true] 4)) hr hg hat); have z2' := (show w9.cell? ⟨b, 2, none⟩ = some (.slice ad D.length cd) from (Ex.ofGrown hg (S := fun k => Value.ownBlock (.slice ad D.length cd) = some k) (fun k z => z.symm)).cell HPW.out.a3 HPW.out.c2); have zf' := (show w9.frozen? ⟨b, 2, none⟩ = false from ((Ex.ofGrown hg (S := fun k => Value.ownBlock (.slice ad D.length cd) = some k) (fun k z => z.symm)).frozen HPW.out.a3 HPW.out.ar.lt).trans (HPW.out.ar.f 2)); clear hr hg hat))
            have HDM9 := hide (HDM8.out.deep (d := false) HP.out.2 (by rintro j (z | z); rw [z]; exact HDM8.out.l4; exact (HPF8.out.r2.lt j z).1) ⟨_, _, _, HP.out.1⟩)
            have HO2 := hide (offLeft_at (n := n) HDM9.out.sc.c1)
            clear HPF8 HPW HSZ HNC HP z2 zf z2' zf' HDM8
            go_roundw
            case rel => exact ⟨_, rfl, HR2, HNX.out.1, HDM9.out⟩
            case measure => rw [HOL.out, HO2.out]; have := HNX.out.2; have := HNX.out.1.pl.off; dsimp only at *; omega
          · have hvb : (v == 0) = false := by simpa using hv
            rw [if_neg hv] at HTK
            have HNX := hide (HOK.out.step HTK.out)
            have HR2 := hide (HRUN.out.snoc HTK.out)
            clear her hv
            go_wp2_with fail
            obtain ⟨va, ve, vd, hpf⟩ := HDM7.out.pf
            refine (put_any _ B b 0 va ve L E v hpf.ar HDM7.out.l5 (by have := HEL.out; omega)).mono ?_
            rintro e w8 ⟨rfl, g8, c8, har, hex, hg8, hkp⟩
            have HDM8 := hide (HDM7.out.deep (d := true) hex (by rintro j (z | z); rw [z]; exact HDM7.out.l4; exact (hpf.ar.r0.lt j z).1) ⟨_, _, _, hpf.put har hex (hkp 2 _ (by omega) hpf.c2) hg8⟩)
            have HO2 := hide (offLeft_at (n := n) HDM8.out.sc.c1)
            clear har hex hg8 hkp hpf HDM7 HX7
            go_wp2
            go_roundw
            case rel => exact ⟨_, rfl, HR2, HNX.out.1, HDM8.out⟩
            case measure => rw [HOL.out, HO2.out]; have := HNX.out.2; have := HNX.out.1.pl.off; dsimp only at *; omega
        · have heb : (er == 0) = false := by simpa using her
          rw [if_neg her] at HTK
          obtain ⟨x0, x1, x2, xf⟩ := HX7.out
          go_upto_region 12 with fail
          have hxr : r ≠ x := by have := HXL.out; omega
          have HB8 := hide (show Below w.heap.size w (w7.setCell ⟨x, 0, none⟩ (.int .i64 er)) from HDM7.out.bl.setCell (p := ⟨x, 0, none⟩) HXL.out.1 _)
          have y0 : (w7.setCell ⟨x, 0, none⟩ (.int .i64 er)).cell? ⟨x, 0, none⟩ = some (.int .i64 er) := World.cell?_setCell_same _ _ _ x0
          have y1 : (w7.setCell ⟨x, 0, none⟩ (.int .i64 er)).cell? ⟨x, 1, none⟩ = some (.int .i64 p.line) := by rw [World.cell?_setCell_other _ _ _ _ (by simp)]; exact x1
          have y2 : (w7.setCell ⟨x, 0, none⟩ (.int .i64 er)).cell? ⟨x, 2, none⟩ = some (.int .i64 ((p.off : Int) - p.bol + 1)) := by rw [World.cell?_setCell_other _ _ _ _ (by simp)]; exact x2
          have r0 := (set_cell_ne w7 x 0 r 0 (.int .i64 er) hxr).trans HDM7.out.r0
          have r1 := (set_cell_ne w7 x 0 r 1 (.int .i64 er) hxr).trans HDM7.out.r1
          have r2 := (set_cell_ne w7 x 0 r 2 (.int .i64 er) hxr).trans HDM7.out.r2
          have rf := fun j => (set_frozen w7 ⟨x, 0, none⟩ ⟨r, j, none⟩ (.int .i64 er)).trans (HDM7.out.rf j)
          have HRL := hide HDM7.out.l1
          clear x0 x1 x2 xf HX7 HDM7
          generalize w7.setCell ⟨x, 0, none⟩ (.int .i64 er) = w8 at *
          have HPP := hide (show ∀ w', Below w.heap.size w8 w' → PdPost w T n (.returned (.tuple #[.pointer none, faV er p.line (colP p)])) w' from fun w' hb => ⟨_, HRUN.out, HOK.out, HB8.out.trans hb, .inl ⟨_, _, _, HTK.out, her, rfl⟩⟩)
          go_region
          all_goals
            go_wp2
            obtain ⟨y0, y1, y2⟩ := set3 (.int .i64 er) (.int .i64 p.line) (.int .i64 ((p.off : Int) - p.bol + 1)) r0 r1 r2
            have HPQ := hide (HPP.out _ ((((Below.refl _ _).setCell (p := ⟨r, 0, none⟩) HRL.out (.int .i64 er)).setCell (p := ⟨r, 1, none⟩) HRL.out (.int .i64 p.line)).setCell (p := ⟨r, 2, none⟩) HRL.out (.int .i64 ((p.off : Int) - p.bol + 1))).drew)
            clear r0 r1 r2 rf
            generalize ((w8.setCell ⟨r, 0, none⟩ (.int .i64 er)).setCell ⟨r, 1, none⟩ (.int .i64 p.line)).setCell ⟨r, 2, none⟩ (.int .i64 ((p.off : Int) - p.bol + 1)) = w9 at *
            exact bodyPost_ret (v := .tuple #[.pointer none, faV er p.line (colP p)]) (by simp [results, Tryz.results55, go_sem, faV, colP, y0, y1, y2]) rfl HPQ.out
end Go.Proofs.Qxb6500773aGreat
