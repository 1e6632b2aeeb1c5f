import Derived.Test.Qxb6500773aGreatHd1
import Derived.Test.Qxb6500773aGreatPd2
namespace Go.Proofs.Qxb6500773aGreat
set_option maxRecDepth 100000
open Go.RowKit

/-! ### The header, plain -/
inductive HOut where
  | bad (er : Int) (p : Plc)
  | ok (v k : Int) (p : Plc)
def atO (p : Plc) (o : Nat) : Plc := ⟨o, p.line, p.bol⟩
def blkQ (T : Nat → Int) (n : Nat) (p : Plc) : Plc := atO p (blkE T n (n - p.off) p.off)
def tokO (T : Nat → Int) (n o : Nat) : Nat := tokE T n (n - o) o
def tokQ (T : Nat → Int) (n : Nat) (q : Plc) : Plc := atO q (tokO T n q.off)
def hdEnd (T : Nat → Int) (n : Nat) (v k : Int) (q : Plc) : HOut := if moreP T n q.off = true then .bad 7 q else .ok v k q
def hdN2 (T : Nat → Int) (n : Nat) (v : Int) (q : Plc) (M : Int × Int) : HOut := if M.2 = 0 then .bad 7 q else if M.2 = 1 then .bad 8 q else hdEnd T n v M.1 (blkQ T n (tokQ T n q))
def hdNum2 (T : Nat → Int) (n : Nat) (v : Int) (q : Plc) : HOut := if moreP T n q.off = true then hdN2 T n v q (numP T q.off (tokO T n q.off) 2147483647 false) else .bad 7 q
def hdN1 (T : Nat → Int) (n : Nat) (q : Plc) (N : Int × Int) : HOut := if N.2 = 0 then .bad 7 q else if N.2 = 1 then .bad 3 q else hdNum2 T n N.1 (blkQ T n (tokQ T n q))
def hdNum1 (T : Nat → Int) (n : Nat) (q : Plc) : HOut := if moreP T n q.off = true then hdN1 T n q (numP T q.off (tokO T n q.off) 16777215 false) else .bad 7 q
def hdCnf (T : Nat → Int) (n : Nat) (q : Plc) : HOut := if moreP T n q.off = true then (if wordB T q.off (tokO T n q.off) [99, 110, 102] = true then hdNum1 T n (blkQ T n (tokQ T n q)) else .bad 7 q) else .bad 7 q
def hdP (T : Nat → Int) (n : Nat) (p : Plc) : HOut := if (seekF T n p).1 = true then (if wordB T (seekF T n p).2.off (tokO T n (seekF T n p).2.off) [112] = true then hdCnf T n (blkQ T n (tokQ T n (seekF T n p).2)) else .bad 6 (seekF T n p).2) else .bad 6 (seekF T n p).2
def HdPost (w : World) (s : Nat) (a : Option Addr) (n c : Nat) (T : Nat → Int) (H : HOut) (e : Ending) (w' : World) : Prop := Ex (fun k => k = s) w w' ∧
  ((∃ er p v k, H = .bad er p ∧ e = .returned (.tuple #[.agg #[.int .i64 v, .int .i64 k], faV er p.line (colP p)])) ∨ (∃ v k p, H = .ok v k p ∧ e = .returned (.tuple #[.agg #[.int .i64 v, .int .i64 k], faV 0 0 0]) ∧ SC w' s a n c T p.off p.line p.bol))
theorem PlOk.to {n : Nat} {p : Plc} (h : PlOk n p) {o : Nat} (h1 : p.off ≤ o) (h2 : o ≤ n) : PlOk n (atO p o) :=
  ⟨h2, ⟨h.line.1, by have := h.line.2; show p.line ≤ (o : Int) + 1; omega⟩, by have := h.bol; show p.bol ≤ o; omega⟩
theorem tokO_rng {T : Nat → Int} {n o : Nat} (h : o ≤ n) : o ≤ tokO T n o ∧ tokO T n o ≤ n := tokE_rng T n _ _ h
theorem PlOk.blk {T : Nat → Int} {n : Nat} {p : Plc} (h : PlOk n p) : PlOk n (blkQ T n p) := h.to (blkE_rng T n _ _ h.off).1 (blkE_rng T n _ _ h.off).2
theorem PlOk.tok {T : Nat → Int} {n : Nat} {p : Plc} (h : PlOk n p) : PlOk n (tokQ T n p) := h.to (tokO_rng h.off).1 (tokO_rng h.off).2
/-- The memory while the header is read. -/
structure HM (w wr : World) (s q0 q1 q2 : Nat) (a : Option Addr) (n c : Nat) (T : Nat → Int) (p : Plc) (v k : Int) : Prop where
  ex : Ex (fun k => k = s) w wr
  sc : SC wr s a n c T p.off p.line p.bol
  a0 : wr.cell? ⟨q0, 0, none⟩ = some (.int .i64 0)
  a1 : wr.cell? ⟨q0, 1, none⟩ = some (.int .i64 0)
  b0 : wr.cell? ⟨q1, 0, none⟩ = some (.int .i64 0)
  b1 : wr.cell? ⟨q1, 1, none⟩ = some (.int .i64 0)
  b2 : wr.cell? ⟨q1, 2, none⟩ = some (.int .i64 0)
  h0 : wr.cell? ⟨q2, 0, none⟩ = some (.int .i64 v)
  h1 : wr.cell? ⟨q2, 1, none⟩ = some (.int .i64 k)
  f0 : ∀ j, wr.frozen? ⟨q0, j, none⟩ = false
  f1 : ∀ j, wr.frozen? ⟨q1, j, none⟩ = false
  f2 : ∀ j, wr.frozen? ⟨q2, j, none⟩ = false
  l1 : w.heap.size ≤ q0 ∧ w.heap.size ≤ q1 ∧ w.heap.size ≤ q2 ∧ q0 ≠ q1 ∧ q0 ≠ q2 ∧ q1 ≠ q2
  l2 : s < w.heap.size
  l3 : ∀ g o, 0 < n → a = some ⟨g, o, none⟩ → g < w.heap.size
section
variable {w wr w' : World} {s q0 q1 q2 : Nat} {a : Option Addr} {n c : Nat} {T : Nat → Int} {p : Plc} {v k : Int}
theorem HM.step (h : HM w wr s q0 q1 q2 a n c T p v k) (e : Ex (fun k => k = s) wr w') {p' : Plc} (hs : SC w' s a n c T p'.off p'.line p'.bol) : HM w w' s q0 q1 q2 a n c T p' v k := by
  have h1 := h.l1
  have h2 := h.l2
  have n0 : ¬ q0 = s := by omega
  have n1 : ¬ q1 = s := by omega
  have n2 : ¬ q2 = s := by omega
  exact ⟨h.ex.trans e, hs, e.cell n0 h.a0, e.cell n0 h.a1, e.cell n1 h.b0, e.cell n1 h.b1, e.cell n1 h.b2, e.cell n2 h.h0, e.cell n2 h.h1, fun j => (e.frozen n0 (World.block_lt_of_cell? _ _ h.a0)).trans (h.f0 j), fun j => (e.frozen n1 (World.block_lt_of_cell? _ _ h.b0)).trans (h.f1 j), fun j => (e.frozen n2 (World.block_lt_of_cell? _ _ h.h0)).trans (h.f2 j), h.l1, h.l2, h.l3⟩
theorem HM.below (h : HM w wr s q0 q1 q2 a n c T p v k) (e : Below wr.heap.size wr w') : HM w w' s q0 q1 q2 a n c T p v k := h.step (Ex.of e) (h.sc.below e)
/-- A store into the header's own block. -/
theorem HM.set (h : HM w wr s q0 q1 q2 a n c T p v k) (j : Nat) (u : Value) : Ex (fun k => k = s) w (wr.setCell ⟨q2, j, none⟩ u) ∧ SC (wr.setCell ⟨q2, j, none⟩ u) s a n c T p.off p.line p.bol := by
  have h1 := h.l1
  have h2 := h.l2
  have e : Ex (fun k => k = q2) wr (wr.setCell ⟨q2, j, none⟩ u) := (Ex.refl (fun k => k = q2) wr).set (p := q2) rfl u
  exact ⟨h.ex.setNew (by show w.heap.size ≤ q2; omega) u, h.sc.keep e (by show ¬ s = q2; omega) (fun hn g o ea z => by have := h.l3 g o hn ea; omega)⟩
theorem HM.setV (h : HM w wr s q0 q1 q2 a n c T p v k) (u : Int) : HM w (wr.setCell ⟨q2, 0, none⟩ (.int .i64 u)) s q0 q1 q2 a n c T p u k := by
  have h1 := h.l1
  obtain ⟨e, hs⟩ := h.set 0 (.int .i64 u)
  refine ⟨e, hs, ?_, ?_, ?_, ?_, ?_, World.cell?_setCell_same _ _ _ h.h0, ?_, fun j => by rw [set_frozen]; exact h.f0 j, fun j => by rw [set_frozen]; exact h.f1 j, fun j => by rw [set_frozen]; exact h.f2 j, h.l1, h.l2, h.l3⟩
  · rw [set_cell_ne _ _ _ _ _ _ (by omega)]; exact h.a0
  · rw [set_cell_ne _ _ _ _ _ _ (by omega)]; exact h.a1
  · rw [set_cell_ne _ _ _ _ _ _ (by omega)]; exact h.b0
  · rw [set_cell_ne _ _ _ _ _ _ (by omega)]; exact h.b1
  · rw [set_cell_ne _ _ _ _ _ _ (by omega)]; exact h.b2
  · rw [World.cell?_setCell_other _ _ _ _ (by simp)]; exact h.h1
theorem HM.setK (h : HM w wr s q0 q1 q2 a n c T p v k) (u : Int) : HM w (wr.setCell ⟨q2, 1, none⟩ (.int .i64 u)) s q0 q1 q2 a n c T p v u := by
  have h1 := h.l1
  obtain ⟨e, hs⟩ := h.set 1 (.int .i64 u)
  refine ⟨e, hs, ?_, ?_, ?_, ?_, ?_, ?_, World.cell?_setCell_same _ _ _ h.h1, fun j => by rw [set_frozen]; exact h.f0 j, fun j => by rw [set_frozen]; exact h.f1 j, fun j => by rw [set_frozen]; exact h.f2 j, h.l1, h.l2, h.l3⟩
  · rw [set_cell_ne _ _ _ _ _ _ (by omega)]; exact h.a0
  · rw [set_cell_ne _ _ _ _ _ _ (by omega)]; exact h.a1
  · rw [set_cell_ne _ _ _ _ _ _ (by omega)]; exact h.b0
  · rw [set_cell_ne _ _ _ _ _ _ (by omega)]; exact h.b1
  · rw [set_cell_ne _ _ _ _ _ _ (by omega)]; exact h.b2
  · rw [World.cell?_setCell_other _ _ _ _ (by simp)]; exact h.h0
end
theorem set2 {w : World} {q0 : Nat} {u0 u1 : Value} (v0 v1 : Value) (r0 : w.cell? ⟨q0, 0, none⟩ = some u0) (r1 : w.cell? ⟨q0, 1, none⟩ = some u1) :
    ((w.setCell ⟨q0, 0, none⟩ v0).setCell ⟨q0, 1, none⟩ v1).cell? ⟨q0, 0, none⟩ = some v0 ∧ ((w.setCell ⟨q0, 0, none⟩ v0).setCell ⟨q0, 1, none⟩ v1).cell? ⟨q0, 1, none⟩ = some v1 := by
  refine ⟨?_, ?_⟩
  · rw [World.cell?_setCell_other _ _ _ _ (by simp)]
    exact World.cell?_setCell_same _ _ _ r0
  · exact World.cell?_setCell_same _ _ _ (by rw [World.cell?_setCell_other _ _ _ _ (by simp)]; exact r1)
/-- The two results stored. -/
theorem hd_end {w wr : World} {s q0 q1 q2 : Nat} {a : Option Addr} {n c : Nat} {T : Nat → Int} {p : Plc} {v k : Int} (h : HM w wr s q0 q1 q2 a n c T p v k) (x0 x1 y0 y1 y2 : Int) {W : World}
    (hW : ((((wr.setCell ⟨q0, 0, none⟩ (.int .i64 x0)).setCell ⟨q0, 1, none⟩ (.int .i64 x1)).setCell ⟨q1, 0, none⟩ (.int .i64 y0)).setCell ⟨q1, 1, none⟩ (.int .i64 y1)).setCell ⟨q1, 2, none⟩ (.int .i64 y2) = W) :
    W.cell? ⟨q0, 0, none⟩ = some (.int .i64 x0) ∧ W.cell? ⟨q0, 1, none⟩ = some (.int .i64 x1) ∧ W.cell? ⟨q1, 0, none⟩ = some (.int .i64 y0) ∧ W.cell? ⟨q1, 1, none⟩ = some (.int .i64 y1) ∧ W.cell? ⟨q1, 2, none⟩ = some (.int .i64 y2) ∧ Ex (fun k => k = s) w W ∧ SC W s a n c T p.off p.line p.bol := by
  subst hW
  have h1 := h.l1
  have h2 := h.l2
  obtain ⟨e0, e1⟩ := set2 (.int .i64 x0) (.int .i64 x1) h.a0 h.a1
  have b0 : ((wr.setCell ⟨q0, 0, none⟩ (.int .i64 x0)).setCell ⟨q0, 1, none⟩ (.int .i64 x1)).cell? ⟨q1, 0, none⟩ = some (.int .i64 0) := by rw [set_cell_ne _ _ _ _ _ _ (by omega), set_cell_ne _ _ _ _ _ _ (by omega)]; exact h.b0
  have b1 : ((wr.setCell ⟨q0, 0, none⟩ (.int .i64 x0)).setCell ⟨q0, 1, none⟩ (.int .i64 x1)).cell? ⟨q1, 1, none⟩ = some (.int .i64 0) := by rw [set_cell_ne _ _ _ _ _ _ (by omega), set_cell_ne _ _ _ _ _ _ (by omega)]; exact h.b1
  have b2 : ((wr.setCell ⟨q0, 0, none⟩ (.int .i64 x0)).setCell ⟨q0, 1, none⟩ (.int .i64 x1)).cell? ⟨q1, 2, none⟩ = some (.int .i64 0) := by rw [set_cell_ne _ _ _ _ _ _ (by omega), set_cell_ne _ _ _ _ _ _ (by omega)]; exact h.b2
  obtain ⟨f0, f1, f2⟩ := set3 (.int .i64 y0) (.int .i64 y1) (.int .i64 y2) b0 b1 b2
  have ex1 : Ex (fun k => k = q0 ∨ k = q1) wr (((((wr.setCell ⟨q0, 0, none⟩ (.int .i64 x0)).setCell ⟨q0, 1, none⟩ (.int .i64 x1)).setCell ⟨q1, 0, none⟩ (.int .i64 y0)).setCell ⟨q1, 1, none⟩ (.int .i64 y1)).setCell ⟨q1, 2, none⟩ (.int .i64 y2)) :=
    (((((Ex.refl (fun k => k = q0 ∨ k = q1) wr).set (p := q0) (.inl rfl) _).set (p := q0) (.inl rfl) _).set (p := q1) (.inr rfl) _).set (p := q1) (.inr rfl) _).set (p := q1) (.inr rfl) _
  refine ⟨?_, ?_, f0, f1, f2, h.ex.trans2 ex1 (fun j hj => .inr (by omega)), h.sc.keep ex1 (by show ¬ (s = q0 ∨ s = q1); omega) (fun hn g o ea z => by have := h.l3 g o hn ea; omega)⟩
  · rw [set_cell_ne _ _ _ _ _ _ (by omega), set_cell_ne _ _ _ _ _ _ (by omega), set_cell_ne _ _ _ _ _ _ (by omega)]; exact e0
  · rw [set_cell_ne _ _ _ _ _ _ (by omega), set_cell_ne _ _ _ _ _ _ (by omega), set_cell_ne _ _ _ _ _ _ (by omega)]; exact e1
set_option linter.unusedSimpArgs false in
set_option maxRecDepth 100000 in
set_option maxHeartbeats 16000000 in
/-- cnf.parseHeader -/
theorem parseHeader_any (w : World) (s n c : Nat) (a : Option Addr) (T : Nat → Int) (p : Plc) (h : SC w s a n c T p.off p.line p.bol) (hn : n ≤ 4611686018427387904) (hp : PlOk n p) :
    Calls Tryz.prog 114 #[.pointer (some ⟨s, 0, none⟩)] w (HdPost w s a n c T (hdP T n p)) := by
  have HS := hide h
  have HPL := hide hp
  have HL3 := hide (show ∀ g o, 0 < n → a = some ⟨g, o, none⟩ → g < w.heap.size from fun g o hn0 e => by
    obtain ⟨g', o', e', hc, -⟩ := h.bt 0 hn0
    rw [e] at e'
    cases e'
    exact World.block_lt_of_cell? _ _ hc)
  clear h hp
  obtain ⟨H, hH⟩ : ∃ H, hdP T n p = H := ⟨_, rfl⟩
  rw [hH]
  have HH := hide hH
  clear hH
  go_enter Tryz.func114, Tryz.ntmps114
  go_upto_region 2 with fail
  have HM0 := hide (show HM w (((w.alloc (.cells #[.int .i64 0, .int .i64 0] 160)).alloc (.cells #[.int .i64 0, .int .i64 0, .int .i64 0] 41)).alloc (.cells #[.int .i64 0, .int .i64 0] 160)) s w.heap.size (w.heap.size + 1) (w.heap.size + 2) a n c T p 0 0 from by
    have hb : Below w.heap.size w (((w.alloc (.cells #[.int .i64 0, .int .i64 0] 160)).alloc (.cells #[.int .i64 0, .int .i64 0, .int .i64 0] 41)).alloc (.cells #[.int .i64 0, .int .i64 0] 160)) := lec (be2 w _ _) (be1 _ _)
    refine ⟨Ex.of hb, HS.out.below hb, ?_, ?_, ?_, ?_, ?_, ?_, ?_, ?_, ?_, ?_, by omega, HS.out.lt, HL3.out⟩ <;> first | (simp [go_sem]; done) | (intro j; simp [go_sem]))
  generalize (((w.alloc (.cells #[.int .i64 0, .int .i64 0] 160)).alloc (.cells #[.int .i64 0, .int .i64 0, .int .i64 0] 41)).alloc (.cells #[.int .i64 0, .int .i64 0] 160)) = w1 at *
  clear HS HL3
  rw [show w.heap.size + 1 + 1 = w.heap.size + 2 from rfl]
  obtain ⟨q1, hq1⟩ : ∃ q, w.heap.size + 1 = q := ⟨_, rfl⟩
  obtain ⟨q2, hq2⟩ : ∃ q, w.heap.size + 2 = q := ⟨_, rfl⟩
  obtain ⟨q0, hq0⟩ : ∃ q, w.heap.size = q := ⟨_, rfl⟩
  rw [hq1, hq2] at HM0 ⊢
  clear hq1 hq2
  have HZ := hide hq0
  rw [hq0]
  replace HM0 := hide (show HM w w1 s q0 q1 q2 a n c T p 0 0 from by rw [← HZ.out]; exact HM0.out)
  clear hq0 HZ
  go_wp2_with fail
  refine (seek_any _ s n c a T p HM0.out.sc hn HPL.out).mono ?_
  rintro e w2 ⟨rfl, hsc, hpl, hex⟩
  have HM2 := hide (HM0.out.step hex hsc)
  have HPF := hide hpl
  replace HH := hide (show H = if (seekF T n p).1 = true then (if wordB T (seekF T n p).2.off (tokO T n (seekF T n p).2.off) [112] = true then hdCnf T n (blkQ T n (tokQ T n (seekF T n p).2)) else .bad 6 (seekF T n p).2) else .bad 6 (seekF T n p).2 from HH.out.symm)
  clear HM0 HPL hsc hpl hex
  obtain ⟨R, hR⟩ : ∃ R, seekF T n p = R := ⟨_, rfl⟩
  rw [hR] at HM2 HPF HH ⊢
  clear hR
  obtain ⟨fd, pp⟩ := R
  dsimp only at HM2 HPF HH ⊢
  cases fd
  · replace HH := hide (show H = .bad 6 pp from HH.out)
    have cF := fun w' (k' : Below w2.heap.size w2 w') => hide (fault_any w' s n c (pp).off (pp).bol a T (pp).line 6 (HM2.out.below k').sc (by omega) HPF.out.off HPF.out.bol)
    have g0 := HM2.out.h0
    have g1 := HM2.out.h1
    go_upto_region 3 with fail
    go_region_law (first
      | (refine step_call rfl 117 #[.pointer (some ⟨s, 0, none⟩), .int .i64 6] (by simp [go_sem]) (cF _ ((Below.refl _ _).drew)).out ?_
         rintro e w5 ⟨rfl, b5⟩
         have HM5 := hide (HM2.out.below (of_drew b5))
         have g0' := HM5.out.h0
         have g1' := HM5.out.h1
         have k0 := HM5.out.a0
         have k1 := HM5.out.a1
         have k2 := HM5.out.b0
         have k3 := HM5.out.b1
         have k4 := HM5.out.b2
         have e0 := HM5.out.f0
         have e1 := HM5.out.f1
         have hq := HM5.out.l1.2.2.2
         clear b5
         refine ⟨_, rfl, ?_⟩))
    all_goals
      generalize hW : ((((w5.setCell ⟨q0, 0, none⟩ (.int .i64 0)).setCell ⟨q0, 1, none⟩ (.int .i64 0)).setCell ⟨q1, 0, none⟩ (.int .i64 6)).setCell ⟨q1, 1, none⟩ (.int .i64 (pp).line)).setCell ⟨q1, 2, none⟩ (.int .i64 (((pp).off : Int) - (pp).bol + 1)) = W
      obtain ⟨y0, y1, y2, y3, y4, y5, y6⟩ := hd_end HM5.out _ _ _ _ _ hW
      have HPO := hide (show HdPost w s a n c T H (.returned (.tuple #[.agg #[.int .i64 0, .int .i64 0], faV 6 (pp).line (colP (pp))])) W from ⟨y5, .inl ⟨_, _, _, _, HH.out, rfl⟩⟩)
      clear hW y5 y6 k0 k1 k2 k3 k4 e0 e1 g0' g1'
      go_wp2
      exact bodyPost_ret (v := .tuple #[.agg #[.int .i64 0, .int .i64 0], faV 6 (pp).line (colP (pp))]) (by simp [results, Tryz.results114, go_sem, faV, colP, y0, y1, y2, y3, y4]) rfl HPO.out
  · replace HH := hide (show H = if wordB T pp.off (tokO T n pp.off) [112] = true then hdCnf T n (blkQ T n (tokQ T n pp)) else .bad 6 pp from HH.out)
    go_wp2_with fail
    refine (word_any _ s n c (pp).off (pp).bol a T (pp).line ⟨#[112]⟩ (by decide) HM2.out.sc hn HPF.out.off).mono ?_
    rintro e w2' ⟨rfl, hsc, hex⟩
    rw [show (ByteArray.mk #[112]).data.toList.map UInt8.toNat = [112] from rfl, show tokE T n (n - (pp).off) (pp).off = tokO T n (pp).off from rfl] at hsc ⊢
    obtain ⟨wd, hwd⟩ : ∃ wd, wordB T (pp).off (tokO T n (pp).off) [112] = wd := ⟨_, rfl⟩
    replace HH := hide (show H = if wordB T pp.off (tokO T n pp.off) [112] = true then hdCnf T n (blkQ T n (tokQ T n pp)) else .bad 6 pp from HH.out)
    rw [hwd] at HH hsc ⊢
    clear hwd
    cases wd
    · have HMw2' := hide (HM2.out.step hex (p' := pp) hsc)
      replace HH := hide (show H = .bad 6 pp from HH.out)
      clear hsc hex HM2
      have cF := fun w' (k' : Below w2'.heap.size w2' w') => hide (fault_any w' s n c (pp).off (pp).bol a T (pp).line 6 (HMw2'.out.below k').sc (by omega) HPF.out.off HPF.out.bol)
      have g0 := HMw2'.out.h0
      have g1 := HMw2'.out.h1
      go_upto_region 3 with fail
      go_region_law (first
        | (refine step_call rfl 117 #[.pointer (some ⟨s, 0, none⟩), .int .i64 6] (by simp [go_sem]) (cF _ ((Below.refl _ _).drew)).out ?_
           rintro e w5 ⟨rfl, b5⟩
           have HM5 := hide (HMw2'.out.below (of_drew b5))
           have g0' := HM5.out.h0
           have g1' := HM5.out.h1
           have k0 := HM5.out.a0
           have k1 := HM5.out.a1
           have k2 := HM5.out.b0
           have k3 := HM5.out.b1
           have k4 := HM5.out.b2
           have e0 := HM5.out.f0
           have e1 := HM5.out.f1
           have hq := HM5.out.l1.2.2.2
           clear b5
           refine ⟨_, rfl, ?_⟩))
      all_goals
        generalize hW : ((((w5.setCell ⟨q0, 0, none⟩ (.int .i64 0)).setCell ⟨q0, 1, none⟩ (.int .i64 0)).setCell ⟨q1, 0, none⟩ (.int .i64 6)).setCell ⟨q1, 1, none⟩ (.int .i64 (pp).line)).setCell ⟨q1, 2, none⟩ (.int .i64 (((pp).off : Int) - (pp).bol + 1)) = W
        obtain ⟨y0, y1, y2, y3, y4, y5, y6⟩ := hd_end HM5.out _ _ _ _ _ hW
        have HPO := hide (show HdPost w s a n c T H (.returned (.tuple #[.agg #[.int .i64 0, .int .i64 0], faV 6 (pp).line (colP (pp))])) W from ⟨y5, .inl ⟨_, _, _, _, HH.out, rfl⟩⟩)
        clear hW y5 y6 k0 k1 k2 k3 k4 e0 e1 g0' g1'
        go_wp2
        exact bodyPost_ret (v := .tuple #[.agg #[.int .i64 0, .int .i64 0], faV 6 (pp).line (colP (pp))]) (by simp [results, Tryz.results114, go_sem, faV, colP, y0, y1, y2, y3, y4]) rfl HPO.out
    · have HMw2' := hide (HM2.out.step hex (p' := tokQ T n pp) hsc)
      have HPw2' := hide (show PlOk n (tokQ T n pp) from HPF.out.tok)
      replace HH := hide (show H = hdCnf T n (blkQ T n (tokQ T n pp)) from HH.out)
      clear hsc hex HM2 HPF
      generalize tokQ T n pp = pw2' at *
      go_wp2_with fail
      refine (seekInLine_any _ s n c (pw2').off (pw2').bol a T (pw2').line HMw2'.out.sc hn HPw2'.out.off).mono ?_
      rintro e w3a ⟨rfl, hsc, hex⟩
      rw [show blkE T n (n - (pw2').off) (pw2').off = (blkQ T n pw2').off from rfl] at hsc ⊢
      have HMw3a := hide (HMw2'.out.step hex (p' := blkQ T n pw2') hsc)
      have HPF := hide (show PlOk n (blkQ T n pw2') from HPw2'.out.blk)
      clear hsc hex HMw2' HPw2'
      generalize blkQ T n pw2' = q2p at *
      obtain ⟨mo, hmo⟩ : ∃ mo, moreP T n (q2p).off = mo := ⟨_, rfl⟩
      replace HH := hide (show H = if moreP T n q2p.off = true then (if wordB T q2p.off (tokO T n q2p.off) [99, 110, 102] = true then hdNum1 T n (blkQ T n (tokQ T n q2p)) else .bad 7 q2p) else .bad 7 q2p from HH.out)
      rw [hmo] at HH ⊢
      clear hmo
      cases mo
      · replace HH := hide (show H = .bad 7 q2p from HH.out)
        have cF := fun w' (k' : Below w3a.heap.size w3a w') => hide (fault_any w' s n c (q2p).off (q2p).bol a T (q2p).line 7 (HMw3a.out.below k').sc (by omega) HPF.out.off HPF.out.bol)
        have g0 := HMw3a.out.h0
        have g1 := HMw3a.out.h1
        go_upto_region 5 with fail
        go_region_law (first
          | (refine step_call rfl 117 #[.pointer (some ⟨s, 0, none⟩), .int .i64 7] (by simp [go_sem]) (cF _ ((Below.refl _ _).drew)).out ?_
             rintro e w5 ⟨rfl, b5⟩
             have HM5 := hide (HMw3a.out.below (of_drew b5))
             have g0' := HM5.out.h0
             have g1' := HM5.out.h1
             have k0 := HM5.out.a0
             have k1 := HM5.out.a1
             have k2 := HM5.out.b0
             have k3 := HM5.out.b1
             have k4 := HM5.out.b2
             have e0 := HM5.out.f0
             have e1 := HM5.out.f1
             have hq := HM5.out.l1.2.2.2
             clear b5
             refine ⟨_, rfl, ?_⟩))
        all_goals
          generalize hW : ((((w5.setCell ⟨q0, 0, none⟩ (.int .i64 0)).setCell ⟨q0, 1, none⟩ (.int .i64 0)).setCell ⟨q1, 0, none⟩ (.int .i64 7)).setCell ⟨q1, 1, none⟩ (.int .i64 (q2p).line)).setCell ⟨q1, 2, none⟩ (.int .i64 (((q2p).off : Int) - (q2p).bol + 1)) = W
          obtain ⟨y0, y1, y2, y3, y4, y5, y6⟩ := hd_end HM5.out _ _ _ _ _ hW
          have HPO := hide (show HdPost w s a n c T H (.returned (.tuple #[.agg #[.int .i64 0, .int .i64 0], faV 7 (q2p).line (colP (q2p))])) W from ⟨y5, .inl ⟨_, _, _, _, HH.out, rfl⟩⟩)
          clear hW y5 y6 k0 k1 k2 k3 k4 e0 e1 g0' g1'
          go_wp2
          exact bodyPost_ret (v := .tuple #[.agg #[.int .i64 0, .int .i64 0], faV 7 (q2p).line (colP (q2p))]) (by simp [results, Tryz.results114, go_sem, faV, colP, y0, y1, y2, y3, y4]) rfl HPO.out
      · replace HH := hide (show H = if wordB T q2p.off (tokO T n q2p.off) [99, 110, 102] = true then hdNum1 T n (blkQ T n (tokQ T n q2p)) else .bad 7 q2p from HH.out)
        go_wp2_with fail
        refine (word_any _ s n c (q2p).off (q2p).bol a T (q2p).line ⟨#[99, 110, 102]⟩ (by decide) HMw3a.out.sc hn HPF.out.off).mono ?_
        rintro e w3 ⟨rfl, hsc, hex⟩
        rw [show (ByteArray.mk #[99, 110, 102]).data.toList.map UInt8.toNat = [99, 110, 102] from rfl, show tokE T n (n - (q2p).off) (q2p).off = tokO T n (q2p).off from rfl] at hsc ⊢
        obtain ⟨wd, hwd⟩ : ∃ wd, wordB T (q2p).off (tokO T n (q2p).off) [99, 110, 102] = wd := ⟨_, rfl⟩
        replace HH := hide (show H = if wordB T q2p.off (tokO T n q2p.off) [99, 110, 102] = true then hdNum1 T n (blkQ T n (tokQ T n q2p)) else .bad 7 q2p from HH.out)
        rw [hwd] at HH hsc ⊢
        clear hwd
        cases wd
        · have HMw3 := hide (HMw3a.out.step hex (p' := q2p) hsc)
          replace HH := hide (show H = .bad 7 q2p from HH.out)
          clear hsc hex HMw3a
          have cF := fun w' (k' : Below w3.heap.size w3 w') => hide (fault_any w' s n c (q2p).off (q2p).bol a T (q2p).line 7 (HMw3.out.below k').sc (by omega) HPF.out.off HPF.out.bol)
          have g0 := HMw3.out.h0
          have g1 := HMw3.out.h1
          go_upto_region 5 with fail
          go_region_law (first
            | (refine step_call rfl 117 #[.pointer (some ⟨s, 0, none⟩), .int .i64 7] (by simp [go_sem]) (cF _ ((Below.refl _ _).drew)).out ?_
               rintro e w5 ⟨rfl, b5⟩
               have HM5 := hide (HMw3.out.below (of_drew b5))
               have g0' := HM5.out.h0
               have g1' := HM5.out.h1
               have k0 := HM5.out.a0
               have k1 := HM5.out.a1
               have k2 := HM5.out.b0
               have k3 := HM5.out.b1
               have k4 := HM5.out.b2
               have e0 := HM5.out.f0
               have e1 := HM5.out.f1
               have hq := HM5.out.l1.2.2.2
               clear b5
               refine ⟨_, rfl, ?_⟩))
          all_goals
            generalize hW : ((((w5.setCell ⟨q0, 0, none⟩ (.int .i64 0)).setCell ⟨q0, 1, none⟩ (.int .i64 0)).setCell ⟨q1, 0, none⟩ (.int .i64 7)).setCell ⟨q1, 1, none⟩ (.int .i64 (q2p).line)).setCell ⟨q1, 2, none⟩ (.int .i64 (((q2p).off : Int) - (q2p).bol + 1)) = W
            obtain ⟨y0, y1, y2, y3, y4, y5, y6⟩ := hd_end HM5.out _ _ _ _ _ hW
            have HPO := hide (show HdPost w s a n c T H (.returned (.tuple #[.agg #[.int .i64 0, .int .i64 0], faV 7 (q2p).line (colP (q2p))])) W from ⟨y5, .inl ⟨_, _, _, _, HH.out, rfl⟩⟩)
            clear hW y5 y6 k0 k1 k2 k3 k4 e0 e1 g0' g1'
            go_wp2
            exact bodyPost_ret (v := .tuple #[.agg #[.int .i64 0, .int .i64 0], faV 7 (q2p).line (colP (q2p))]) (by simp [results, Tryz.results114, go_sem, faV, colP, y0, y1, y2, y3, y4]) rfl HPO.out
        · have HMw3 := hide (HMw3a.out.step hex (p' := tokQ T n q2p) hsc)
          have HPw3 := hide (show PlOk n (tokQ T n q2p) from HPF.out.tok)
          replace HH := hide (show H = hdNum1 T n (blkQ T n (tokQ T n q2p)) from HH.out)
          clear hsc hex HMw3a HPF
          generalize tokQ T n q2p = pw3 at *
          go_wp2_with fail
          refine (seekInLine_any _ s n c (pw3).off (pw3).bol a T (pw3).line HMw3.out.sc hn HPw3.out.off).mono ?_
          rintro e w4 ⟨rfl, hsc, hex⟩
          rw [show blkE T n (n - (pw3).off) (pw3).off = (blkQ T n pw3).off from rfl] at hsc ⊢
          have HMw4 := hide (HMw3.out.step hex (p' := blkQ T n pw3) hsc)
          have HPF := hide (show PlOk n (blkQ T n pw3) from HPw3.out.blk)
          clear hsc hex HMw3 HPw3
          generalize blkQ T n pw3 = q4 at *
          obtain ⟨mo, hmo⟩ : ∃ mo, moreP T n (q4).off = mo := ⟨_, rfl⟩
          replace HH := hide (show H = if moreP T n q4.off = true then hdN1 T n q4 (numP T q4.off (tokO T n q4.off) 16777215 false) else .bad 7 q4 from HH.out)
          rw [hmo] at HH ⊢
          clear hmo
          cases mo
          · replace HH := hide (show H = .bad 7 q4 from HH.out)
            have cF := fun w' (k' : Below w4.heap.size w4 w') => hide (fault_any w' s n c (q4).off (q4).bol a T (q4).line 7 (HMw4.out.below k').sc (by omega) HPF.out.off HPF.out.bol)
            have g0 := HMw4.out.h0
            have g1 := HMw4.out.h1
            go_upto_region 7 with fail
            go_region_law (first
              | (refine step_call rfl 117 #[.pointer (some ⟨s, 0, none⟩), .int .i64 7] (by simp [go_sem]) (cF _ ((Below.refl _ _).drew)).out ?_
                 rintro e w5 ⟨rfl, b5⟩
                 have HM5 := hide (HMw4.out.below (of_drew b5))
                 have g0' := HM5.out.h0
                 have g1' := HM5.out.h1
                 have k0 := HM5.out.a0
                 have k1 := HM5.out.a1
                 have k2 := HM5.out.b0
                 have k3 := HM5.out.b1
                 have k4 := HM5.out.b2
                 have e0 := HM5.out.f0
                 have e1 := HM5.out.f1
                 have hq := HM5.out.l1.2.2.2
                 clear b5
                 refine ⟨_, rfl, ?_⟩))
            all_goals
              generalize hW : ((((w5.setCell ⟨q0, 0, none⟩ (.int .i64 0)).setCell ⟨q0, 1, none⟩ (.int .i64 0)).setCell ⟨q1, 0, none⟩ (.int .i64 7)).setCell ⟨q1, 1, none⟩ (.int .i64 (q4).line)).setCell ⟨q1, 2, none⟩ (.int .i64 (((q4).off : Int) - (q4).bol + 1)) = W
              obtain ⟨y0, y1, y2, y3, y4, y5, y6⟩ := hd_end HM5.out _ _ _ _ _ hW
              have HPO := hide (show HdPost w s a n c T H (.returned (.tuple #[.agg #[.int .i64 0, .int .i64 0], faV 7 (q4).line (colP (q4))])) W from ⟨y5, .inl ⟨_, _, _, _, HH.out, rfl⟩⟩)
              clear hW y5 y6 k0 k1 k2 k3 k4 e0 e1 g0' g1'
              go_wp2
              exact bodyPost_ret (v := .tuple #[.agg #[.int .i64 0, .int .i64 0], faV 7 (q4).line (colP (q4))]) (by simp [results, Tryz.results114, go_sem, faV, colP, y0, y1, y2, y3, y4]) rfl HPO.out
          · replace HH := hide (show H = hdN1 T n q4 (numP T q4.off (tokO T n q4.off) 16777215 false) from HH.out)
            go_wp2_with fail
            refine (number_any _ s n c (q4).off (q4).bol a T (q4).line 16777215 false HMw4.out.sc hn HPF.out.off (by decide)).mono ?_
            rintro e w5 ⟨rfl, hsc, hex⟩
            rw [show tokE T n (n - (q4).off) (q4).off = tokO T n (q4).off from rfl] at hsc ⊢
            have HNC := hide (numP_cls T (q4).off (tokO T n (q4).off) 16777215 false)
            obtain ⟨A, hA⟩ : ∃ N, numP T q4.off (tokO T n q4.off) 16777215 false = N := ⟨_, rfl⟩
            rw [hA] at HH hsc HNC ⊢
            clear hA
            obtain ⟨Av, Ac⟩ := A
            dsimp only at hsc HNC ⊢
            by_cases z0 : Ac = 0
            · have z0b : (Ac == 0) = true := by simpa using z0
              have HMw5 := hide (HMw4.out.step hex (p' := q4) (by rw [if_neg (by omega)] at hsc; exact hsc))
              replace HH := hide (show H = .bad 7 q4 from by rw [HH.out]; unfold hdN1; rw [if_pos z0])
              clear hsc hex HMw4 HNC z0
              have cF := fun w' (k' : Below w5.heap.size w5 w') => hide (fault_any w' s n c (q4).off (q4).bol a T (q4).line 7 (HMw5.out.below k').sc (by omega) HPF.out.off HPF.out.bol)
              have g0 := HMw5.out.h0
              have g1 := HMw5.out.h1
              go_upto_region 10 with fail
              go_region_law (first
                | (refine step_call rfl 117 #[.pointer (some ⟨s, 0, none⟩), .int .i64 7] (by simp [go_sem]) (cF _ ((Below.refl _ _).drew)).out ?_
                   rintro e w5 ⟨rfl, b5⟩
                   have HM5 := hide (HMw5.out.below (of_drew b5))
                   have g0' := HM5.out.h0
                   have g1' := HM5.out.h1
                   have k0 := HM5.out.a0
                   have k1 := HM5.out.a1
                   have k2 := HM5.out.b0
                   have k3 := HM5.out.b1
                   have k4 := HM5.out.b2
                   have e0 := HM5.out.f0
                   have e1 := HM5.out.f1
                   have hq := HM5.out.l1.2.2.2
                   clear b5
                   refine ⟨_, rfl, ?_⟩))
              all_goals
                generalize hW : ((((w5.setCell ⟨q0, 0, none⟩ (.int .i64 0)).setCell ⟨q0, 1, none⟩ (.int .i64 0)).setCell ⟨q1, 0, none⟩ (.int .i64 7)).setCell ⟨q1, 1, none⟩ (.int .i64 (q4).line)).setCell ⟨q1, 2, none⟩ (.int .i64 (((q4).off : Int) - (q4).bol + 1)) = W
                obtain ⟨y0, y1, y2, y3, y4, y5, y6⟩ := hd_end HM5.out _ _ _ _ _ hW
                have HPO := hide (show HdPost w s a n c T H (.returned (.tuple #[.agg #[.int .i64 0, .int .i64 0], faV 7 (q4).line (colP (q4))])) W from ⟨y5, .inl ⟨_, _, _, _, HH.out, rfl⟩⟩)
                clear hW y5 y6 k0 k1 k2 k3 k4 e0 e1 g0' g1'
                go_wp2
                exact bodyPost_ret (v := .tuple #[.agg #[.int .i64 0, .int .i64 0], faV 7 (q4).line (colP (q4))]) (by simp [results, Tryz.results114, go_sem, faV, colP, y0, y1, y2, y3, y4]) rfl HPO.out
            · have z0b : (Ac == 0) = false := by simpa using z0
              by_cases z1 : Ac = 1
              · have z1b : (Ac == 1) = true := by simpa using z1
                have HMw5 := hide (HMw4.out.step hex (p' := q4) (by rw [if_neg (by omega)] at hsc; exact hsc))
                replace HH := hide (show H = .bad 3 q4 from by rw [HH.out]; unfold hdN1; rw [if_neg z0, if_pos z1])
                clear hsc hex HMw4 HNC z0 z1
                have cF := fun w' (k' : Below w5.heap.size w5 w') => hide (fault_any w' s n c (q4).off (q4).bol a T (q4).line 3 (HMw5.out.below k').sc (by omega) HPF.out.off HPF.out.bol)
                have g0 := HMw5.out.h0
                have g1 := HMw5.out.h1
                go_upto_region 12 with fail
                go_region_law (first
                  | (refine step_call rfl 117 #[.pointer (some ⟨s, 0, none⟩), .int .i64 3] (by simp [go_sem]) (cF _ ((Below.refl _ _).drew)).out ?_
                     rintro e w5 ⟨rfl, b5⟩
                     have HM5 := hide (HMw5.out.below (of_drew b5))
                     have g0' := HM5.out.h0
                     have g1' := HM5.out.h1
                     have k0 := HM5.out.a0
                     have k1 := HM5.out.a1
                     have k2 := HM5.out.b0
                     have k3 := HM5.out.b1
                     have k4 := HM5.out.b2
                     have e0 := HM5.out.f0
                     have e1 := HM5.out.f1
                     have hq := HM5.out.l1.2.2.2
                     clear b5
                     refine ⟨_, rfl, ?_⟩))
                all_goals
                  generalize hW : ((((w5.setCell ⟨q0, 0, none⟩ (.int .i64 0)).setCell ⟨q0, 1, none⟩ (.int .i64 0)).setCell ⟨q1, 0, none⟩ (.int .i64 3)).setCell ⟨q1, 1, none⟩ (.int .i64 (q4).line)).setCell ⟨q1, 2, none⟩ (.int .i64 (((q4).off : Int) - (q4).bol + 1)) = W
                  obtain ⟨y0, y1, y2, y3, y4, y5, y6⟩ := hd_end HM5.out _ _ _ _ _ hW
                  have HPO := hide (show HdPost w s a n c T H (.returned (.tuple #[.agg #[.int .i64 0, .int .i64 0], faV 3 (q4).line (colP (q4))])) W from ⟨y5, .inl ⟨_, _, _, _, HH.out, rfl⟩⟩)
                  clear hW y5 y6 k0 k1 k2 k3 k4 e0 e1 g0' g1'
                  go_wp2
                  exact bodyPost_ret (v := .tuple #[.agg #[.int .i64 0, .int .i64 0], faV 3 (q4).line (colP (q4))]) (by simp [results, Tryz.results114, go_sem, faV, colP, y0, y1, y2, y3, y4]) rfl HPO.out
              · have z1b : (Ac == 1) = false := by simpa using z1
                have z2 : Ac = 2 := by have := HNC.out; omega
                have HMw5 := hide (HMw4.out.step hex (p' := tokQ T n q4) (by rw [if_pos z2] at hsc; exact hsc))
                have HPw5 := hide (show PlOk n (tokQ T n q4) from HPF.out.tok)
                replace HH := hide (show H = hdNum2 T n Av (blkQ T n (tokQ T n q4)) from by rw [HH.out]; unfold hdN1; rw [if_neg z0, if_neg z1])
                clear hsc hex HMw4 HNC z0 z1 z2 HPF
                generalize tokQ T n q4 = pw5 at *
                have g0 := HMw5.out.h0
                have g1 := HMw5.out.h1
                have e2 := HMw5.out.f2
                go_upto_region 14 with fail
                replace HMw5 := hide (HMw5.out.setV Av)
                clear g0 g1 e2
                generalize World.setCell w5 ⟨q2, 0, none⟩ (.int .i64 Av) = w5' at *
                go_wp2_with fail
                refine (seekInLine_any _ s n c (pw5).off (pw5).bol a T (pw5).line HMw5.out.sc hn HPw5.out.off).mono ?_
                rintro e w6 ⟨rfl, hsc, hex⟩
                rw [show blkE T n (n - (pw5).off) (pw5).off = (blkQ T n pw5).off from rfl] at hsc ⊢
                have HMw6 := hide (HMw5.out.step hex (p' := blkQ T n pw5) hsc)
                have HPF := hide (show PlOk n (blkQ T n pw5) from HPw5.out.blk)
                clear hsc hex HMw5 HPw5
                generalize blkQ T n pw5 = q6 at *
                obtain ⟨mo, hmo⟩ : ∃ mo, moreP T n (q6).off = mo := ⟨_, rfl⟩
                replace HH := hide (show H = if moreP T n q6.off = true then hdN2 T n Av q6 (numP T q6.off (tokO T n q6.off) 2147483647 false) else .bad 7 q6 from HH.out)
                rw [hmo] at HH ⊢
                clear hmo
                cases mo
                · replace HH := hide (show H = .bad 7 q6 from HH.out)
                  have cF := fun w' (k' : Below w6.heap.size w6 w') => hide (fault_any w' s n c (q6).off (q6).bol a T (q6).line 7 (HMw6.out.below k').sc (by omega) HPF.out.off HPF.out.bol)
                  have g0 := HMw6.out.h0
                  have g1 := HMw6.out.h1
                  go_upto_region 15 with fail
                  go_region_law (first
                    | (refine step_call rfl 117 #[.pointer (some ⟨s, 0, none⟩), .int .i64 7] (by simp [go_sem]) (cF _ ((Below.refl _ _).drew)).out ?_
                       rintro e w5 ⟨rfl, b5⟩
                       have HM5 := hide (HMw6.out.below (of_drew b5))
                       have g0' := HM5.out.h0
                       have g1' := HM5.out.h1
                       have k0 := HM5.out.a0
                       have k1 := HM5.out.a1
                       have k2 := HM5.out.b0
                       have k3 := HM5.out.b1
                       have k4 := HM5.out.b2
                       have e0 := HM5.out.f0
                       have e1 := HM5.out.f1
                       have hq := HM5.out.l1.2.2.2
                       clear b5
                       refine ⟨_, rfl, ?_⟩))
                  all_goals
                    generalize hW : ((((w5.setCell ⟨q0, 0, none⟩ (.int .i64 Av)).setCell ⟨q0, 1, none⟩ (.int .i64 0)).setCell ⟨q1, 0, none⟩ (.int .i64 7)).setCell ⟨q1, 1, none⟩ (.int .i64 (q6).line)).setCell ⟨q1, 2, none⟩ (.int .i64 (((q6).off : Int) - (q6).bol + 1)) = W
                    obtain ⟨y0, y1, y2, y3, y4, y5, y6⟩ := hd_end HM5.out _ _ _ _ _ hW
                    have HPO := hide (show HdPost w s a n c T H (.returned (.tuple #[.agg #[.int .i64 Av, .int .i64 0], faV 7 (q6).line (colP (q6))])) W from ⟨y5, .inl ⟨_, _, _, _, HH.out, rfl⟩⟩)
                    clear hW y5 y6 k0 k1 k2 k3 k4 e0 e1 g0' g1'
                    go_wp2
                    exact bodyPost_ret (v := .tuple #[.agg #[.int .i64 Av, .int .i64 0], faV 7 (q6).line (colP (q6))]) (by simp [results, Tryz.results114, go_sem, faV, colP, y0, y1, y2, y3, y4]) rfl HPO.out
                · replace HH := hide (show H = hdN2 T n Av q6 (numP T q6.off (tokO T n q6.off) 2147483647 false) from HH.out)
                  go_wp2_with fail
                  refine (number_any _ s n c (q6).off (q6).bol a T (q6).line 2147483647 false HMw6.out.sc hn HPF.out.off (by decide)).mono ?_
                  rintro e w7 ⟨rfl, hsc, hex⟩
                  rw [show tokE T n (n - (q6).off) (q6).off = tokO T n (q6).off from rfl] at hsc ⊢
                  have HNC := hide (numP_cls T (q6).off (tokO T n (q6).off) 2147483647 false)
                  obtain ⟨B, hB⟩ : ∃ N, numP T q6.off (tokO T n q6.off) 2147483647 false = N := ⟨_, rfl⟩
                  rw [hB] at HH hsc HNC ⊢
                  clear hB
                  obtain ⟨Bv, Bc⟩ := B
                  dsimp only at hsc HNC ⊢
                  by_cases z0 : Bc = 0
                  · have z0b : (Bc == 0) = true := by simpa using z0
                    have HMw7 := hide (HMw6.out.step hex (p' := q6) (by rw [if_neg (by omega)] at hsc; exact hsc))
                    replace HH := hide (show H = .bad 7 q6 from by rw [HH.out]; unfold hdN2; rw [if_pos z0])
                    clear hsc hex HMw6 HNC z0
                    have cF := fun w' (k' : Below w7.heap.size w7 w') => hide (fault_any w' s n c (q6).off (q6).bol a T (q6).line 7 (HMw7.out.below k').sc (by omega) HPF.out.off HPF.out.bol)
                    have g0 := HMw7.out.h0
                    have g1 := HMw7.out.h1
                    go_upto_region 18 with fail
                    go_region_law (first
                      | (refine step_call rfl 117 #[.pointer (some ⟨s, 0, none⟩), .int .i64 7] (by simp [go_sem]) (cF _ ((Below.refl _ _).drew)).out ?_
                         rintro e w5 ⟨rfl, b5⟩
                         have HM5 := hide (HMw7.out.below (of_drew b5))
                         have g0' := HM5.out.h0
                         have g1' := HM5.out.h1
                         have k0 := HM5.out.a0
                         have k1 := HM5.out.a1
                         have k2 := HM5.out.b0
                         have k3 := HM5.out.b1
                         have k4 := HM5.out.b2
                         have e0 := HM5.out.f0
                         have e1 := HM5.out.f1
                         have hq := HM5.out.l1.2.2.2
                         clear b5
                         refine ⟨_, rfl, ?_⟩))
                    all_goals
                      generalize hW : ((((w5.setCell ⟨q0, 0, none⟩ (.int .i64 Av)).setCell ⟨q0, 1, none⟩ (.int .i64 0)).setCell ⟨q1, 0, none⟩ (.int .i64 7)).setCell ⟨q1, 1, none⟩ (.int .i64 (q6).line)).setCell ⟨q1, 2, none⟩ (.int .i64 (((q6).off : Int) - (q6).bol + 1)) = W
                      obtain ⟨y0, y1, y2, y3, y4, y5, y6⟩ := hd_end HM5.out _ _ _ _ _ hW
                      have HPO := hide (show HdPost w s a n c T H (.returned (.tuple #[.agg #[.int .i64 Av, .int .i64 0], faV 7 (q6).line (colP (q6))])) W from ⟨y5, .inl ⟨_, _, _, _, HH.out, rfl⟩⟩)
                      clear hW y5 y6 k0 k1 k2 k3 k4 e0 e1 g0' g1'
                      go_wp2
                      exact bodyPost_ret (v := .tuple #[.agg #[.int .i64 Av, .int .i64 0], faV 7 (q6).line (colP (q6))]) (by simp [results, Tryz.results114, go_sem, faV, colP, y0, y1, y2, y3, y4]) rfl HPO.out
                  · have z0b : (Bc == 0) = false := by simpa using z0
                    by_cases z1 : Bc = 1
                    · have z1b : (Bc == 1) = true := by simpa using z1
                      have HMw7 := hide (HMw6.out.step hex (p' := q6) (by rw [if_neg (by omega)] at hsc; exact hsc))
                      replace HH := hide (show H = .bad 8 q6 from by rw [HH.out]; unfold hdN2; rw [if_neg z0, if_pos z1])
                      clear hsc hex HMw6 HNC z0 z1
                      have cF := fun w' (k' : Below w7.heap.size w7 w') => hide (fault_any w' s n c (q6).off (q6).bol a T (q6).line 8 (HMw7.out.below k').sc (by omega) HPF.out.off HPF.out.bol)
                      have g0 := HMw7.out.h0
                      have g1 := HMw7.out.h1
                      go_upto_region 20 with fail
                      go_region_law (first
                        | (refine step_call rfl 117 #[.pointer (some ⟨s, 0, none⟩), .int .i64 8] (by simp [go_sem]) (cF _ ((Below.refl _ _).drew)).out ?_
                           rintro e w5 ⟨rfl, b5⟩
                           have HM5 := hide (HMw7.out.below (of_drew b5))
                           have g0' := HM5.out.h0
                           have g1' := HM5.out.h1
                           have k0 := HM5.out.a0
                           have k1 := HM5.out.a1
                           have k2 := HM5.out.b0
                           have k3 := HM5.out.b1
                           have k4 := HM5.out.b2
                           have e0 := HM5.out.f0
                           have e1 := HM5.out.f1
                           have hq := HM5.out.l1.2.2.2
                           clear b5
                           refine ⟨_, rfl, ?_⟩))
                      all_goals
                        generalize hW : ((((w5.setCell ⟨q0, 0, none⟩ (.int .i64 Av)).setCell ⟨q0, 1, none⟩ (.int .i64 0)).setCell ⟨q1, 0, none⟩ (.int .i64 8)).setCell ⟨q1, 1, none⟩ (.int .i64 (q6).line)).setCell ⟨q1, 2, none⟩ (.int .i64 (((q6).off : Int) - (q6).bol + 1)) = W
                        obtain ⟨y0, y1, y2, y3, y4, y5, y6⟩ := hd_end HM5.out _ _ _ _ _ hW
                        have HPO := hide (show HdPost w s a n c T H (.returned (.tuple #[.agg #[.int .i64 Av, .int .i64 0], faV 8 (q6).line (colP (q6))])) W from ⟨y5, .inl ⟨_, _, _, _, HH.out, rfl⟩⟩)
                        clear hW y5 y6 k0 k1 k2 k3 k4 e0 e1 g0' g1'
                        go_wp2
                        exact bodyPost_ret (v := .tuple #[.agg #[.int .i64 Av, .int .i64 0], faV 8 (q6).line (colP (q6))]) (by simp [results, Tryz.results114, go_sem, faV, colP, y0, y1, y2, y3, y4]) rfl HPO.out
                    · have z1b : (Bc == 1) = false := by simpa using z1
                      have z2 : Bc = 2 := by have := HNC.out; omega
                      have HMw7 := hide (HMw6.out.step hex (p' := tokQ T n q6) (by rw [if_pos z2] at hsc; exact hsc))
                      have HPw7 := hide (show PlOk n (tokQ T n q6) from HPF.out.tok)
                      replace HH := hide (show H = hdEnd T n Av Bv (blkQ T n (tokQ T n q6)) from by rw [HH.out]; unfold hdN2; rw [if_neg z0, if_neg z1])
                      clear hsc hex HMw6 HNC z0 z1 z2 HPF
                      generalize tokQ T n q6 = pw7 at *
                      have g0 := HMw7.out.h0
                      have g1 := HMw7.out.h1
                      have e2 := HMw7.out.f2
                      go_upto_region 22 with fail
                      replace HMw7 := hide (HMw7.out.setK Bv)
                      clear g0 g1 e2
                      generalize World.setCell w7 ⟨q2, 1, none⟩ (.int .i64 Bv) = w7' at *
                      go_wp2_with fail
                      refine (seekInLine_any _ s n c (pw7).off (pw7).bol a T (pw7).line HMw7.out.sc hn HPw7.out.off).mono ?_
                      rintro e w8 ⟨rfl, hsc, hex⟩
                      rw [show blkE T n (n - (pw7).off) (pw7).off = (blkQ T n pw7).off from rfl] at hsc ⊢
                      have HMw8 := hide (HMw7.out.step hex (p' := blkQ T n pw7) hsc)
                      have HPF := hide (show PlOk n (blkQ T n pw7) from HPw7.out.blk)
                      clear hsc hex HMw7 HPw7
                      generalize blkQ T n pw7 = q8 at *
                      obtain ⟨mo, hmo⟩ : ∃ mo, moreP T n (q8).off = mo := ⟨_, rfl⟩
                      replace HH := hide (show H = if moreP T n q8.off = true then .bad 7 q8 else .ok Av Bv q8 from HH.out)
                      rw [hmo] at HH ⊢
                      clear hmo
                      cases mo
                      · replace HH := hide (show H = .ok Av Bv q8 from HH.out)
                        have g0 := HMw8.out.h0
                        have g1 := HMw8.out.h1
                        have k0 := HMw8.out.a0
                        have k1 := HMw8.out.a1
                        have k2 := HMw8.out.b0
                        have k3 := HMw8.out.b1
                        have k4 := HMw8.out.b2
                        have e0 := HMw8.out.f0
                        have e1 := HMw8.out.f1
                        have hq := HMw8.out.l1.2.2.2
                        go_wp2
                        generalize hW : ((((w8.setCell ⟨q0, 0, none⟩ (.int .i64 Av)).setCell ⟨q0, 1, none⟩ (.int .i64 Bv)).setCell ⟨q1, 0, none⟩ (.int .i64 0)).setCell ⟨q1, 1, none⟩ (.int .i64 0)).setCell ⟨q1, 2, none⟩ (.int .i64 0) = W
                        obtain ⟨y0, y1, y2, y3, y4, y5, y6⟩ := hd_end HMw8.out _ _ _ _ _ hW
                        have HPO := hide (show HdPost w s a n c T H (.returned (.tuple #[.agg #[.int .i64 Av, .int .i64 Bv], faV 0 0 0])) W from ⟨y5, .inr ⟨_, _, _, HH.out, rfl, y6⟩⟩)
                        clear hW y5 y6 k0 k1 k2 k3 k4 e0 e1 g0 g1
                        exact bodyPost_ret (v := .tuple #[.agg #[.int .i64 Av, .int .i64 Bv], faV 0 0 0]) (by simp [results, Tryz.results114, go_sem, faV, colP, y0, y1, y2, y3, y4]) rfl HPO.out
                      · replace HH := hide (show H = .bad 7 q8 from HH.out)
                        have cF := fun w' (k' : Below w8.heap.size w8 w') => hide (fault_any w' s n c (q8).off (q8).bol a T (q8).line 7 (HMw8.out.below k').sc (by omega) HPF.out.off HPF.out.bol)
                        have g0 := HMw8.out.h0
                        have g1 := HMw8.out.h1
                        go_upto_region 23 with fail
                        go_region_law (first
                          | (refine step_call rfl 117 #[.pointer (some ⟨s, 0, none⟩), .int .i64 7] (by simp [go_sem]) (cF _ ((Below.refl _ _).drew)).out ?_
                             rintro e w5 ⟨rfl, b5⟩
                             have HM5 := hide (HMw8.out.below (of_drew b5))
                             have g0' := HM5.out.h0
                             have g1' := HM5.out.h1
                             have k0 := HM5.out.a0
                             have k1 := HM5.out.a1
                             have k2 := HM5.out.b0
                             have k3 := HM5.out.b1
                             have k4 := HM5.out.b2
                             have e0 := HM5.out.f0
                             have e1 := HM5.out.f1
                             have hq := HM5.out.l1.2.2.2
                             clear b5
                             refine ⟨_, rfl, ?_⟩))
                        all_goals
                          generalize hW : ((((w5.setCell ⟨q0, 0, none⟩ (.int .i64 Av)).setCell ⟨q0, 1, none⟩ (.int .i64 Bv)).setCell ⟨q1, 0, none⟩ (.int .i64 7)).setCell ⟨q1, 1, none⟩ (.int .i64 (q8).line)).setCell ⟨q1, 2, none⟩ (.int .i64 (((q8).off : Int) - (q8).bol + 1)) = W
                          obtain ⟨y0, y1, y2, y3, y4, y5, y6⟩ := hd_end HM5.out _ _ _ _ _ hW
                          have HPO := hide (show HdPost w s a n c T H (.returned (.tuple #[.agg #[.int .i64 Av, .int .i64 Bv], faV 7 (q8).line (colP (q8))])) W from ⟨y5, .inl ⟨_, _, _, _, HH.out, rfl⟩⟩)
                          clear hW y5 y6 k0 k1 k2 k3 k4 e0 e1 g0' g1'
                          go_wp2
                          exact bodyPost_ret (v := .tuple #[.agg #[.int .i64 Av, .int .i64 Bv], faV 7 (q8).line (colP (q8))]) (by simp [results, Tryz.results114, go_sem, faV, colP, y0, y1, y2, y3, y4]) rfl HPO.out
end Go.Proofs.Qxb6500773aGreat
