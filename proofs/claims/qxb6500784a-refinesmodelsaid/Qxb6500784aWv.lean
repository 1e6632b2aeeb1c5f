import Derived.Test.Qxb6500784aNp
namespace Go.Proofs.Qxb6500784a
open Go.RowKit

/-! ### A world as a value -/
structure WV (w : World) (P : Pr) (Va Vb Vc Vd Ve : List Value) (f : Nat → List Nat) : Prop where
  a : ∃ sw m s, sw.map (·.1) = P.sa ∧ Va = P.la.vals m s ∧ CV w 50 326 P.la.fl (ledW sw) [m] s ∧ f 0 = blks ([m] ++ s :: (ledW sw).flatMap (·.2)) ∧ P.la.Ok ∧ ∀ x, x ∈ P.sa → x.Ok
  b : ∃ sw m s, sw.map (·.1) = P.sb ∧ Vb = P.lb.vals m s ∧ CV w 50 326 P.lb.fl (ledW sw) [m] s ∧ f 1 = blks ([m] ++ s :: (ledW sw).flatMap (·.2)) ∧ P.lb.Ok ∧ ∀ x, x ∈ P.sb → x.Ok
  c : ∃ sw u v s, sw.map (·.1) = P.ta ∧ Vc = P.ba.vals u v s ∧ CV w 54 5 P.ba.fl (boxW sw) [u, v] s ∧ f 2 = blks ([u, v] ++ s :: (boxW sw).flatMap (·.2)) ∧ P.ba.Ok ∧ ∀ x, x ∈ P.ta → x.Ok
  d : ∃ sw u v s, sw.map (·.1) = P.tb ∧ Vd = P.bb.vals u v s ∧ CV w 54 5 P.bb.fl (boxW sw) [u, v] s ∧ f 3 = blks ([u, v] ++ s :: (boxW sw).flatMap (·.2)) ∧ P.bb.Ok ∧ ∀ x, x ∈ P.tb → x.Ok
  e : ∃ sw u v s, sw.map (·.1) = P.t1 ∧ Ve = P.b1.vals u v s ∧ CV w 54 5 P.b1.fl (boxW sw) [u, v] s ∧ f 4 = blks ([u, v] ++ s :: (boxW sw).flatMap (·.2)) ∧ P.b1.Ok ∧ ∀ x, x ∈ P.t1 → x.Ok
  dj : ∀ i j, i < 5 → j < 5 → i ≠ j → ∀ k, k ∈ f i → k ∉ f j
/-- What lies at block b, as values. -/
theorem PA.wv {w : World} {b : Nat} {P : Pr} {f : Nat → List Nat} (h : PA w b P f) : ∃ Va Vb Vc Vd Ve, WV w P Va Vb Vc Vd Ve f ∧ w.rangeAt b 0 Va ∧ w.rangeAt b 326 Vb ∧ w.rangeAt b 652 Vc ∧ w.rangeAt b 657 Vd ∧ w.rangeAt b 662 Ve := by
  obtain ⟨sw1, m1, s1, a1, a2, a3, a4, _, _⟩ := h.pa
  obtain ⟨sw2, m2, s2, b1, b2, b3, b4, _, _⟩ := h.pb
  obtain ⟨sw3, u3, v3, s3, c1, c2, c3, c4, _, _⟩ := h.pc
  obtain ⟨sw4, u4, v4, s4, d1, d2, d3, d4, _, _⟩ := h.pd
  obtain ⟨sw5, u5, v5, s5, e1, e2, e3, e4, _, _⟩ := h.pe
  exact ⟨_, _, _, _, _, ⟨⟨sw1, m1, s1, a1, rfl, a2.cv, a2.bl, a3, a4⟩, ⟨sw2, m2, s2, b1, rfl, b2.cv, b2.bl, b3, b4⟩, ⟨sw3, u3, v3, s3, c1, rfl, c2.cv, c2.bl, c3, c4⟩, ⟨sw4, u4, v4, s4, d1, rfl, d2.cv, d2.bl, d3, d4⟩, ⟨sw5, u5, v5, s5, e1, rfl, e2.cv, e2.bl, e3, e4⟩, h.dj⟩, a2.rg, b2.rg, c2.rg, d2.rg, e2.rg⟩
/-- .. and back. -/
theorem WV.pa {w : World} {b : Nat} {P : Pr} {Va Vb Vc Vd Ve : List Value} {f : Nat → List Nat} (h : WV w P Va Vb Vc Vd Ve f) (ra : w.rangeAt b 0 Va) (rb : w.rangeAt b 326 Vb) (rc : w.rangeAt b 652 Vc) (rd : w.rangeAt b 657 Vd) (re : w.rangeAt b 662 Ve) (ht : w.there b 0 667) (hb : b < w.heap.size) (hn : ∀ i, i < 5 → b ∉ f i) : PA w b P f := by
  obtain ⟨sw1, m1, s1, a1, rfl, a3, a4, a5, a6⟩ := h.a
  obtain ⟨sw2, m2, s2, b1, rfl, b3, b4, b5, b6⟩ := h.b
  obtain ⟨sw3, u3, v3, s3, c1, rfl, c3, c4, c5, c6⟩ := h.c
  obtain ⟨sw4, u4, v4, s4, d1, rfl, d3, d4, d5, d6⟩ := h.d
  obtain ⟨sw5, u5, v5, s5, e1, rfl, e3, e4, e5, e6⟩ := h.e
  exact ⟨⟨sw1, m1, s1, a1, ⟨a3, ra, there_part ht (by omega), a4⟩, a5, a6, hb, hn 0 (by omega)⟩, ⟨sw2, m2, s2, b1, ⟨b3, rb, there_part ht (by omega), b4⟩, b5, b6, hb, hn 1 (by omega)⟩, ⟨sw3, u3, v3, s3, c1, ⟨c3, rc, there_part ht (by omega), c4⟩, c5, c6, hb, hn 2 (by omega)⟩, ⟨sw4, u4, v4, s4, d1, ⟨d3, rd, there_part ht (by omega), d4⟩, d5, d6, hb, hn 3 (by omega)⟩, ⟨sw5, u5, v5, s5, e1, ⟨e3, re, there_part ht (by omega), e4⟩, e5, e6, hb, hn 4 (by omega)⟩, h.dj⟩
end Go.Proofs.Qxb6500784a
