import Derived.Test.Qxb6500775aHalve
namespace Go.Proofs.Qxb6500775a
open Go.RowKit

def piD : Nat → Int := fun i => if i = 0 then 2242054355 else if i = 1 then 608135816 else 3
theorem pi_val : Sm piD 3 = 57952155664616982739 := by decide
theorem pi_any (w : World) : Calls Try.prog 108 #[] w (RetI 3 w 57952155664616982739) := by
  go_enter Try.func108, Try.ntmps108
  go_wp2
  have HB0 : Below w.heap.size w ((w.alloc (.cells #[.bool false, .slice (some ⟨w.heap.size + 1, 0, none⟩) 3 3] 26)).alloc (.cells #[.int .u32 2242054355, .int .u32 608135816, .int .u32 3] 73)) := ((Below.refl _ _).alloc (Nat.le_refl _) _).alloc (by simp) _
  refine bodyPost_ret (v := .agg #[.bool false, .slice (some ⟨w.heap.size + 1, 0, none⟩) 3 3]) (by simp [results, Try.results108, go_sem]) rfl ⟨false, some ⟨w.heap.size + 1, 0, none⟩, 3, 3, rfl, ⟨Nat.le_refl _, Nat.le_refl _, by omega, piD, ?_, Or.inr (by decide), by rw [pi_val]; rfl⟩, HB0⟩
  intro i hi
  match i, hi with
  | 0, _ => exact ⟨w.heap.size + 1, 0, rfl, by simp [piD], by decide, by decide⟩
  | 1, _ => exact ⟨w.heap.size + 1, 0, rfl, by simp [piD], by decide, by decide⟩
  | 2, _ => exact ⟨w.heap.size + 1, 0, rfl, by simp [piD], by decide, by decide⟩
/-- angle -/
def angP (r : Nat) : Int := 57952155664616982739 * (r : Int) / 2048
set_option maxHeartbeats 1000000 in
theorem angle_any (w : World) (r : Nat) (hr : r ≤ 4096) : Calls Try.prog 66 #[.int .i64 r] w (RetI 5 w (angP r)) := by
  have hz : 0 ≤ 57952155664616982739 * (r : Int) := by omega
  unfold angP
  obtain ⟨X, hX⟩ : ∃ X, 57952155664616982739 * (r : Int) = X := ⟨_, rfl⟩
  rw [hX] at hz ⊢
  have HX := hide hX
  clear hX
  go_enter Try.func66, Try.ntmps66
  go_wp2_with fail
  have hbel : Below w.heap.size w (w.alloc (.cells #[.bool false, .slice none 0 0] 26)) := (Below.refl _ _).alloc (Nat.le_refl _) _
  refine (pi_any _).mono ?_
  rintro e w1 ⟨s1, a1, n1, c1, rfl, i1, b1⟩
  have I1 := hide i1
  have L1 := hide b1
  clear i1 b1
  go_wp2_with fail
  refine (Of_any _ (r : Int) (by omega) (by omega)).mono ?_
  rintro e w2 ⟨s2, a2, n2, c2, rfl, i2, b2⟩
  have I2 := hide i2
  have I1' := hide (I1.out.below b2)
  have L2 := hide (lec L1.out b2)
  clear i2 b2 I1 L1
  go_wp2_with fail
  refine (Mul_any _ s1 s2 a1 a2 n1 n2 c1 c2 3 2 57952155664616982739 r (by omega) I1'.out I2.out).mono ?_
  rintro e w3 ⟨s3, a3, n3, c3, rfl, i3, b3⟩
  rw [HX.out] at i3
  have I3 := hide i3
  have L3 := hide (lec L2.out b3)
  clear i3 b3 I1' I2 L2
  go_wp2_with fail
  refine (divDigit_any _ s3 a3 n3 c3 (3 + 2) X 2048 (by omega) hz (by omega) (by omega) I3.out).mono ?_
  rintro e w4 ⟨s4, a4, n4, c4, rfl, i4, b4⟩
  have hb4 := lec L3.out b4
  obtain ⟨c0, c1', f0, f1⟩ := box2 (rb := w.heap.size) (.bool false) (.slice none 0 0) hb4 (by simp) (by simp [go_sem]) (by simp [go_sem]) (by simp [go_sem]) (by simp [go_sem])
  have I4 := hide i4
  have L4 := hide hb4
  have HB := hide hbel
  clear i4 b4 hb4 hbel I3 L3
  go_wp2
  exact bodyPost_ret (v := .agg #[.bool s4, .slice a4 n4 c4]) (by simp [results, Try.results66, go_sem, c0, c1']) rfl (fin_I I4.out L4.out HB.out (Nat.le_refl _) (by simp) (by simp) (by simp))

/-! ### series -/
def serP : Nat → Int → Int → Int → Bool → Int → Option Int
  | 0, _, _, _, _, _ => none
  | f + 1, sq, sum, term, m, a => if term = 0 then some sum else
      serP f sq (if m then sum - term * sq / 18446744073709551616 / (a * (a + 1)) else sum + term * sq / 18446744073709551616 / (a * (a + 1))) (term * sq / 18446744073709551616 / (a * (a + 1))) (!m) (a + 2)
/-- What series has at hand. -/
structure SR (w wx : World) (pr pq ps pt NQ NS NT : Nat) (sq sum term : Int) : Prop where
  r0 : wx.cell? ⟨pr, 0, none⟩ = some (.bool false)
  r1 : wx.cell? ⟨pr, 1, none⟩ = some (.slice none 0 0)
  rf : ∀ j, wx.frozen? ⟨pr, j, none⟩ = false
  q : VarI NQ wx pq sq
  s : VarI NS wx ps sum
  sf : ∀ j, wx.frozen? ⟨ps, j, none⟩ = false
  t : VarI NT wx pt term
  tf : ∀ j, wx.frozen? ⟨pt, j, none⟩ = false
  bel : Below w.heap.size w wx
  hr : w.heap.size ≤ pr
  hs : w.heap.size ≤ ps
  ht : w.heap.size ≤ pt
  n1 : pr ≠ ps
  n2 : pr ≠ pt
  n3 : pq ≠ ps
  n4 : pq ≠ pt
  n5 : ps ≠ pt
theorem SR.below {w wx wy : World} {pr pq ps pt NQ NS NT : Nat} {sq sum term : Int} (h : SR w wx pr pq ps pt NQ NS NT sq sum term) (hb : Below wx.heap.size wx wy) : SR w wy pr pq ps pt NQ NS NT sq sum term :=
  ⟨cellKeep hb h.r0, cellKeep hb h.r1, fun j => (hb.frozen (p := ⟨pr, j, none⟩) (World.block_lt_of_cell? _ _ h.r0 : pr < _)).trans (h.rf j), h.q.below hb, h.s.below hb, fun j => (hb.frozen (p := ⟨ps, j, none⟩) h.s.lt).trans (h.sf j), h.t.below hb, fun j => (hb.frozen (p := ⟨pt, j, none⟩) h.t.lt).trans (h.tf j), lec h.bel hb, h.hr, h.hs, h.ht, h.n1, h.n2, h.n3, h.n4, h.n5⟩
theorem SR.setT {w wx : World} {pr pq ps pt NQ NS NT N : Nat} {sq sum term z : Int} (h : SR w wx pr pq ps pt NQ NS NT sq sum term) {s : Bool} {a : Option Addr} {n c : Nat} (hi : IsI N wx s a n c z) :
    SR w ((wx.setCell ⟨pt, 0, none⟩ (.bool s)).setCell ⟨pt, 1, none⟩ (.slice a n c)) pr pq ps pt NQ NS N sq sum z := by
  obtain ⟨s', a', n', c', x0, x1, i⟩ := h.t
  exact ⟨cell_set2 h.n2 h.r0, cell_set2 h.n2 h.r1, fun j => by simpa [go_sem] using h.rf j, h.q.other h.n4 x0 x1, h.s.other h.n5 x0 x1, fun j => by simpa [go_sem] using h.sf j, varSet' hi x0 x1, fun j => by simpa [go_sem] using h.tf j, belSet2 h.bel h.ht, h.hr, h.hs, h.ht, h.n1, h.n2, h.n3, h.n4, h.n5⟩
theorem SR.setS {w wx : World} {pr pq ps pt NQ NS NT N : Nat} {sq sum term z : Int} (h : SR w wx pr pq ps pt NQ NS NT sq sum term) {s : Bool} {a : Option Addr} {n c : Nat} (hi : IsI N wx s a n c z) :
    SR w ((wx.setCell ⟨ps, 0, none⟩ (.bool s)).setCell ⟨ps, 1, none⟩ (.slice a n c)) pr pq ps pt NQ N NT sq z term := by
  obtain ⟨s', a', n', c', x0, x1, i⟩ := h.s
  exact ⟨cell_set2 h.n1 h.r0, cell_set2 h.n1 h.r1, fun j => by simpa [go_sem] using h.rf j, h.q.other h.n3 x0 x1, varSet' hi x0 x1, fun j => by simpa [go_sem] using h.sf j, h.t.other (Ne.symm h.n5) x0 x1, fun j => by simpa [go_sem] using h.tf j, belSet2 h.bel h.hs, h.hr, h.hs, h.ht, h.n1, h.n2, h.n3, h.n4, h.n5⟩
theorem VarI.mono {N M : Nat} {w : World} {p : Nat} {z : Int} (h : VarI N w p z) (hm : N ≤ M) : VarI M w p z := by
  obtain ⟨s, a, n, c, h0, h1, i⟩ := h
  exact ⟨s, a, n, c, h0, h1, i.mono hm⟩
theorem SR.mono {w wx : World} {pr pq ps pt NQ NS NT NS' NT' : Nat} {sq sum term : Int} (h : SR w wx pr pq ps pt NQ NS NT sq sum term) (h1 : NS ≤ NS') (h2 : NT ≤ NT') : SR w wx pr pq ps pt NQ NS' NT' sq sum term :=
  ⟨h.r0, h.r1, h.rf, h.q, h.s.mono h1, h.sf, h.t.mono h2, h.tf, h.bel, h.hr, h.hs, h.ht, h.n1, h.n2, h.n3, h.n4, h.n5⟩
end Go.Proofs.Qxb6500775a
