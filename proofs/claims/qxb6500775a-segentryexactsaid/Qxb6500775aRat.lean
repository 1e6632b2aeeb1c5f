import Derived.Test.Qxb6500775aDec
namespace Go.Proofs.Qxb6500775a
open Go.RowKit

/-! ### the plain law -/
/-- q^10 against 10^k * 65536^10. -/
def tenth (q k : Int) : Int := if 0 ≤ k then q ^ 10 - 65536 ^ 10 * 10 ^ k.toNat else q ^ 10 * 10 ^ (-k).toNat - 65536 ^ 10
theorem tenth_mono {q r k : Int} (h0 : 0 ≤ q) (h : q ≤ r) : tenth q k ≤ tenth r k := by
  have := pow_mono h0 h 10
  unfold tenth
  split
  · omega
  · have h2 : (0 : Int) ≤ 10 ^ (-k).toNat := Int.pow_nonneg (by omega)
    have := Int.mul_le_mul_of_nonneg_right this h2
    omega
def exactK (k : Int) : Bool := decide (0 ≤ k ∧ k % 10 = 0)
def gainB (j : Nat) : Bool :=
  decide (tenth (gainP j : Nat) ((j : Int) - 49) ≤ 0 ∧ 0 < tenth ((gainP j : Nat) + 1) ((j : Int) - 49) ∧ gainP j ≤ 2147483647) &&
  (if exactK ((j : Int) - 49) = true then decide (0 ≤ tenth (gainP j : Nat) ((j : Int) - 49) ∧ tenth ((gainP j : Nat) - 1) ((j : Int) - 49) < 0 ∧ 1 ≤ gainP j) else decide (tenth (gainP j : Nat) ((j : Int) - 49) < 0))
set_option maxRecDepth 1000000 in
theorem gainAll : allB gainB 95 = true := by decide +kernel
theorem gain_at (j : Nat) (h : j < 95) : tenth (gainP j : Nat) ((j : Int) - 49) ≤ 0 ∧ 0 < tenth ((gainP j : Nat) + 1) ((j : Int) - 49) ∧ gainP j ≤ 2147483647 := by
  have := allB_at gainAll j h
  unfold gainB at this
  rw [Bool.and_eq_true] at this
  simpa only [decide_eq_true_eq] using this.1
/-- reaches, plain. -/
def reachP (a : Int) (j : Nat) : Bool := if exactK ((j : Int) - 49) = true then decide ((gainP j : Nat) ≤ a) else decide ((gainP j : Nat) < a)
theorem reach_yes {a : Int} {j : Nat} (h : j < 95) (hr : reachP a j = true) : 0 ≤ tenth a ((j : Int) - 49) := by
  have g := allB_at gainAll j h
  have g1 := gain_at j h
  unfold gainB at g
  rw [Bool.and_eq_true] at g
  obtain ⟨-, g2⟩ := g
  unfold reachP at hr
  cases hx : exactK ((j : Int) - 49)
  · simp only [hx, Bool.false_eq_true, if_false, decide_eq_true_eq] at hr g2
    have := tenth_mono (q := (gainP j : Nat) + 1) (r := a) (k := (j : Int) - 49) (by omega) (by omega)
    omega
  · simp only [hx, if_true, decide_eq_true_eq] at hr g2
    have := tenth_mono (q := (gainP j : Nat)) (r := a) (k := (j : Int) - 49) (by omega) hr
    omega
theorem reach_no {a : Int} {j : Nat} (ha : 0 ≤ a) (h : j < 95) (hr : reachP a j = false) : tenth a ((j : Int) - 49) < 0 := by
  have g := allB_at gainAll j h
  unfold gainB at g
  rw [Bool.and_eq_true] at g
  obtain ⟨-, g2⟩ := g
  unfold reachP at hr
  cases hx : exactK ((j : Int) - 49)
  · simp only [hx, Bool.false_eq_true, if_false, decide_eq_true_eq, decide_eq_false_iff_not] at hr g2
    have := tenth_mono (q := a) (r := (gainP j : Nat)) (k := (j : Int) - 49) (by omega) (by omega)
    omega
  · simp only [hx, if_true, decide_eq_true_eq, decide_eq_false_iff_not] at hr g2
    have := tenth_mono (q := a) (r := (gainP j : Nat) - 1) (k := (j : Int) - 49) (by omega) (by omega)
    omega
theorem reach_ends {a : Int} (h1 : 1 ≤ a) (h2 : a ≤ 2147483647) : 0 ≤ tenth a (-49) ∧ tenth a 46 < 0 := by
  have a1 := tenth_mono (q := 1) (r := a) (k := -49) (by omega) h1
  have a2 := tenth_mono (q := a) (r := 2147483647) (k := 46) (by omega) h2
  have b1 : 0 ≤ tenth 1 (-49) := by decide +kernel
  have b2 : tenth 2147483647 46 < 0 := by decide +kernel
  omega

/-! ### unit, CmpTenth -/
theorem unit_any (w : World) : Calls Try.prog 88 #[] w (RetI 2 w 65536) := by
  go_enter Try.func88, Try.ntmps88
  go_wp2_with fail
  have hbel : Below w.heap.size w (w.alloc (.cells #[.bool false, .slice none 0 0] 26)) := (Below.refl _ _).alloc (Nat.le_refl _) _
  refine (Of_any _ 65536 (by omega) (by omega)).mono ?_
  rintro e w1 ⟨s1, a1, n1, c1, rfl, i1, b1⟩
  have x0 : w1.cell? ⟨w.heap.size, 0, none⟩ = some (.bool false) := cellKeep b1 (by simp [go_sem])
  have x1 : w1.cell? ⟨w.heap.size, 1, none⟩ = some (.slice none 0 0) := cellKeep b1 (by simp [go_sem])
  have xf : ∀ j, w1.frozen? ⟨w.heap.size, j, none⟩ = false := fun j => by rw [batf b1 j (by simp)]; simp [go_sem]
  have I1 := hide (isi_set2 (u := .bool s1) (v := .slice a1 n1 c1) i1 x0 x1)
  have HB := hide (lec hbel b1)
  clear i1 b1 hbel
  go_wp2
  exact bodyPost_ret (v := .agg #[.bool s1, .slice a1 n1 c1]) (by simp [results, Try.results88, go_sem, x0, x1]) rfl ⟨s1, a1, n1, c1, rfl, I1.out, belSet2 HB.out (Nat.le_refl _)⟩
/-- Two number variables. -/
structure CT (w wx : World) (pl pr NL NR : Nat) (L R : Int) : Prop where
  l : VarI NL wx pl L
  r : VarI NR wx pr R
  lf : ∀ j, wx.frozen? ⟨pl, j, none⟩ = false
  rf : ∀ j, wx.frozen? ⟨pr, j, none⟩ = false
  bel : Below w.heap.size w wx
  hl : w.heap.size ≤ pl
  hr : w.heap.size ≤ pr
  ne : pl ≠ pr
theorem VarI.lt {N : Nat} {w : World} {p : Nat} {z : Int} (h : VarI N w p z) : p < w.heap.size := by
  obtain ⟨s, a, n, c, h0, -⟩ := h
  exact World.block_lt_of_cell? _ _ h0
theorem CT.below {w wx wy : World} {pl pr NL NR : Nat} {L R : Int} (h : CT w wx pl pr NL NR L R) (hb : Below wx.heap.size wx wy) : CT w wy pl pr NL NR L R :=
  ⟨h.l.below hb, h.r.below hb, fun j => (hb.frozen (p := ⟨pl, j, none⟩) h.l.lt).trans (h.lf j), fun j => (hb.frozen (p := ⟨pr, j, none⟩) h.r.lt).trans (h.rf j), lec h.bel hb, h.hl, h.hr, h.ne⟩
theorem CT.drew {w wx : World} {pl pr NL NR : Nat} {L R : Int} (h : CT w wx pl pr NL NR L R) : CT w wx.drew pl pr NL NR L R := h.below (Below.refl _ _).drew
theorem VarI.other {N : Nat} {w : World} {p q : Nat} {z : Int} {u v : Value} {s0 : Bool} {a0 : Option Addr} {n0 c0 : Nat} (h : VarI N w p z) (hne : p ≠ q) (h0 : w.cell? ⟨q, 0, none⟩ = some (.bool s0)) (h1 : w.cell? ⟨q, 1, none⟩ = some (.slice a0 n0 c0)) :
    VarI N ((w.setCell ⟨q, 0, none⟩ u).setCell ⟨q, 1, none⟩ v) p z := by
  obtain ⟨s, a, n, c, x0, x1, i⟩ := h
  exact ⟨s, a, n, c, cell_set2 hne x0, cell_set2 hne x1, isi_set2 i h0 h1⟩
theorem CT.setR {w wx : World} {pl pr NL NR N : Nat} {L R z : Int} (h : CT w wx pl pr NL NR L R) {s : Bool} {a : Option Addr} {n c : Nat} (hi : IsI N wx s a n c z) :
    CT w ((wx.setCell ⟨pr, 0, none⟩ (.bool s)).setCell ⟨pr, 1, none⟩ (.slice a n c)) pl pr NL N L z := by
  obtain ⟨s', a', n', c', x0, x1, i⟩ := h.r
  exact ⟨h.l.other h.ne x0 x1, varSet' hi x0 x1, fun j => by simpa [go_sem] using h.lf j, fun j => by simpa [go_sem] using h.rf j, belSet2 h.bel h.hr, h.hl, h.hr, h.ne⟩
theorem CT.setL {w wx : World} {pl pr NL NR N : Nat} {L R z : Int} (h : CT w wx pl pr NL NR L R) {s : Bool} {a : Option Addr} {n c : Nat} (hi : IsI N wx s a n c z) :
    CT w ((wx.setCell ⟨pl, 0, none⟩ (.bool s)).setCell ⟨pl, 1, none⟩ (.slice a n c)) pl pr N NR z R := by
  obtain ⟨s', a', n', c', x0, x1, i⟩ := h.l
  exact ⟨varSet' hi x0 x1, h.r.other (Ne.symm h.ne) x0 x1, fun j => by simpa [go_sem] using h.lf j, fun j => by simpa [go_sem] using h.rf j, belSet2 h.bel h.hl, h.hl, h.hr, h.ne⟩
end Go.Proofs.Qxb6500775a
