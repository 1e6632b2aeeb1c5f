import Derived.Test.Qxb6500775aKeep
namespace Go.Proofs.Qxb6500775a
open Go.RowKit

theorem varSet' {N : Nat} {w : World} {p : Nat} {s s0 : Bool} {a a0 : Option Addr} {n c n0 c0 : Nat} {z : Int} (h : IsI N w s a n c z) (h0 : w.cell? ⟨p, 0, none⟩ = some (.bool s0)) (h1 : w.cell? ⟨p, 1, none⟩ = some (.slice a0 n0 c0)) :
    VarI N ((w.setCell ⟨p, 0, none⟩ (.bool s)).setCell ⟨p, 1, none⟩ (.slice a n c)) p z := by
  have e1 : (w.setCell ⟨p, 0, none⟩ (.bool s)).cell? ⟨p, 1, none⟩ = some (.slice a0 n0 c0) := by rw [World.cell?_setCell_other]; exact h1; simp
  refine ⟨s, a, n, c, ?_, World.cell?_setCell_same _ _ _ e1, (h.setCell _ _ _ h0 (by simp)).setCell _ _ _ e1 (by simp)⟩
  rw [World.cell?_setCell_other]
  · exact World.cell?_setCell_same _ _ _ h0
  · simp
theorem isi_set2 {N : Nat} {w : World} {p : Nat} {s s0 : Bool} {a a0 : Option Addr} {n c n0 c0 : Nat} {z : Int} {u v : Value} (h : IsI N w s a n c z) (h0 : w.cell? ⟨p, 0, none⟩ = some (.bool s0)) (h1 : w.cell? ⟨p, 1, none⟩ = some (.slice a0 n0 c0)) :
    IsI N ((w.setCell ⟨p, 0, none⟩ u).setCell ⟨p, 1, none⟩ v) s a n c z := by
  have e1 : (w.setCell ⟨p, 0, none⟩ u).cell? ⟨p, 1, none⟩ = some (.slice a0 n0 c0) := by rw [World.cell?_setCell_other]; exact h1; simp
  exact (h.setCell _ _ _ h0 (by simp)).setCell _ _ _ e1 (by simp)
theorem cell_set2 {w : World} {p q j : Nat} {u v x : Value} (hne : q ≠ p) (h : w.cell? ⟨q, j, none⟩ = some x) : ((w.setCell ⟨p, 0, none⟩ u).setCell ⟨p, 1, none⟩ v).cell? ⟨q, j, none⟩ = some x := by
  rw [World.cell?_setCell_other _ _ _ _ (by simp <;> omega), World.cell?_setCell_other _ _ _ _ (by simp <;> omega)]
  exact h
/-- What Pow has at hand: the base at pa, the result's box pr, the power so far at pv. -/
structure PW (w wr : World) (pa pr pv : Nat) (s : Bool) (a : Option Addr) (n c N k : Nat) (z : Int) : Prop where
  a0 : wr.cell? ⟨pa, 0, none⟩ = some (.bool s)
  a1 : wr.cell? ⟨pa, 1, none⟩ = some (.slice a n c)
  ia : IsI N wr s a n c z
  r0 : wr.cell? ⟨pr, 0, none⟩ = some (.bool false)
  r1 : wr.cell? ⟨pr, 1, none⟩ = some (.slice none 0 0)
  rf : ∀ j, wr.frozen? ⟨pr, j, none⟩ = false
  v : VarI (2 + N * k) wr pv (z ^ k)
  vf : ∀ j, wr.frozen? ⟨pv, j, none⟩ = false
  bel : Below w.heap.size w wr
  hr : w.heap.size ≤ pr
  hv : w.heap.size ≤ pv
  ne1 : pa ≠ pv
  ne2 : pr ≠ pv
theorem PW.vlt {w wr : World} {pa pr pv : Nat} {s : Bool} {a : Option Addr} {n c N k : Nat} {z : Int} (h : PW w wr pa pr pv s a n c N k z) : pv < wr.heap.size := by
  obtain ⟨s', a', n', c', h0, -⟩ := h.v
  exact World.block_lt_of_cell? _ _ h0
theorem PW.step {w wr w2 : World} {pa pr pv : Nat} {s : Bool} {a : Option Addr} {n c N k : Nat} {z : Int} (h : PW w wr pa pr pv s a n c N k z) (hb : Below wr.heap.size wr w2) {s2 : Bool} {a2 : Option Addr} {n2 c2 : Nat} (hi : IsI (2 + N * k + N) w2 s2 a2 n2 c2 (z ^ k * z)) :
    PW w ((w2.setCell ⟨pv, 0, none⟩ (.bool s2)).setCell ⟨pv, 1, none⟩ (.slice a2 n2 c2)) pa pr pv s a n c N (k + 1) z := by
  have hlt := h.vlt
  obtain ⟨sv, av, nv, cv, v0, v1, iv⟩ := h.v
  have k0 := cellKeep hb v0
  have k1 := cellKeep hb v1
  refine ⟨cell_set2 h.ne1 (cellKeep hb h.a0), cell_set2 h.ne1 (cellKeep hb h.a1), isi_set2 (h.ia.below hb) k0 k1, cell_set2 h.ne2 (cellKeep hb h.r0), cell_set2 h.ne2 (cellKeep hb h.r1), fun j => ?_, ?_, fun j => ?_, belSet2 (lec h.bel hb) h.hv, h.hr, h.hv, h.ne1, h.ne2⟩
  · have : pr < wr.heap.size := World.block_lt_of_cell? _ _ h.r0
    simpa [go_sem] using (hb.frozen (p := ⟨pr, j, none⟩) this).trans (h.rf j)
  · rw [show 2 + N * (k + 1) = 2 + N * k + N by rw [Nat.mul_add]; omega, Int.pow_succ]
    exact varSet' hi k0 k1
  · simpa [go_sem] using (hb.frozen (p := ⟨pv, j, none⟩) hlt).trans (h.vf j)
theorem PW.fresh {w w1 : World} {s : Bool} {a : Option Addr} {n c N : Nat} {z : Int} (ia : IsI N w s a n c z) (hb : Below ((w.alloc (.cells #[.bool s, .slice a n c] 26)).alloc (.cells #[.bool false, .slice none 0 0] 26)).heap.size ((w.alloc (.cells #[.bool s, .slice a n c] 26)).alloc (.cells #[.bool false, .slice none 0 0] 26)) w1) {s1 : Bool} {a1 : Option Addr} {n1 c1 : Nat} (hi : IsI 2 w1 s1 a1 n1 c1 1) :
    PW w (w1.alloc (.cells #[.bool s1, .slice a1 n1 c1] 26)) w.heap.size (w.heap.size + 1) w1.heap.size s a n c N 0 z := by
  have hb0 : Below w.heap.size w ((w.alloc (.cells #[.bool s, .slice a n c] 26)).alloc (.cells #[.bool false, .slice none 0 0] 26)) := ((Below.refl _ _).alloc (Nat.le_refl _) _).alloc (by simp) _
  have hs := hb.size
  simp at hs
  refine ⟨cellAl _ (cellKeep hb (by simp [go_sem])), cellAl _ (cellKeep hb (by simp [go_sem])), ((ia.below hb0).below hb).al _, cellAl _ (cellKeep hb (by simp [go_sem])), cellAl _ (cellKeep hb (by simp [go_sem])), fun j => ?_, by simpa using varNew hi, fun j => by simp [go_sem], belAl (lec hb0 hb) _, by omega, by omega, by omega, by omega⟩
  have := batf hb (b := w.heap.size + 1) j (by simp)
  have e2 : ((w.alloc (.cells #[.bool s, .slice a n c] 26)).alloc (.cells #[.bool false, .slice none 0 0] 26)).frozen? ⟨w.heap.size + 1, j, none⟩ = false := by simp [go_sem]
  rw [e2] at this
  rw [← this]
  exact ((Below.refl w1.heap.size w1).alloc (Nat.le_refl _) _).frozen (p := ⟨w.heap.size + 1, j, none⟩) (by show w.heap.size + 1 < w1.heap.size; omega)
set_option maxHeartbeats 2000000 in
/-- fixmathm.Pow. -/
theorem Pow_any (w : World) (s : Bool) (a : Option Addr) (n c N k : Nat) (z : Int) (hN : 2 + N * k + N < 1099511627776) (hk : k ≤ 100000) (hi : IsI N w s a n c z) :
    Calls Try.prog 38 #[.agg #[.bool s, .slice a n c], .int .i64 k] w (RetI (2 + N * k) w (z ^ k)) := by
  have HI := hide hi
  clear hi
  go_enter Try.func38, Try.ntmps38
  go_wp2_with fail
  refine (Of_any _ 1 (by omega) (by omega)).mono ?_
  rintro e w1 ⟨s1, a1, n1, c1, rfl, i1, b1⟩
  have H := hide (PW.fresh HI.out b1 i1)
  clear i1 b1
  go_upto_region 2 with fail
  generalize hW : w1.alloc (.cells #[.bool s1, .slice a1 n1 c1] 26) = W at *
  clear hW
  generalize w1.heap.size = pv at *
  obtain ⟨pr, hpr⟩ : ∃ pr, w.heap.size + 1 = pr := ⟨_, rfl⟩
  rw [hpr] at H ⊢
  clear hpr
  generalize w.heap.size = pa at H ⊢
  go_wp2
  go_loopw [6] (fun i wr => ∃ j : Nat, j ≤ k ∧ i = .int .i64 j ∧ PW w wr pa pr pv s a n c N j z) (fun i _ => k - (intOf i).toNat)
  case atStart => exact ⟨0, by omega, rfl, H.out⟩
  case round =>
    clear H
    obtain ⟨j, hj, rfl, hp⟩ := hrel
    by_cases hlt : j < k
    · have a0 := hp.a0
      have a1 := hp.a1
      obtain ⟨sv, av, nv, cv, v0, v1, iv⟩ := hp.v
      have vf := hp.vf
      have HV := hide iv
      have HA := hide hp.ia
      have HP := hide hp
      have hlt' := hp.vlt
      clear hp iv
      have HN : Hid (2 + N * j + N < 1099511627776) := hide (by have := Nat.mul_le_mul_left N hj; omega)
      clear hN
      go_wp2_with fail
      refine (Mul_any _ sv s av a nv n cv c (2 + N * j) N (z ^ j) z HN.out HV.out HA.out).mono ?_
      rintro e w2 ⟨s2, a2, n2, c2, rfl, i2, b2⟩
      have x0 := cellKeep b2 v0
      have x1 := cellKeep b2 v1
      have xf : ∀ t, w2.frozen? ⟨pv, t, none⟩ = false := fun t => (b2.frozen (p := ⟨pv, t, none⟩) hlt').trans (vf t)
      have HP2 := hide (HP.out.step b2 i2)
      clear i2 b2 v0 v1 vf a0 a1
      go_wp2
      go_roundw
      case rel => exact ⟨j + 1, by omega, by go_num, HP2.out⟩
      case measure => simp [intOf]; omega
    · have hjk : j = k := by omega
      subst hjk
      obtain ⟨sv, av, nv, cv, v0, v1, iv⟩ := hp.v
      have r0 := hp.r0
      have r1 := hp.r1
      have rf := hp.rf
      have HB := hide hp.bel
      have HV := hide (isi_set2 (u := .bool sv) (v := .slice av nv cv) iv r0 r1)
      have HR := hide hp.hr
      clear iv hp hN
      go_wp2
      exact bodyPost_ret (v := .agg #[.bool sv, .slice av nv cv]) (by simp [results, Try.results38, go_sem, r0, r1]) rfl ⟨sv, av, nv, cv, rfl, HV.out, belSet2 HB.out HR.out⟩
end Go.Proofs.Qxb6500775a
