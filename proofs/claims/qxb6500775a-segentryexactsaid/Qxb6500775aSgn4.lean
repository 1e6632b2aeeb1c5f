import Derived.Test.Qxb6500775aSgn3
namespace Go.Proofs.Qxb6500775a
open Go.RowKit

/-- What divFloorI128 has at hand: the dividend's box pa, the result's pr, the quotient's pq. -/
structure DV (w wx : World) (pa pr pq : Nat) (h l qh ql : Int) : Prop where
  a0 : wx.cell? ⟨pa, 0, none⟩ = some (.int .i64 h)
  a1 : wx.cell? ⟨pa, 1, none⟩ = some (.int .u64 l)
  r0 : wx.cell? ⟨pr, 0, none⟩ = some (.int .i64 0)
  r1 : wx.cell? ⟨pr, 1, none⟩ = some (.int .u64 0)
  rf : ∀ j, wx.frozen? ⟨pr, j, none⟩ = false
  q0 : wx.cell? ⟨pq, 0, none⟩ = some (.int .u64 qh)
  q1 : wx.cell? ⟨pq, 1, none⟩ = some (.int .u64 ql)
  qf : ∀ j, wx.frozen? ⟨pq, j, none⟩ = false
  bel : Below w.heap.size w wx
  hr : w.heap.size ≤ pr
  hq : w.heap.size ≤ pq
  ne1 : pa ≠ pq
  ne2 : pr ≠ pq
theorem DV.below {w wx wy : World} {pa pr pq : Nat} {h l qh ql : Int} (k : DV w wx pa pr pq h l qh ql) (hb : Below wx.heap.size wx wy) : DV w wy pa pr pq h l qh ql :=
  ⟨cellKeep hb k.a0, cellKeep hb k.a1, cellKeep hb k.r0, cellKeep hb k.r1, fun j => (hb.frozen (p := ⟨pr, j, none⟩) (World.block_lt_of_cell? _ _ k.r0 : pr < _)).trans (k.rf j), cellKeep hb k.q0, cellKeep hb k.q1, fun j => (hb.frozen (p := ⟨pq, j, none⟩) (World.block_lt_of_cell? _ _ k.q0 : pq < _)).trans (k.qf j), lec k.bel hb, k.hr, k.hq, k.ne1, k.ne2⟩
theorem cell_set2' {w : World} {p q j : Nat} {u v x : Value} (hne : q ≠ p) (h : w.cell? ⟨q, j, none⟩ = some x) : ((w.setCell ⟨p, 0, none⟩ u).setCell ⟨p, 1, none⟩ v).cell? ⟨q, j, none⟩ = some x := by
  rw [World.cell?_setCell_other _ _ _ _ (by simp <;> omega), World.cell?_setCell_other _ _ _ _ (by simp <;> omega)]
  exact h
theorem DV.setQ {w wx : World} {pa pr pq : Nat} {h l qh ql a b : Int} (k : DV w wx pa pr pq h l qh ql) : DV w ((wx.setCell ⟨pq, 0, none⟩ (.int .u64 a)).setCell ⟨pq, 1, none⟩ (.int .u64 b)) pa pr pq h l a b := by
  have e1 : (wx.setCell ⟨pq, 0, none⟩ (.int .u64 a)).cell? ⟨pq, 1, none⟩ = some (.int .u64 ql) := by rw [World.cell?_setCell_other]; exact k.q1; simp
  refine ⟨cell_set2' k.ne1 k.a0, cell_set2' k.ne1 k.a1, cell_set2' k.ne2 k.r0, cell_set2' k.ne2 k.r1, fun j => by simpa [go_sem] using k.rf j, ?_, World.cell?_setCell_same _ _ _ e1, fun j => by simpa [go_sem] using k.qf j, belSet2 k.bel k.hq, k.hr, k.hq, k.ne1, k.ne2⟩
  rw [World.cell?_setCell_other]
  · exact World.cell?_setCell_same _ _ _ k.q0
  · simp
theorem DV.fresh {w w1 : World} {h l qh ql : Int} (hb : Below ((w.alloc (.cells #[.int .i64 h, .int .u64 l] 78)).alloc (.cells #[.int .i64 0, .int .u64 0] 78)).heap.size ((w.alloc (.cells #[.int .i64 h, .int .u64 l] 78)).alloc (.cells #[.int .i64 0, .int .u64 0] 78)) w1) :
    DV w (w1.alloc (.cells #[.int .u64 qh, .int .u64 ql] 108)) w.heap.size (w.heap.size + 1) w1.heap.size h l qh ql := by
  have hs := hb.size
  simp at hs
  have hb0 : Below w.heap.size w ((w.alloc (.cells #[.int .i64 h, .int .u64 l] 78)).alloc (.cells #[.int .i64 0, .int .u64 0] 78)) := ((Below.refl _ _).alloc (Nat.le_refl _) _).alloc (by simp) _
  refine ⟨cellAl _ (cellKeep hb (by simp [go_sem])), cellAl _ (cellKeep hb (by simp [go_sem])), cellAl _ (cellKeep hb (by simp [go_sem])), cellAl _ (cellKeep hb (by simp [go_sem])), fun j => ?_, by simp [go_sem], by simp [go_sem], fun j => by simp [go_sem], belAl (lec hb0 hb) _, by omega, by omega, by omega, by omega⟩
  have := batf hb (b := w.heap.size + 1) j (by simp)
  have e2 : ((w.alloc (.cells #[.int .i64 h, .int .u64 l] 78)).alloc (.cells #[.int .i64 0, .int .u64 0] 78)).frozen? ⟨w.heap.size + 1, j, none⟩ = false := by simp [go_sem]
  rw [e2] at this
  rw [← this]
  exact ((Below.refl w1.heap.size w1).alloc (Nat.le_refl _) _).frozen (p := ⟨w.heap.size + 1, j, none⟩) (by show w.heap.size + 1 < w1.heap.size; omega)
theorem word_of_sum {h l m : Int} (hl : Word l) (e : v128 h l = m) : h = m / 18446744073709551616 ∧ l = m % 18446744073709551616 := by
  have := hl.1
  have := hl.2
  unfold v128 at e
  omega
set_option maxHeartbeats 4000000 in
/-- divFloorI128 -/
theorem divFloor_any (w : World) (h l d : Int) (hl : Word l) (hx0 : -85070591730234615865843651857942052864 ≤ v128 h l) (hx1 : v128 h l ≤ 85070591730234615865843651857942052864) (hd : d ≠ 0) (d0 : -9223372036854775808 ≤ d) (d1 : d < 9223372036854775808) :
    Calls Try.prog 58 #[.agg #[.int .i64 h, .int .u64 l], .int .i64 d] w fun e w' => e = .returned (.agg #[.int .i64 (fq (v128 h l) d / 18446744073709551616), .int .u64 (fq (v128 h l) d % 18446744073709551616)]) ∧ Below w.heap.size w w' := by
  have l0 := hl.1
  have l1 := hl.2
  obtain ⟨x, hx⟩ : ∃ x, v128 h l = x := ⟨_, rfl⟩
  have hx' := hx
  unfold v128 at hx'
  rw [hx] at hx0 hx1 ⊢
  have hh0 : -9223372036854775808 ≤ h ∧ h < 9223372036854775808 := by omega
  have hsg : h < 0 ↔ x < 0 := by omega
  obtain ⟨m, hm⟩ : ∃ m, abs' x = m := ⟨_, rfl⟩
  obtain ⟨e, he⟩ : ∃ m, abs' d = m := ⟨_, rfl⟩
  obtain ⟨q, hq⟩ : ∃ q, m / e = q := ⟨_, rfl⟩
  obtain ⟨r, hr⟩ : ∃ r, m % e = r := ⟨_, rfl⟩
  have hF := fq_abs hd hm he hq hr
  have hm0 : 0 ≤ m ∧ m ≤ 85070591730234615865843651857942052864 := by rw [← hm]; unfold abs'; split <;> omega
  have he0 : 1 ≤ e ∧ e < 18446744073709551616 := by rw [← he]; unfold abs'; split <;> omega
  have hq0 : 0 ≤ q ∧ q ≤ m := ⟨by rw [← hq]; exact Int.ediv_nonneg hm0.1 (by omega), by rw [← hq]; exact Int.ediv_le_self _ hm0.1⟩
  have habs := fun w => hide (absI128_any w h l hh0.1 hh0.2 hl)
  rw [hx, hm] at habs
  have HD := fun w => hide (absU64_any w d d0 d1)
  rw [he] at HD
  have wm1 : Word (m / 18446744073709551616) := ⟨by omega, by omega⟩
  have wm2 : Word (m % 18446744073709551616) := ⟨by omega, by omega⟩
  have hdiv := fun w => hide (divU128_any w (m / 18446744073709551616) (m % 18446744073709551616) e wm1 wm2 he0.1 he0.2)
  rw [v128_parts, hq, hr] at hdiv
  have HF := hide hF
  have HQ := hide (And.intro hq0 hm0)
  clear hF hq hr hm he hx hx' hx0 hx1 wm1 wm2
  obtain ⟨F, hFF⟩ : ∃ F, fq x d = F := ⟨_, rfl⟩
  rw [hFF] at HF ⊢
  clear hFF
  generalize m / 18446744073709551616 = mh at *
  generalize m % 18446744073709551616 = ml at *
  go_enter Try.func58, Try.ntmps58
  go_wp2_with fail
  refine (habs _).out.mono ?_
  rintro e1 w1 ⟨rfl, hb1⟩
  have HB1 := hide hb1
  clear hb1
  go_wp2_with fail
  refine (HD _).out.mono ?_
  rintro e1 w1' ⟨rfl, rfl⟩
  go_wp2_with fail
  refine (hdiv _).out.mono ?_
  rintro e1 w2 ⟨hb2, qh, ql, r', rfl, hqq, rfl, wqh, wql⟩
  have HV := hide (DV.fresh (qh := qh) (ql := ql) (lec HB1.out hb2))
  have HQQ := hide hqq
  have WQ := hide (And.intro wqh wql)
  clear hb2 HB1 hqq habs HD hdiv
  go_upto_region 2 with fail
  generalize w2.alloc (.cells #[.int .u64 qh, .int .u64 ql] 108) = W at *
  generalize w2.heap.size = pq at *
  obtain ⟨pr, hpr⟩ : ∃ pr, w.heap.size + 1 = pr := ⟨_, rfl⟩
  rw [hpr] at HV ⊢
  clear hpr
  generalize w.heap.size = pa at HV ⊢
  by_cases hn : h < 0 <;> by_cases hdn : d < 0
  · have hF := HF.out
    rw [if_pos (by rw [← hsg]; simp [hn, hdn])] at hF
    subst hF
    obtain ⟨e1, e2⟩ := word_of_sum WQ.out.2 HQQ.out
    have hw : IntKind.i64.wrap qh = F / 18446744073709551616 := by rw [IntKind.wrap_i64]; have := HQ.out; omega
    clear HF HQ HQQ hsg hh0 hm0 hq0 he0
    have r0 := HV.out.r0
    have r1 := HV.out.r1
    have rf := HV.out.rf
    have q0 := HV.out.q0
    have q1 := HV.out.q1
    have a0 := HV.out.a0
    subst e2
    obtain ⟨Fh, hFh⟩ : ∃ z, F / 18446744073709551616 = z := ⟨_, rfl⟩
    rw [hFh] at hw
    have HFh := hide hFh
    clear hFh
    clear e1
    go_wp2
    exact bodyPost_ret (v := .agg #[.int .i64 Fh, .int .u64 (F % 18446744073709551616)]) (by simp [results, Try.results58, go_sem, r0, r1]) rfl ⟨by rw [HFh.out], belSet2 HV.out.bel HV.out.hr⟩
  · have hF := HF.out
    rw [if_neg (by rw [← hsg]; simp [hn, hdn])] at hF
    have r0 := HV.out.r0
    have r1 := HV.out.r1
    have rf := HV.out.rf
    have q0 := HV.out.q0
    have q1 := HV.out.q1
    have qf := HV.out.qf
    have a0 := HV.out.a0
    by_cases hz : r' = 0
    · rw [if_pos hz] at hF
      have hzb : (r' != 0) = false := by simp [hz]
      have hneg := fun w => hide (negU128_any w qh ql WQ.out.1 WQ.out.2 (by rw [HQQ.out]; have := HQ.out; omega))
      rw [HQQ.out, ← hF] at hneg
      clear HF HQ HQQ hsg hh0 hm0 hq0 he0 hz
      obtain ⟨Fh, hFh⟩ : ∃ z, F / 18446744073709551616 = z := ⟨_, rfl⟩
      rw [hFh] at hneg
      have HFh := hide hFh
      clear hFh
      obtain ⟨Fl, hFl⟩ : ∃ z, F % 18446744073709551616 = z := ⟨_, rfl⟩
      rw [hFl] at hneg
      have HFl := hide hFl
      clear hFl
      clear hF
      go_wp2_with fail
      refine (hneg _).out.mono ?_
      rintro e1 w5 ⟨rfl, hb5⟩
      have HV5 := hide (HV.out.below hb5)
      clear hb5 HV r0 r1 rf q0 q1 qf a0 hneg
      have r0 := HV5.out.r0
      have r1 := HV5.out.r1
      have rf := HV5.out.rf
      go_wp2
      exact bodyPost_ret (v := .agg #[.int .i64 Fh, .int .u64 Fl]) (by simp [results, Try.results58, go_sem, r0, r1]) rfl ⟨by rw [HFh.out, HFl.out], belSet2 HV5.out.bel HV5.out.hr⟩
    · rw [if_neg hz] at hF
      have hzb : (r' != 0) = true := by simpa using hz
      have hadd := fun w => hide (addU128_any w qh ql 0 1 WQ.out.1 WQ.out.2 ⟨by omega, by omega⟩ ⟨by omega, by omega⟩)
      have hA : v128 qh ql + v128 0 1 = q + 1 := by rw [HQQ.out]; rfl
      have HF2 := hide hF
      have HA := hide hA
      clear HF hsg hh0 hm0 hq0 he0 hz hF hA
      go_wp2_with fail
      refine (hadd _).out.mono ?_
      rintro e1 w4 ⟨h2, l2, o, rfl, hsum, wh2, wl2, hb4⟩
      rw [HA.out] at hsum
      have hq2 : v128 h2 l2 = q + 1 := by
        cases o
        · simpa using hsum
        · have h2' := wh2.1
          have l2' := wl2.1
          have := HQ.out
          simp only [if_true] at hsum
          unfold v128 at hsum
          omega
      have hneg := fun w => hide (negU128_any w h2 l2 wh2 wl2 (by rw [hq2]; have := HQ.out; omega))
      rw [hq2, ← HF2.out] at hneg
      have HV4 := hide ((HV.out.below hb4).setQ (a := h2) (b := l2))
      have hx0 := (HV.out.below hb4).q0
      have hx1 := (HV.out.below hb4).q1
      have hxf := (HV.out.below hb4).qf
      clear hsum hq2 HA HF2 HQ HQQ hb4 HV r0 r1 rf q0 q1 qf a0 hadd
      obtain ⟨Fh, hFh⟩ : ∃ z, F / 18446744073709551616 = z := ⟨_, rfl⟩
      rw [hFh] at hneg
      have HFh := hide hFh
      clear hFh
      obtain ⟨Fl, hFl⟩ : ∃ z, F % 18446744073709551616 = z := ⟨_, rfl⟩
      rw [hFl] at hneg
      have HFl := hide hFl
      clear hFl
      go_upto_region 6 with fail
      generalize (w4.setCell ⟨pq, 0, none⟩ (.int .u64 h2)).setCell ⟨pq, 1, none⟩ (.int .u64 l2) = W4 at *
      clear hx0 hx1 hxf
      have q0 := HV4.out.q0
      have q1 := HV4.out.q1
      go_wp2_with fail
      refine (hneg _).out.mono ?_
      rintro e1 w5 ⟨rfl, hb5⟩
      have HV5 := hide (HV4.out.below hb5)
      clear hb5 HV4 q0 q1 hneg
      have r0 := HV5.out.r0
      have r1 := HV5.out.r1
      have rf := HV5.out.rf
      go_wp2
      exact bodyPost_ret (v := .agg #[.int .i64 Fh, .int .u64 Fl]) (by simp [results, Try.results58, go_sem, r0, r1]) rfl ⟨by rw [HFh.out, HFl.out], belSet2 HV5.out.bel HV5.out.hr⟩
  · have hF := HF.out
    rw [if_neg (by rw [← hsg]; simp [hn, hdn])] at hF
    have r0 := HV.out.r0
    have r1 := HV.out.r1
    have rf := HV.out.rf
    have q0 := HV.out.q0
    have q1 := HV.out.q1
    have qf := HV.out.qf
    have a0 := HV.out.a0
    by_cases hz : r' = 0
    · rw [if_pos hz] at hF
      have hzb : (r' != 0) = false := by simp [hz]
      have hneg := fun w => hide (negU128_any w qh ql WQ.out.1 WQ.out.2 (by rw [HQQ.out]; have := HQ.out; omega))
      rw [HQQ.out, ← hF] at hneg
      clear HF HQ HQQ hsg hh0 hm0 hq0 he0 hz
      obtain ⟨Fh, hFh⟩ : ∃ z, F / 18446744073709551616 = z := ⟨_, rfl⟩
      rw [hFh] at hneg
      have HFh := hide hFh
      clear hFh
      obtain ⟨Fl, hFl⟩ : ∃ z, F % 18446744073709551616 = z := ⟨_, rfl⟩
      rw [hFl] at hneg
      have HFl := hide hFl
      clear hFl
      clear hF
      go_wp2_with fail
      refine (hneg _).out.mono ?_
      rintro e1 w5 ⟨rfl, hb5⟩
      have HV5 := hide (HV.out.below hb5)
      clear hb5 HV r0 r1 rf q0 q1 qf a0 hneg
      have r0 := HV5.out.r0
      have r1 := HV5.out.r1
      have rf := HV5.out.rf
      go_wp2
      exact bodyPost_ret (v := .agg #[.int .i64 Fh, .int .u64 Fl]) (by simp [results, Try.results58, go_sem, r0, r1]) rfl ⟨by rw [HFh.out, HFl.out], belSet2 HV5.out.bel HV5.out.hr⟩
    · rw [if_neg hz] at hF
      have hzb : (r' != 0) = true := by simpa using hz
      have hadd := fun w => hide (addU128_any w qh ql 0 1 WQ.out.1 WQ.out.2 ⟨by omega, by omega⟩ ⟨by omega, by omega⟩)
      have hA : v128 qh ql + v128 0 1 = q + 1 := by rw [HQQ.out]; rfl
      have HF2 := hide hF
      have HA := hide hA
      clear HF hsg hh0 hm0 hq0 he0 hz hF hA
      go_wp2_with fail
      refine (hadd _).out.mono ?_
      rintro e1 w4 ⟨h2, l2, o, rfl, hsum, wh2, wl2, hb4⟩
      rw [HA.out] at hsum
      have hq2 : v128 h2 l2 = q + 1 := by
        cases o
        · simpa using hsum
        · have h2' := wh2.1
          have l2' := wl2.1
          have := HQ.out
          simp only [if_true] at hsum
          unfold v128 at hsum
          omega
      have hneg := fun w => hide (negU128_any w h2 l2 wh2 wl2 (by rw [hq2]; have := HQ.out; omega))
      rw [hq2, ← HF2.out] at hneg
      have HV4 := hide ((HV.out.below hb4).setQ (a := h2) (b := l2))
      have hx0 := (HV.out.below hb4).q0
      have hx1 := (HV.out.below hb4).q1
      have hxf := (HV.out.below hb4).qf
      clear hsum hq2 HA HF2 HQ HQQ hb4 HV r0 r1 rf q0 q1 qf a0 hadd
      obtain ⟨Fh, hFh⟩ : ∃ z, F / 18446744073709551616 = z := ⟨_, rfl⟩
      rw [hFh] at hneg
      have HFh := hide hFh
      clear hFh
      obtain ⟨Fl, hFl⟩ : ∃ z, F % 18446744073709551616 = z := ⟨_, rfl⟩
      rw [hFl] at hneg
      have HFl := hide hFl
      clear hFl
      go_upto_region 6 with fail
      generalize (w4.setCell ⟨pq, 0, none⟩ (.int .u64 h2)).setCell ⟨pq, 1, none⟩ (.int .u64 l2) = W4 at *
      clear hx0 hx1 hxf
      have q0 := HV4.out.q0
      have q1 := HV4.out.q1
      go_wp2_with fail
      refine (hneg _).out.mono ?_
      rintro e1 w5 ⟨rfl, hb5⟩
      have HV5 := hide (HV4.out.below hb5)
      clear hb5 HV4 q0 q1 hneg
      have r0 := HV5.out.r0
      have r1 := HV5.out.r1
      have rf := HV5.out.rf
      go_wp2
      exact bodyPost_ret (v := .agg #[.int .i64 Fh, .int .u64 Fl]) (by simp [results, Try.results58, go_sem, r0, r1]) rfl ⟨by rw [HFh.out, HFl.out], belSet2 HV5.out.bel HV5.out.hr⟩
  · have hF := HF.out
    rw [if_pos (by rw [← hsg]; simp [hn, hdn])] at hF
    subst hF
    obtain ⟨e1, e2⟩ := word_of_sum WQ.out.2 HQQ.out
    have hw : IntKind.i64.wrap qh = F / 18446744073709551616 := by rw [IntKind.wrap_i64]; have := HQ.out; omega
    clear HF HQ HQQ hsg hh0 hm0 hq0 he0
    have r0 := HV.out.r0
    have r1 := HV.out.r1
    have rf := HV.out.rf
    have q0 := HV.out.q0
    have q1 := HV.out.q1
    have a0 := HV.out.a0
    subst e2
    obtain ⟨Fh, hFh⟩ : ∃ z, F / 18446744073709551616 = z := ⟨_, rfl⟩
    rw [hFh] at hw
    have HFh := hide hFh
    clear hFh
    clear e1
    go_wp2
    exact bodyPost_ret (v := .agg #[.int .i64 Fh, .int .u64 (F % 18446744073709551616)]) (by simp [results, Try.results58, go_sem, r0, r1]) rfl ⟨by rw [HFh.out], belSet2 HV.out.bel HV.out.hr⟩
end Go.Proofs.Qxb6500775a
