import Derived.Test.Qxb6500773aGreatTx
import Derived.Test.Qxb6500773aGreatLo5
namespace Go.Proofs.Qxb6500773aGreat
open Go.RowKit

set_option linter.unusedSimpArgs false in
set_option maxRecDepth 100000 in
set_option maxHeartbeats 32000000 in
/-- cnflaw.realBench.step: OpSameAsSaved -/
theorem step_28 (w : World) (B r z : Nat) (P : Nat → Nat) (S : Nat → Nat → Prop) (s : St) (h : BN w B r P S (QS B s)) (hB : B ≤ w.heap.size) (hok : StOk z s) (hz : z ≤ 65536) (v : OpV) (hk : v.kd = 28) (ha : -9223372036854775808 ≤ v.a ∧ v.a ≤ 9223372036854775807) :
    Calls Tryz.prog 9 #[.pointer (some ⟨r, 0, none⟩), opZ v] w (SpPost w (fp r S) B r (s) ({ ob0 with n := 4 * (if (s.f.nv == s.sf.nv && (s.f.E == s.sf.E && s.f.L == s.sf.L)) = true then 1 else 0) + 2 * (if eqaP s.a.V s.sa.V s.a.k s.sa.k = true then 1 else 0) + (if (s.p.E == s.sp.E && s.p.L == s.sp.L && s.p.D == s.sp.D) = true then 1 else 0), m := 4 * (if (s.sf.nv == s.f.nv && (s.sf.E == s.f.E && s.sf.L == s.f.L)) = true then 1 else 0) + 2 * (if eqaP s.sa.V s.a.V s.sa.k s.a.k = true then 1 else 0) + (if (s.sp.E == s.p.E && s.sp.L == s.p.L && s.sp.D == s.p.D) = true then 1 else 0) })) := by
  have HS0 := hide (sw_new v h hB)
  unfold opZ
  have HOK := hide hok
  have HZ := hide hz
  have hs' : s = s := rfl
  obtain ⟨b', hb'⟩ : ∃ x : Ob, ({ ob0 with n := 4 * (if (s.f.nv == s.sf.nv && (s.f.E == s.sf.E && s.f.L == s.sf.L)) = true then 1 else 0) + 2 * (if eqaP s.a.V s.sa.V s.a.k s.sa.k = true then 1 else 0) + (if (s.p.E == s.sp.E && s.p.L == s.sp.L && s.p.D == s.sp.D) = true then 1 else 0), m := 4 * (if (s.sf.nv == s.f.nv && (s.sf.E == s.f.E && s.sf.L == s.f.L)) = true then 1 else 0) + 2 * (if eqaP s.sa.V s.a.V s.sa.k s.a.k = true then 1 else 0) + (if (s.sp.E == s.p.E && s.sp.L == s.p.L && s.sp.D == s.p.D) = true then 1 else 0) }) = x := ⟨_, rfl⟩
  rw [hb']
  obtain ⟨kd, va, la, ln, lc, VX, ta, tn, tc, VT⟩ := v
  dsimp only at hk HS0 ha hs' hb' ⊢
  subst hk
  have HSE := hide hs'
  have HBE := hide hb'
  clear h hok hz hB hs' hb'
  go_enter Tryz.func9, Tryz.ntmps9
  go_upto_region 2 with fail
  generalize (((w.alloc (.cells #[.int .i64 28, .int .i64 va, .slice la ln lc, .slice ta tn tc] 37)).alloc (.cells #[.int .i64 0, .int .i64 0, .int .i64 0, .int .i64 0, .int .i64 0, .slice none 0 0] 43)).alloc (.cells #[.int .i64 0, .int .i64 0, .int .i64 0, .int .i64 0, .int .i64 0, .slice none 0 0] 43)) = W0 at *
  generalize w.heap.size + 1 + 1 = o at *
  generalize w.heap.size + 1 = t at *
  generalize w.heap.size = q at *
  have q0 : W0.cell? ⟨q, 0, none⟩ = some (.int .i64 28) := HS0.out.sc.q0
  obtain ⟨xb0, hxb0⟩ : ∃ x, (s.f.nv == s.sf.nv && (s.f.E == s.sf.E && s.f.L == s.sf.L)) = x := ⟨_, rfl⟩
  have Hxb0 := hide hxb0
  clear hxb0
  obtain ⟨xq0, hxq0⟩ : ∃ x : Int, (if xb0 = true then 1 else 0) = x := ⟨_, rfl⟩
  have Hxq0 := hide hxq0
  clear hxq0
  have xr0 : 0 ≤ xq0 ∧ xq0 ≤ 1 := by rw [← Hxq0.out]; split <;> omega
  obtain ⟨xb1, hxb1⟩ : ∃ x, eqaP s.a.V s.sa.V s.a.k s.sa.k = x := ⟨_, rfl⟩
  have Hxb1 := hide hxb1
  clear hxb1
  obtain ⟨xq1, hxq1⟩ : ∃ x : Int, (if xb1 = true then 1 else 0) = x := ⟨_, rfl⟩
  have Hxq1 := hide hxq1
  clear hxq1
  have xr1 : 0 ≤ xq1 ∧ xq1 ≤ 1 := by rw [← Hxq1.out]; split <;> omega
  obtain ⟨xb2, hxb2⟩ : ∃ x, (s.p.E == s.sp.E && s.p.L == s.sp.L && s.p.D == s.sp.D) = x := ⟨_, rfl⟩
  have Hxb2 := hide hxb2
  clear hxb2
  obtain ⟨xq2, hxq2⟩ : ∃ x : Int, (if xb2 = true then 1 else 0) = x := ⟨_, rfl⟩
  have Hxq2 := hide hxq2
  clear hxq2
  have xr2 : 0 ≤ xq2 ∧ xq2 ≤ 1 := by rw [← Hxq2.out]; split <;> omega
  have xw0 : IntKind.i64.wrap (4 * xq0) = 4 * xq0 := by rw [IntKind.wrap_i64]; omega
  have xw1 : IntKind.i64.wrap (2 * xq1) = 2 * xq1 := by rw [IntKind.wrap_i64]; omega
  have xw2 : IntKind.i64.wrap (4 * xq0 + 2 * xq1) = 4 * xq0 + 2 * xq1 := by rw [IntKind.wrap_i64]; omega
  have xw3 : IntKind.i64.wrap (4 * xq0 + 2 * xq1 + xq2) = 4 * xq0 + 2 * xq1 + xq2 := by rw [IntKind.wrap_i64]; omega
  obtain ⟨xt, hxt⟩ : ∃ x, 4 * xq0 + 2 * xq1 + xq2 = x := ⟨_, rfl⟩
  have Hxt := hide hxt
  rw [hxt] at xw3
  replace xw3 : IntKind.i64.wrap (4 * xq0 + 2 * xq1 + xq2) = xt := by rw [hxt]; exact xw3
  clear hxt xr0 xr1 xr2
  go_upto_region 127 with fail
  have HC0 := hide (HS0.out.low ((Below.refl _ _).drew))
  refine wp_region_held_drew (S := fun w' => PQ w' r q P ⟨28, va, la, ln, lc, VX, ta, tn, tc, VT⟩) (by kernel_rfl) HS0.out.pq (fun hHeld => ?_)
  refine wpAnyH_take (i := 0) (v := ?_) rfl (by kernel_rfl) (by kernel_rfl) (by kernel_rfl) (fun _ _ _ h => h) (Or.inl ⟨by rfl, ?_⟩) (by assumption) ?_
  rotate_left
  · (intro w hSw; (try dsimp only at hSw); go_simp; try (with_reducible rfl))
  try simp only [Act.put, List.getElem_toArray, List.getElem_cons_zero, List.getElem_cons_succ, List.setIfInBounds_toArray, List.set_cons_zero, List.set_cons_succ]
  refine wpAnyH_take (i := 1) (v := ?_) rfl (by kernel_rfl) (by kernel_rfl) (by kernel_rfl) (fun _ _ _ h => h) (Or.inl ⟨by rfl, ?_⟩) (by assumption) ?_
  rotate_left
  · (intro w hSw; (try dsimp only at hSw); go_simp; try (with_reducible rfl))
  try simp only [Act.put, List.getElem_toArray, List.getElem_cons_zero, List.getElem_cons_succ, List.setIfInBounds_toArray, List.set_cons_zero, List.set_cons_succ]
  refine wpAnyH_take (i := 2) (v := ?_) rfl (by kernel_rfl) (by kernel_rfl) (by kernel_rfl) (fun _ _ _ h => h) (Or.inl ⟨by rfl, ?_⟩) (by assumption) ?_
  rotate_left
  · (intro w hSw; (try dsimp only at hSw); go_simp; try (with_reducible rfl))
  try simp only [Act.put, List.getElem_toArray, List.getElem_cons_zero, List.getElem_cons_succ, List.setIfInBounds_toArray, List.set_cons_zero, List.set_cons_succ]
  refine wpAnyH_take (i := 3) (v := ?_) rfl (by kernel_rfl) (by kernel_rfl) (by kernel_rfl) (fun _ _ _ h => h) (Or.inl ⟨by rfl, ?_⟩) (by assumption) ?_
  rotate_left
  · (intro w hSw; (try dsimp only at hSw); (obtain ⟨zp, zq1, zq2⟩ := hSw; have zz := zp 0 (by decide)); go_simp; try (with_reducible rfl))
  try simp only [Act.put, List.getElem_toArray, List.getElem_cons_zero, List.getElem_cons_succ, List.setIfInBounds_toArray, List.set_cons_zero, List.set_cons_succ]
  refine wpAnyH_take (i := 4) (v := ?_) rfl (by kernel_rfl) (by kernel_rfl) (by kernel_rfl) (fun _ _ _ h => h) (Or.inl ⟨by rfl, ?_⟩) (by assumption) ?_
  rotate_left
  · (intro w hSw; (try dsimp only at hSw); go_simp; try (with_reducible rfl))
  try simp only [Act.put, List.getElem_toArray, List.getElem_cons_zero, List.getElem_cons_succ, List.setIfInBounds_toArray, List.set_cons_zero, List.set_cons_succ]
  refine wpAnyH_take (i := 5) (v := ?_) rfl (by kernel_rfl) (by kernel_rfl) (by kernel_rfl) (fun _ _ _ h => h) (Or.inl ⟨by rfl, ?_⟩) (by assumption) ?_
  rotate_left
  · (intro w hSw; (try dsimp only at hSw); go_simp; try (with_reducible rfl))
  try simp only [Act.put, List.getElem_toArray, List.getElem_cons_zero, List.getElem_cons_succ, List.setIfInBounds_toArray, List.set_cons_zero, List.set_cons_succ]
  refine wpAnyH_take (i := 6) (v := ?_) rfl (by kernel_rfl) (by kernel_rfl) (by kernel_rfl) (fun _ _ _ h => h) (Or.inl ⟨by rfl, ?_⟩) (by assumption) ?_
  rotate_left
  · (intro w hSw; (try dsimp only at hSw); go_simp; try (with_reducible rfl))
  try simp only [Act.put, List.getElem_toArray, List.getElem_cons_zero, List.getElem_cons_succ, List.setIfInBounds_toArray, List.set_cons_zero, List.set_cons_succ]
  refine wpAnyH_take (i := 7) (v := ?_) rfl (by kernel_rfl) (by kernel_rfl) (by kernel_rfl) (fun _ _ _ h => h) (Or.inl ⟨by rfl, ?_⟩) (by assumption) ?_
  rotate_left
  · (intro w hSw; (try dsimp only at hSw); (obtain ⟨zp, zq1, zq2⟩ := hSw; have zz := zp 3 (by decide)); go_simp; try (with_reducible rfl))
  try simp only [Act.put, List.getElem_toArray, List.getElem_cons_zero, List.getElem_cons_succ, List.setIfInBounds_toArray, List.set_cons_zero, List.set_cons_succ]
  refine wpAnyH_take (i := 11) (v := ?_) rfl (by kernel_rfl) (by kernel_rfl) (by kernel_rfl) (fun _ _ _ h => h) (Or.inl ⟨by rfl, ?_⟩) (by assumption) ?_
  rotate_left
  · (intro w hSw; (try dsimp only at hSw); go_simp; try (with_reducible rfl))
  try simp only [Act.put, List.getElem_toArray, List.getElem_cons_zero, List.getElem_cons_succ, List.setIfInBounds_toArray, List.set_cons_zero, List.set_cons_succ]
  refine wpAnyH_take (i := 12) (v := ?_) rfl (by kernel_rfl) (by kernel_rfl) (by kernel_rfl) (fun _ _ _ h => h) (Or.inl ⟨by rfl, ?_⟩) (by assumption) ?_
  rotate_left
  · (intro w hSw; (try dsimp only at hSw); go_simp; try (with_reducible rfl))
  try simp only [Act.put, List.getElem_toArray, List.getElem_cons_zero, List.getElem_cons_succ, List.setIfInBounds_toArray, List.set_cons_zero, List.set_cons_succ]
  refine wpAnyH_take (i := 13) (v := ?_) rfl (by kernel_rfl) (by kernel_rfl) (by kernel_rfl) (fun _ _ _ h => h) (Or.inl ⟨by rfl, ?_⟩) (by assumption) ?_
  rotate_left
  · (intro w hSw; (try dsimp only at hSw); go_simp; try (with_reducible rfl))
  try simp only [Act.put, List.getElem_toArray, List.getElem_cons_zero, List.getElem_cons_succ, List.setIfInBounds_toArray, List.set_cons_zero, List.set_cons_succ]
  refine wpAnyH_take (i := 14) (v := ?_) rfl (by kernel_rfl) (by kernel_rfl) (by kernel_rfl) (fun _ _ _ h => h) (Or.inl ⟨by rfl, ?_⟩) (by assumption) ?_
  rotate_left
  · (intro w hSw; (try dsimp only at hSw); (obtain ⟨zp, zq1, zq2⟩ := hSw; have zz := zp 1 (by decide)); go_simp; try (with_reducible rfl))
  try simp only [Act.put, List.getElem_toArray, List.getElem_cons_zero, List.getElem_cons_succ, List.setIfInBounds_toArray, List.set_cons_zero, List.set_cons_succ]
  refine wpAnyH_take (i := 15) (v := ?_) rfl (by kernel_rfl) (by kernel_rfl) (by kernel_rfl) (fun _ _ _ h => h) (Or.inl ⟨by rfl, ?_⟩) (by assumption) ?_
  rotate_left
  · (intro w hSw; (try dsimp only at hSw); go_simp; try (with_reducible rfl))
  try simp only [Act.put, List.getElem_toArray, List.getElem_cons_zero, List.getElem_cons_succ, List.setIfInBounds_toArray, List.set_cons_zero, List.set_cons_succ]
  refine wpAnyH_take (i := 16) (v := ?_) rfl (by kernel_rfl) (by kernel_rfl) (by kernel_rfl) (fun _ _ _ h => h) (Or.inl ⟨by rfl, ?_⟩) (by assumption) ?_
  rotate_left
  · (intro w hSw; (try dsimp only at hSw); go_simp; try (with_reducible rfl))
  try simp only [Act.put, List.getElem_toArray, List.getElem_cons_zero, List.getElem_cons_succ, List.setIfInBounds_toArray, List.set_cons_zero, List.set_cons_succ]
  refine wpAnyH_take (i := 17) (v := ?_) rfl (by kernel_rfl) (by kernel_rfl) (by kernel_rfl) (fun _ _ _ h => h) (Or.inl ⟨by rfl, ?_⟩) (by assumption) ?_
  rotate_left
  · (intro w hSw; (try dsimp only at hSw); go_simp; try (with_reducible rfl))
  try simp only [Act.put, List.getElem_toArray, List.getElem_cons_zero, List.getElem_cons_succ, List.setIfInBounds_toArray, List.set_cons_zero, List.set_cons_succ]
  refine wpAnyH_take (i := 18) (v := ?_) rfl (by kernel_rfl) (by kernel_rfl) (by kernel_rfl) (fun _ _ _ h => h) (Or.inl ⟨by rfl, ?_⟩) (by assumption) ?_
  rotate_left
  · (intro w hSw; (try dsimp only at hSw); (obtain ⟨zp, zq1, zq2⟩ := hSw; have zz := zp 4 (by decide)); go_simp; try (with_reducible rfl))
  try simp only [Act.put, List.getElem_toArray, List.getElem_cons_zero, List.getElem_cons_succ, List.setIfInBounds_toArray, List.set_cons_zero, List.set_cons_succ]
  refine wpAnyH_take (i := 23) (v := ?_) rfl (by kernel_rfl) (by kernel_rfl) (by kernel_rfl) (fun _ _ _ h => h) (Or.inl ⟨by rfl, ?_⟩) (by assumption) ?_
  rotate_left
  · (intro w hSw; (try dsimp only at hSw); go_simp; try (with_reducible rfl))
  try simp only [Act.put, List.getElem_toArray, List.getElem_cons_zero, List.getElem_cons_succ, List.setIfInBounds_toArray, List.set_cons_zero, List.set_cons_succ]
  refine wpAnyH_take (i := 24) (v := ?_) rfl (by kernel_rfl) (by kernel_rfl) (by kernel_rfl) (fun _ _ _ h => h) (Or.inl ⟨by rfl, ?_⟩) (by assumption) ?_
  rotate_left
  · (intro w hSw; (try dsimp only at hSw); go_simp; try (with_reducible rfl))
  try simp only [Act.put, List.getElem_toArray, List.getElem_cons_zero, List.getElem_cons_succ, List.setIfInBounds_toArray, List.set_cons_zero, List.set_cons_succ]
  refine wpAnyH_take (i := 25) (v := ?_) rfl (by kernel_rfl) (by kernel_rfl) (by kernel_rfl) (fun _ _ _ h => h) (Or.inl ⟨by rfl, ?_⟩) (by assumption) ?_
  rotate_left
  · (intro w hSw; (try dsimp only at hSw); go_simp; try (with_reducible rfl))
  try simp only [Act.put, List.getElem_toArray, List.getElem_cons_zero, List.getElem_cons_succ, List.setIfInBounds_toArray, List.set_cons_zero, List.set_cons_succ]
  refine wpAnyH_take (i := 26) (v := ?_) rfl (by kernel_rfl) (by kernel_rfl) (by kernel_rfl) (fun _ _ _ h => h) (Or.inl ⟨by rfl, ?_⟩) (by assumption) ?_
  rotate_left
  · (intro w hSw; (try dsimp only at hSw); (obtain ⟨zp, zq1, zq2⟩ := hSw; have zz := zp 2 (by decide)); go_simp; try (with_reducible rfl))
  try simp only [Act.put, List.getElem_toArray, List.getElem_cons_zero, List.getElem_cons_succ, List.setIfInBounds_toArray, List.set_cons_zero, List.set_cons_succ]
  refine wpAnyH_take (i := 27) (v := ?_) rfl (by kernel_rfl) (by kernel_rfl) (by kernel_rfl) (fun _ _ _ h => h) (Or.inl ⟨by rfl, ?_⟩) (by assumption) ?_
  rotate_left
  · (intro w hSw; (try dsimp only at hSw); go_simp; try (with_reducible rfl))
  try simp only [Act.put, List.getElem_toArray, List.getElem_cons_zero, List.getElem_cons_succ, List.setIfInBounds_toArray, List.set_cons_zero, List.set_cons_succ]
  refine wpAnyH_take (i := 28) (v := ?_) rfl (by kernel_rfl) (by kernel_rfl) (by kernel_rfl) (fun _ _ _ h => h) (Or.inl ⟨by rfl, ?_⟩) (by assumption) ?_
  rotate_left
  · (intro w hSw; (try dsimp only at hSw); go_simp; try (with_reducible rfl))
  try simp only [Act.put, List.getElem_toArray, List.getElem_cons_zero, List.getElem_cons_succ, List.setIfInBounds_toArray, List.set_cons_zero, List.set_cons_succ]
  refine wpAnyH_take (i := 29) (v := ?_) rfl (by kernel_rfl) (by kernel_rfl) (by kernel_rfl) (fun _ _ _ h => h) (Or.inl ⟨by rfl, ?_⟩) (by assumption) ?_
  rotate_left
  · (intro w hSw; (try dsimp only at hSw); go_simp; try (with_reducible rfl))
  try simp only [Act.put, List.getElem_toArray, List.getElem_cons_zero, List.getElem_cons_succ, List.setIfInBounds_toArray, List.set_cons_zero, List.set_cons_succ]
  refine wpAnyH_take (i := 30) (v := ?_) rfl (by kernel_rfl) (by kernel_rfl) (by kernel_rfl) (fun _ _ _ h => h) (Or.inl ⟨by rfl, ?_⟩) (by assumption) ?_
  rotate_left
  · (intro w hSw; (try dsimp only at hSw); (obtain ⟨zp, zq1, zq2⟩ := hSw; have zz := zp 5 (by decide)); go_simp; try (with_reducible rfl))
  try simp only [Act.put, List.getElem_toArray, List.getElem_cons_zero, List.getElem_cons_succ, List.setIfInBounds_toArray, List.set_cons_zero, List.set_cons_succ]
  refine wpAnyH_ready (rs := [8]) (by kernel_rfl) (by simp) ?_
  refine (AllReadyH.cons rfl (fun K hK => ?_) AllReadyH.nil)
  · obtain ⟨fa, fe, fff, fs⟩ := HC0.out.f
    obtain ⟨ga, ge, gff, gs⟩ := HC0.out.sf
    have cc := hide (fEqualZ_any W0.drew B (P 0) B (P 3) fa fe ga ge s.f.nv s.sf.nv s.f.L s.f.E s.sf.L s.sf.E fff gff (by have := HOK.out.f.len; have := HZ.out; omega) (by have := HOK.out.f.len; have := HZ.out; omega))
    rw [Hxb0.out] at cc
    clear fff fs gff gs
    refine step_call rfl 71 #[.pointer (some ⟨P 0, 0, none⟩), .pointer (some ⟨P 3, 0, none⟩)] (by simp [go_sem]) (cc.out) ?_
    rintro e xw_0 ⟨rfl, hb1⟩
    have HC1 := hide (HC0.out.low hb1)
    clear hb1 cc
    refine ⟨_, rfl, ?_⟩
    refine hK.out _ _ ?_ (fun hHeld => ?_)
    · (first | exact HC4.out.pq | exact HC3.out.pq | exact HC2.out.pq | exact HC1.out.pq | exact HC0.out.pq)
    clear hK K
    try simp only [Act.put, List.getElem_toArray, List.getElem_cons_zero, List.getElem_cons_succ, List.setIfInBounds_toArray, List.set_cons_zero, List.set_cons_succ]
    refine wpAnyH_ready (rs := [9]) (by kernel_rfl) (by simp) ?_
    refine (AllReadyH.cons rfl (fun K hK => ?_) AllReadyH.nil)
    · have cc := hide (truth_any xw_0 xb0)
      rw [Hxq0.out] at cc
      refine step_call rfl 44 #[.bool xb0] (by simp [go_sem]) (cc.out) ?_
      rintro e xz0 ⟨rfl, hw⟩
      rw [hw]
      clear hw xz0 cc
      refine ⟨_, rfl, ?_⟩
      refine hK.out _ _ ?_ (fun hHeld => ?_)
      · (first | exact HC4.out.pq | exact HC3.out.pq | exact HC2.out.pq | exact HC1.out.pq | exact HC0.out.pq)
      clear hK K
      try simp only [Act.put, List.getElem_toArray, List.getElem_cons_zero, List.getElem_cons_succ, List.setIfInBounds_toArray, List.set_cons_zero, List.set_cons_succ]
      refine wpAnyH_take (i := 10) (v := ?_) rfl (by kernel_rfl) (by kernel_rfl) (by kernel_rfl) (fun _ _ _ h => h) (Or.inl ⟨by rfl, ?_⟩) (by assumption) ?_
      rotate_left
      · (intro w hSw; (try dsimp only at hSw); go_simp; try (with_reducible rfl))
      try simp only [Act.put, List.getElem_toArray, List.getElem_cons_zero, List.getElem_cons_succ, List.setIfInBounds_toArray, List.set_cons_zero, List.set_cons_succ]
      refine wpAnyH_ready (rs := [19]) (by kernel_rfl) (by simp) ?_
      refine (AllReadyH.cons rfl (fun K hK => ?_) AllReadyH.nil)
      · obtain ⟨av, aat, aso⟩ := HC1.out.a
        obtain ⟨bv, bat, bso⟩ := HC1.out.sa
        have cc := hide (equalA_any xw_0 B (P 1) av s.a.k s.a.V aat HOK.out.a.len B (P 4) bv s.sa.k s.sa.V bat HOK.out.sa.len)
        rw [Hxb1.out] at cc
        clear aat aso bat bso
        refine step_call rfl 72 #[.pointer (some ⟨P 1, 0, none⟩), .pointer (some ⟨P 4, 0, none⟩)] (by simp [go_sem]) (cc.out) ?_
        rintro e xw_1 ⟨rfl, mm, hw⟩
        have hb1 : Below xw_0.heap.size xw_0 xw_1 := by rw [hw]; exact belN _ mm
        have HC2 := hide (HC1.out.low hb1)
        clear hb1 cc hw
        refine ⟨_, rfl, ?_⟩
        refine hK.out _ _ ?_ (fun hHeld => ?_)
        · (first | exact HC4.out.pq | exact HC3.out.pq | exact HC2.out.pq | exact HC1.out.pq | exact HC0.out.pq)
        clear hK K
        try simp only [Act.put, List.getElem_toArray, List.getElem_cons_zero, List.getElem_cons_succ, List.setIfInBounds_toArray, List.set_cons_zero, List.set_cons_succ]
        refine wpAnyH_ready (rs := [20]) (by kernel_rfl) (by simp) ?_
        refine (AllReadyH.cons rfl (fun K hK => ?_) AllReadyH.nil)
        · have cc := hide (truth_any xw_1 xb1)
          rw [Hxq1.out] at cc
          refine step_call rfl 44 #[.bool xb1] (by simp [go_sem]) (cc.out) ?_
          rintro e xz1 ⟨rfl, hw⟩
          rw [hw]
          clear hw xz1 cc
          refine ⟨_, rfl, ?_⟩
          refine hK.out _ _ ?_ (fun hHeld => ?_)
          · (first | exact HC4.out.pq | exact HC3.out.pq | exact HC2.out.pq | exact HC1.out.pq | exact HC0.out.pq)
          clear hK K
          try simp only [Act.put, List.getElem_toArray, List.getElem_cons_zero, List.getElem_cons_succ, List.setIfInBounds_toArray, List.set_cons_zero, List.set_cons_succ]
          refine wpAnyH_take (i := 21) (v := ?_) rfl (by kernel_rfl) (by kernel_rfl) (by kernel_rfl) (fun _ _ _ h => h) (Or.inl ⟨by rfl, ?_⟩) (by assumption) ?_
          rotate_left
          · (intro w hSw; (try dsimp only at hSw); go_simp; try (with_reducible rfl))
          try simp only [Act.put, List.getElem_toArray, List.getElem_cons_zero, List.getElem_cons_succ, List.setIfInBounds_toArray, List.set_cons_zero, List.set_cons_succ]
          refine wpAnyH_take (i := 22) (v := ?_) rfl (by kernel_rfl) (by kernel_rfl) (by kernel_rfl) (fun _ _ _ h => h) (Or.inl ⟨by rfl, ?_⟩) (by assumption) ?_
          rotate_left
          · (intro w hSw; (try dsimp only at hSw); go_simp; try (with_reducible rfl))
          try simp only [Act.put, List.getElem_toArray, List.getElem_cons_zero, List.getElem_cons_succ, List.setIfInBounds_toArray, List.set_cons_zero, List.set_cons_succ]
          refine wpAnyH_ready (rs := [31]) (by kernel_rfl) (by simp) ?_
          refine (AllReadyH.cons rfl (fun K hK => ?_) AllReadyH.nil)
          · obtain ⟨pa, pe, pd, ppf, ps⟩ := HC2.out.p
            obtain ⟨ra, re, rd, rpf, rs⟩ := HC2.out.sp
            have cc := hide (pfEqualZ_any xw_1 B (P 2) B (P 5) pa pe pd ra re rd s.p.L s.p.E s.sp.L s.sp.E s.p.D s.sp.D ppf rpf HOK.out.p.dl HOK.out.sp.dl (by have := HOK.out.p.len; have := HZ.out; omega) (by have := HOK.out.p.len; have := HZ.out; omega))
            rw [Hxb2.out] at cc
            clear ppf ps rpf rs
            refine step_call rfl 73 #[.pointer (some ⟨P 2, 0, none⟩), .pointer (some ⟨P 5, 0, none⟩)] (by simp [go_sem]) (cc.out) ?_
            rintro e xw_2 ⟨rfl, hb1⟩
            have HC3 := hide (HC2.out.low hb1)
            clear hb1 cc
            refine ⟨_, rfl, ?_⟩
            refine hK.out _ _ ?_ (fun hHeld => ?_)
            · (first | exact HC4.out.pq | exact HC3.out.pq | exact HC2.out.pq | exact HC1.out.pq | exact HC0.out.pq)
            clear hK K
            try simp only [Act.put, List.getElem_toArray, List.getElem_cons_zero, List.getElem_cons_succ, List.setIfInBounds_toArray, List.set_cons_zero, List.set_cons_succ]
            refine wpAnyH_ready (rs := [32]) (by kernel_rfl) (by simp) ?_
            refine (AllReadyH.cons rfl (fun K hK => ?_) AllReadyH.nil)
            · have cc := hide (truth_any xw_2 xb2)
              rw [Hxq2.out] at cc
              refine step_call rfl 44 #[.bool xb2] (by simp [go_sem]) (cc.out) ?_
              rintro e xz2 ⟨rfl, hw⟩
              rw [hw]
              clear hw xz2 cc
              have HC4 := hide (HC3.out.on xt)
              have o3 := HC3.out.sc.o3
              have hof := HC3.out.sc.of
              refine ⟨_, rfl, ?_⟩
              refine hK.out _ _ ?_ (fun hHeld => ?_)
              · (first | exact HC4.out.pq | exact HC3.out.pq | exact HC2.out.pq | exact HC1.out.pq | exact HC0.out.pq)
              clear hK K
              try simp only [Act.put, List.getElem_toArray, List.getElem_cons_zero, List.getElem_cons_succ, List.setIfInBounds_toArray, List.set_cons_zero, List.set_cons_succ]
              refine wpAnyH_take (i := 33) (v := ?_) rfl (by kernel_rfl) (by kernel_rfl) (by kernel_rfl) (fun _ _ _ h => h) (Or.inl ⟨by rfl, ?_⟩) (by assumption) ?_
              rotate_left
              · (intro w hSw; (try dsimp only at hSw); go_simp; try (with_reducible rfl))
              try simp only [Act.put, List.getElem_toArray, List.getElem_cons_zero, List.getElem_cons_succ, List.setIfInBounds_toArray, List.set_cons_zero, List.set_cons_succ]
              refine wpAnyH_take (i := 34) (v := ?_) rfl (by kernel_rfl) (by kernel_rfl) (by kernel_rfl) (fun _ _ _ h => h) (Or.inl ⟨by rfl, ?_⟩) (by assumption) ?_
              rotate_left
              · (intro w hSw; (try dsimp only at hSw); go_simp; try (with_reducible rfl))
              try simp only [Act.put, List.getElem_toArray, List.getElem_cons_zero, List.getElem_cons_succ, List.setIfInBounds_toArray, List.set_cons_zero, List.set_cons_succ]
              refine wpAnyH_ready (rs := [35]) (by kernel_rfl) (by simp) ?_
              refine (AllReadyH.cons rfl (fun K hK => ?_) AllReadyH.nil)
              · go_simp
                refine hK.out _ _ ?_ (fun hHeld => ?_)
                · (first | exact HC4.out.pq | exact HC3.out.pq | exact HC2.out.pq | exact HC1.out.pq | exact HC0.out.pq)
                clear hK K
                try simp only [Act.put, List.getElem_toArray, List.getElem_cons_zero, List.getElem_cons_succ, List.setIfInBounds_toArray, List.set_cons_zero, List.set_cons_succ]
                refine wpAnyH_done (by kernel_rfl) ?_ _
                clear o3 hof HC0 HC1 HC2 HC3 HS0 xw0 xw1 xw2 xw3
                generalize xw_2.setCell ⟨o, 3, none⟩ (.int .i64 xt) = Wx at *
                have HDx := HC4
                clear HC4
                obtain ⟨yb0, hyb0⟩ : ∃ x, (s.sf.nv == s.f.nv && (s.sf.E == s.f.E && s.sf.L == s.f.L)) = x := ⟨_, rfl⟩
                have Hyb0 := hide hyb0
                clear hyb0
                obtain ⟨yq0, hyq0⟩ : ∃ x : Int, (if yb0 = true then 1 else 0) = x := ⟨_, rfl⟩
                have Hyq0 := hide hyq0
                clear hyq0
                have yr0 : 0 ≤ yq0 ∧ yq0 ≤ 1 := by rw [← Hyq0.out]; split <;> omega
                obtain ⟨yb1, hyb1⟩ : ∃ x, eqaP s.sa.V s.a.V s.sa.k s.a.k = x := ⟨_, rfl⟩
                have Hyb1 := hide hyb1
                clear hyb1
                obtain ⟨yq1, hyq1⟩ : ∃ x : Int, (if yb1 = true then 1 else 0) = x := ⟨_, rfl⟩
                have Hyq1 := hide hyq1
                clear hyq1
                have yr1 : 0 ≤ yq1 ∧ yq1 ≤ 1 := by rw [← Hyq1.out]; split <;> omega
                obtain ⟨yb2, hyb2⟩ : ∃ x, (s.sp.E == s.p.E && s.sp.L == s.p.L && s.sp.D == s.p.D) = x := ⟨_, rfl⟩
                have Hyb2 := hide hyb2
                clear hyb2
                obtain ⟨yq2, hyq2⟩ : ∃ x : Int, (if yb2 = true then 1 else 0) = x := ⟨_, rfl⟩
                have Hyq2 := hide hyq2
                clear hyq2
                have yr2 : 0 ≤ yq2 ∧ yq2 ≤ 1 := by rw [← Hyq2.out]; split <;> omega
                have yw0 : IntKind.i64.wrap (4 * yq0) = 4 * yq0 := by rw [IntKind.wrap_i64]; omega
                have yw1 : IntKind.i64.wrap (2 * yq1) = 2 * yq1 := by rw [IntKind.wrap_i64]; omega
                have yw2 : IntKind.i64.wrap (4 * yq0 + 2 * yq1) = 4 * yq0 + 2 * yq1 := by rw [IntKind.wrap_i64]; omega
                have yw3 : IntKind.i64.wrap (4 * yq0 + 2 * yq1 + yq2) = 4 * yq0 + 2 * yq1 + yq2 := by rw [IntKind.wrap_i64]; omega
                obtain ⟨yt, hyt⟩ : ∃ x, 4 * yq0 + 2 * yq1 + yq2 = x := ⟨_, rfl⟩
                have Hyt := hide hyt
                rw [hyt] at yw3
                replace yw3 : IntKind.i64.wrap (4 * yq0 + 2 * yq1 + yq2) = yt := by rw [hyt]; exact yw3
                clear hyt yr0 yr1 yr2
                go_upto_region 128 with fail
                have HC0 := hide (HDx.out.low ((Below.refl _ _).drew))
                refine wp_region_held_drew (S := fun w' => PQ w' r q P ⟨28, va, la, ln, lc, VX, ta, tn, tc, VT⟩) (by kernel_rfl) HDx.out.pq (fun hHeld => ?_)
                refine wpAnyH_take (i := 0) (v := ?_) rfl (by kernel_rfl) (by kernel_rfl) (by kernel_rfl) (fun _ _ _ h => h) (Or.inl ⟨by rfl, ?_⟩) (by assumption) ?_
                rotate_left
                · (intro w hSw; (try dsimp only at hSw); go_simp; try (with_reducible rfl))
                try simp only [Act.put, List.getElem_toArray, List.getElem_cons_zero, List.getElem_cons_succ, List.setIfInBounds_toArray, List.set_cons_zero, List.set_cons_succ]
                refine wpAnyH_take (i := 1) (v := ?_) rfl (by kernel_rfl) (by kernel_rfl) (by kernel_rfl) (fun _ _ _ h => h) (Or.inl ⟨by rfl, ?_⟩) (by assumption) ?_
                rotate_left
                · (intro w hSw; (try dsimp only at hSw); go_simp; try (with_reducible rfl))
                try simp only [Act.put, List.getElem_toArray, List.getElem_cons_zero, List.getElem_cons_succ, List.setIfInBounds_toArray, List.set_cons_zero, List.set_cons_succ]
                refine wpAnyH_take (i := 2) (v := ?_) rfl (by kernel_rfl) (by kernel_rfl) (by kernel_rfl) (fun _ _ _ h => h) (Or.inl ⟨by rfl, ?_⟩) (by assumption) ?_
                rotate_left
                · (intro w hSw; (try dsimp only at hSw); go_simp; try (with_reducible rfl))
                try simp only [Act.put, List.getElem_toArray, List.getElem_cons_zero, List.getElem_cons_succ, List.setIfInBounds_toArray, List.set_cons_zero, List.set_cons_succ]
                refine wpAnyH_take (i := 3) (v := ?_) rfl (by kernel_rfl) (by kernel_rfl) (by kernel_rfl) (fun _ _ _ h => h) (Or.inl ⟨by rfl, ?_⟩) (by assumption) ?_
                rotate_left
                · (intro w hSw; (try dsimp only at hSw); (obtain ⟨zp, zq1, zq2⟩ := hSw; have zz := zp 3 (by decide)); go_simp; try (with_reducible rfl))
                try simp only [Act.put, List.getElem_toArray, List.getElem_cons_zero, List.getElem_cons_succ, List.setIfInBounds_toArray, List.set_cons_zero, List.set_cons_succ]
                refine wpAnyH_take (i := 4) (v := ?_) rfl (by kernel_rfl) (by kernel_rfl) (by kernel_rfl) (fun _ _ _ h => h) (Or.inl ⟨by rfl, ?_⟩) (by assumption) ?_
                rotate_left
                · (intro w hSw; (try dsimp only at hSw); go_simp; try (with_reducible rfl))
                try simp only [Act.put, List.getElem_toArray, List.getElem_cons_zero, List.getElem_cons_succ, List.setIfInBounds_toArray, List.set_cons_zero, List.set_cons_succ]
                refine wpAnyH_take (i := 5) (v := ?_) rfl (by kernel_rfl) (by kernel_rfl) (by kernel_rfl) (fun _ _ _ h => h) (Or.inl ⟨by rfl, ?_⟩) (by assumption) ?_
                rotate_left
                · (intro w hSw; (try dsimp only at hSw); go_simp; try (with_reducible rfl))
                try simp only [Act.put, List.getElem_toArray, List.getElem_cons_zero, List.getElem_cons_succ, List.setIfInBounds_toArray, List.set_cons_zero, List.set_cons_succ]
                refine wpAnyH_take (i := 6) (v := ?_) rfl (by kernel_rfl) (by kernel_rfl) (by kernel_rfl) (fun _ _ _ h => h) (Or.inl ⟨by rfl, ?_⟩) (by assumption) ?_
                rotate_left
                · (intro w hSw; (try dsimp only at hSw); go_simp; try (with_reducible rfl))
                try simp only [Act.put, List.getElem_toArray, List.getElem_cons_zero, List.getElem_cons_succ, List.setIfInBounds_toArray, List.set_cons_zero, List.set_cons_succ]
                refine wpAnyH_take (i := 7) (v := ?_) rfl (by kernel_rfl) (by kernel_rfl) (by kernel_rfl) (fun _ _ _ h => h) (Or.inl ⟨by rfl, ?_⟩) (by assumption) ?_
                rotate_left
                · (intro w hSw; (try dsimp only at hSw); (obtain ⟨zp, zq1, zq2⟩ := hSw; have zz := zp 0 (by decide)); go_simp; try (with_reducible rfl))
                try simp only [Act.put, List.getElem_toArray, List.getElem_cons_zero, List.getElem_cons_succ, List.setIfInBounds_toArray, List.set_cons_zero, List.set_cons_succ]
                refine wpAnyH_take (i := 11) (v := ?_) rfl (by kernel_rfl) (by kernel_rfl) (by kernel_rfl) (fun _ _ _ h => h) (Or.inl ⟨by rfl, ?_⟩) (by assumption) ?_
                rotate_left
                · (intro w hSw; (try dsimp only at hSw); go_simp; try (with_reducible rfl))
                try simp only [Act.put, List.getElem_toArray, List.getElem_cons_zero, List.getElem_cons_succ, List.setIfInBounds_toArray, List.set_cons_zero, List.set_cons_succ]
                refine wpAnyH_take (i := 12) (v := ?_) rfl (by kernel_rfl) (by kernel_rfl) (by kernel_rfl) (fun _ _ _ h => h) (Or.inl ⟨by rfl, ?_⟩) (by assumption) ?_
                rotate_left
                · (intro w hSw; (try dsimp only at hSw); go_simp; try (with_reducible rfl))
                try simp only [Act.put, List.getElem_toArray, List.getElem_cons_zero, List.getElem_cons_succ, List.setIfInBounds_toArray, List.set_cons_zero, List.set_cons_succ]
                refine wpAnyH_take (i := 13) (v := ?_) rfl (by kernel_rfl) (by kernel_rfl) (by kernel_rfl) (fun _ _ _ h => h) (Or.inl ⟨by rfl, ?_⟩) (by assumption) ?_
                rotate_left
                · (intro w hSw; (try dsimp only at hSw); go_simp; try (with_reducible rfl))
                try simp only [Act.put, List.getElem_toArray, List.getElem_cons_zero, List.getElem_cons_succ, List.setIfInBounds_toArray, List.set_cons_zero, List.set_cons_succ]
                refine wpAnyH_take (i := 14) (v := ?_) rfl (by kernel_rfl) (by kernel_rfl) (by kernel_rfl) (fun _ _ _ h => h) (Or.inl ⟨by rfl, ?_⟩) (by assumption) ?_
                rotate_left
                · (intro w hSw; (try dsimp only at hSw); (obtain ⟨zp, zq1, zq2⟩ := hSw; have zz := zp 4 (by decide)); go_simp; try (with_reducible rfl))
                try simp only [Act.put, List.getElem_toArray, List.getElem_cons_zero, List.getElem_cons_succ, List.setIfInBounds_toArray, List.set_cons_zero, List.set_cons_succ]
                refine wpAnyH_take (i := 15) (v := ?_) rfl (by kernel_rfl) (by kernel_rfl) (by kernel_rfl) (fun _ _ _ h => h) (Or.inl ⟨by rfl, ?_⟩) (by assumption) ?_
                rotate_left
                · (intro w hSw; (try dsimp only at hSw); go_simp; try (with_reducible rfl))
                try simp only [Act.put, List.getElem_toArray, List.getElem_cons_zero, List.getElem_cons_succ, List.setIfInBounds_toArray, List.set_cons_zero, List.set_cons_succ]
                refine wpAnyH_take (i := 16) (v := ?_) rfl (by kernel_rfl) (by kernel_rfl) (by kernel_rfl) (fun _ _ _ h => h) (Or.inl ⟨by rfl, ?_⟩) (by assumption) ?_
                rotate_left
                · (intro w hSw; (try dsimp only at hSw); go_simp; try (with_reducible rfl))
                try simp only [Act.put, List.getElem_toArray, List.getElem_cons_zero, List.getElem_cons_succ, List.setIfInBounds_toArray, List.set_cons_zero, List.set_cons_succ]
                refine wpAnyH_take (i := 17) (v := ?_) rfl (by kernel_rfl) (by kernel_rfl) (by kernel_rfl) (fun _ _ _ h => h) (Or.inl ⟨by rfl, ?_⟩) (by assumption) ?_
                rotate_left
                · (intro w hSw; (try dsimp only at hSw); go_simp; try (with_reducible rfl))
                try simp only [Act.put, List.getElem_toArray, List.getElem_cons_zero, List.getElem_cons_succ, List.setIfInBounds_toArray, List.set_cons_zero, List.set_cons_succ]
                refine wpAnyH_take (i := 18) (v := ?_) rfl (by kernel_rfl) (by kernel_rfl) (by kernel_rfl) (fun _ _ _ h => h) (Or.inl ⟨by rfl, ?_⟩) (by assumption) ?_
                rotate_left
                · (intro w hSw; (try dsimp only at hSw); (obtain ⟨zp, zq1, zq2⟩ := hSw; have zz := zp 1 (by decide)); go_simp; try (with_reducible rfl))
                try simp only [Act.put, List.getElem_toArray, List.getElem_cons_zero, List.getElem_cons_succ, List.setIfInBounds_toArray, List.set_cons_zero, List.set_cons_succ]
                refine wpAnyH_take (i := 23) (v := ?_) rfl (by kernel_rfl) (by kernel_rfl) (by kernel_rfl) (fun _ _ _ h => h) (Or.inl ⟨by rfl, ?_⟩) (by assumption) ?_
                rotate_left
                · (intro w hSw; (try dsimp only at hSw); go_simp; try (with_reducible rfl))
                try simp only [Act.put, List.getElem_toArray, List.getElem_cons_zero, List.getElem_cons_succ, List.setIfInBounds_toArray, List.set_cons_zero, List.set_cons_succ]
                refine wpAnyH_take (i := 24) (v := ?_) rfl (by kernel_rfl) (by kernel_rfl) (by kernel_rfl) (fun _ _ _ h => h) (Or.inl ⟨by rfl, ?_⟩) (by assumption) ?_
                rotate_left
                · (intro w hSw; (try dsimp only at hSw); go_simp; try (with_reducible rfl))
                try simp only [Act.put, List.getElem_toArray, List.getElem_cons_zero, List.getElem_cons_succ, List.setIfInBounds_toArray, List.set_cons_zero, List.set_cons_succ]
                refine wpAnyH_take (i := 25) (v := ?_) rfl (by kernel_rfl) (by kernel_rfl) (by kernel_rfl) (fun _ _ _ h => h) (Or.inl ⟨by rfl, ?_⟩) (by assumption) ?_
                rotate_left
                · (intro w hSw; (try dsimp only at hSw); go_simp; try (with_reducible rfl))
                try simp only [Act.put, List.getElem_toArray, List.getElem_cons_zero, List.getElem_cons_succ, List.setIfInBounds_toArray, List.set_cons_zero, List.set_cons_succ]
                refine wpAnyH_take (i := 26) (v := ?_) rfl (by kernel_rfl) (by kernel_rfl) (by kernel_rfl) (fun _ _ _ h => h) (Or.inl ⟨by rfl, ?_⟩) (by assumption) ?_
                rotate_left
                · (intro w hSw; (try dsimp only at hSw); (obtain ⟨zp, zq1, zq2⟩ := hSw; have zz := zp 5 (by decide)); go_simp; try (with_reducible rfl))
                try simp only [Act.put, List.getElem_toArray, List.getElem_cons_zero, List.getElem_cons_succ, List.setIfInBounds_toArray, List.set_cons_zero, List.set_cons_succ]
                refine wpAnyH_take (i := 27) (v := ?_) rfl (by kernel_rfl) (by kernel_rfl) (by kernel_rfl) (fun _ _ _ h => h) (Or.inl ⟨by rfl, ?_⟩) (by assumption) ?_
                rotate_left
                · (intro w hSw; (try dsimp only at hSw); go_simp; try (with_reducible rfl))
                try simp only [Act.put, List.getElem_toArray, List.getElem_cons_zero, List.getElem_cons_succ, List.setIfInBounds_toArray, List.set_cons_zero, List.set_cons_succ]
                refine wpAnyH_take (i := 28) (v := ?_) rfl (by kernel_rfl) (by kernel_rfl) (by kernel_rfl) (fun _ _ _ h => h) (Or.inl ⟨by rfl, ?_⟩) (by assumption) ?_
                rotate_left
                · (intro w hSw; (try dsimp only at hSw); go_simp; try (with_reducible rfl))
                try simp only [Act.put, List.getElem_toArray, List.getElem_cons_zero, List.getElem_cons_succ, List.setIfInBounds_toArray, List.set_cons_zero, List.set_cons_succ]
                refine wpAnyH_take (i := 29) (v := ?_) rfl (by kernel_rfl) (by kernel_rfl) (by kernel_rfl) (fun _ _ _ h => h) (Or.inl ⟨by rfl, ?_⟩) (by assumption) ?_
                rotate_left
                · (intro w hSw; (try dsimp only at hSw); go_simp; try (with_reducible rfl))
                try simp only [Act.put, List.getElem_toArray, List.getElem_cons_zero, List.getElem_cons_succ, List.setIfInBounds_toArray, List.set_cons_zero, List.set_cons_succ]
                refine wpAnyH_take (i := 30) (v := ?_) rfl (by kernel_rfl) (by kernel_rfl) (by kernel_rfl) (fun _ _ _ h => h) (Or.inl ⟨by rfl, ?_⟩) (by assumption) ?_
                rotate_left
                · (intro w hSw; (try dsimp only at hSw); (obtain ⟨zp, zq1, zq2⟩ := hSw; have zz := zp 2 (by decide)); go_simp; try (with_reducible rfl))
                try simp only [Act.put, List.getElem_toArray, List.getElem_cons_zero, List.getElem_cons_succ, List.setIfInBounds_toArray, List.set_cons_zero, List.set_cons_succ]
                refine wpAnyH_ready (rs := [8]) (by kernel_rfl) (by simp) ?_
                refine (AllReadyH.cons rfl (fun K hK => ?_) AllReadyH.nil)
                · obtain ⟨fa, fe, fff, fs⟩ := HC0.out.f
                  obtain ⟨ga, ge, gff, gs⟩ := HC0.out.sf
                  have cc := hide (fEqualZ_any Wx.drew B (P 3) B (P 0) ga ge fa fe s.sf.nv s.f.nv s.sf.L s.sf.E s.f.L s.f.E gff fff (by have := HOK.out.sf.len; have := HZ.out; omega) (by have := HOK.out.sf.len; have := HZ.out; omega))
                  rw [Hyb0.out] at cc
                  clear fff fs gff gs
                  refine step_call rfl 71 #[.pointer (some ⟨P 3, 0, none⟩), .pointer (some ⟨P 0, 0, none⟩)] (by simp [go_sem]) (cc.out) ?_
                  rintro e yw_0 ⟨rfl, hb1⟩
                  have HC1 := hide (HC0.out.low hb1)
                  clear hb1 cc
                  refine ⟨_, rfl, ?_⟩
                  refine hK.out _ _ ?_ (fun hHeld => ?_)
                  · (first | exact HC4.out.pq | exact HC3.out.pq | exact HC2.out.pq | exact HC1.out.pq | exact HC0.out.pq)
                  clear hK K
                  try simp only [Act.put, List.getElem_toArray, List.getElem_cons_zero, List.getElem_cons_succ, List.setIfInBounds_toArray, List.set_cons_zero, List.set_cons_succ]
                  refine wpAnyH_ready (rs := [9]) (by kernel_rfl) (by simp) ?_
                  refine (AllReadyH.cons rfl (fun K hK => ?_) AllReadyH.nil)
                  · have cc := hide (truth_any yw_0 yb0)
                    rw [Hyq0.out] at cc
                    refine step_call rfl 44 #[.bool yb0] (by simp [go_sem]) (cc.out) ?_
                    rintro e yz0 ⟨rfl, hw⟩
                    rw [hw]
                    clear hw yz0 cc
                    refine ⟨_, rfl, ?_⟩
                    refine hK.out _ _ ?_ (fun hHeld => ?_)
                    · (first | exact HC4.out.pq | exact HC3.out.pq | exact HC2.out.pq | exact HC1.out.pq | exact HC0.out.pq)
                    clear hK K
                    try simp only [Act.put, List.getElem_toArray, List.getElem_cons_zero, List.getElem_cons_succ, List.setIfInBounds_toArray, List.set_cons_zero, List.set_cons_succ]
                    refine wpAnyH_take (i := 10) (v := ?_) rfl (by kernel_rfl) (by kernel_rfl) (by kernel_rfl) (fun _ _ _ h => h) (Or.inl ⟨by rfl, ?_⟩) (by assumption) ?_
                    rotate_left
                    · (intro w hSw; (try dsimp only at hSw); go_simp; try (with_reducible rfl))
                    try simp only [Act.put, List.getElem_toArray, List.getElem_cons_zero, List.getElem_cons_succ, List.setIfInBounds_toArray, List.set_cons_zero, List.set_cons_succ]
                    refine wpAnyH_ready (rs := [19]) (by kernel_rfl) (by simp) ?_
                    refine (AllReadyH.cons rfl (fun K hK => ?_) AllReadyH.nil)
                    · obtain ⟨av, aat, aso⟩ := HC1.out.a
                      obtain ⟨bv, bat, bso⟩ := HC1.out.sa
                      have cc := hide (equalA_any yw_0 B (P 4) bv s.sa.k s.sa.V bat HOK.out.sa.len B (P 1) av s.a.k s.a.V aat HOK.out.a.len)
                      rw [Hyb1.out] at cc
                      clear aat aso bat bso
                      refine step_call rfl 72 #[.pointer (some ⟨P 4, 0, none⟩), .pointer (some ⟨P 1, 0, none⟩)] (by simp [go_sem]) (cc.out) ?_
                      rintro e yw_1 ⟨rfl, mm, hw⟩
                      have hb1 : Below yw_0.heap.size yw_0 yw_1 := by rw [hw]; exact belN _ mm
                      have HC2 := hide (HC1.out.low hb1)
                      clear hb1 cc hw
                      refine ⟨_, rfl, ?_⟩
                      refine hK.out _ _ ?_ (fun hHeld => ?_)
                      · (first | exact HC4.out.pq | exact HC3.out.pq | exact HC2.out.pq | exact HC1.out.pq | exact HC0.out.pq)
                      clear hK K
                      try simp only [Act.put, List.getElem_toArray, List.getElem_cons_zero, List.getElem_cons_succ, List.setIfInBounds_toArray, List.set_cons_zero, List.set_cons_succ]
                      refine wpAnyH_ready (rs := [20]) (by kernel_rfl) (by simp) ?_
                      refine (AllReadyH.cons rfl (fun K hK => ?_) AllReadyH.nil)
                      · have cc := hide (truth_any yw_1 yb1)
                        rw [Hyq1.out] at cc
                        refine step_call rfl 44 #[.bool yb1] (by simp [go_sem]) (cc.out) ?_
                        rintro e yz1 ⟨rfl, hw⟩
                        rw [hw]
                        clear hw yz1 cc
                        refine ⟨_, rfl, ?_⟩
                        refine hK.out _ _ ?_ (fun hHeld => ?_)
                        · (first | exact HC4.out.pq | exact HC3.out.pq | exact HC2.out.pq | exact HC1.out.pq | exact HC0.out.pq)
                        clear hK K
                        try simp only [Act.put, List.getElem_toArray, List.getElem_cons_zero, List.getElem_cons_succ, List.setIfInBounds_toArray, List.set_cons_zero, List.set_cons_succ]
                        refine wpAnyH_take (i := 21) (v := ?_) rfl (by kernel_rfl) (by kernel_rfl) (by kernel_rfl) (fun _ _ _ h => h) (Or.inl ⟨by rfl, ?_⟩) (by assumption) ?_
                        rotate_left
                        · (intro w hSw; (try dsimp only at hSw); go_simp; try (with_reducible rfl))
                        try simp only [Act.put, List.getElem_toArray, List.getElem_cons_zero, List.getElem_cons_succ, List.setIfInBounds_toArray, List.set_cons_zero, List.set_cons_succ]
                        refine wpAnyH_take (i := 22) (v := ?_) rfl (by kernel_rfl) (by kernel_rfl) (by kernel_rfl) (fun _ _ _ h => h) (Or.inl ⟨by rfl, ?_⟩) (by assumption) ?_
                        rotate_left
                        · (intro w hSw; (try dsimp only at hSw); go_simp; try (with_reducible rfl))
                        try simp only [Act.put, List.getElem_toArray, List.getElem_cons_zero, List.getElem_cons_succ, List.setIfInBounds_toArray, List.set_cons_zero, List.set_cons_succ]
                        refine wpAnyH_ready (rs := [31]) (by kernel_rfl) (by simp) ?_
                        refine (AllReadyH.cons rfl (fun K hK => ?_) AllReadyH.nil)
                        · obtain ⟨pa, pe, pd, ppf, ps⟩ := HC2.out.p
                          obtain ⟨ra, re, rd, rpf, rs⟩ := HC2.out.sp
                          have cc := hide (pfEqualZ_any yw_1 B (P 5) B (P 2) ra re rd pa pe pd s.sp.L s.sp.E s.p.L s.p.E s.sp.D s.p.D rpf ppf HOK.out.sp.dl HOK.out.p.dl (by have := HOK.out.sp.len; have := HZ.out; omega) (by have := HOK.out.sp.len; have := HZ.out; omega))
                          rw [Hyb2.out] at cc
                          clear ppf ps rpf rs
                          refine step_call rfl 73 #[.pointer (some ⟨P 5, 0, none⟩), .pointer (some ⟨P 2, 0, none⟩)] (by simp [go_sem]) (cc.out) ?_
                          rintro e yw_2 ⟨rfl, hb1⟩
                          have HC3 := hide (HC2.out.low hb1)
                          clear hb1 cc
                          refine ⟨_, rfl, ?_⟩
                          refine hK.out _ _ ?_ (fun hHeld => ?_)
                          · (first | exact HC4.out.pq | exact HC3.out.pq | exact HC2.out.pq | exact HC1.out.pq | exact HC0.out.pq)
                          clear hK K
                          try simp only [Act.put, List.getElem_toArray, List.getElem_cons_zero, List.getElem_cons_succ, List.setIfInBounds_toArray, List.set_cons_zero, List.set_cons_succ]
                          refine wpAnyH_ready (rs := [32]) (by kernel_rfl) (by simp) ?_
                          refine (AllReadyH.cons rfl (fun K hK => ?_) AllReadyH.nil)
                          · have cc := hide (truth_any yw_2 yb2)
                            rw [Hyq2.out] at cc
                            refine step_call rfl 44 #[.bool yb2] (by simp [go_sem]) (cc.out) ?_
                            rintro e yz2 ⟨rfl, hw⟩
                            rw [hw]
                            clear hw yz2 cc
                            have HC4 := hide (HC3.out.om yt)
                            have o4 := HC3.out.sc.o4
                            have hof := HC3.out.sc.of
                            refine ⟨_, rfl, ?_⟩
                            refine hK.out _ _ ?_ (fun hHeld => ?_)
                            · (first | exact HC4.out.pq | exact HC3.out.pq | exact HC2.out.pq | exact HC1.out.pq | exact HC0.out.pq)
                            clear hK K
                            try simp only [Act.put, List.getElem_toArray, List.getElem_cons_zero, List.getElem_cons_succ, List.setIfInBounds_toArray, List.set_cons_zero, List.set_cons_succ]
                            refine wpAnyH_take (i := 33) (v := ?_) rfl (by kernel_rfl) (by kernel_rfl) (by kernel_rfl) (fun _ _ _ h => h) (Or.inl ⟨by rfl, ?_⟩) (by assumption) ?_
                            rotate_left
                            · (intro w hSw; (try dsimp only at hSw); go_simp; try (with_reducible rfl))
                            try simp only [Act.put, List.getElem_toArray, List.getElem_cons_zero, List.getElem_cons_succ, List.setIfInBounds_toArray, List.set_cons_zero, List.set_cons_succ]
                            refine wpAnyH_take (i := 34) (v := ?_) rfl (by kernel_rfl) (by kernel_rfl) (by kernel_rfl) (fun _ _ _ h => h) (Or.inl ⟨by rfl, ?_⟩) (by assumption) ?_
                            rotate_left
                            · (intro w hSw; (try dsimp only at hSw); go_simp; try (with_reducible rfl))
                            try simp only [Act.put, List.getElem_toArray, List.getElem_cons_zero, List.getElem_cons_succ, List.setIfInBounds_toArray, List.set_cons_zero, List.set_cons_succ]
                            refine wpAnyH_ready (rs := [35]) (by kernel_rfl) (by simp) ?_
                            refine (AllReadyH.cons rfl (fun K hK => ?_) AllReadyH.nil)
                            · go_simp
                              refine hK.out _ _ ?_ (fun hHeld => ?_)
                              · (first | exact HC4.out.pq | exact HC3.out.pq | exact HC2.out.pq | exact HC1.out.pq | exact HC0.out.pq)
                              clear hK K
                              try simp only [Act.put, List.getElem_toArray, List.getElem_cons_zero, List.getElem_cons_succ, List.setIfInBounds_toArray, List.set_cons_zero, List.set_cons_succ]
                              refine wpAnyH_done (by kernel_rfl) ?_ _
                              clear o4 hof HC0 HC1 HC2 HC3 HDx yw0 yw1 yw2 yw3
                              generalize yw_2.setCell ⟨o, 4, none⟩ (.int .i64 yt) = Wy at *
                              have HDy := HC4
                              clear HC4
                              clear q0
                              obtain ⟨bo, hbo⟩ : ∃ x : Ob, ({ (ob0 : Ob) with n := xt, m := yt }) = x := ⟨_, rfl⟩
                              have HSQ : Hid (s = s) := rfl
                              have HBQ : Hid (b' = bo) := by show _ = _; rw [← hbo]; exact (by rw [← HBE.out, ← Hxt.out, ← Hyt.out, ← Hxq0.out, ← Hxq1.out, ← Hxq2.out, ← Hyq0.out, ← Hyq1.out, ← Hyq2.out, ← Hxb0.out, ← Hxb1.out, ← Hxb2.out, ← Hyb0.out, ← Hyb1.out, ← Hyb2.out])
                              rw [hbo] at HDy
                              clear hbo HSE HBE
                              have o0 := HDy.out.sc.o0
                              have o1 := HDy.out.sc.o1
                              have o2 := HDy.out.sc.o2
                              have o3 := HDy.out.sc.o3
                              have o4 := HDy.out.sc.o4
                              have o5 := HDy.out.sc.o5
                              have t0 := HDy.out.sc.t0
                              have t1 := HDy.out.sc.t1
                              have t2 := HDy.out.sc.t2
                              have t3 := HDy.out.sc.t3
                              have t4 := HDy.out.sc.t4
                              have t5 := HDy.out.sc.t5
                              have htf := HDy.out.sc.tf
                              have hot : o ≠ t := fun z => HDy.out.ne.2.2.1 z.symm
                              have HF := hide HDy.out.fin
                              have HC := hide (fin_cells HDy.out.sc)
                              clear HDy
                              go_wp2_with (with_reducible refine bodyPost_ret (v := ?v) ?hr ?hd ?hp)
                              case v => exact obV bo (.slice none 0 0)
                              case hr =>
                                change (results _ _).run _ (fin6 Wy t bo (.slice none 0 0)) = .ok _ (fin6 Wy t bo (.slice none 0 0))
                                obtain ⟨y0, y1, y2, y3, y4, y5⟩ := HC.out
                                clear HF HC
                                generalize fin6 Wy t bo (.slice none 0 0) = WF at *
                                simp [results, Tryz.results9, go_sem, y0, y1, y2, y3, y4, y5, obV]
                              case hd => rfl
                              case hp => rw [HBQ.out]; exact HF.out
set_option linter.unusedSimpArgs false in
set_option maxRecDepth 100000 in
set_option maxHeartbeats 32000000 in
/-- cnflaw.realBench.step: no kind -/
theorem step_oth (w : World) (B r z : Nat) (P : Nat → Nat) (S : Nat → Nat → Prop) (s : St) (h : BN w B r P S (QS B s)) (hB : B ≤ w.heap.size) (hok : StOk z s) (hz : z ≤ 65536) (v : OpV) (hk : ¬ (0 ≤ v.kd ∧ v.kd ≤ 28)) (ha : -9223372036854775808 ≤ v.a ∧ v.a ≤ 9223372036854775807) :
    Calls Tryz.prog 9 #[.pointer (some ⟨r, 0, none⟩), opZ v] w (SpPost w (fp r S) B r (s) (ob0)) := by
  have HS0 := hide (sw_new v h hB)
  unfold opZ
  have HOK := hide hok
  have HZ := hide hz
  have hs' : s = s := rfl
  obtain ⟨b', hb'⟩ : ∃ x : Ob, (ob0) = x := ⟨_, rfl⟩
  rw [hb']
  obtain ⟨kd, va, la, ln, lc, VX, ta, tn, tc, VT⟩ := v
  dsimp only at hk HS0 ha hs' hb' ⊢
  have HSE := hide hs'
  have HBE := hide hb'
  clear h hok hz hB hs' hb'
  go_enter Tryz.func9, Tryz.ntmps9
  go_upto_region 2 with fail
  generalize (((w.alloc (.cells #[.int .i64 kd, .int .i64 va, .slice la ln lc, .slice ta tn tc] 37)).alloc (.cells #[.int .i64 0, .int .i64 0, .int .i64 0, .int .i64 0, .int .i64 0, .slice none 0 0] 43)).alloc (.cells #[.int .i64 0, .int .i64 0, .int .i64 0, .int .i64 0, .int .i64 0, .slice none 0 0] 43)) = W0 at *
  generalize w.heap.size + 1 + 1 = o at *
  generalize w.heap.size + 1 = t at *
  generalize w.heap.size = q at *
  have q0 : W0.cell? ⟨q, 0, none⟩ = some (.int .i64 kd) := HS0.out.sc.q0
  have n0 : (kd == 0) = false := by simp; omega
  have n1 : (kd == 1) = false := by simp; omega
  have n2 : (kd == 2) = false := by simp; omega
  have n3 : (kd == 3) = false := by simp; omega
  have n4 : (kd == 4) = false := by simp; omega
  have n5 : (kd == 5) = false := by simp; omega
  have n6 : (kd == 6) = false := by simp; omega
  have n7 : (kd == 7) = false := by simp; omega
  have n8 : (kd == 8) = false := by simp; omega
  have n9 : (kd == 9) = false := by simp; omega
  have n10 : (kd == 10) = false := by simp; omega
  have n11 : (kd == 11) = false := by simp; omega
  have n12 : (kd == 12) = false := by simp; omega
  have n13 : (kd == 13) = false := by simp; omega
  have n14 : (kd == 14) = false := by simp; omega
  have n15 : (kd == 15) = false := by simp; omega
  have n16 : (kd == 16) = false := by simp; omega
  have n17 : (kd == 17) = false := by simp; omega
  have n18 : (kd == 18) = false := by simp; omega
  have n19 : (kd == 19) = false := by simp; omega
  have n20 : (kd == 20) = false := by simp; omega
  have n21 : (kd == 21) = false := by simp; omega
  have n22 : (kd == 22) = false := by simp; omega
  have n23 : (kd == 23) = false := by simp; omega
  have n24 : (kd == 24) = false := by simp; omega
  have n25 : (kd == 25) = false := by simp; omega
  have n26 : (kd == 26) = false := by simp; omega
  have n27 : (kd == 27) = false := by simp; omega
  have n28 : (kd == 28) = false := by simp; omega
  clear hk
  go_upto_region 129 with fail
  clear q0 n0 n1 n2 n3 n4 n5 n6 n7 n8 n9 n10 n11 n12 n13 n14 n15 n16 n17 n18 n19 n20 n21 n22 n23 n24 n25 n26 n27 n28
  obtain ⟨bo, hbo⟩ : ∃ x : Ob, (ob0) = x := ⟨_, rfl⟩
  have HSQ : Hid (s = s) := rfl
  have HBQ : Hid (b' = bo) := by show _ = _; rw [← hbo]; exact HBE.out.symm
  rw [hbo] at HS0
  clear hbo HSE HBE
  have o0 := HS0.out.sc.o0
  have o1 := HS0.out.sc.o1
  have o2 := HS0.out.sc.o2
  have o3 := HS0.out.sc.o3
  have o4 := HS0.out.sc.o4
  have o5 := HS0.out.sc.o5
  have t0 := HS0.out.sc.t0
  have t1 := HS0.out.sc.t1
  have t2 := HS0.out.sc.t2
  have t3 := HS0.out.sc.t3
  have t4 := HS0.out.sc.t4
  have t5 := HS0.out.sc.t5
  have htf := HS0.out.sc.tf
  have hot : o ≠ t := fun z => HS0.out.ne.2.2.1 z.symm
  have HF := hide HS0.out.fin
  have HC := hide (fin_cells HS0.out.sc)
  clear HS0
  go_wp2_with (with_reducible refine bodyPost_ret (v := ?v) ?hr ?hd ?hp)
  case v => exact obV bo (.slice none 0 0)
  case hr =>
    change (results _ _).run _ (fin6 W0 t bo (.slice none 0 0)) = .ok _ (fin6 W0 t bo (.slice none 0 0))
    obtain ⟨y0, y1, y2, y3, y4, y5⟩ := HC.out
    clear HF HC
    generalize fin6 W0 t bo (.slice none 0 0) = WF at *
    simp [results, Tryz.results9, go_sem, y0, y1, y2, y3, y4, y5, obV]
  case hd => rfl
  case hp => rw [HBQ.out]; exact HF.out
end Go.Proofs.Qxb6500773aGreat
