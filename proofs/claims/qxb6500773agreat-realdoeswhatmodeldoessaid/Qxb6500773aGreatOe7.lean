import Derived.Test.Qxb6500773aGreatOz
namespace Go.Proofs.Qxb6500773aGreat
open Go.RowKit

set_option linter.unusedSimpArgs false in
set_option maxRecDepth 100000 in
set_option maxHeartbeats 32000000 in
/-- cnflaw.modelBench.step: OpSameAsSaved -/
theorem mstep_28 (w : World) (B m z : Nat) (X : Nat → Prop) (V : Nat → Value) (S : Nat → Nat → Prop) (s : Mst) (h : MN w B m X V S (QM B s) s.nv s.sv) (hB : B ≤ w.heap.size) (hX : ∀ k, X k → k < w.heap.size) (hok : MsOk z s) (hz : z ≤ 65536) (v : OpV) (hk : v.kd = 28) (ha : -9223372036854775808 ≤ v.a ∧ v.a ≤ 9223372036854775807) :
    Calls Tryz.prog 10 #[.pointer (some ⟨m, 0, none⟩), opZ v] w (MpPost w (fp m S) B m X (s) ({ ob0 with n := 4 * (if sfP s.nv s.F s.sv s.SF = true then 1 else 0) + 2 * (if cmP (srP s.A) (srP s.SA) = 0 then 1 else 0) + (if ssP s.P s.SP = true then 1 else 0), m := 4 * (if sfP s.nv s.F s.sv s.SF = true then 1 else 0) + 2 * (if cmP (srP s.A) (srP s.SA) = 0 then 1 else 0) + (if ssP s.P s.SP = true then 1 else 0) })) := by
  have HS0 := hide (mw_new v h hB hX)
  have HRB : Hid (∀ k, fp m S k → B ≤ k) := fun k z => z.elim (fun z => by rw [z]; exact h.mB) (fun ⟨i, hi, y⟩ => (h.rg i hi k y).1)
  unfold opZ
  have HOK := hide hok
  have HZ := hide hz
  have hs' : s = s := rfl
  obtain ⟨b', hb'⟩ : ∃ x : Ob, ({ ob0 with n := 4 * (if sfP s.nv s.F s.sv s.SF = true then 1 else 0) + 2 * (if cmP (srP s.A) (srP s.SA) = 0 then 1 else 0) + (if ssP s.P s.SP = true then 1 else 0), m := 4 * (if sfP s.nv s.F s.sv s.SF = true then 1 else 0) + 2 * (if cmP (srP s.A) (srP s.SA) = 0 then 1 else 0) + (if ssP s.P s.SP = true then 1 else 0) }) = x := ⟨_, rfl⟩
  rw [hb']
  obtain ⟨kd, va, la, ln, lc, VX, ta, tn, tc, VT⟩ := v
  dsimp only at hk HS0 ha hs' hb' ⊢
  subst hk
  have HSE := hide hs'
  have HBE := hide hb'
  clear h hok hz hB hX hs' hb'
  generalize fp m S = R at *
  go_enter Tryz.func10, Tryz.ntmps10
  go_upto_region 2 with fail
  generalize (((w.alloc (.cells #[.int .i64 28, .int .i64 va, .slice la ln lc, .slice ta tn tc] 37)).alloc (.cells #[.int .i64 0, .int .i64 0, .int .i64 0, .int .i64 0, .int .i64 0, .slice none 0 0] 43)).alloc (.cells #[.int .i64 0, .int .i64 0, .int .i64 0, .int .i64 0, .int .i64 0, .slice none 0 0] 43)) = W0 at *
  generalize w.heap.size + 1 + 1 = o at *
  generalize w.heap.size + 1 = t at *
  generalize w.heap.size = q at *
  have q0 : W0.cell? ⟨q, 0, none⟩ = some (.int .i64 28) := HS0.out.sc.q0
  obtain ⟨fa, fc, hvf, hlf, hcf, hmf⟩ := HS0.out.f
  obtain ⟨nf, hnf⟩ : ∃ z, s.F.length = z := ⟨_, rfl⟩
  rw [hnf] at hvf hcf
  have HVf := hide hvf
  have HOf := hide hlf
  have HNf := hide hnf
  have HCf := hide (And.intro hcf hmf)
  clear hvf hlf hcf hmf hnf
  obtain ⟨pa, pc, hvp, hlp, hcp, hmp⟩ := HS0.out.p
  obtain ⟨np, hnp⟩ : ∃ z, s.P.length = z := ⟨_, rfl⟩
  rw [hnp] at hvp hcp
  have HVp := hide hvp
  have HOp := hide hlp
  have HNp := hide hnp
  have HCp := hide (And.intro hcp hmp)
  clear hvp hlp hcp hmp hnp
  obtain ⟨sfa, sfc, hvsf, hlsf, hcsf, hmsf⟩ := HS0.out.sf
  obtain ⟨nsf, hnsf⟩ : ∃ z, s.SF.length = z := ⟨_, rfl⟩
  rw [hnsf] at hvsf hcsf
  have HVsf := hide hvsf
  have HOsf := hide hlsf
  have HNsf := hide hnsf
  have HCsf := hide (And.intro hcsf hmsf)
  clear hvsf hlsf hcsf hmsf hnsf
  obtain ⟨spa, spc, hvsp, hlsp, hcsp, hmsp⟩ := HS0.out.sp
  obtain ⟨nsp, hnsp⟩ : ∃ z, s.SP.length = z := ⟨_, rfl⟩
  rw [hnsp] at hvsp hcsp
  have HVsp := hide hvsp
  have HOsp := hide hlsp
  have HNsp := hide hnsp
  have HCsp := hide (And.intro hcsp hmsp)
  clear hvsp hlsp hcsp hmsp hnsp
  obtain ⟨aa, ac, hva, hla, hca, hma⟩ := HS0.out.a
  obtain ⟨na, hna⟩ : ∃ z, s.A.length = z := ⟨_, rfl⟩
  rw [hna] at hva hca
  have HVa := hide hva
  have HOa := hide hla
  have HNa := hide hna
  have HCa := hide (And.intro hca hma)
  clear hva hla hca hma hna
  obtain ⟨saa, sac, hvsa, hlsa, hcsa, hmsa⟩ := HS0.out.sa
  obtain ⟨nsa, hnsa⟩ : ∃ z, s.SA.length = z := ⟨_, rfl⟩
  rw [hnsa] at hvsa hcsa
  have HVsa := hide hvsa
  have HOsa := hide hlsa
  have HNsa := hide hnsa
  have HCsa := hide (And.intro hcsa hmsa)
  clear hvsa hlsa hcsa hmsa hnsa
  obtain ⟨b1, hb1⟩ : ∃ x, sfP s.nv s.F s.sv s.SF = x := ⟨_, rfl⟩
  have Hb1 := hide hb1
  clear hb1
  obtain ⟨t1, ht1⟩ : ∃ x : Int, (if b1 = true then 1 else 0) = x := ⟨_, rfl⟩
  have Ht1 := hide ht1
  clear ht1
  obtain ⟨cv, hcv⟩ : ∃ x, cmP (srP s.A) (srP s.SA) = x := ⟨_, rfl⟩
  have Hcv := hide hcv
  clear hcv
  obtain ⟨t2, ht2⟩ : ∃ x : Int, (if cv = 0 then 1 else 0) = x := ⟨_, rfl⟩
  have Ht2 := hide ht2
  clear ht2
  obtain ⟨b3, hb3⟩ : ∃ x, ssP s.P s.SP = x := ⟨_, rfl⟩
  have Hb3 := hide hb3
  clear hb3
  obtain ⟨t3, ht3⟩ : ∃ x : Int, (if b3 = true then 1 else 0) = x := ⟨_, rfl⟩
  have Ht3 := hide ht3
  clear ht3
  have hrt1 : 0 ≤ t1 ∧ t1 ≤ 1 := by rw [← Ht1.out]; split <;> omega
  have hrt2 : 0 ≤ t2 ∧ t2 ≤ 1 := by rw [← Ht2.out]; split <;> omega
  have hrt3 : 0 ≤ t3 ∧ t3 ≤ 1 := by rw [← Ht3.out]; split <;> omega
  have hw1 : IntKind.i64.wrap (4 * t1) = 4 * t1 := by rw [IntKind.wrap_i64]; omega
  have hw2 : IntKind.i64.wrap (2 * t2) = 2 * t2 := by rw [IntKind.wrap_i64]; omega
  have hw3 : IntKind.i64.wrap (4 * t1 + 2 * t2) = 4 * t1 + 2 * t2 := by rw [IntKind.wrap_i64]; omega
  have hw4 : IntKind.i64.wrap (4 * t1 + 2 * t2 + t3) = 4 * t1 + 2 * t2 + t3 := by rw [IntKind.wrap_i64]; omega
  have HSRa : Hid (∀ x ∈ srP s.A, I64 x) := fun x hx => di_64 (HOK.out.A.mem x (by have := srP_mem s.A s.A.length x; rw [List.take_length] at this; exact this hx)).1
  have HSRsa : Hid (∀ x ∈ srP s.SA, I64 x) := fun x hx => di_64 (HOK.out.SA.mem x (by have := srP_mem s.SA s.SA.length x; rw [List.take_length] at this; exact this hx)).1
  go_upto_region 149 with fail
  have HC0 := hide (HS0.out.low ((Below.refl _ _).drew))
  have KS0 : Hid ((fun w' => w'.cell? ⟨m, 0, none⟩ = some (.int .i64 s.nv) ∧ w'.cell? ⟨m, 1, none⟩ = some (.slice fa nf fc) ∧ w'.cell? ⟨m, 4, none⟩ = some (.int .i64 s.sv) ∧ w'.cell? ⟨m, 5, none⟩ = some (.slice sfa nsf sfc) ∧ w'.cell? ⟨m, 2, none⟩ = some (.slice aa na ac) ∧ w'.cell? ⟨m, 6, none⟩ = some (.slice saa nsa sac) ∧ w'.cell? ⟨m, 3, none⟩ = some (.slice pa np pc) ∧ w'.cell? ⟨m, 7, none⟩ = some (.slice spa nsp spc)) W0.drew) := ⟨HC0.out.mn.c0, HC0.out.vf HVf.out, HC0.out.mn.c4, HC0.out.vsf HVsf.out, HC0.out.va HVa.out, HC0.out.vsa HVsa.out, HC0.out.vp HVp.out, HC0.out.vsp HVsp.out⟩
  refine wp_region_held_drew (S := fun w' => w'.cell? ⟨m, 0, none⟩ = some (.int .i64 s.nv) ∧ w'.cell? ⟨m, 1, none⟩ = some (.slice fa nf fc) ∧ w'.cell? ⟨m, 4, none⟩ = some (.int .i64 s.sv) ∧ w'.cell? ⟨m, 5, none⟩ = some (.slice sfa nsf sfc) ∧ w'.cell? ⟨m, 2, none⟩ = some (.slice aa na ac) ∧ w'.cell? ⟨m, 6, none⟩ = some (.slice saa nsa sac) ∧ w'.cell? ⟨m, 3, none⟩ = some (.slice pa np pc) ∧ w'.cell? ⟨m, 7, none⟩ = some (.slice spa nsp spc)) (by kernel_rfl) KS0.out (fun hHeld => ?_)
  refine wpAnyH_take (i := 0) (v := ?_) rfl (by kernel_rfl) (by kernel_rfl) (by kernel_rfl) (fun _ _ _ h => h) (Or.inl ⟨by rfl, ?_⟩) (by assumption) ?_
  rotate_left
  · (intro w hSw; (try dsimp only at hSw); go_simp; try (with_reducible rfl))
  try simp only [Act.put, List.getElem_toArray, List.getElem_cons_zero, List.getElem_cons_succ, List.setIfInBounds_toArray, List.set_cons_zero, List.set_cons_succ]
  refine wpAnyH_take (i := 1) (v := ?_) rfl (by kernel_rfl) (by kernel_rfl) (by kernel_rfl) (fun _ _ _ h => h) (Or.inl ⟨by rfl, ?_⟩) (by assumption) ?_
  rotate_left
  · (intro w hSw; (try dsimp only at hSw); go_simp; try (with_reducible rfl))
  try simp only [Act.put, List.getElem_toArray, List.getElem_cons_zero, List.getElem_cons_succ, List.setIfInBounds_toArray, List.set_cons_zero, List.set_cons_succ]
  refine wpAnyH_take (i := 2) (v := ?_) rfl (by kernel_rfl) (by kernel_rfl) (by kernel_rfl) (fun _ _ _ h => h) (Or.inl ⟨by rfl, ?_⟩) (by assumption) ?_
  rotate_left
  · (intro w hSw; (try dsimp only at hSw); go_simp; try (with_reducible rfl))
  try simp only [Act.put, List.getElem_toArray, List.getElem_cons_zero, List.getElem_cons_succ, List.setIfInBounds_toArray, List.set_cons_zero, List.set_cons_succ]
  refine wpAnyH_take (i := 3) (v := ?_) rfl (by kernel_rfl) (by kernel_rfl) (by kernel_rfl) (fun _ _ _ h => h) (Or.inl ⟨by rfl, ?_⟩) (by assumption) ?_
  rotate_left
  · (intro w hSw; (try dsimp only at hSw); (obtain ⟨z0, z1, z2, z3, z4, z5, z6, z7⟩ := hSw); go_simp; try (with_reducible rfl))
  try simp only [Act.put, List.getElem_toArray, List.getElem_cons_zero, List.getElem_cons_succ, List.setIfInBounds_toArray, List.set_cons_zero, List.set_cons_succ]
  refine wpAnyH_take (i := 4) (v := ?_) rfl (by kernel_rfl) (by kernel_rfl) (by kernel_rfl) (fun _ _ _ h => h) (Or.inl ⟨by rfl, ?_⟩) (by assumption) ?_
  rotate_left
  · (intro w hSw; (try dsimp only at hSw); go_simp; try (with_reducible rfl))
  try simp only [Act.put, List.getElem_toArray, List.getElem_cons_zero, List.getElem_cons_succ, List.setIfInBounds_toArray, List.set_cons_zero, List.set_cons_succ]
  refine wpAnyH_take (i := 5) (v := ?_) rfl (by kernel_rfl) (by kernel_rfl) (by kernel_rfl) (fun _ _ _ h => h) (Or.inl ⟨by rfl, ?_⟩) (by assumption) ?_
  rotate_left
  · (intro w hSw; (try dsimp only at hSw); go_simp; try (with_reducible rfl))
  try simp only [Act.put, List.getElem_toArray, List.getElem_cons_zero, List.getElem_cons_succ, List.setIfInBounds_toArray, List.set_cons_zero, List.set_cons_succ]
  refine wpAnyH_take (i := 6) (v := ?_) rfl (by kernel_rfl) (by kernel_rfl) (by kernel_rfl) (fun _ _ _ h => h) (Or.inl ⟨by rfl, ?_⟩) (by assumption) ?_
  rotate_left
  · (intro w hSw; (try dsimp only at hSw); go_simp; try (with_reducible rfl))
  try simp only [Act.put, List.getElem_toArray, List.getElem_cons_zero, List.getElem_cons_succ, List.setIfInBounds_toArray, List.set_cons_zero, List.set_cons_succ]
  refine wpAnyH_take (i := 7) (v := ?_) rfl (by kernel_rfl) (by kernel_rfl) (by kernel_rfl) (fun _ _ _ h => h) (Or.inl ⟨by rfl, ?_⟩) (by assumption) ?_
  rotate_left
  · (intro w hSw; (try dsimp only at hSw); (obtain ⟨z0, z1, z2, z3, z4, z5, z6, z7⟩ := hSw); go_simp; try (with_reducible rfl))
  try simp only [Act.put, List.getElem_toArray, List.getElem_cons_zero, List.getElem_cons_succ, List.setIfInBounds_toArray, List.set_cons_zero, List.set_cons_succ]
  refine wpAnyH_take (i := 11) (v := ?_) rfl (by kernel_rfl) (by kernel_rfl) (by kernel_rfl) (fun _ _ _ h => h) (Or.inl ⟨by rfl, ?_⟩) (by assumption) ?_
  rotate_left
  · (intro w hSw; (try dsimp only at hSw); go_simp; try (with_reducible rfl))
  try simp only [Act.put, List.getElem_toArray, List.getElem_cons_zero, List.getElem_cons_succ, List.setIfInBounds_toArray, List.set_cons_zero, List.set_cons_succ]
  refine wpAnyH_take (i := 12) (v := ?_) rfl (by kernel_rfl) (by kernel_rfl) (by kernel_rfl) (fun _ _ _ h => h) (Or.inl ⟨by rfl, ?_⟩) (by assumption) ?_
  rotate_left
  · (intro w hSw; (try dsimp only at hSw); go_simp; try (with_reducible rfl))
  try simp only [Act.put, List.getElem_toArray, List.getElem_cons_zero, List.getElem_cons_succ, List.setIfInBounds_toArray, List.set_cons_zero, List.set_cons_succ]
  refine wpAnyH_take (i := 13) (v := ?_) rfl (by kernel_rfl) (by kernel_rfl) (by kernel_rfl) (fun _ _ _ h => h) (Or.inl ⟨by rfl, ?_⟩) (by assumption) ?_
  rotate_left
  · (intro w hSw; (try dsimp only at hSw); go_simp; try (with_reducible rfl))
  try simp only [Act.put, List.getElem_toArray, List.getElem_cons_zero, List.getElem_cons_succ, List.setIfInBounds_toArray, List.set_cons_zero, List.set_cons_succ]
  refine wpAnyH_take (i := 14) (v := ?_) rfl (by kernel_rfl) (by kernel_rfl) (by kernel_rfl) (fun _ _ _ h => h) (Or.inl ⟨by rfl, ?_⟩) (by assumption) ?_
  rotate_left
  · (intro w hSw; (try dsimp only at hSw); (obtain ⟨z0, z1, z2, z3, z4, z5, z6, z7⟩ := hSw); go_simp; try (with_reducible rfl))
  try simp only [Act.put, List.getElem_toArray, List.getElem_cons_zero, List.getElem_cons_succ, List.setIfInBounds_toArray, List.set_cons_zero, List.set_cons_succ]
  refine wpAnyH_take (i := 16) (v := ?_) rfl (by kernel_rfl) (by kernel_rfl) (by kernel_rfl) (fun _ _ _ h => h) (Or.inl ⟨by rfl, ?_⟩) (by assumption) ?_
  rotate_left
  · (intro w hSw; (try dsimp only at hSw); go_simp; try (with_reducible rfl))
  try simp only [Act.put, List.getElem_toArray, List.getElem_cons_zero, List.getElem_cons_succ, List.setIfInBounds_toArray, List.set_cons_zero, List.set_cons_succ]
  refine wpAnyH_take (i := 17) (v := ?_) rfl (by kernel_rfl) (by kernel_rfl) (by kernel_rfl) (fun _ _ _ h => h) (Or.inl ⟨by rfl, ?_⟩) (by assumption) ?_
  rotate_left
  · (intro w hSw; (try dsimp only at hSw); go_simp; try (with_reducible rfl))
  try simp only [Act.put, List.getElem_toArray, List.getElem_cons_zero, List.getElem_cons_succ, List.setIfInBounds_toArray, List.set_cons_zero, List.set_cons_succ]
  refine wpAnyH_take (i := 18) (v := ?_) rfl (by kernel_rfl) (by kernel_rfl) (by kernel_rfl) (fun _ _ _ h => h) (Or.inl ⟨by rfl, ?_⟩) (by assumption) ?_
  rotate_left
  · (intro w hSw; (try dsimp only at hSw); go_simp; try (with_reducible rfl))
  try simp only [Act.put, List.getElem_toArray, List.getElem_cons_zero, List.getElem_cons_succ, List.setIfInBounds_toArray, List.set_cons_zero, List.set_cons_succ]
  refine wpAnyH_take (i := 19) (v := ?_) rfl (by kernel_rfl) (by kernel_rfl) (by kernel_rfl) (fun _ _ _ h => h) (Or.inl ⟨by rfl, ?_⟩) (by assumption) ?_
  rotate_left
  · (intro w hSw; (try dsimp only at hSw); (obtain ⟨z0, z1, z2, z3, z4, z5, z6, z7⟩ := hSw); go_simp; try (with_reducible rfl))
  try simp only [Act.put, List.getElem_toArray, List.getElem_cons_zero, List.getElem_cons_succ, List.setIfInBounds_toArray, List.set_cons_zero, List.set_cons_succ]
  refine wpAnyH_take (i := 26) (v := ?_) rfl (by kernel_rfl) (by kernel_rfl) (by kernel_rfl) (fun _ _ _ h => h) (Or.inl ⟨by rfl, ?_⟩) (by assumption) ?_
  rotate_left
  · (intro w hSw; (try dsimp only at hSw); go_simp; try (with_reducible rfl))
  try simp only [Act.put, List.getElem_toArray, List.getElem_cons_zero, List.getElem_cons_succ, List.setIfInBounds_toArray, List.set_cons_zero, List.set_cons_succ]
  refine wpAnyH_take (i := 27) (v := ?_) rfl (by kernel_rfl) (by kernel_rfl) (by kernel_rfl) (fun _ _ _ h => h) (Or.inl ⟨by rfl, ?_⟩) (by assumption) ?_
  rotate_left
  · (intro w hSw; (try dsimp only at hSw); go_simp; try (with_reducible rfl))
  try simp only [Act.put, List.getElem_toArray, List.getElem_cons_zero, List.getElem_cons_succ, List.setIfInBounds_toArray, List.set_cons_zero, List.set_cons_succ]
  refine wpAnyH_take (i := 28) (v := ?_) rfl (by kernel_rfl) (by kernel_rfl) (by kernel_rfl) (fun _ _ _ h => h) (Or.inl ⟨by rfl, ?_⟩) (by assumption) ?_
  rotate_left
  · (intro w hSw; (try dsimp only at hSw); go_simp; try (with_reducible rfl))
  try simp only [Act.put, List.getElem_toArray, List.getElem_cons_zero, List.getElem_cons_succ, List.setIfInBounds_toArray, List.set_cons_zero, List.set_cons_succ]
  refine wpAnyH_take (i := 29) (v := ?_) rfl (by kernel_rfl) (by kernel_rfl) (by kernel_rfl) (fun _ _ _ h => h) (Or.inl ⟨by rfl, ?_⟩) (by assumption) ?_
  rotate_left
  · (intro w hSw; (try dsimp only at hSw); (obtain ⟨z0, z1, z2, z3, z4, z5, z6, z7⟩ := hSw); go_simp; try (with_reducible rfl))
  try simp only [Act.put, List.getElem_toArray, List.getElem_cons_zero, List.getElem_cons_succ, List.setIfInBounds_toArray, List.set_cons_zero, List.set_cons_succ]
  refine wpAnyH_take (i := 30) (v := ?_) rfl (by kernel_rfl) (by kernel_rfl) (by kernel_rfl) (fun _ _ _ h => h) (Or.inl ⟨by rfl, ?_⟩) (by assumption) ?_
  rotate_left
  · (intro w hSw; (try dsimp only at hSw); go_simp; try (with_reducible rfl))
  try simp only [Act.put, List.getElem_toArray, List.getElem_cons_zero, List.getElem_cons_succ, List.setIfInBounds_toArray, List.set_cons_zero, List.set_cons_succ]
  refine wpAnyH_take (i := 31) (v := ?_) rfl (by kernel_rfl) (by kernel_rfl) (by kernel_rfl) (fun _ _ _ h => h) (Or.inl ⟨by rfl, ?_⟩) (by assumption) ?_
  rotate_left
  · (intro w hSw; (try dsimp only at hSw); go_simp; try (with_reducible rfl))
  try simp only [Act.put, List.getElem_toArray, List.getElem_cons_zero, List.getElem_cons_succ, List.setIfInBounds_toArray, List.set_cons_zero, List.set_cons_succ]
  refine wpAnyH_take (i := 32) (v := ?_) rfl (by kernel_rfl) (by kernel_rfl) (by kernel_rfl) (fun _ _ _ h => h) (Or.inl ⟨by rfl, ?_⟩) (by assumption) ?_
  rotate_left
  · (intro w hSw; (try dsimp only at hSw); go_simp; try (with_reducible rfl))
  try simp only [Act.put, List.getElem_toArray, List.getElem_cons_zero, List.getElem_cons_succ, List.setIfInBounds_toArray, List.set_cons_zero, List.set_cons_succ]
  refine wpAnyH_take (i := 33) (v := ?_) rfl (by kernel_rfl) (by kernel_rfl) (by kernel_rfl) (fun _ _ _ h => h) (Or.inl ⟨by rfl, ?_⟩) (by assumption) ?_
  rotate_left
  · (intro w hSw; (try dsimp only at hSw); (obtain ⟨z0, z1, z2, z3, z4, z5, z6, z7⟩ := hSw); go_simp; try (with_reducible rfl))
  try simp only [Act.put, List.getElem_toArray, List.getElem_cons_zero, List.getElem_cons_succ, List.setIfInBounds_toArray, List.set_cons_zero, List.set_cons_succ]
  refine wpAnyH_ready (rs := [8]) (by kernel_rfl) (by simp) ?_
  refine (AllReadyH.cons rfl (fun K hK => ?_) AllReadyH.nil)
  · have cc : Hid (Calls Tryz.prog 96 #[.agg #[.int .i64 s.nv, .slice fa nf fc], .agg #[.int .i64 s.sv, .slice sfa nsf sfc]] W0.drew (ExPost W0.drew (.bool b1))) := by have := sameFM_any W0.drew s.nv fa fc s.F s.sv sfa sfc s.SF (HC0.out.fAt HVf.out) (HC0.out.sfAt HVsf.out) (by have := HOK.out.F.len; have := HZ.out; omega) (by have := HOK.out.SF.len; have := HZ.out; omega) (HOK.out.F.fb (by have := HZ.out; omega)) (HOK.out.SF.fb (by have := HZ.out; omega)); rw [HNf.out, HNsf.out, Hb1.out] at this; exact this
    refine step_call rfl 96 #[.agg #[.int .i64 s.nv, .slice fa nf fc], .agg #[.int .i64 s.sv, .slice sfa nsf sfc]] (by simp [go_sem]) cc.out ?_
    rintro e w1 ⟨rfl, hx⟩
    clear cc
    have HC1 := hide (HC0.out.lowE hx)
    have KS1 : Hid ((fun w' => w'.cell? ⟨m, 0, none⟩ = some (.int .i64 s.nv) ∧ w'.cell? ⟨m, 1, none⟩ = some (.slice fa nf fc) ∧ w'.cell? ⟨m, 4, none⟩ = some (.int .i64 s.sv) ∧ w'.cell? ⟨m, 5, none⟩ = some (.slice sfa nsf sfc) ∧ w'.cell? ⟨m, 2, none⟩ = some (.slice aa na ac) ∧ w'.cell? ⟨m, 6, none⟩ = some (.slice saa nsa sac) ∧ w'.cell? ⟨m, 3, none⟩ = some (.slice pa np pc) ∧ w'.cell? ⟨m, 7, none⟩ = some (.slice spa nsp spc)) w1) := ⟨HC1.out.mn.c0, HC1.out.vf HVf.out, HC1.out.mn.c4, HC1.out.vsf HVsf.out, HC1.out.va HVa.out, HC1.out.vsa HVsa.out, HC1.out.vp HVp.out, HC1.out.vsp HVsp.out⟩
    clear hx
    refine ⟨_, rfl, ?_⟩
    refine hK.out _ _ ?_ (fun hHeld => ?_)
    · (first | with_reducible exact KS0.out | with_reducible exact KS1.out | with_reducible exact KS2.out | with_reducible exact KS3.out | with_reducible exact KS4.out | with_reducible exact KS5.out | with_reducible exact KS6.out)
    clear hK K
    try simp only [Act.put, List.getElem_toArray, List.getElem_cons_zero, List.getElem_cons_succ, List.setIfInBounds_toArray, List.set_cons_zero, List.set_cons_succ]
    refine wpAnyH_ready (rs := [9]) (by kernel_rfl) (by simp) ?_
    refine (AllReadyH.cons rfl (fun K hK => ?_) AllReadyH.nil)
    · have cc : Hid (Calls Tryz.prog 44 #[.bool b1] w1 fun e w' => e = .returned (.int .i64 t1) ∧ w' = w1) := by
        have := truth_any w1 b1
        have e : (if b1 = true then (1 : Int) else 0) = t1 := (by rw [← Ht1.out] <;> simp)
        rw [e] at this
        exact this
      refine step_call rfl 44 #[.bool b1] (by simp [go_sem]) cc.out ?_
      rintro e wq ⟨rfl, hw⟩
      rw [hw]
      clear cc hw wq
      refine ⟨_, rfl, ?_⟩
      refine hK.out _ _ ?_ (fun hHeld => ?_)
      · (first | with_reducible exact KS0.out | with_reducible exact KS1.out | with_reducible exact KS2.out | with_reducible exact KS3.out | with_reducible exact KS4.out | with_reducible exact KS5.out | with_reducible exact KS6.out)
      clear hK K
      try simp only [Act.put, List.getElem_toArray, List.getElem_cons_zero, List.getElem_cons_succ, List.setIfInBounds_toArray, List.set_cons_zero, List.set_cons_succ]
      refine wpAnyH_take (i := 10) (v := ?_) rfl (by kernel_rfl) (by kernel_rfl) (by kernel_rfl) (fun _ _ _ h => h) (Or.inl ⟨by rfl, ?_⟩) (by assumption) ?_
      rotate_left
      · (intro w hSw; (try dsimp only at hSw); go_simp; try (with_reducible rfl))
      try simp only [Act.put, List.getElem_toArray, List.getElem_cons_zero, List.getElem_cons_succ, List.setIfInBounds_toArray, List.set_cons_zero, List.set_cons_succ]
      refine wpAnyH_ready (rs := [15]) (by kernel_rfl) (by simp) ?_
      refine (AllReadyH.cons rfl (fun K hK => ?_) AllReadyH.nil)
      · have cc : Hid (Calls Tryz.prog 87 #[.slice aa na ac] w1 (MlPost w1 (srP s.A))) := by have := sortedM_any w1 aa ac s.A (HC1.out.aAt HVa.out) (by have := HOK.out.A.len; have := HZ.out; omega) HOK.out.A.i64; rw [HNa.out] at this; exact this
        refine step_call rfl 87 #[.slice aa na ac] (by simp [go_sem]) cc.out ?_
        rintro e w2 ⟨r2, q2x, rfl, hr2, hx2⟩
        clear cc
        have HC2 := hide (HC1.out.lowE hx2)
        have KS2 : Hid ((fun w' => w'.cell? ⟨m, 0, none⟩ = some (.int .i64 s.nv) ∧ w'.cell? ⟨m, 1, none⟩ = some (.slice fa nf fc) ∧ w'.cell? ⟨m, 4, none⟩ = some (.int .i64 s.sv) ∧ w'.cell? ⟨m, 5, none⟩ = some (.slice sfa nsf sfc) ∧ w'.cell? ⟨m, 2, none⟩ = some (.slice aa na ac) ∧ w'.cell? ⟨m, 6, none⟩ = some (.slice saa nsa sac) ∧ w'.cell? ⟨m, 3, none⟩ = some (.slice pa np pc) ∧ w'.cell? ⟨m, 7, none⟩ = some (.slice spa nsp spc)) w2) := ⟨HC2.out.mn.c0, HC2.out.vf HVf.out, HC2.out.mn.c4, HC2.out.vsf HVsf.out, HC2.out.va HVa.out, HC2.out.vsa HVsa.out, HC2.out.vp HVp.out, HC2.out.vsp HVsp.out⟩
        have HRW2 := hide hr2
        have HRX2 := hide hx2
        clear hr2 hx2
        refine ⟨_, rfl, ?_⟩
        refine hK.out _ _ ?_ (fun hHeld => ?_)
        · (first | with_reducible exact KS0.out | with_reducible exact KS1.out | with_reducible exact KS2.out | with_reducible exact KS3.out | with_reducible exact KS4.out | with_reducible exact KS5.out | with_reducible exact KS6.out)
        clear hK K
        try simp only [Act.put, List.getElem_toArray, List.getElem_cons_zero, List.getElem_cons_succ, List.setIfInBounds_toArray, List.set_cons_zero, List.set_cons_succ]
        refine wpAnyH_ready (rs := [20]) (by kernel_rfl) (by simp) ?_
        refine (AllReadyH.cons rfl (fun K hK => ?_) AllReadyH.nil)
        · have cc : Hid (Calls Tryz.prog 87 #[.slice saa nsa sac] w2 (MlPost w2 (srP s.SA))) := by have := sortedM_any w2 saa sac s.SA (HC2.out.saAt HVsa.out) (by have := HOK.out.SA.len; have := HZ.out; omega) HOK.out.SA.i64; rw [HNsa.out] at this; exact this
          refine step_call rfl 87 #[.slice saa nsa sac] (by simp [go_sem]) cc.out ?_
          rintro e w3 ⟨r3, q3x, rfl, hr3, hx3⟩
          clear cc
          have HC3 := hide (HC2.out.lowE hx3)
          have KS3 : Hid ((fun w' => w'.cell? ⟨m, 0, none⟩ = some (.int .i64 s.nv) ∧ w'.cell? ⟨m, 1, none⟩ = some (.slice fa nf fc) ∧ w'.cell? ⟨m, 4, none⟩ = some (.int .i64 s.sv) ∧ w'.cell? ⟨m, 5, none⟩ = some (.slice sfa nsf sfc) ∧ w'.cell? ⟨m, 2, none⟩ = some (.slice aa na ac) ∧ w'.cell? ⟨m, 6, none⟩ = some (.slice saa nsa sac) ∧ w'.cell? ⟨m, 3, none⟩ = some (.slice pa np pc) ∧ w'.cell? ⟨m, 7, none⟩ = some (.slice spa nsp spc)) w3) := ⟨HC3.out.mn.c0, HC3.out.vf HVf.out, HC3.out.mn.c4, HC3.out.vsf HVsf.out, HC3.out.va HVa.out, HC3.out.vsa HVsa.out, HC3.out.vp HVp.out, HC3.out.vsp HVsp.out⟩
          have HRW3 := hide hr3
          have HRX3 := hide hx3
          clear hr3 hx3
          refine ⟨_, rfl, ?_⟩
          refine hK.out _ _ ?_ (fun hHeld => ?_)
          · (first | with_reducible exact KS0.out | with_reducible exact KS1.out | with_reducible exact KS2.out | with_reducible exact KS3.out | with_reducible exact KS4.out | with_reducible exact KS5.out | with_reducible exact KS6.out)
          clear hK K
          try simp only [Act.put, List.getElem_toArray, List.getElem_cons_zero, List.getElem_cons_succ, List.setIfInBounds_toArray, List.set_cons_zero, List.set_cons_succ]
          refine wpAnyH_ready (rs := [21]) (by kernel_rfl) (by simp) ?_
          refine (AllReadyH.cons rfl (fun K hK => ?_) AllReadyH.nil)
          · have HR2b := hide (own_kept HRW2.out HRX3.out (fun _ _ z => z))
            have cc : Hid (Calls Tryz.prog 93 #[.slice r2 (srP s.A).length q2x, .slice r3 (srP s.SA).length q3x] w3 (DrPost w3 (.int .i64 cv))) := by have := compareM_any (srP s.A) (srP s.SA) w3 r2 q2x r3 q3x (row_il HR2b.out) (row_il HRW3.out) (row_cap HR2b.out).1 (row_cap HRW3.out).1 (row_cap HR2b.out).2 (row_cap HRW3.out).2 HSRa.out HSRsa.out; rw [Hcv.out] at this; exact this
            refine step_call rfl 93 #[.slice r2 (srP s.A).length q2x, .slice r3 (srP s.SA).length q3x] (by simp [go_sem]) cc.out ?_
            rintro e w4 ⟨rfl, mq, hmq⟩
            have hx : Ex (fun _ => False) w3 w4 := by rw [hmq]; exact (Ex.refl _ _).drewN mq
            clear cc hmq mq
            have HC4 := hide (HC3.out.lowE hx)
            have KS4 : Hid ((fun w' => w'.cell? ⟨m, 0, none⟩ = some (.int .i64 s.nv) ∧ w'.cell? ⟨m, 1, none⟩ = some (.slice fa nf fc) ∧ w'.cell? ⟨m, 4, none⟩ = some (.int .i64 s.sv) ∧ w'.cell? ⟨m, 5, none⟩ = some (.slice sfa nsf sfc) ∧ w'.cell? ⟨m, 2, none⟩ = some (.slice aa na ac) ∧ w'.cell? ⟨m, 6, none⟩ = some (.slice saa nsa sac) ∧ w'.cell? ⟨m, 3, none⟩ = some (.slice pa np pc) ∧ w'.cell? ⟨m, 7, none⟩ = some (.slice spa nsp spc)) w4) := ⟨HC4.out.mn.c0, HC4.out.vf HVf.out, HC4.out.mn.c4, HC4.out.vsf HVsf.out, HC4.out.va HVa.out, HC4.out.vsa HVsa.out, HC4.out.vp HVp.out, HC4.out.vsp HVsp.out⟩
            clear hx HRW2 HRW3 HRX2 HRX3 HR2b
            refine ⟨_, rfl, ?_⟩
            refine hK.out _ _ ?_ (fun hHeld => ?_)
            · (first | with_reducible exact KS0.out | with_reducible exact KS1.out | with_reducible exact KS2.out | with_reducible exact KS3.out | with_reducible exact KS4.out | with_reducible exact KS5.out | with_reducible exact KS6.out)
            clear hK K
            try simp only [Act.put, List.getElem_toArray, List.getElem_cons_zero, List.getElem_cons_succ, List.setIfInBounds_toArray, List.set_cons_zero, List.set_cons_succ]
            refine wpAnyH_take (i := 22) (v := ?_) rfl (by kernel_rfl) (by kernel_rfl) (by kernel_rfl) (fun _ _ _ h => h) (Or.inl ⟨by rfl, ?_⟩) (by assumption) ?_
            rotate_left
            · (intro w hSw; (try dsimp only at hSw); go_simp; try (with_reducible rfl))
            try simp only [Act.put, List.getElem_toArray, List.getElem_cons_zero, List.getElem_cons_succ, List.setIfInBounds_toArray, List.set_cons_zero, List.set_cons_succ]
            refine wpAnyH_ready (rs := [23]) (by kernel_rfl) (by simp) ?_
            refine (AllReadyH.cons rfl (fun K hK => ?_) AllReadyH.nil)
            · have cc : Hid (Calls Tryz.prog 44 #[.bool (cv == 0)] w4 fun e w' => e = .returned (.int .i64 t2) ∧ w' = w4) := by
                have := truth_any w4 (cv == 0)
                have e : (if (cv == 0) = true then (1 : Int) else 0) = t2 := (by rw [← Ht2.out] <;> simp)
                rw [e] at this
                exact this
              refine step_call rfl 44 #[.bool (cv == 0)] (by simp [go_sem]) cc.out ?_
              rintro e wq ⟨rfl, hw⟩
              rw [hw]
              clear cc hw wq
              refine ⟨_, rfl, ?_⟩
              refine hK.out _ _ ?_ (fun hHeld => ?_)
              · (first | with_reducible exact KS0.out | with_reducible exact KS1.out | with_reducible exact KS2.out | with_reducible exact KS3.out | with_reducible exact KS4.out | with_reducible exact KS5.out | with_reducible exact KS6.out)
              clear hK K
              try simp only [Act.put, List.getElem_toArray, List.getElem_cons_zero, List.getElem_cons_succ, List.setIfInBounds_toArray, List.set_cons_zero, List.set_cons_succ]
              refine wpAnyH_take (i := 24) (v := ?_) rfl (by kernel_rfl) (by kernel_rfl) (by kernel_rfl) (fun _ _ _ h => h) (Or.inl ⟨by rfl, ?_⟩) (by assumption) ?_
              rotate_left
              · (intro w hSw; (try dsimp only at hSw); go_simp; try (with_reducible rfl))
              try simp only [Act.put, List.getElem_toArray, List.getElem_cons_zero, List.getElem_cons_succ, List.setIfInBounds_toArray, List.set_cons_zero, List.set_cons_succ]
              refine wpAnyH_take (i := 25) (v := ?_) rfl (by kernel_rfl) (by kernel_rfl) (by kernel_rfl) (fun _ _ _ h => h) (Or.inl ⟨by rfl, ?_⟩) (by assumption) ?_
              rotate_left
              · (intro w hSw; (try dsimp only at hSw); go_simp; try (with_reducible rfl))
              try simp only [Act.put, List.getElem_toArray, List.getElem_cons_zero, List.getElem_cons_succ, List.setIfInBounds_toArray, List.set_cons_zero, List.set_cons_succ]
              refine wpAnyH_ready (rs := [34]) (by kernel_rfl) (by simp) ?_
              refine (AllReadyH.cons rfl (fun K hK => ?_) AllReadyH.nil)
              · have cc : Hid (Calls Tryz.prog 97 #[.slice pa np pc, .slice spa nsp spc] w4 (ExPost w4 (.bool b3))) := by have := sameSM_any w4 pa pc s.P spa spc s.SP (HC4.out.pAt HVp.out) (HC4.out.spAt HVsp.out) (by have := HOK.out.P.len; have := HZ.out; omega) (by have := HOK.out.SP.len; have := HZ.out; omega) (HOK.out.P.sb (by have := HZ.out; omega)) (HOK.out.SP.sb (by have := HZ.out; omega)); rw [HNp.out, HNsp.out, Hb3.out] at this; exact this
                refine step_call rfl 97 #[.slice pa np pc, .slice spa nsp spc] (by simp [go_sem]) cc.out ?_
                rintro e w5 ⟨rfl, hx⟩
                clear cc
                have HC5 := hide (HC4.out.lowE hx)
                have KS5 : Hid ((fun w' => w'.cell? ⟨m, 0, none⟩ = some (.int .i64 s.nv) ∧ w'.cell? ⟨m, 1, none⟩ = some (.slice fa nf fc) ∧ w'.cell? ⟨m, 4, none⟩ = some (.int .i64 s.sv) ∧ w'.cell? ⟨m, 5, none⟩ = some (.slice sfa nsf sfc) ∧ w'.cell? ⟨m, 2, none⟩ = some (.slice aa na ac) ∧ w'.cell? ⟨m, 6, none⟩ = some (.slice saa nsa sac) ∧ w'.cell? ⟨m, 3, none⟩ = some (.slice pa np pc) ∧ w'.cell? ⟨m, 7, none⟩ = some (.slice spa nsp spc)) w5) := ⟨HC5.out.mn.c0, HC5.out.vf HVf.out, HC5.out.mn.c4, HC5.out.vsf HVsf.out, HC5.out.va HVa.out, HC5.out.vsa HVsa.out, HC5.out.vp HVp.out, HC5.out.vsp HVsp.out⟩
                clear hx
                refine ⟨_, rfl, ?_⟩
                refine hK.out _ _ ?_ (fun hHeld => ?_)
                · (first | with_reducible exact KS0.out | with_reducible exact KS1.out | with_reducible exact KS2.out | with_reducible exact KS3.out | with_reducible exact KS4.out | with_reducible exact KS5.out | with_reducible exact KS6.out)
                clear hK K
                try simp only [Act.put, List.getElem_toArray, List.getElem_cons_zero, List.getElem_cons_succ, List.setIfInBounds_toArray, List.set_cons_zero, List.set_cons_succ]
                refine wpAnyH_ready (rs := [35]) (by kernel_rfl) (by simp) ?_
                refine (AllReadyH.cons rfl (fun K hK => ?_) AllReadyH.nil)
                · have cc : Hid (Calls Tryz.prog 44 #[.bool b3] w5 fun e w' => e = .returned (.int .i64 t3) ∧ w' = w5) := by
                    have := truth_any w5 b3
                    have e : (if b3 = true then (1 : Int) else 0) = t3 := (by rw [← Ht3.out] <;> simp)
                    rw [e] at this
                    exact this
                  refine step_call rfl 44 #[.bool b3] (by simp [go_sem]) cc.out ?_
                  rintro e wq ⟨rfl, hw⟩
                  rw [hw]
                  clear cc hw wq
                  have HC6 := hide (HC5.out.on (4 * t1 + 2 * t2 + t3))
                  have KS6 : Hid ((fun w' => w'.cell? ⟨m, 0, none⟩ = some (.int .i64 s.nv) ∧ w'.cell? ⟨m, 1, none⟩ = some (.slice fa nf fc) ∧ w'.cell? ⟨m, 4, none⟩ = some (.int .i64 s.sv) ∧ w'.cell? ⟨m, 5, none⟩ = some (.slice sfa nsf sfc) ∧ w'.cell? ⟨m, 2, none⟩ = some (.slice aa na ac) ∧ w'.cell? ⟨m, 6, none⟩ = some (.slice saa nsa sac) ∧ w'.cell? ⟨m, 3, none⟩ = some (.slice pa np pc) ∧ w'.cell? ⟨m, 7, none⟩ = some (.slice spa nsp spc)) (w5.setCell ⟨o, 3, none⟩ (.int .i64 (4 * t1 + 2 * t2 + t3)))) := ⟨HC6.out.mn.c0, HC6.out.vf HVf.out, HC6.out.mn.c4, HC6.out.vsf HVsf.out, HC6.out.va HVa.out, HC6.out.vsa HVsa.out, HC6.out.vp HVp.out, HC6.out.vsp HVsp.out⟩
                  have o3 := HC5.out.sc.o3
                  have hof := HC5.out.sc.of
                  refine ⟨_, rfl, ?_⟩
                  refine hK.out _ _ ?_ (fun hHeld => ?_)
                  · (first | with_reducible exact KS0.out | with_reducible exact KS1.out | with_reducible exact KS2.out | with_reducible exact KS3.out | with_reducible exact KS4.out | with_reducible exact KS5.out | with_reducible exact KS6.out)
                  clear hK K
                  try simp only [Act.put, List.getElem_toArray, List.getElem_cons_zero, List.getElem_cons_succ, List.setIfInBounds_toArray, List.set_cons_zero, List.set_cons_succ]
                  refine wpAnyH_take (i := 36) (v := ?_) rfl (by kernel_rfl) (by kernel_rfl) (by kernel_rfl) (fun _ _ _ h => h) (Or.inl ⟨by rfl, ?_⟩) (by assumption) ?_
                  rotate_left
                  · (intro w hSw; (try dsimp only at hSw); go_simp; try (with_reducible rfl))
                  try simp only [Act.put, List.getElem_toArray, List.getElem_cons_zero, List.getElem_cons_succ, List.setIfInBounds_toArray, List.set_cons_zero, List.set_cons_succ]
                  refine wpAnyH_take (i := 37) (v := ?_) rfl (by kernel_rfl) (by kernel_rfl) (by kernel_rfl) (fun _ _ _ h => h) (Or.inl ⟨by rfl, ?_⟩) (by assumption) ?_
                  rotate_left
                  · (intro w hSw; (try dsimp only at hSw); go_simp; try (with_reducible rfl))
                  try simp only [Act.put, List.getElem_toArray, List.getElem_cons_zero, List.getElem_cons_succ, List.setIfInBounds_toArray, List.set_cons_zero, List.set_cons_succ]
                  refine wpAnyH_ready (rs := [38]) (by kernel_rfl) (by simp) ?_
                  refine (AllReadyH.cons rfl (fun K hK => ?_) AllReadyH.nil)
                  · go_simp
                    refine hK.out _ _ ?_ (fun hHeld => ?_)
                    · (first | with_reducible exact KS0.out | with_reducible exact KS1.out | with_reducible exact KS2.out | with_reducible exact KS3.out | with_reducible exact KS4.out | with_reducible exact KS5.out | with_reducible exact KS6.out)
                    clear hK K
                    try simp only [Act.put, List.getElem_toArray, List.getElem_cons_zero, List.getElem_cons_succ, List.setIfInBounds_toArray, List.set_cons_zero, List.set_cons_succ]
                    refine wpAnyH_done (by kernel_rfl) ?_ _
                    clear KS0 KS1 KS2 KS3 KS4 KS5 KS6
                    clear HC0 HC1 HC2 HC3 HC4 HC5 o3 hof HS0 q0 hw1 hw2 hw3 hw4
                    generalize w5.setCell ⟨o, 3, none⟩ (.int .i64 (4 * t1 + 2 * t2 + t3)) = We at *
                    have o3 : We.cell? ⟨o, 3, none⟩ = some (.int .i64 (4 * t1 + 2 * t2 + t3)) := HC6.out.sc.o3
                    have o4 := HC6.out.sc.o4
                    have hof := HC6.out.sc.of
                    go_upto_region 151 with fail
                    have HS201 := hide (HC6.out.om (4 * t1 + 2 * t2 + t3))
                    clear HC6
                    generalize We.setCell ⟨o, 4, none⟩ (.int .i64 (4 * t1 + 2 * t2 + t3)) = W201 at *
                    clear o4 hof o3
                    obtain ⟨bo, hbo⟩ : ∃ x : Ob, ({ ({ (ob0 : Ob) with n := 4 * t1 + 2 * t2 + t3 } : Ob) with m := 4 * t1 + 2 * t2 + t3 }) = x := ⟨_, rfl⟩
                    have HSQ : Hid (s = s) := rfl
                    have HBQ : Hid (b' = bo) := by show _ = _; rw [← hbo]; exact (by rw [← HBE.out, Hb1.out, Ht1.out, Hcv.out, Ht2.out, Hb3.out, Ht3.out])
                    rw [hbo] at HS201
                    clear hbo HSE HBE
                    have o0 := HS201.out.sc.o0
                    have o1 := HS201.out.sc.o1
                    have o2 := HS201.out.sc.o2
                    have o3 := HS201.out.sc.o3
                    have o4 := HS201.out.sc.o4
                    have o5 := HS201.out.sc.o5
                    have t0 := HS201.out.sc.t0
                    have t1 := HS201.out.sc.t1
                    have t2 := HS201.out.sc.t2
                    have t3 := HS201.out.sc.t3
                    have t4 := HS201.out.sc.t4
                    have t5 := HS201.out.sc.t5
                    have htf := HS201.out.sc.tf
                    have hot : o ≠ t := fun z => HS201.out.ne.2.2.1 z.symm
                    have HF := hide HS201.out.fin
                    have HC := hide (fin_cells HS201.out.sc)
                    clear HS201
                    go_wp2_with (with_reducible refine bodyPost_ret (v := ?v) ?hr ?hd ?hp)
                    case v => exact obV bo (.slice none 0 0)
                    case hr =>
                      change (results _ _).run _ (fin6 W201 t bo (.slice none 0 0)) = .ok _ (fin6 W201 t bo (.slice none 0 0))
                      obtain ⟨y0, y1, y2, y3, y4, y5⟩ := HC.out
                      clear HF HC
                      generalize fin6 W201 t bo (.slice none 0 0) = WF at *
                      simp [results, Tryz.results10, go_sem, y0, y1, y2, y3, y4, y5, obV]
                    case hd => rfl
                    case hp => rw [HBQ.out]; exact HF.out
end Go.Proofs.Qxb6500773aGreat
