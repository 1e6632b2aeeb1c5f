import Derived.Test.Qxb6500776aSe0
namespace Go.Proofs.Qxb6500776a
open Go.RowKit

set_option maxRecDepth 100000 in
set_option maxHeartbeats 2000000 in
theorem grade0 (w : World) (o t : Shp) (ho : ShpOk o) (ht : ShpOk t) : Calls Try.prog 40 #[.agg #[.int .i64 o.id, .int .i64 o.team, .int .i64 o.x, .int .i64 o.y, .int .i64 o.depth, .int .i64 o.speed, .int .i64 o.mast, .int .i64 o.noise, .bool o.afloat, .bool o.radar, .bool o.sonar, .bool o.ping], .agg #[.int .i64 t.id, .int .i64 t.team, .int .i64 t.x, .int .i64 t.y, .int .i64 t.depth, .int .i64 t.speed, .int .i64 t.mast, .int .i64 t.noise, .bool t.afloat, .bool t.radar, .bool t.sonar, .bool t.ping], .int .i64 0] w fun e w' => e = .returned (.int .i64 (grP o t 0)) ∧ Below w.heap.size w w' := by
  have cD := fun w => hide (dist_any w o t ho ht)
  have hr := dsq_rng ho.x ho.y ht.x ht.y
  obtain ⟨d, hd⟩ : ∃ d, dstP o t = d := ⟨_, rfl⟩
  have hd0 : 0 ≤ d ∧ d ≤ 8796093022208 := by rw [← hd]; exact hr
  rw [hd] at cD
  have hS : grP o t 0 = rgP d := by rw [← hd]; rfl
  rw [hS]
  clear hS ho ht hd hr
  have HX := hide ((BX.new w o).keep ((Ex.refl (fun _ => False) _).alloc (.cells (shpA t) 38)) (fun e => e))
  have HY := hide (BX.new (w.alloc (.cells (shpA o) 38)) t)
  have hsz : (w.alloc (.cells (shpA o) 38)).heap.size = w.heap.size + 1 := by simp
  rw [hsz] at HY
  have HE := hide (be2 w (.cells (shpA o) 38) (.cells (shpA t) 38))
  clear hsz
  go_enter Try.func40, Try.ntmps40
  go_upto_region 1 with fail
  have hsa : #[.int .i64 o.id, .int .i64 o.team, .int .i64 o.x, .int .i64 o.y, .int .i64 o.depth, .int .i64 o.speed, .int .i64 o.mast, .int .i64 o.noise, .bool o.afloat, .bool o.radar, .bool o.sonar, .bool o.ping] = shpA o := rfl
  have hst : #[.int .i64 t.id, .int .i64 t.team, .int .i64 t.x, .int .i64 t.y, .int .i64 t.depth, .int .i64 t.speed, .int .i64 t.mast, .int .i64 t.noise, .bool t.afloat, .bool t.radar, .bool t.sonar, .bool t.ping] = shpA t := rfl
  rw [hsa, hst]
  clear hsa hst
  generalize (w.alloc (.cells (shpA o) 38)).alloc (.cells (shpA t) 38) = w1 at *
  obtain ⟨q2, hq2⟩ : ∃ q, w.heap.size + 1 = q := ⟨_, rfl⟩
  rw [hq2] at HY ⊢
  clear hq2
  obtain ⟨q, hq⟩ : ∃ q, w.heap.size = q := ⟨_, rfl⟩
  rw [hq] at HX ⊢
  clear hq
  obtain ⟨x0, x1, x2, x3, x4, x5, x6, x7, x8, x9, x10, x11⟩ := HX.out
  obtain ⟨y0, y1, y2, y3, y4, y5, y6, y7, y8, y9, y10, y11⟩ := HY.out
  go_wp2_with fail
  refine (cD _).out.mono ?_
  rintro e w2 ⟨rfl, b2⟩
  have HX2 := hide (HX.out.below b2)
  have HY2 := hide (HY.out.below b2)
  have HE2 := hide (lec HE.out b2)
  clear b2 x0 x1 x2 x3 x4 x5 x6 x7 x8 x9 x10 x11 y0 y1 y2 y3 y4 y5 y6 y7 y8 y9 y10 y11
  by_cases h1 : d ≤ 268435456
  · go_wp2
    go_ret
    exact ⟨ret_int (by rw [rgP, if_pos h1]), HE2.out⟩
  · have H1 := hide h1
    go_upto_region 5 with fail
    clear h1
    obtain ⟨x0, x1, x2, x3, x4, x5, x6, x7, x8, x9, x10, x11⟩ := HX2.out
    obtain ⟨y0, y1, y2, y3, y4, y5, y6, y7, y8, y9, y10, y11⟩ := HY2.out
    go_wp2_with fail
    refine (cD _).out.mono ?_
    rintro e w3 ⟨rfl, b2⟩
    have HX3 := hide (HX2.out.below b2)
    have HY3 := hide (HY2.out.below b2)
    have HE3 := hide (lec HE2.out b2)
    clear b2 x0 x1 x2 x3 x4 x5 x6 x7 x8 x9 x10 x11 y0 y1 y2 y3 y4 y5 y6 y7 y8 y9 y10 y11
    by_cases h2 : d ≤ 1073741824
    · go_wp2
      go_ret
      exact ⟨ret_int (by rw [rgP, if_neg (by have := H1.out; omega), if_pos h2]), HE3.out⟩
    · go_wp2
      go_ret
      exact ⟨ret_int (by rw [rgP, if_neg (by have := H1.out; omega), if_neg (by omega)]), HE3.out⟩
set_option maxRecDepth 100000 in
set_option maxHeartbeats 2000000 in
theorem grade1 (w : World) (o t : Shp) (ho : ShpOk o) (ht : ShpOk t) : Calls Try.prog 40 #[.agg #[.int .i64 o.id, .int .i64 o.team, .int .i64 o.x, .int .i64 o.y, .int .i64 o.depth, .int .i64 o.speed, .int .i64 o.mast, .int .i64 o.noise, .bool o.afloat, .bool o.radar, .bool o.sonar, .bool o.ping], .agg #[.int .i64 t.id, .int .i64 t.team, .int .i64 t.x, .int .i64 t.y, .int .i64 t.depth, .int .i64 t.speed, .int .i64 t.mast, .int .i64 t.noise, .bool t.afloat, .bool t.radar, .bool t.sonar, .bool t.ping], .int .i64 1] w fun e w' => e = .returned (.int .i64 (grP o t 1)) ∧ Below w.heap.size w w' := by
  have cE := fun w => hide (excess_any w o t ho ht)
  have r1 := ht.speed
  have r2 := ht.noise
  have r3 := ho.speed
  have r4 := lay_rng o t
  have r5 := decP_le (dstP o t)
  obtain ⟨ex, hex⟩ : ∃ ex, excP o t (dstP o t) = ex := ⟨_, rfl⟩
  have hb : -1000 ≤ ex ∧ ex ≤ 1000 := by rw [← hex]; unfold excP srcP ownP; omega
  rw [hex] at cE
  have hS : grP o t 1 = pgP ex := by rw [← hex]; rfl
  rw [hS]
  clear hS ho ht hex r1 r2 r3 r4 r5
  have HX := hide ((BX.new w o).keep ((Ex.refl (fun _ => False) _).alloc (.cells (shpA t) 38)) (fun e => e))
  have HY := hide (BX.new (w.alloc (.cells (shpA o) 38)) t)
  have hsz : (w.alloc (.cells (shpA o) 38)).heap.size = w.heap.size + 1 := by simp
  rw [hsz] at HY
  have HE := hide (be2 w (.cells (shpA o) 38) (.cells (shpA t) 38))
  clear hsz
  go_enter Try.func40, Try.ntmps40
  go_upto_region 1 with fail
  have hsa : #[.int .i64 o.id, .int .i64 o.team, .int .i64 o.x, .int .i64 o.y, .int .i64 o.depth, .int .i64 o.speed, .int .i64 o.mast, .int .i64 o.noise, .bool o.afloat, .bool o.radar, .bool o.sonar, .bool o.ping] = shpA o := rfl
  have hst : #[.int .i64 t.id, .int .i64 t.team, .int .i64 t.x, .int .i64 t.y, .int .i64 t.depth, .int .i64 t.speed, .int .i64 t.mast, .int .i64 t.noise, .bool t.afloat, .bool t.radar, .bool t.sonar, .bool t.ping] = shpA t := rfl
  rw [hsa, hst]
  clear hsa hst
  generalize (w.alloc (.cells (shpA o) 38)).alloc (.cells (shpA t) 38) = w1 at *
  obtain ⟨q2, hq2⟩ : ∃ q, w.heap.size + 1 = q := ⟨_, rfl⟩
  rw [hq2] at HY ⊢
  clear hq2
  obtain ⟨q, hq⟩ : ∃ q, w.heap.size = q := ⟨_, rfl⟩
  rw [hq] at HX ⊢
  clear hq
  go_upto_region 9 with fail
  obtain ⟨x0, x1, x2, x3, x4, x5, x6, x7, x8, x9, x10, x11⟩ := HX.out
  obtain ⟨y0, y1, y2, y3, y4, y5, y6, y7, y8, y9, y10, y11⟩ := HY.out
  go_wp2_with fail
  refine (cE _).out.mono ?_
  rintro e w2 ⟨rfl, b2⟩
  have HX2 := hide (HX.out.below b2)
  have HY2 := hide (HY.out.below b2)
  have HE2 := hide (lec HE.out b2)
  clear b2 x0 x1 x2 x3 x4 x5 x6 x7 x8 x9 x10 x11 y0 y1 y2 y3 y4 y5 y6 y7 y8 y9 y10 y11
  by_cases h1 : 30 ≤ ex
  · have h2 : 20 ≤ ex - 10 := by omega
    go_wp2
    go_ret
    exact ⟨ret_int (by rw [pgP, if_pos h1]), HE2.out⟩
  · have h2 : ¬ 20 ≤ ex - 10 := by omega
    go_wp2
    go_ret
    exact ⟨ret_int (by rw [pgP, if_neg (by omega)]), HE2.out⟩
set_option maxRecDepth 100000 in
set_option maxHeartbeats 2000000 in
theorem grade2 (w : World) (o t : Shp) (ho : ShpOk o) (ht : ShpOk t) : Calls Try.prog 40 #[.agg #[.int .i64 o.id, .int .i64 o.team, .int .i64 o.x, .int .i64 o.y, .int .i64 o.depth, .int .i64 o.speed, .int .i64 o.mast, .int .i64 o.noise, .bool o.afloat, .bool o.radar, .bool o.sonar, .bool o.ping], .agg #[.int .i64 t.id, .int .i64 t.team, .int .i64 t.x, .int .i64 t.y, .int .i64 t.depth, .int .i64 t.speed, .int .i64 t.mast, .int .i64 t.noise, .bool t.afloat, .bool t.radar, .bool t.sonar, .bool t.ping], .int .i64 2] w fun e w' => e = .returned (.int .i64 (grP o t 2)) ∧ Below w.heap.size w w' := by
  have cD := fun w => hide (dist_any w o t ho ht)
  have hr := dsq_rng ho.x ho.y ht.x ht.y
  obtain ⟨d, hd⟩ : ∃ d, dstP o t = d := ⟨_, rfl⟩
  have hd0 : 0 ≤ d ∧ d ≤ 8796093022208 := by rw [← hd]; exact hr
  rw [hd] at cD
  have hS : grP o t 2 = egP d := by rw [← hd]; rfl
  rw [hS]
  clear hS ho ht hd hr
  have HX := hide ((BX.new w o).keep ((Ex.refl (fun _ => False) _).alloc (.cells (shpA t) 38)) (fun e => e))
  have HY := hide (BX.new (w.alloc (.cells (shpA o) 38)) t)
  have hsz : (w.alloc (.cells (shpA o) 38)).heap.size = w.heap.size + 1 := by simp
  rw [hsz] at HY
  have HE := hide (be2 w (.cells (shpA o) 38) (.cells (shpA t) 38))
  clear hsz
  go_enter Try.func40, Try.ntmps40
  go_upto_region 1 with fail
  have hsa : #[.int .i64 o.id, .int .i64 o.team, .int .i64 o.x, .int .i64 o.y, .int .i64 o.depth, .int .i64 o.speed, .int .i64 o.mast, .int .i64 o.noise, .bool o.afloat, .bool o.radar, .bool o.sonar, .bool o.ping] = shpA o := rfl
  have hst : #[.int .i64 t.id, .int .i64 t.team, .int .i64 t.x, .int .i64 t.y, .int .i64 t.depth, .int .i64 t.speed, .int .i64 t.mast, .int .i64 t.noise, .bool t.afloat, .bool t.radar, .bool t.sonar, .bool t.ping] = shpA t := rfl
  rw [hsa, hst]
  clear hsa hst
  generalize (w.alloc (.cells (shpA o) 38)).alloc (.cells (shpA t) 38) = w1 at *
  obtain ⟨q2, hq2⟩ : ∃ q, w.heap.size + 1 = q := ⟨_, rfl⟩
  rw [hq2] at HY ⊢
  clear hq2
  obtain ⟨q, hq⟩ : ∃ q, w.heap.size = q := ⟨_, rfl⟩
  rw [hq] at HX ⊢
  clear hq
  go_upto_region 13 with fail
  obtain ⟨x0, x1, x2, x3, x4, x5, x6, x7, x8, x9, x10, x11⟩ := HX.out
  obtain ⟨y0, y1, y2, y3, y4, y5, y6, y7, y8, y9, y10, y11⟩ := HY.out
  go_wp2_with fail
  refine (cD _).out.mono ?_
  rintro e w2 ⟨rfl, b2⟩
  have HX2 := hide (HX.out.below b2)
  have HY2 := hide (HY.out.below b2)
  have HE2 := hide (lec HE.out b2)
  clear b2 x0 x1 x2 x3 x4 x5 x6 x7 x8 x9 x10 x11 y0 y1 y2 y3 y4 y5 y6 y7 y8 y9 y10 y11
  by_cases h1 : 4 * d ≤ 1600000000
  · go_wp2
    go_ret
    exact ⟨ret_int (by rw [egP, if_pos h1]), HE2.out⟩
  · go_wp2
    go_ret
    exact ⟨ret_int (by rw [egP, if_neg (by omega)]), HE2.out⟩
set_option maxRecDepth 100000 in
set_option maxHeartbeats 2000000 in
theorem grade3 (w : World) (o t : Shp) : Calls Try.prog 40 #[.agg #[.int .i64 o.id, .int .i64 o.team, .int .i64 o.x, .int .i64 o.y, .int .i64 o.depth, .int .i64 o.speed, .int .i64 o.mast, .int .i64 o.noise, .bool o.afloat, .bool o.radar, .bool o.sonar, .bool o.ping], .agg #[.int .i64 t.id, .int .i64 t.team, .int .i64 t.x, .int .i64 t.y, .int .i64 t.depth, .int .i64 t.speed, .int .i64 t.mast, .int .i64 t.noise, .bool t.afloat, .bool t.radar, .bool t.sonar, .bool t.ping], .int .i64 3] w fun e w' => e = .returned (.int .i64 (grP o t 3)) ∧ Below w.heap.size w w' := by
  have hS : grP o t 3 = 1 := rfl
  rw [hS]
  clear hS
  have HX := hide ((BX.new w o).keep ((Ex.refl (fun _ => False) _).alloc (.cells (shpA t) 38)) (fun e => e))
  have HY := hide (BX.new (w.alloc (.cells (shpA o) 38)) t)
  have hsz : (w.alloc (.cells (shpA o) 38)).heap.size = w.heap.size + 1 := by simp
  rw [hsz] at HY
  have HE := hide (be2 w (.cells (shpA o) 38) (.cells (shpA t) 38))
  clear hsz
  go_enter Try.func40, Try.ntmps40
  go_upto_region 1 with fail
  have hsa : #[.int .i64 o.id, .int .i64 o.team, .int .i64 o.x, .int .i64 o.y, .int .i64 o.depth, .int .i64 o.speed, .int .i64 o.mast, .int .i64 o.noise, .bool o.afloat, .bool o.radar, .bool o.sonar, .bool o.ping] = shpA o := rfl
  have hst : #[.int .i64 t.id, .int .i64 t.team, .int .i64 t.x, .int .i64 t.y, .int .i64 t.depth, .int .i64 t.speed, .int .i64 t.mast, .int .i64 t.noise, .bool t.afloat, .bool t.radar, .bool t.sonar, .bool t.ping] = shpA t := rfl
  rw [hsa, hst]
  clear hsa hst
  generalize (w.alloc (.cells (shpA o) 38)).alloc (.cells (shpA t) 38) = w1 at *
  obtain ⟨q2, hq2⟩ : ∃ q, w.heap.size + 1 = q := ⟨_, rfl⟩
  rw [hq2] at HY ⊢
  clear hq2
  obtain ⟨q, hq⟩ : ∃ q, w.heap.size = q := ⟨_, rfl⟩
  rw [hq] at HX ⊢
  clear hq
  go_wp2
  go_ret
  exact ⟨rfl, HE.out⟩
/-- sensorsm.Grade. -/
theorem grade_any (w : World) (o t : Shp) (ho : ShpOk o) (ht : ShpOk t) (k : Nat) (hk : k < 4) : Calls Try.prog 40 #[.agg #[.int .i64 o.id, .int .i64 o.team, .int .i64 o.x, .int .i64 o.y, .int .i64 o.depth, .int .i64 o.speed, .int .i64 o.mast, .int .i64 o.noise, .bool o.afloat, .bool o.radar, .bool o.sonar, .bool o.ping], .agg #[.int .i64 t.id, .int .i64 t.team, .int .i64 t.x, .int .i64 t.y, .int .i64 t.depth, .int .i64 t.speed, .int .i64 t.mast, .int .i64 t.noise, .bool t.afloat, .bool t.radar, .bool t.sonar, .bool t.ping], .int .i64 k] w fun e w' => e = .returned (.int .i64 (grP o t k)) ∧ Below w.heap.size w w' := by
  rcases (by omega : k = 0 ∨ k = 1 ∨ k = 2 ∨ k = 3) with rfl | rfl | rfl | rfl
  · exact grade0 w o t ho ht
  · exact grade1 w o t ho ht
  · exact grade2 w o t ho ht
  · exact grade3 w o t
end Go.Proofs.Qxb6500776a
