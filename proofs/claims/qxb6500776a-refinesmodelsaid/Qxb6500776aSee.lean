import Derived.Test.Qxb6500776aSmo
namespace Go.Proofs.Qxb6500776a
open Go.RowKit

theorem conj24b {w : World} {p q : Nat} {o t : Shp} (h : BX w q o) (k : BX w p t) : w.cell? ⟨q, 0, none⟩ = some (.int .i64 o.id) ∧ w.cell? ⟨q, 1, none⟩ = some (.int .i64 o.team) ∧ w.cell? ⟨q, 2, none⟩ = some (.int .i64 o.x) ∧ w.cell? ⟨q, 3, none⟩ = some (.int .i64 o.y) ∧ w.cell? ⟨q, 4, none⟩ = some (.int .i64 o.depth) ∧ w.cell? ⟨q, 5, none⟩ = some (.int .i64 o.speed) ∧ w.cell? ⟨q, 6, none⟩ = some (.int .i64 o.mast) ∧ w.cell? ⟨q, 7, none⟩ = some (.int .i64 o.noise) ∧ w.cell? ⟨q, 8, none⟩ = some (.bool o.afloat) ∧ w.cell? ⟨q, 9, none⟩ = some (.bool o.radar) ∧ w.cell? ⟨q, 10, none⟩ = some (.bool o.sonar) ∧ w.cell? ⟨q, 11, none⟩ = some (.bool o.ping) ∧ w.cell? ⟨p, 0, none⟩ = some (.int .i64 t.id) ∧ w.cell? ⟨p, 1, none⟩ = some (.int .i64 t.team) ∧ w.cell? ⟨p, 2, none⟩ = some (.int .i64 t.x) ∧ w.cell? ⟨p, 3, none⟩ = some (.int .i64 t.y) ∧ w.cell? ⟨p, 4, none⟩ = some (.int .i64 t.depth) ∧ w.cell? ⟨p, 5, none⟩ = some (.int .i64 t.speed) ∧ w.cell? ⟨p, 6, none⟩ = some (.int .i64 t.mast) ∧ w.cell? ⟨p, 7, none⟩ = some (.int .i64 t.noise) ∧ w.cell? ⟨p, 8, none⟩ = some (.bool t.afloat) ∧ w.cell? ⟨p, 9, none⟩ = some (.bool t.radar) ∧ w.cell? ⟨p, 10, none⟩ = some (.bool t.sonar) ∧ w.cell? ⟨p, 11, none⟩ = some (.bool t.ping) := ⟨h.c0, h.c1, h.c2, h.c3, h.c4, h.c5, h.c6, h.c7, h.c8, h.c9, h.c10, h.c11, k.c0, k.c1, k.c2, k.c3, k.c4, k.c5, k.c6, k.c7, k.c8, k.c9, k.c10, k.c11⟩
theorem dead_sees (w : World) (p : Nat) (o t : Shp) (k : Int) (hl : liveP o t = false) :
    Calls Try.prog 18 #[.pointer (some ⟨p, 0, none⟩), .agg #[.int .i64 o.id, .int .i64 o.team, .int .i64 o.x, .int .i64 o.y, .int .i64 o.depth, .int .i64 o.speed, .int .i64 o.mast, .int .i64 o.noise, .bool o.afloat, .bool o.radar, .bool o.sonar, .bool o.ping], .agg #[.int .i64 t.id, .int .i64 t.team, .int .i64 t.x, .int .i64 t.y, .int .i64 t.depth, .int .i64 t.speed, .int .i64 t.mast, .int .i64 t.noise, .bool t.afloat, .bool t.radar, .bool t.sonar, .bool t.ping], .int .i64 k] w fun e w' => e = .returned (.bool false) ∧ Below w.heap.size w w' := by
  have HL := hide hl
  clear hl
  have HX := hide ((BX.new w o).keep ((Ex.refl (fun _ => False) _).alloc (.cells (shpA t) 38)) (fun e => e))
  have HY := hide (BX.new (w.alloc (.cells (shpA o) 38)) t)
  have hsz : (w.alloc (.cells (shpA o) 38)).heap.size = w.heap.size + 1 := by simp
  rw [hsz] at HY
  have HE := hide (be2 w (.cells (shpA o) 38) (.cells (shpA t) 38))
  clear hsz
  go_enter Try.func18, Try.ntmps18
  go_upto_region 1 with fail
  have hsa : #[.int .i64 o.id, .int .i64 o.team, .int .i64 o.x, .int .i64 o.y, .int .i64 o.depth, .int .i64 o.speed, .int .i64 o.mast, .int .i64 o.noise, .bool o.afloat, .bool o.radar, .bool o.sonar, .bool o.ping] = shpA o := rfl
  have hst : #[.int .i64 t.id, .int .i64 t.team, .int .i64 t.x, .int .i64 t.y, .int .i64 t.depth, .int .i64 t.speed, .int .i64 t.mast, .int .i64 t.noise, .bool t.afloat, .bool t.radar, .bool t.sonar, .bool t.ping] = shpA t := rfl
  rw [hsa, hst]
  clear hsa hst
  generalize (w.alloc (.cells (shpA o) 38)).alloc (.cells (shpA t) 38) = w1 at *
  obtain ⟨q2, hq2⟩ : ∃ q, w.heap.size + 1 = q := ⟨_, rfl⟩
  rw [hq2] at HY ⊢
  clear hq2
  obtain ⟨q, hq⟩ : ∃ q, w.heap.size = q := ⟨_, rfl⟩
  rw [hq] at HX ⊢
  clear hq

  have x8 := HX.out.c8
  have y8 := HY.out.c8
  have x1 := HX.out.c1
  have y1 := HY.out.c1
  cases ha : o.afloat
  · rw [ha] at x8
    go_wp2
    go_ret
    exact ⟨rfl, HE.out⟩
  · rw [ha] at x8
    cases hb : t.afloat
    · rw [hb] at y8
      go_wp2
      go_ret
      exact ⟨rfl, HE.out⟩
    · rw [hb] at y8
      have ht : (o.team == t.team) = true := by
        have := HL.out
        unfold liveP at this
        rw [ha, hb] at this
        simpa using this
      clear ha hb
      go_wp2
      go_ret
      exact ⟨rfl, HE.out⟩

set_option maxRecDepth 100000 in
set_option maxHeartbeats 2000000 in
theorem sees1 (w : World) (p : Nat) (M : List Smk) (o t : Shp) (ho : ShpOk o) (ht : ShpOk t) (hl : liveP o t = true) :
    Calls Try.prog 18 #[.pointer (some ⟨p, 0, none⟩), .agg #[.int .i64 o.id, .int .i64 o.team, .int .i64 o.x, .int .i64 o.y, .int .i64 o.depth, .int .i64 o.speed, .int .i64 o.mast, .int .i64 o.noise, .bool o.afloat, .bool o.radar, .bool o.sonar, .bool o.ping], .agg #[.int .i64 t.id, .int .i64 t.team, .int .i64 t.x, .int .i64 t.y, .int .i64 t.depth, .int .i64 t.speed, .int .i64 t.mast, .int .i64 t.noise, .bool t.afloat, .bool t.radar, .bool t.sonar, .bool t.ping], .int .i64 1] w fun e w' => e = .returned (.bool (seeP M o t 1)) ∧ Below w.heap.size w w' := by
  have hla : o.afloat = true ∧ t.afloat = true ∧ (o.team == t.team) = false := by
    unfold liveP at hl
    simp only [Bool.and_eq_true, bne_iff_ne, ne_eq] at hl
    exact ⟨hl.1.1, hl.1.2, by simpa using hl.2⟩
  have HL := hide hla
  clear hl hla
  have cE := fun w => hide (excess_any w o t ho ht)
  have hS : seeP M o t 1 = (o.sonar && decide (10 ≤ excP o t (dstP o t))) := rfl
  rw [hS]
  obtain ⟨ex, hex⟩ : ∃ ex, excP o t (dstP o t) = ex := ⟨_, rfl⟩
  rw [hex] at cE ⊢
  clear hS ho ht hex
  have HX := hide ((BX.new w o).keep ((Ex.refl (fun _ => False) _).alloc (.cells (shpA t) 38)) (fun e => e))
  have HY := hide (BX.new (w.alloc (.cells (shpA o) 38)) t)
  have hsz : (w.alloc (.cells (shpA o) 38)).heap.size = w.heap.size + 1 := by simp
  rw [hsz] at HY
  have HE := hide (be2 w (.cells (shpA o) 38) (.cells (shpA t) 38))
  clear hsz
  go_enter Try.func18, Try.ntmps18
  go_upto_region 1 with fail
  have hsa : #[.int .i64 o.id, .int .i64 o.team, .int .i64 o.x, .int .i64 o.y, .int .i64 o.depth, .int .i64 o.speed, .int .i64 o.mast, .int .i64 o.noise, .bool o.afloat, .bool o.radar, .bool o.sonar, .bool o.ping] = shpA o := rfl
  have hst : #[.int .i64 t.id, .int .i64 t.team, .int .i64 t.x, .int .i64 t.y, .int .i64 t.depth, .int .i64 t.speed, .int .i64 t.mast, .int .i64 t.noise, .bool t.afloat, .bool t.radar, .bool t.sonar, .bool t.ping] = shpA t := rfl
  rw [hsa, hst]
  clear hsa hst
  generalize (w.alloc (.cells (shpA o) 38)).alloc (.cells (shpA t) 38) = w1 at *
  obtain ⟨q2, hq2⟩ : ∃ q, w.heap.size + 1 = q := ⟨_, rfl⟩
  rw [hq2] at HY ⊢
  clear hq2
  obtain ⟨q, hq⟩ : ∃ q, w.heap.size = q := ⟨_, rfl⟩
  rw [hq] at HX ⊢
  clear hq
  have x8 := HX.out.c8
  have y8 := HY.out.c8
  have x1 := HX.out.c1
  have y1 := HY.out.c1
  rw [HL.out.1] at x8
  rw [HL.out.2.1] at y8
  have htm := HL.out.2.2
  go_upto_region 7 with fail
  clear x8 y8 x1 y1 htm
  cases hs : o.sonar
  · have x10 := HX.out.c10
    rw [hs] at x10
    go_wp2
    go_ret
    exact ⟨ret_bool (by rw [hs]; simp), HE.out⟩
  · rw [hs] at cE
    have HSN := hide hs
    clear hs
    obtain ⟨x0, x1, x2, x3, x4, x5, x6, x7, x8, x9, x10, x11⟩ := HX.out
    obtain ⟨y0, y1, y2, y3, y4, y5, y6, y7, y8, y9, y10, y11⟩ := HY.out
    rw [HSN.out] at x10
    go_wp2_with fail
    refine (cE _).out.mono ?_
    rintro e w2 ⟨rfl, b2⟩
    have HE2 := hide (lec HE.out b2)
    clear b2 x0 x1 x2 x3 x4 x5 x6 x7 x8 x9 x10 x11 y0 y1 y2 y3 y4 y5 y6 y7 y8 y9 y10 y11
    by_cases h10 : 10 ≤ ex
    · go_wp2
      go_ret
      exact ⟨ret_bool (by rw [HSN.out]; simp [h10]), HE2.out⟩
    · go_wp2
      go_ret
      exact ⟨ret_bool (by rw [HSN.out]; simp <;> omega), HE2.out⟩

set_option maxRecDepth 100000 in
set_option maxHeartbeats 2000000 in
theorem sees2 (w : World) (p : Nat) (M : List Smk) (o t : Shp) (ho : ShpOk o) (ht : ShpOk t) (hl : liveP o t = true) :
    Calls Try.prog 18 #[.pointer (some ⟨p, 0, none⟩), .agg #[.int .i64 o.id, .int .i64 o.team, .int .i64 o.x, .int .i64 o.y, .int .i64 o.depth, .int .i64 o.speed, .int .i64 o.mast, .int .i64 o.noise, .bool o.afloat, .bool o.radar, .bool o.sonar, .bool o.ping], .agg #[.int .i64 t.id, .int .i64 t.team, .int .i64 t.x, .int .i64 t.y, .int .i64 t.depth, .int .i64 t.speed, .int .i64 t.mast, .int .i64 t.noise, .bool t.afloat, .bool t.radar, .bool t.sonar, .bool t.ping], .int .i64 2] w fun e w' => e = .returned (.bool (seeP M o t 2)) ∧ Below w.heap.size w w' := by
  have hla : o.afloat = true ∧ t.afloat = true ∧ (o.team == t.team) = false := by
    unfold liveP at hl
    simp only [Bool.and_eq_true, bne_iff_ne, ne_eq] at hl
    exact ⟨hl.1.1, hl.1.2, by simpa using hl.2⟩
  have HL := hide hla
  clear hl hla
  have cD := fun w => hide (dist_any w o t ho ht)
  have hS : seeP M o t 2 = (o.sonar && o.ping && decide (dstP o t ≤ 1600000000)) := rfl
  rw [hS]
  obtain ⟨d, hd⟩ : ∃ d, dstP o t = d := ⟨_, rfl⟩
  rw [hd] at cD ⊢
  clear hS ho ht hd
  have HX := hide ((BX.new w o).keep ((Ex.refl (fun _ => False) _).alloc (.cells (shpA t) 38)) (fun e => e))
  have HY := hide (BX.new (w.alloc (.cells (shpA o) 38)) t)
  have hsz : (w.alloc (.cells (shpA o) 38)).heap.size = w.heap.size + 1 := by simp
  rw [hsz] at HY
  have HE := hide (be2 w (.cells (shpA o) 38) (.cells (shpA t) 38))
  clear hsz
  go_enter Try.func18, Try.ntmps18
  go_upto_region 1 with fail
  have hsa : #[.int .i64 o.id, .int .i64 o.team, .int .i64 o.x, .int .i64 o.y, .int .i64 o.depth, .int .i64 o.speed, .int .i64 o.mast, .int .i64 o.noise, .bool o.afloat, .bool o.radar, .bool o.sonar, .bool o.ping] = shpA o := rfl
  have hst : #[.int .i64 t.id, .int .i64 t.team, .int .i64 t.x, .int .i64 t.y, .int .i64 t.depth, .int .i64 t.speed, .int .i64 t.mast, .int .i64 t.noise, .bool t.afloat, .bool t.radar, .bool t.sonar, .bool t.ping] = shpA t := rfl
  rw [hsa, hst]
  clear hsa hst
  generalize (w.alloc (.cells (shpA o) 38)).alloc (.cells (shpA t) 38) = w1 at *
  obtain ⟨q2, hq2⟩ : ∃ q, w.heap.size + 1 = q := ⟨_, rfl⟩
  rw [hq2] at HY ⊢
  clear hq2
  obtain ⟨q, hq⟩ : ∃ q, w.heap.size = q := ⟨_, rfl⟩
  rw [hq] at HX ⊢
  clear hq
  have x8 := HX.out.c8
  have y8 := HY.out.c8
  have x1 := HX.out.c1
  have y1 := HY.out.c1
  rw [HL.out.1] at x8
  rw [HL.out.2.1] at y8
  have htm := HL.out.2.2
  go_upto_region 9 with fail
  clear x8 y8 x1 y1 htm
  cases hs : o.sonar
  · have x10 := HX.out.c10
    rw [hs] at x10
    go_wp2
    go_ret
    exact ⟨ret_bool (by rw [hs]; simp), HE.out⟩
  · rw [hs] at cD
    have HSN := hide hs
    clear hs
    cases hp : o.ping
    · have x10 := HX.out.c10
      have x11 := HX.out.c11
      rw [HSN.out] at x10
      rw [hp] at x11
      go_wp2
      go_ret
      exact ⟨ret_bool (by rw [hp]; simp), HE.out⟩
    · rw [hp] at cD
      have HPN := hide hp
      clear hp
      obtain ⟨x0, x1, x2, x3, x4, x5, x6, x7, x8, x9, x10, x11⟩ := HX.out
      obtain ⟨y0, y1, y2, y3, y4, y5, y6, y7, y8, y9, y10, y11⟩ := HY.out
      rw [HSN.out] at x10
      rw [HPN.out] at x11
      go_wp2_with fail
      refine (cD _).out.mono ?_
      rintro e w2 ⟨rfl, b2⟩
      have HE2 := hide (lec HE.out b2)
      clear b2 x0 x1 x2 x3 x4 x5 x6 x7 x8 x9 x10 x11 y0 y1 y2 y3 y4 y5 y6 y7 y8 y9 y10 y11
      by_cases h10 : d ≤ 1600000000
      · go_wp2
        go_ret
        exact ⟨ret_bool (by rw [HSN.out, HPN.out]; simp [h10]), HE2.out⟩
      · go_wp2
        go_ret
        exact ⟨ret_bool (by rw [HSN.out, HPN.out]; simp <;> omega), HE2.out⟩

set_option maxRecDepth 100000 in
set_option maxHeartbeats 2000000 in
theorem sees3 (w : World) (p : Nat) (M : List Smk) (o t : Shp) (ho : ShpOk o) (ht : ShpOk t) (hl : liveP o t = true) :
    Calls Try.prog 18 #[.pointer (some ⟨p, 0, none⟩), .agg #[.int .i64 o.id, .int .i64 o.team, .int .i64 o.x, .int .i64 o.y, .int .i64 o.depth, .int .i64 o.speed, .int .i64 o.mast, .int .i64 o.noise, .bool o.afloat, .bool o.radar, .bool o.sonar, .bool o.ping], .agg #[.int .i64 t.id, .int .i64 t.team, .int .i64 t.x, .int .i64 t.y, .int .i64 t.depth, .int .i64 t.speed, .int .i64 t.mast, .int .i64 t.noise, .bool t.afloat, .bool t.radar, .bool t.sonar, .bool t.ping], .int .i64 3] w fun e w' => e = .returned (.bool (seeP M o t 3)) ∧ Below w.heap.size w w' := by
  have hla : o.afloat = true ∧ t.afloat = true ∧ (o.team == t.team) = false := by
    unfold liveP at hl
    simp only [Bool.and_eq_true, bne_iff_ne, ne_eq] at hl
    exact ⟨hl.1.1, hl.1.2, by simpa using hl.2⟩
  have HL := hide hla
  clear hl hla
  have cD := fun w => hide (dist_any w o t ho ht)
  have hS : seeP M o t 3 = (o.sonar && (t.sonar && t.ping) && decide (dstP o t ≤ 6400000000)) := rfl
  rw [hS]
  obtain ⟨d, hd⟩ : ∃ d, dstP o t = d := ⟨_, rfl⟩
  rw [hd] at cD ⊢
  clear hS ho ht hd
  have HX := hide ((BX.new w o).keep ((Ex.refl (fun _ => False) _).alloc (.cells (shpA t) 38)) (fun e => e))
  have HY := hide (BX.new (w.alloc (.cells (shpA o) 38)) t)
  have hsz : (w.alloc (.cells (shpA o) 38)).heap.size = w.heap.size + 1 := by simp
  rw [hsz] at HY
  have HE := hide (be2 w (.cells (shpA o) 38) (.cells (shpA t) 38))
  clear hsz
  go_enter Try.func18, Try.ntmps18
  go_upto_region 1 with fail
  have hsa : #[.int .i64 o.id, .int .i64 o.team, .int .i64 o.x, .int .i64 o.y, .int .i64 o.depth, .int .i64 o.speed, .int .i64 o.mast, .int .i64 o.noise, .bool o.afloat, .bool o.radar, .bool o.sonar, .bool o.ping] = shpA o := rfl
  have hst : #[.int .i64 t.id, .int .i64 t.team, .int .i64 t.x, .int .i64 t.y, .int .i64 t.depth, .int .i64 t.speed, .int .i64 t.mast, .int .i64 t.noise, .bool t.afloat, .bool t.radar, .bool t.sonar, .bool t.ping] = shpA t := rfl
  rw [hsa, hst]
  clear hsa hst
  generalize (w.alloc (.cells (shpA o) 38)).alloc (.cells (shpA t) 38) = w1 at *
  obtain ⟨q2, hq2⟩ : ∃ q, w.heap.size + 1 = q := ⟨_, rfl⟩
  rw [hq2] at HY ⊢
  clear hq2
  obtain ⟨q, hq⟩ : ∃ q, w.heap.size = q := ⟨_, rfl⟩
  rw [hq] at HX ⊢
  clear hq
  have x8 := HX.out.c8
  have y8 := HY.out.c8
  have x1 := HX.out.c1
  have y1 := HY.out.c1
  rw [HL.out.1] at x8
  rw [HL.out.2.1] at y8
  have htm := HL.out.2.2
  go_upto_region 11 with fail
  clear x8 y8 x1 y1 htm
  cases hs : o.sonar
  · have x10 := HX.out.c10
    rw [hs] at x10
    go_wp2
    go_ret
    exact ⟨ret_bool (by rw [hs]; simp), HE.out⟩
  · rw [hs] at cD
    have HSN := hide hs
    clear hs
    cases hs2 : t.sonar
    · have x10 := HX.out.c10
      have y10 := HY.out.c10
      rw [HSN.out] at x10
      rw [hs2] at y10
      go_wp2
      go_ret
      exact ⟨ret_bool (by rw [hs2]; simp), HE.out⟩
    · rw [hs2] at cD
      have HS2 := hide hs2
      clear hs2
      cases hp : t.ping
      · have x10 := HX.out.c10
        have y10 := HY.out.c10
        have y11 := HY.out.c11
        rw [HSN.out] at x10
        rw [HS2.out] at y10
        rw [hp] at y11
        go_wp2
        go_ret
        exact ⟨ret_bool (by rw [hp]; simp), HE.out⟩
      · rw [hp] at cD
        have HPN := hide hp
        clear hp
        obtain ⟨x0, x1, x2, x3, x4, x5, x6, x7, x8, x9, x10, x11⟩ := HX.out
        obtain ⟨y0, y1, y2, y3, y4, y5, y6, y7, y8, y9, y10, y11⟩ := HY.out
        rw [HSN.out] at x10
        rw [HS2.out] at y10
        rw [HPN.out] at y11
        go_wp2_with fail
        refine (cD _).out.mono ?_
        rintro e w2 ⟨rfl, b2⟩
        have HE2 := hide (lec HE.out b2)
        clear b2 x0 x1 x2 x3 x4 x5 x6 x7 x8 x9 x10 x11 y0 y1 y2 y3 y4 y5 y6 y7 y8 y9 y10 y11
        by_cases h10 : d ≤ 6400000000
        · go_wp2
          go_ret
          exact ⟨ret_bool (by rw [HSN.out, HS2.out, HPN.out]; simp [h10]), HE2.out⟩
        · go_wp2
          go_ret
          exact ⟨ret_bool (by rw [HSN.out, HS2.out, HPN.out]; simp <;> omega), HE2.out⟩
end Go.Proofs.Qxb6500776a
