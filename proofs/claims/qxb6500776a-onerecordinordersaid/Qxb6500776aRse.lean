import Derived.Test.Qxb6500776aSgt
namespace Go.Proofs.Qxb6500776a
open Go.RowKit

set_option maxRecDepth 100000 in
set_option maxHeartbeats 4000000 in
theorem radarSees_any (w : World) (s : Nat) (C : Nat → Value) (v2 : Value) (M : List Smk) (h : CB w s C) (hc : C 1714 = v2) (hr : SR w v2 M) (o t : Shp) (ho : ShpOk o) (ht : ShpOk t) (d : Int) (hd : d = dstP o t) :
    Calls Try.prog 54 #[.pointer (some ⟨s, 0, none⟩), .agg #[.int .i64 o.id, .int .i64 o.team, .int .i64 o.x, .int .i64 o.y, .int .i64 o.depth, .int .i64 o.speed, .int .i64 o.mast, .int .i64 o.noise, .bool o.afloat, .bool o.radar, .bool o.sonar, .bool o.ping], .agg #[.int .i64 t.id, .int .i64 t.team, .int .i64 t.x, .int .i64 t.y, .int .i64 t.depth, .int .i64 t.speed, .int .i64 t.mast, .int .i64 t.noise, .bool t.afloat, .bool t.radar, .bool t.sonar, .bool t.ping], .int .i64 d] w fun e w' => e = .returned (.bool (radP M o t)) ∧ Below w.heap.size w w' := by
  have hdr := dsq_rng ho.x ho.y ht.x ht.y
  have hdr2 : 0 ≤ d ∧ d ≤ 8796093022208 := by rw [hd]; exact hdr
  have hm1 := ho.mast
  have hm2 := ht.mast
  have c1 := fun w => hide (up_any w o)
  have c2 := fun w => hide (wrs_any w d (16777216 * o.mast) (16777216 * t.mast) (by omega) (by omega) (by omega))
  have HC := hide (h.below (be2 w (.cells (shpA o) 38) (.cells (shpA t) 38)))
  have HR := hide (hr.below (be2 w (.cells (shpA o) 38) (.cells (shpA t) 38)))
  have c3 := fun w (h : CB w s C) (hr : SR w v2 M) => hide (sight_any w s C v2 M h hc hr o t ho ht)
  have hP : radP M o t = (upP o && decide (t.depth = 0) && wrsP d (16777216 * o.mast) (16777216 * t.mast) && M.all fun m => !segO o t m) := by rw [hd]; rfl
  obtain ⟨u, hu⟩ : ∃ u, upP o = u := ⟨_, rfl⟩
  obtain ⟨v, hv⟩ : ∃ v, wrsP d (16777216 * o.mast) (16777216 * t.mast) = v := ⟨_, rfl⟩
  obtain ⟨z, hz⟩ : ∃ z, (M.all fun m => !segO o t m) = z := ⟨_, rfl⟩
  rw [hu] at c1
  rw [hv] at c2
  rw [hz] at c3
  rw [hP, hu, hv, hz]
  clear hP hu hv hz h hc hr ho ht hdr hdr2 hd
  have HX := hide ((BX.new w o).keep ((Ex.refl (fun _ => False) _).alloc (.cells (shpA t) 38)) (fun e => e))
  have HY := hide (BX.new (w.alloc (.cells (shpA o) 38)) t)
  have hsz : (w.alloc (.cells (shpA o) 38)).heap.size = w.heap.size + 1 := by simp
  rw [hsz] at HY
  have HE := hide (be2 w (.cells (shpA o) 38) (.cells (shpA t) 38))
  clear hsz
  go_enter Try.func54, Try.ntmps54
  go_upto_region 1 with fail
  have hsa : #[.int .i64 o.id, .int .i64 o.team, .int .i64 o.x, .int .i64 o.y, .int .i64 o.depth, .int .i64 o.speed, .int .i64 o.mast, .int .i64 o.noise, .bool o.afloat, .bool o.radar, .bool o.sonar, .bool o.ping] = shpA o := rfl
  have hst : #[.int .i64 t.id, .int .i64 t.team, .int .i64 t.x, .int .i64 t.y, .int .i64 t.depth, .int .i64 t.speed, .int .i64 t.mast, .int .i64 t.noise, .bool t.afloat, .bool t.radar, .bool t.sonar, .bool t.ping] = shpA t := rfl
  rw [hsa, hst]
  clear hsa hst
  generalize (w.alloc (.cells (shpA o) 38)).alloc (.cells (shpA t) 38) = w1 at *
  obtain ⟨q2, hq2⟩ : ∃ q, w.heap.size + 1 = q := ⟨_, rfl⟩
  rw [hq2] at HY ⊢
  clear hq2
  obtain ⟨q, hq⟩ : ∃ q, w.heap.size = q := ⟨_, rfl⟩
  rw [hq] at HX ⊢
  clear hq

  obtain ⟨x0, x1, x2, x3, x4, x5, x6, x7, x8, x9, x10, x11⟩ := HX.out
  have y4 := HY.out.c4
  go_wp2_with fail
  have hsa : shpA o = #[.int .i64 o.id, .int .i64 o.team, .int .i64 o.x, .int .i64 o.y, .int .i64 o.depth, .int .i64 o.speed, .int .i64 o.mast, .int .i64 o.noise, .bool o.afloat, .bool o.radar, .bool o.sonar, .bool o.ping] := rfl
  (try rw [hsa])
  refine (c1 _).out.mono ?_
  rintro e w2 ⟨rfl, b2⟩
  replace HX := hide (HX.out.below b2)
  replace HY := hide (HY.out.below b2)
  replace HC := hide (HC.out.below b2)
  replace HR := hide (HR.out.below b2)
  replace HE := hide (lec HE.out b2)
  clear c1 b2 hsa x0 x1 x2 x3 x4 x5 x6 x7 x8 x9 x10 x11 y4
  have y4 := HY.out.c4
  cases u
  · go_wp2
    go_ret
    exact ⟨ret_bool (by simp), HE.out⟩
  · by_cases h0 : t.depth = 0
    · have h0b : (t.depth != 0) = false := by simp [h0]
      have H0 := hide h0
      rw [h0] at y4
      clear h0
      have x6 := HX.out.c6
      have y6 := HY.out.c6
      go_wp2_with fail
      refine (c2 _).out.mono ?_
      rintro e w3 ⟨rfl, b3⟩
      replace HX := hide (HX.out.below b3)
      replace HY := hide (HY.out.below b3)
      replace HC := hide (HC.out.below b3)
      replace HR := hide (HR.out.below b3)
      replace HE := hide (lec HE.out b3)
      clear c2 b3 x6 y6 y4 h0b
      cases v
      · go_wp2
        go_ret
        exact ⟨ret_bool (by simp), HE.out⟩
      · obtain ⟨x0, x1, x2, x3, x4, x5, x6, x7, x8, x9, x10, x11⟩ := HX.out
        obtain ⟨y0, y1, y2, y3, y4, y5, y6, y7, y8, y9, y10, y11⟩ := HY.out
        go_wp2_with fail
        refine (c3 _ HC.out HR.out).out.mono ?_
        rintro e w4 ⟨rfl, b4⟩
        replace HE := hide (lec HE.out b4)
        clear x0 x1 x2 x3 x4 x5 x6 x7 x8 x9 x10 x11 y0 y1 y2 y3 y4 y5 y6 y7 y8 y9 y10 y11 b4
        go_wp2
        go_ret
        exact ⟨ret_bool (by rw [H0.out]; simp), HE.out⟩
    · have h0b : (t.depth != 0) = true := by simp [h0]
      go_wp2
      go_ret
      exact ⟨ret_bool (by simp [h0]), HE.out⟩
end Go.Proofs.Qxb6500776a
