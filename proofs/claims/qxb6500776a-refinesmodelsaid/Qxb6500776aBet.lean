import Derived.Test.Qxb6500776aGra
namespace Go.Proofs.Qxb6500776a
open Go.RowKit

def betP (a b t : Shp) : Bool := decide (dstP a t < dstP b t) || (decide (dstP a t = dstP b t) && decide (a.id < b.id))
theorem conj36 {w : World} {q q2 q3 : Nat} {a b t : Shp} (h : BX w q a) (k : BX w q2 b) (l : BX w q3 t) : w.cell? ⟨q, 0, none⟩ = some (.int .i64 a.id) ∧ w.cell? ⟨q, 1, none⟩ = some (.int .i64 a.team) ∧ w.cell? ⟨q, 2, none⟩ = some (.int .i64 a.x) ∧ w.cell? ⟨q, 3, none⟩ = some (.int .i64 a.y) ∧ w.cell? ⟨q, 4, none⟩ = some (.int .i64 a.depth) ∧ w.cell? ⟨q, 5, none⟩ = some (.int .i64 a.speed) ∧ w.cell? ⟨q, 6, none⟩ = some (.int .i64 a.mast) ∧ w.cell? ⟨q, 7, none⟩ = some (.int .i64 a.noise) ∧ w.cell? ⟨q, 8, none⟩ = some (.bool a.afloat) ∧ w.cell? ⟨q, 9, none⟩ = some (.bool a.radar) ∧ w.cell? ⟨q, 10, none⟩ = some (.bool a.sonar) ∧ w.cell? ⟨q, 11, none⟩ = some (.bool a.ping) ∧ w.cell? ⟨q2, 0, none⟩ = some (.int .i64 b.id) ∧ w.cell? ⟨q2, 1, none⟩ = some (.int .i64 b.team) ∧ w.cell? ⟨q2, 2, none⟩ = some (.int .i64 b.x) ∧ w.cell? ⟨q2, 3, none⟩ = some (.int .i64 b.y) ∧ w.cell? ⟨q2, 4, none⟩ = some (.int .i64 b.depth) ∧ w.cell? ⟨q2, 5, none⟩ = some (.int .i64 b.speed) ∧ w.cell? ⟨q2, 6, none⟩ = some (.int .i64 b.mast) ∧ w.cell? ⟨q2, 7, none⟩ = some (.int .i64 b.noise) ∧ w.cell? ⟨q2, 8, none⟩ = some (.bool b.afloat) ∧ w.cell? ⟨q2, 9, none⟩ = some (.bool b.radar) ∧ w.cell? ⟨q2, 10, none⟩ = some (.bool b.sonar) ∧ w.cell? ⟨q2, 11, none⟩ = some (.bool b.ping) ∧ w.cell? ⟨q3, 0, none⟩ = some (.int .i64 t.id) ∧ w.cell? ⟨q3, 1, none⟩ = some (.int .i64 t.team) ∧ w.cell? ⟨q3, 2, none⟩ = some (.int .i64 t.x) ∧ w.cell? ⟨q3, 3, none⟩ = some (.int .i64 t.y) ∧ w.cell? ⟨q3, 4, none⟩ = some (.int .i64 t.depth) ∧ w.cell? ⟨q3, 5, none⟩ = some (.int .i64 t.speed) ∧ w.cell? ⟨q3, 6, none⟩ = some (.int .i64 t.mast) ∧ w.cell? ⟨q3, 7, none⟩ = some (.int .i64 t.noise) ∧ w.cell? ⟨q3, 8, none⟩ = some (.bool t.afloat) ∧ w.cell? ⟨q3, 9, none⟩ = some (.bool t.radar) ∧ w.cell? ⟨q3, 10, none⟩ = some (.bool t.sonar) ∧ w.cell? ⟨q3, 11, none⟩ = some (.bool t.ping) := ⟨h.c0, h.c1, h.c2, h.c3, h.c4, h.c5, h.c6, h.c7, h.c8, h.c9, h.c10, h.c11, k.c0, k.c1, k.c2, k.c3, k.c4, k.c5, k.c6, k.c7, k.c8, k.c9, k.c10, k.c11, l.c0, l.c1, l.c2, l.c3, l.c4, l.c5, l.c6, l.c7, l.c8, l.c9, l.c10, l.c11⟩
set_option linter.unusedSimpArgs false in
set_option maxRecDepth 100000 in
set_option maxHeartbeats 4000000 in
/-- sensorsm.Better. -/
theorem better_any (w : World) (a b t : Shp) (ha : ShpOk a) (hb : ShpOk b) (ht : ShpOk t) : Calls Try.prog 38 #[.agg #[.int .i64 a.id, .int .i64 a.team, .int .i64 a.x, .int .i64 a.y, .int .i64 a.depth, .int .i64 a.speed, .int .i64 a.mast, .int .i64 a.noise, .bool a.afloat, .bool a.radar, .bool a.sonar, .bool a.ping], .agg #[.int .i64 b.id, .int .i64 b.team, .int .i64 b.x, .int .i64 b.y, .int .i64 b.depth, .int .i64 b.speed, .int .i64 b.mast, .int .i64 b.noise, .bool b.afloat, .bool b.radar, .bool b.sonar, .bool b.ping], .agg #[.int .i64 t.id, .int .i64 t.team, .int .i64 t.x, .int .i64 t.y, .int .i64 t.depth, .int .i64 t.speed, .int .i64 t.mast, .int .i64 t.noise, .bool t.afloat, .bool t.radar, .bool t.sonar, .bool t.ping]] w fun e w' => e = .returned (.bool (betP a b t)) ∧ Below w.heap.size w w' := by
  have cA := fun w => hide (dist_any w a t ha ht)
  have cB := fun w => hide (dist_any w b t hb ht)
  obtain ⟨da, hda⟩ : ∃ d, dstP a t = d := ⟨_, rfl⟩
  obtain ⟨db, hdb⟩ : ∃ d, dstP b t = d := ⟨_, rfl⟩
  have hS : betP a b t = (decide (da < db) || (decide (da = db) && decide (a.id < b.id))) := by rw [← hda, ← hdb]; rfl
  rw [hS]
  rw [hda] at cA
  rw [hdb] at cB
  clear hS hda hdb ha hb ht
  have HX := hide (((BX.new w a).below (be1 _ (.cells (shpA b) 38))).below (be1 _ (.cells (shpA t) 38)))
  have HY := hide ((BX.new (w.alloc (.cells (shpA a) 38)) b).below (be1 _ (.cells (shpA t) 38)))
  have HZ := hide (BX.new ((w.alloc (.cells (shpA a) 38)).alloc (.cells (shpA b) 38)) t)
  have z1 : (w.alloc (.cells (shpA a) 38)).heap.size = w.heap.size + 1 := by simp
  have z2 : ((w.alloc (.cells (shpA a) 38)).alloc (.cells (shpA b) 38)).heap.size = w.heap.size + 2 := by simp
  rw [z1] at HY
  rw [z2] at HZ
  clear z1 z2
  have HE := hide (lec (be2 w (.cells (shpA a) 38) (.cells (shpA b) 38)) (be1 _ (.cells (shpA t) 38)))
  go_enter Try.func38, Try.ntmps38
  go_upto_region 1 with fail
  have hsa : #[.int .i64 a.id, .int .i64 a.team, .int .i64 a.x, .int .i64 a.y, .int .i64 a.depth, .int .i64 a.speed, .int .i64 a.mast, .int .i64 a.noise, .bool a.afloat, .bool a.radar, .bool a.sonar, .bool a.ping] = shpA a := rfl
  have hsb : #[.int .i64 b.id, .int .i64 b.team, .int .i64 b.x, .int .i64 b.y, .int .i64 b.depth, .int .i64 b.speed, .int .i64 b.mast, .int .i64 b.noise, .bool b.afloat, .bool b.radar, .bool b.sonar, .bool b.ping] = shpA b := rfl
  have hst : #[.int .i64 t.id, .int .i64 t.team, .int .i64 t.x, .int .i64 t.y, .int .i64 t.depth, .int .i64 t.speed, .int .i64 t.mast, .int .i64 t.noise, .bool t.afloat, .bool t.radar, .bool t.sonar, .bool t.ping] = shpA t := rfl
  rw [hsa, hsb, hst]
  clear hsa hsb hst
  generalize ((w.alloc (.cells (shpA a) 38)).alloc (.cells (shpA b) 38)).alloc (.cells (shpA t) 38) = w1 at *
  obtain ⟨q3, hq3⟩ : ∃ q, w.heap.size + 2 = q := ⟨_, rfl⟩
  rw [hq3] at HZ ⊢
  clear hq3
  obtain ⟨q2, hq2⟩ : ∃ q, w.heap.size + 1 = q := ⟨_, rfl⟩
  rw [hq2] at HY ⊢
  clear hq2
  obtain ⟨q, hq⟩ : ∃ q, w.heap.size = q := ⟨_, rfl⟩
  rw [hq] at HX ⊢
  clear hq
  by_cases hlt : da < db
  · have zS := conj36 HX.out HY.out HZ.out
    refine wp_region_held_drew (S := fun w' => w'.cell? ⟨q, 0, none⟩ = some (.int .i64 a.id) ∧ w'.cell? ⟨q, 1, none⟩ = some (.int .i64 a.team) ∧ w'.cell? ⟨q, 2, none⟩ = some (.int .i64 a.x) ∧ w'.cell? ⟨q, 3, none⟩ = some (.int .i64 a.y) ∧ w'.cell? ⟨q, 4, none⟩ = some (.int .i64 a.depth) ∧ w'.cell? ⟨q, 5, none⟩ = some (.int .i64 a.speed) ∧ w'.cell? ⟨q, 6, none⟩ = some (.int .i64 a.mast) ∧ w'.cell? ⟨q, 7, none⟩ = some (.int .i64 a.noise) ∧ w'.cell? ⟨q, 8, none⟩ = some (.bool a.afloat) ∧ w'.cell? ⟨q, 9, none⟩ = some (.bool a.radar) ∧ w'.cell? ⟨q, 10, none⟩ = some (.bool a.sonar) ∧ w'.cell? ⟨q, 11, none⟩ = some (.bool a.ping) ∧ w'.cell? ⟨q2, 0, none⟩ = some (.int .i64 b.id) ∧ w'.cell? ⟨q2, 1, none⟩ = some (.int .i64 b.team) ∧ w'.cell? ⟨q2, 2, none⟩ = some (.int .i64 b.x) ∧ w'.cell? ⟨q2, 3, none⟩ = some (.int .i64 b.y) ∧ w'.cell? ⟨q2, 4, none⟩ = some (.int .i64 b.depth) ∧ w'.cell? ⟨q2, 5, none⟩ = some (.int .i64 b.speed) ∧ w'.cell? ⟨q2, 6, none⟩ = some (.int .i64 b.mast) ∧ w'.cell? ⟨q2, 7, none⟩ = some (.int .i64 b.noise) ∧ w'.cell? ⟨q2, 8, none⟩ = some (.bool b.afloat) ∧ w'.cell? ⟨q2, 9, none⟩ = some (.bool b.radar) ∧ w'.cell? ⟨q2, 10, none⟩ = some (.bool b.sonar) ∧ w'.cell? ⟨q2, 11, none⟩ = some (.bool b.ping) ∧ w'.cell? ⟨q3, 0, none⟩ = some (.int .i64 t.id) ∧ w'.cell? ⟨q3, 1, none⟩ = some (.int .i64 t.team) ∧ w'.cell? ⟨q3, 2, none⟩ = some (.int .i64 t.x) ∧ w'.cell? ⟨q3, 3, none⟩ = some (.int .i64 t.y) ∧ w'.cell? ⟨q3, 4, none⟩ = some (.int .i64 t.depth) ∧ w'.cell? ⟨q3, 5, none⟩ = some (.int .i64 t.speed) ∧ w'.cell? ⟨q3, 6, none⟩ = some (.int .i64 t.mast) ∧ w'.cell? ⟨q3, 7, none⟩ = some (.int .i64 t.noise) ∧ w'.cell? ⟨q3, 8, none⟩ = some (.bool t.afloat) ∧ w'.cell? ⟨q3, 9, none⟩ = some (.bool t.radar) ∧ w'.cell? ⟨q3, 10, none⟩ = some (.bool t.sonar) ∧ w'.cell? ⟨q3, 11, none⟩ = some (.bool t.ping)) (by kernel_rfl) zS (fun hHeld => ?_)
    refine wpAnyH_take (i := 0) (v := ?_) rfl (by kernel_rfl) (by kernel_rfl) (by kernel_rfl) (fun _ _ _ h => h) (Or.inl ⟨by rfl, ?_⟩) (by assumption) ?_
    rotate_left
    · (intro w hSw; (try dsimp only at hSw); go_simp; try (with_reducible rfl))
    try simp only [Act.put, List.getElem_toArray, List.getElem_cons_zero, List.getElem_cons_succ, List.setIfInBounds_toArray, List.set_cons_zero, List.set_cons_succ]
    refine wpAnyH_take (i := 1) (v := ?_) rfl (by kernel_rfl) (by kernel_rfl) (by kernel_rfl) (fun _ _ _ h => h) (Or.inl ⟨by rfl, ?_⟩) (by assumption) ?_
    rotate_left
    · (intro w hSw; (try dsimp only at hSw); go_simp; try (with_reducible rfl))
    try simp only [Act.put, List.getElem_toArray, List.getElem_cons_zero, List.getElem_cons_succ, List.setIfInBounds_toArray, List.set_cons_zero, List.set_cons_succ]
    refine wpAnyH_take (i := 3) (v := ?_) rfl (by kernel_rfl) (by kernel_rfl) (by kernel_rfl) (fun _ _ _ h => h) (Or.inl ⟨by rfl, ?_⟩) (by assumption) ?_
    rotate_left
    · (intro w hSw; (try dsimp only at hSw); go_simp; try (with_reducible rfl))
    try simp only [Act.put, List.getElem_toArray, List.getElem_cons_zero, List.getElem_cons_succ, List.setIfInBounds_toArray, List.set_cons_zero, List.set_cons_succ]
    refine wpAnyH_take (i := 4) (v := ?_) rfl (by kernel_rfl) (by kernel_rfl) (by kernel_rfl) (fun _ _ _ h => h) (Or.inl ⟨by rfl, ?_⟩) (by assumption) ?_
    rotate_left
    · (intro w hSw; (try dsimp only at hSw); go_simp; try (with_reducible rfl))
    try simp only [Act.put, List.getElem_toArray, List.getElem_cons_zero, List.getElem_cons_succ, List.setIfInBounds_toArray, List.set_cons_zero, List.set_cons_succ]
    refine wpAnyH_ready (rs := [2]) (by kernel_rfl) (by simp) ?_
    refine (AllReadyH.cons rfl (fun K hK => ?_) AllReadyH.nil)
    · refine step_call rfl 39 #[.agg #[.int .i64 a.id, .int .i64 a.team, .int .i64 a.x, .int .i64 a.y, .int .i64 a.depth, .int .i64 a.speed, .int .i64 a.mast, .int .i64 a.noise, .bool a.afloat, .bool a.radar, .bool a.sonar, .bool a.ping], .agg #[.int .i64 t.id, .int .i64 t.team, .int .i64 t.x, .int .i64 t.y, .int .i64 t.depth, .int .i64 t.speed, .int .i64 t.mast, .int .i64 t.noise, .bool t.afloat, .bool t.radar, .bool t.sonar, .bool t.ping]] (by simp [go_sem]) (cA _).out ?_
      rintro e w5 ⟨rfl, b5⟩
      replace b5 := of_drew b5
      have HX5 := hide (HX.out.below b5)
      have HY5 := hide (HY.out.below b5)
      have HZ5 := hide (HZ.out.below b5)
      have HE5 := hide (lec HE.out b5)
      have zS5 := conj36 HX5.out HY5.out HZ5.out
      clear b5
      refine ⟨_, rfl, ?_⟩
      refine hK.out _ _ ?_ (fun hHeld => ?_)
      · (first | exact zS | exact zS5 | exact zS6)
      clear hK K
      try simp only [Act.put, List.getElem_toArray, List.getElem_cons_zero, List.getElem_cons_succ, List.setIfInBounds_toArray, List.set_cons_zero, List.set_cons_succ]
      refine wpAnyH_ready (rs := [5]) (by kernel_rfl) (by simp) ?_
      refine (AllReadyH.cons rfl (fun K hK => ?_) AllReadyH.nil)
      · refine step_call rfl 39 #[.agg #[.int .i64 b.id, .int .i64 b.team, .int .i64 b.x, .int .i64 b.y, .int .i64 b.depth, .int .i64 b.speed, .int .i64 b.mast, .int .i64 b.noise, .bool b.afloat, .bool b.radar, .bool b.sonar, .bool b.ping], .agg #[.int .i64 t.id, .int .i64 t.team, .int .i64 t.x, .int .i64 t.y, .int .i64 t.depth, .int .i64 t.speed, .int .i64 t.mast, .int .i64 t.noise, .bool t.afloat, .bool t.radar, .bool t.sonar, .bool t.ping]] (by simp [go_sem]) (cB _).out ?_
        rintro e w6 ⟨rfl, b6⟩
        skip
        have HX6 := hide (HX5.out.below b6)
        have HY6 := hide (HY5.out.below b6)
        have HZ6 := hide (HZ5.out.below b6)
        have HE6 := hide (lec HE5.out b6)
        have zS6 := conj36 HX6.out HY6.out HZ6.out
        clear b6
        refine ⟨_, rfl, ?_⟩
        refine hK.out _ _ ?_ (fun hHeld => ?_)
        · (first | exact zS | exact zS5 | exact zS6)
        clear hK K
        try simp only [Act.put, List.getElem_toArray, List.getElem_cons_zero, List.getElem_cons_succ, List.setIfInBounds_toArray, List.set_cons_zero, List.set_cons_succ]
        refine wpAnyH_take (i := 6) (v := ?_) rfl (by kernel_rfl) (by kernel_rfl) (by kernel_rfl) (fun _ _ _ h => h) (Or.inl ⟨by rfl, ?_⟩) (by assumption) ?_
        rotate_left
        · (intro w hSw; (try dsimp only at hSw); go_simp; try (with_reducible rfl))
        try simp only [Act.put, List.getElem_toArray, List.getElem_cons_zero, List.getElem_cons_succ, List.setIfInBounds_toArray, List.set_cons_zero, List.set_cons_succ]
        refine wpAnyH_take (i := 7) (v := ?_) rfl (by kernel_rfl) (by kernel_rfl) (by kernel_rfl) (fun _ _ _ h => h) (Or.inl ⟨by rfl, ?_⟩) (by assumption) ?_
        rotate_left
        · (intro w hSw; (try dsimp only at hSw); go_simp; try (with_reducible rfl))
        try simp only [Act.put, List.getElem_toArray, List.getElem_cons_zero, List.getElem_cons_succ, List.setIfInBounds_toArray, List.set_cons_zero, List.set_cons_succ]
        refine wpAnyH_take (i := 8) (v := undef) rfl (by kernel_rfl) (by kernel_rfl) (by kernel_rfl) (fun _ _ _ h => h) (Or.inr ⟨by rfl, rfl⟩) (by assumption) ?_
        try simp only [Act.put, List.getElem_toArray, List.getElem_cons_zero, List.getElem_cons_succ, List.setIfInBounds_toArray, List.set_cons_zero, List.set_cons_succ]
        refine wpAnyH_take (i := 9) (v := undef) rfl (by kernel_rfl) (by kernel_rfl) (by kernel_rfl) (fun _ _ _ h => h) (Or.inr ⟨by rfl, rfl⟩) (by assumption) ?_
        try simp only [Act.put, List.getElem_toArray, List.getElem_cons_zero, List.getElem_cons_succ, List.setIfInBounds_toArray, List.set_cons_zero, List.set_cons_succ]
        refine wpAnyH_take (i := 10) (v := undef) rfl (by kernel_rfl) (by kernel_rfl) (by kernel_rfl) (fun _ _ _ h => h) (Or.inr ⟨by rfl, rfl⟩) (by assumption) ?_
        try simp only [Act.put, List.getElem_toArray, List.getElem_cons_zero, List.getElem_cons_succ, List.setIfInBounds_toArray, List.set_cons_zero, List.set_cons_succ]
        refine wpAnyH_take (i := 11) (v := undef) rfl (by kernel_rfl) (by kernel_rfl) (by kernel_rfl) (fun _ _ _ h => h) (Or.inr ⟨by rfl, rfl⟩) (by assumption) ?_
        try simp only [Act.put, List.getElem_toArray, List.getElem_cons_zero, List.getElem_cons_succ, List.setIfInBounds_toArray, List.set_cons_zero, List.set_cons_succ]
        refine wpAnyH_take (i := 12) (v := undef) rfl (by kernel_rfl) (by kernel_rfl) (by kernel_rfl) (fun _ _ _ h => h) (Or.inr ⟨by rfl, rfl⟩) (by assumption) ?_
        try simp only [Act.put, List.getElem_toArray, List.getElem_cons_zero, List.getElem_cons_succ, List.setIfInBounds_toArray, List.set_cons_zero, List.set_cons_succ]
        refine wpAnyH_take (i := 13) (v := undef) rfl (by kernel_rfl) (by kernel_rfl) (by kernel_rfl) (fun _ _ _ h => h) (Or.inr ⟨by rfl, rfl⟩) (by assumption) ?_
        try simp only [Act.put, List.getElem_toArray, List.getElem_cons_zero, List.getElem_cons_succ, List.setIfInBounds_toArray, List.set_cons_zero, List.set_cons_succ]
        refine wpAnyH_take (i := 14) (v := undef) rfl (by kernel_rfl) (by kernel_rfl) (by kernel_rfl) (fun _ _ _ h => h) (Or.inr ⟨by rfl, rfl⟩) (by assumption) ?_
        try simp only [Act.put, List.getElem_toArray, List.getElem_cons_zero, List.getElem_cons_succ, List.setIfInBounds_toArray, List.set_cons_zero, List.set_cons_succ]
        refine wpAnyH_take (i := 15) (v := undef) rfl (by kernel_rfl) (by kernel_rfl) (by kernel_rfl) (fun _ _ _ h => h) (Or.inr ⟨by rfl, rfl⟩) (by assumption) ?_
        try simp only [Act.put, List.getElem_toArray, List.getElem_cons_zero, List.getElem_cons_succ, List.setIfInBounds_toArray, List.set_cons_zero, List.set_cons_succ]
        refine wpAnyH_take (i := 16) (v := undef) rfl (by kernel_rfl) (by kernel_rfl) (by kernel_rfl) (fun _ _ _ h => h) (Or.inr ⟨by rfl, rfl⟩) (by assumption) ?_
        try simp only [Act.put, List.getElem_toArray, List.getElem_cons_zero, List.getElem_cons_succ, List.setIfInBounds_toArray, List.set_cons_zero, List.set_cons_succ]
        refine wpAnyH_take (i := 17) (v := undef) rfl (by kernel_rfl) (by kernel_rfl) (by kernel_rfl) (fun _ _ _ h => h) (Or.inr ⟨by rfl, rfl⟩) (by assumption) ?_
        try simp only [Act.put, List.getElem_toArray, List.getElem_cons_zero, List.getElem_cons_succ, List.setIfInBounds_toArray, List.set_cons_zero, List.set_cons_succ]
        refine wpAnyH_take (i := 18) (v := undef) rfl (by kernel_rfl) (by kernel_rfl) (by kernel_rfl) (fun _ _ _ h => h) (Or.inr ⟨by rfl, rfl⟩) (by assumption) ?_
        try simp only [Act.put, List.getElem_toArray, List.getElem_cons_zero, List.getElem_cons_succ, List.setIfInBounds_toArray, List.set_cons_zero, List.set_cons_succ]
        refine wpAnyH_take (i := 19) (v := undef) rfl (by kernel_rfl) (by kernel_rfl) (by kernel_rfl) (fun _ _ _ h => h) (Or.inr ⟨by rfl, rfl⟩) (by assumption) ?_
        try simp only [Act.put, List.getElem_toArray, List.getElem_cons_zero, List.getElem_cons_succ, List.setIfInBounds_toArray, List.set_cons_zero, List.set_cons_succ]
        refine wpAnyH_take (i := 20) (v := undef) rfl (by kernel_rfl) (by kernel_rfl) (by kernel_rfl) (fun _ _ _ h => h) (Or.inr ⟨by rfl, rfl⟩) (by assumption) ?_
        try simp only [Act.put, List.getElem_toArray, List.getElem_cons_zero, List.getElem_cons_succ, List.setIfInBounds_toArray, List.set_cons_zero, List.set_cons_succ]
        refine wpAnyH_take (i := 21) (v := undef) rfl (by kernel_rfl) (by kernel_rfl) (by kernel_rfl) (fun _ _ _ h => h) (Or.inr ⟨by rfl, rfl⟩) (by assumption) ?_
        try simp only [Act.put, List.getElem_toArray, List.getElem_cons_zero, List.getElem_cons_succ, List.setIfInBounds_toArray, List.set_cons_zero, List.set_cons_succ]
        refine wpAnyH_take (i := 22) (v := ?_) rfl (by kernel_rfl) (by kernel_rfl) (by kernel_rfl) (fun _ _ _ h => h) (Or.inl ⟨by rfl, ?_⟩) (by assumption) ?_
        rotate_left
        · (intro w hSw; (try dsimp only at hSw); go_simp; try (with_reducible rfl))
        try simp only [Act.put, List.getElem_toArray, List.getElem_cons_zero, List.getElem_cons_succ, List.setIfInBounds_toArray, List.set_cons_zero, List.set_cons_succ]
        refine wpAnyH_take (i := 23) (v := ?_) rfl (by kernel_rfl) (by kernel_rfl) (by kernel_rfl) (fun _ _ _ h => h) (Or.inl ⟨by rfl, ?_⟩) (by assumption) ?_
        rotate_left
        · (intro w hSw; (try dsimp only at hSw); go_simp; try (with_reducible rfl))
        try simp only [Act.put, List.getElem_toArray, List.getElem_cons_zero, List.getElem_cons_succ, List.setIfInBounds_toArray, List.set_cons_zero, List.set_cons_succ]
        refine wpAnyH_done (by kernel_rfl) ?_ _
        go_wp2
        go_ret
        exact ⟨ret_bool (by simp [hlt]), HE6.out⟩
  · by_cases hne : da = db
    · have heb : (da == db) = true := by simp [hne]
      have HEQ := hide hne
      clear hne
      have zS := conj36 HX.out HY.out HZ.out
      refine wp_region_held_drew (S := fun w' => w'.cell? ⟨q, 0, none⟩ = some (.int .i64 a.id) ∧ w'.cell? ⟨q, 1, none⟩ = some (.int .i64 a.team) ∧ w'.cell? ⟨q, 2, none⟩ = some (.int .i64 a.x) ∧ w'.cell? ⟨q, 3, none⟩ = some (.int .i64 a.y) ∧ w'.cell? ⟨q, 4, none⟩ = some (.int .i64 a.depth) ∧ w'.cell? ⟨q, 5, none⟩ = some (.int .i64 a.speed) ∧ w'.cell? ⟨q, 6, none⟩ = some (.int .i64 a.mast) ∧ w'.cell? ⟨q, 7, none⟩ = some (.int .i64 a.noise) ∧ w'.cell? ⟨q, 8, none⟩ = some (.bool a.afloat) ∧ w'.cell? ⟨q, 9, none⟩ = some (.bool a.radar) ∧ w'.cell? ⟨q, 10, none⟩ = some (.bool a.sonar) ∧ w'.cell? ⟨q, 11, none⟩ = some (.bool a.ping) ∧ w'.cell? ⟨q2, 0, none⟩ = some (.int .i64 b.id) ∧ w'.cell? ⟨q2, 1, none⟩ = some (.int .i64 b.team) ∧ w'.cell? ⟨q2, 2, none⟩ = some (.int .i64 b.x) ∧ w'.cell? ⟨q2, 3, none⟩ = some (.int .i64 b.y) ∧ w'.cell? ⟨q2, 4, none⟩ = some (.int .i64 b.depth) ∧ w'.cell? ⟨q2, 5, none⟩ = some (.int .i64 b.speed) ∧ w'.cell? ⟨q2, 6, none⟩ = some (.int .i64 b.mast) ∧ w'.cell? ⟨q2, 7, none⟩ = some (.int .i64 b.noise) ∧ w'.cell? ⟨q2, 8, none⟩ = some (.bool b.afloat) ∧ w'.cell? ⟨q2, 9, none⟩ = some (.bool b.radar) ∧ w'.cell? ⟨q2, 10, none⟩ = some (.bool b.sonar) ∧ w'.cell? ⟨q2, 11, none⟩ = some (.bool b.ping) ∧ w'.cell? ⟨q3, 0, none⟩ = some (.int .i64 t.id) ∧ w'.cell? ⟨q3, 1, none⟩ = some (.int .i64 t.team) ∧ w'.cell? ⟨q3, 2, none⟩ = some (.int .i64 t.x) ∧ w'.cell? ⟨q3, 3, none⟩ = some (.int .i64 t.y) ∧ w'.cell? ⟨q3, 4, none⟩ = some (.int .i64 t.depth) ∧ w'.cell? ⟨q3, 5, none⟩ = some (.int .i64 t.speed) ∧ w'.cell? ⟨q3, 6, none⟩ = some (.int .i64 t.mast) ∧ w'.cell? ⟨q3, 7, none⟩ = some (.int .i64 t.noise) ∧ w'.cell? ⟨q3, 8, none⟩ = some (.bool t.afloat) ∧ w'.cell? ⟨q3, 9, none⟩ = some (.bool t.radar) ∧ w'.cell? ⟨q3, 10, none⟩ = some (.bool t.sonar) ∧ w'.cell? ⟨q3, 11, none⟩ = some (.bool t.ping)) (by kernel_rfl) zS (fun hHeld => ?_)
      refine wpAnyH_take (i := 0) (v := ?_) rfl (by kernel_rfl) (by kernel_rfl) (by kernel_rfl) (fun _ _ _ h => h) (Or.inl ⟨by rfl, ?_⟩) (by assumption) ?_
      rotate_left
      · (intro w hSw; (try dsimp only at hSw); go_simp; try (with_reducible rfl))
      try simp only [Act.put, List.getElem_toArray, List.getElem_cons_zero, List.getElem_cons_succ, List.setIfInBounds_toArray, List.set_cons_zero, List.set_cons_succ]
      refine wpAnyH_take (i := 1) (v := ?_) rfl (by kernel_rfl) (by kernel_rfl) (by kernel_rfl) (fun _ _ _ h => h) (Or.inl ⟨by rfl, ?_⟩) (by assumption) ?_
      rotate_left
      · (intro w hSw; (try dsimp only at hSw); go_simp; try (with_reducible rfl))
      try simp only [Act.put, List.getElem_toArray, List.getElem_cons_zero, List.getElem_cons_succ, List.setIfInBounds_toArray, List.set_cons_zero, List.set_cons_succ]
      refine wpAnyH_take (i := 3) (v := ?_) rfl (by kernel_rfl) (by kernel_rfl) (by kernel_rfl) (fun _ _ _ h => h) (Or.inl ⟨by rfl, ?_⟩) (by assumption) ?_
      rotate_left
      · (intro w hSw; (try dsimp only at hSw); go_simp; try (with_reducible rfl))
      try simp only [Act.put, List.getElem_toArray, List.getElem_cons_zero, List.getElem_cons_succ, List.setIfInBounds_toArray, List.set_cons_zero, List.set_cons_succ]
      refine wpAnyH_take (i := 4) (v := ?_) rfl (by kernel_rfl) (by kernel_rfl) (by kernel_rfl) (fun _ _ _ h => h) (Or.inl ⟨by rfl, ?_⟩) (by assumption) ?_
      rotate_left
      · (intro w hSw; (try dsimp only at hSw); go_simp; try (with_reducible rfl))
      try simp only [Act.put, List.getElem_toArray, List.getElem_cons_zero, List.getElem_cons_succ, List.setIfInBounds_toArray, List.set_cons_zero, List.set_cons_succ]
      refine wpAnyH_ready (rs := [2]) (by kernel_rfl) (by simp) ?_
      refine (AllReadyH.cons rfl (fun K hK => ?_) AllReadyH.nil)
      · refine step_call rfl 39 #[.agg #[.int .i64 a.id, .int .i64 a.team, .int .i64 a.x, .int .i64 a.y, .int .i64 a.depth, .int .i64 a.speed, .int .i64 a.mast, .int .i64 a.noise, .bool a.afloat, .bool a.radar, .bool a.sonar, .bool a.ping], .agg #[.int .i64 t.id, .int .i64 t.team, .int .i64 t.x, .int .i64 t.y, .int .i64 t.depth, .int .i64 t.speed, .int .i64 t.mast, .int .i64 t.noise, .bool t.afloat, .bool t.radar, .bool t.sonar, .bool t.ping]] (by simp [go_sem]) (cA _).out ?_
        rintro e w5 ⟨rfl, b5⟩
        replace b5 := of_drew b5
        have HX5 := hide (HX.out.below b5)
        have HY5 := hide (HY.out.below b5)
        have HZ5 := hide (HZ.out.below b5)
        have HE5 := hide (lec HE.out b5)
        have zS5 := conj36 HX5.out HY5.out HZ5.out
        clear b5
        refine ⟨_, rfl, ?_⟩
        refine hK.out _ _ ?_ (fun hHeld => ?_)
        · (first | exact zS | exact zS5 | exact zS6 | exact zS7 | exact zS8)
        clear hK K
        try simp only [Act.put, List.getElem_toArray, List.getElem_cons_zero, List.getElem_cons_succ, List.setIfInBounds_toArray, List.set_cons_zero, List.set_cons_succ]
        refine wpAnyH_ready (rs := [5]) (by kernel_rfl) (by simp) ?_
        refine (AllReadyH.cons rfl (fun K hK => ?_) AllReadyH.nil)
        · refine step_call rfl 39 #[.agg #[.int .i64 b.id, .int .i64 b.team, .int .i64 b.x, .int .i64 b.y, .int .i64 b.depth, .int .i64 b.speed, .int .i64 b.mast, .int .i64 b.noise, .bool b.afloat, .bool b.radar, .bool b.sonar, .bool b.ping], .agg #[.int .i64 t.id, .int .i64 t.team, .int .i64 t.x, .int .i64 t.y, .int .i64 t.depth, .int .i64 t.speed, .int .i64 t.mast, .int .i64 t.noise, .bool t.afloat, .bool t.radar, .bool t.sonar, .bool t.ping]] (by simp [go_sem]) (cB _).out ?_
          rintro e w6 ⟨rfl, b6⟩
          skip
          have HX6 := hide (HX5.out.below b6)
          have HY6 := hide (HY5.out.below b6)
          have HZ6 := hide (HZ5.out.below b6)
          have HE6 := hide (lec HE5.out b6)
          have zS6 := conj36 HX6.out HY6.out HZ6.out
          clear b6
          refine ⟨_, rfl, ?_⟩
          refine hK.out _ _ ?_ (fun hHeld => ?_)
          · (first | exact zS | exact zS5 | exact zS6 | exact zS7 | exact zS8)
          clear hK K
          try simp only [Act.put, List.getElem_toArray, List.getElem_cons_zero, List.getElem_cons_succ, List.setIfInBounds_toArray, List.set_cons_zero, List.set_cons_succ]
          refine wpAnyH_take (i := 6) (v := ?_) rfl (by kernel_rfl) (by kernel_rfl) (by kernel_rfl) (fun _ _ _ h => h) (Or.inl ⟨by rfl, ?_⟩) (by assumption) ?_
          rotate_left
          · (intro w hSw; (try dsimp only at hSw); go_simp; try (with_reducible rfl))
          try simp only [Act.put, List.getElem_toArray, List.getElem_cons_zero, List.getElem_cons_succ, List.setIfInBounds_toArray, List.set_cons_zero, List.set_cons_succ]
          refine wpAnyH_take (i := 7) (v := ?_) rfl (by kernel_rfl) (by kernel_rfl) (by kernel_rfl) (fun _ _ _ h => h) (Or.inl ⟨by rfl, ?_⟩) (by assumption) ?_
          rotate_left
          · (intro w hSw; (try dsimp only at hSw); go_simp; try (with_reducible rfl))
          try simp only [Act.put, List.getElem_toArray, List.getElem_cons_zero, List.getElem_cons_succ, List.setIfInBounds_toArray, List.set_cons_zero, List.set_cons_succ]
          refine wpAnyH_take (i := 8) (v := ?_) rfl (by kernel_rfl) (by kernel_rfl) (by kernel_rfl) (fun _ _ _ h => h) (Or.inl ⟨by rfl, ?_⟩) (by assumption) ?_
          rotate_left
          · (intro w hSw; (try dsimp only at hSw); go_simp; try (with_reducible rfl))
          try simp only [Act.put, List.getElem_toArray, List.getElem_cons_zero, List.getElem_cons_succ, List.setIfInBounds_toArray, List.set_cons_zero, List.set_cons_succ]
          refine wpAnyH_take (i := 9) (v := ?_) rfl (by kernel_rfl) (by kernel_rfl) (by kernel_rfl) (fun _ _ _ h => h) (Or.inl ⟨by rfl, ?_⟩) (by assumption) ?_
          rotate_left
          · (intro w hSw; (try dsimp only at hSw); go_simp; try (with_reducible rfl))
          try simp only [Act.put, List.getElem_toArray, List.getElem_cons_zero, List.getElem_cons_succ, List.setIfInBounds_toArray, List.set_cons_zero, List.set_cons_succ]
          refine wpAnyH_take (i := 11) (v := ?_) rfl (by kernel_rfl) (by kernel_rfl) (by kernel_rfl) (fun _ _ _ h => h) (Or.inl ⟨by rfl, ?_⟩) (by assumption) ?_
          rotate_left
          · (intro w hSw; (try dsimp only at hSw); go_simp; try (with_reducible rfl))
          try simp only [Act.put, List.getElem_toArray, List.getElem_cons_zero, List.getElem_cons_succ, List.setIfInBounds_toArray, List.set_cons_zero, List.set_cons_succ]
          refine wpAnyH_take (i := 12) (v := ?_) rfl (by kernel_rfl) (by kernel_rfl) (by kernel_rfl) (fun _ _ _ h => h) (Or.inl ⟨by rfl, ?_⟩) (by assumption) ?_
          rotate_left
          · (intro w hSw; (try dsimp only at hSw); go_simp; try (with_reducible rfl))
          try simp only [Act.put, List.getElem_toArray, List.getElem_cons_zero, List.getElem_cons_succ, List.setIfInBounds_toArray, List.set_cons_zero, List.set_cons_succ]
          refine wpAnyH_ready (rs := [10]) (by kernel_rfl) (by simp) ?_
          refine (AllReadyH.cons rfl (fun K hK => ?_) AllReadyH.nil)
          · refine step_call_g (by rfl) 39 #[.agg #[.int .i64 a.id, .int .i64 a.team, .int .i64 a.x, .int .i64 a.y, .int .i64 a.depth, .int .i64 a.speed, .int .i64 a.mast, .int .i64 a.noise, .bool a.afloat, .bool a.radar, .bool a.sonar, .bool a.ping], .agg #[.int .i64 t.id, .int .i64 t.team, .int .i64 t.x, .int .i64 t.y, .int .i64 t.depth, .int .i64 t.speed, .int .i64 t.mast, .int .i64 t.noise, .bool t.afloat, .bool t.radar, .bool t.sonar, .bool t.ping]] (by simp [go_sem]) (cA _).out ?_
            rintro e w7 ⟨rfl, b7⟩
            skip
            have HX7 := hide (HX6.out.below b7)
            have HY7 := hide (HY6.out.below b7)
            have HZ7 := hide (HZ6.out.below b7)
            have HE7 := hide (lec HE6.out b7)
            have zS7 := conj36 HX7.out HY7.out HZ7.out
            clear b7
            refine ⟨_, rfl, ?_⟩
            refine hK.out _ _ ?_ (fun hHeld => ?_)
            · (first | exact zS | exact zS5 | exact zS6 | exact zS7 | exact zS8)
            clear hK K
            try simp only [Act.put, List.getElem_toArray, List.getElem_cons_zero, List.getElem_cons_succ, List.setIfInBounds_toArray, List.set_cons_zero, List.set_cons_succ]
            refine wpAnyH_ready (rs := [13]) (by kernel_rfl) (by simp) ?_
            refine (AllReadyH.cons rfl (fun K hK => ?_) AllReadyH.nil)
            · refine step_call_g (by rfl) 39 #[.agg #[.int .i64 b.id, .int .i64 b.team, .int .i64 b.x, .int .i64 b.y, .int .i64 b.depth, .int .i64 b.speed, .int .i64 b.mast, .int .i64 b.noise, .bool b.afloat, .bool b.radar, .bool b.sonar, .bool b.ping], .agg #[.int .i64 t.id, .int .i64 t.team, .int .i64 t.x, .int .i64 t.y, .int .i64 t.depth, .int .i64 t.speed, .int .i64 t.mast, .int .i64 t.noise, .bool t.afloat, .bool t.radar, .bool t.sonar, .bool t.ping]] (by simp [go_sem]) (cB _).out ?_
              rintro e w8 ⟨rfl, b8⟩
              skip
              have HX8 := hide (HX7.out.below b8)
              have HY8 := hide (HY7.out.below b8)
              have HZ8 := hide (HZ7.out.below b8)
              have HE8 := hide (lec HE7.out b8)
              have zS8 := conj36 HX8.out HY8.out HZ8.out
              clear b8
              refine ⟨_, rfl, ?_⟩
              refine hK.out _ _ ?_ (fun hHeld => ?_)
              · (first | exact zS | exact zS5 | exact zS6 | exact zS7 | exact zS8)
              clear hK K
              try simp only [Act.put, List.getElem_toArray, List.getElem_cons_zero, List.getElem_cons_succ, List.setIfInBounds_toArray, List.set_cons_zero, List.set_cons_succ]
              refine wpAnyH_take (i := 14) (v := ?_) rfl (by kernel_rfl) (by kernel_rfl) (by kernel_rfl) (fun _ _ _ h => h) (Or.inl ⟨by rfl, ?_⟩) (by assumption) ?_
              rotate_left
              · (intro w hSw; (try dsimp only at hSw); go_simp; try (with_reducible rfl))
              try simp only [Act.put, List.getElem_toArray, List.getElem_cons_zero, List.getElem_cons_succ, List.setIfInBounds_toArray, List.set_cons_zero, List.set_cons_succ]
              refine wpAnyH_take (i := 15) (v := ?_) rfl (by kernel_rfl) (by kernel_rfl) (by kernel_rfl) (fun _ _ _ h => h) (Or.inl ⟨by rfl, ?_⟩) (by assumption) ?_
              rotate_left
              · (intro w hSw; (try dsimp only at hSw); go_simp; try (with_reducible rfl))
              try simp only [Act.put, List.getElem_toArray, List.getElem_cons_zero, List.getElem_cons_succ, List.setIfInBounds_toArray, List.set_cons_zero, List.set_cons_succ]
              refine wpAnyH_take (i := 16) (v := ?_) rfl (by kernel_rfl) (by kernel_rfl) (by kernel_rfl) (fun _ _ _ h => h) (Or.inl ⟨by rfl, ?_⟩) (by assumption) ?_
              rotate_left
              · (intro w hSw; (try dsimp only at hSw); go_simp; try (with_reducible rfl))
              try simp only [Act.put, List.getElem_toArray, List.getElem_cons_zero, List.getElem_cons_succ, List.setIfInBounds_toArray, List.set_cons_zero, List.set_cons_succ]
              refine wpAnyH_take (i := 17) (v := ?_) rfl (by kernel_rfl) (by kernel_rfl) (by kernel_rfl) (fun _ _ _ h => h) (Or.inl ⟨by rfl, ?_⟩) (by assumption) ?_
              rotate_left
              · (intro w hSw; (try dsimp only at hSw); go_simp; try (with_reducible rfl))
              try simp only [Act.put, List.getElem_toArray, List.getElem_cons_zero, List.getElem_cons_succ, List.setIfInBounds_toArray, List.set_cons_zero, List.set_cons_succ]
              refine wpAnyH_take (i := 18) (v := ?_) rfl (by kernel_rfl) (by kernel_rfl) (by kernel_rfl) (fun _ _ _ h => h) (Or.inl ⟨by rfl, ?_⟩) (by assumption) ?_
              rotate_left
              · (intro w hSw; (try dsimp only at hSw); go_simp; try (with_reducible rfl))
              try simp only [Act.put, List.getElem_toArray, List.getElem_cons_zero, List.getElem_cons_succ, List.setIfInBounds_toArray, List.set_cons_zero, List.set_cons_succ]
              refine wpAnyH_take (i := 19) (v := ?_) rfl (by kernel_rfl) (by kernel_rfl) (by kernel_rfl) (fun _ _ _ h => h) (Or.inl ⟨by rfl, ?_⟩) (by assumption) ?_
              rotate_left
              · (intro w hSw; (try dsimp only at hSw); go_simp; try (with_reducible rfl))
              try simp only [Act.put, List.getElem_toArray, List.getElem_cons_zero, List.getElem_cons_succ, List.setIfInBounds_toArray, List.set_cons_zero, List.set_cons_succ]
              refine wpAnyH_take (i := 20) (v := ?_) rfl (by kernel_rfl) (by kernel_rfl) (by kernel_rfl) (fun _ _ _ h => h) (Or.inl ⟨by rfl, ?_⟩) (by assumption) ?_
              rotate_left
              · (intro w hSw; (try dsimp only at hSw); go_simp; try (with_reducible rfl))
              try simp only [Act.put, List.getElem_toArray, List.getElem_cons_zero, List.getElem_cons_succ, List.setIfInBounds_toArray, List.set_cons_zero, List.set_cons_succ]
              refine wpAnyH_take (i := 21) (v := ?_) rfl (by kernel_rfl) (by kernel_rfl) (by kernel_rfl) (fun _ _ _ h => h) (Or.inl ⟨by rfl, ?_⟩) (by assumption) ?_
              rotate_left
              · (intro w hSw; (try dsimp only at hSw); go_simp; try (with_reducible rfl))
              try simp only [Act.put, List.getElem_toArray, List.getElem_cons_zero, List.getElem_cons_succ, List.setIfInBounds_toArray, List.set_cons_zero, List.set_cons_succ]
              refine wpAnyH_take (i := 22) (v := ?_) rfl (by kernel_rfl) (by kernel_rfl) (by kernel_rfl) (fun _ _ _ h => h) (Or.inl ⟨by rfl, ?_⟩) (by assumption) ?_
              rotate_left
              · (intro w hSw; (try dsimp only at hSw); go_simp; try (with_reducible rfl))
              try simp only [Act.put, List.getElem_toArray, List.getElem_cons_zero, List.getElem_cons_succ, List.setIfInBounds_toArray, List.set_cons_zero, List.set_cons_succ]
              refine wpAnyH_take (i := 23) (v := ?_) rfl (by kernel_rfl) (by kernel_rfl) (by kernel_rfl) (fun _ _ _ h => h) (Or.inl ⟨by rfl, ?_⟩) (by assumption) ?_
              rotate_left
              · (intro w hSw; (try dsimp only at hSw); go_simp; try (with_reducible rfl))
              try simp only [Act.put, List.getElem_toArray, List.getElem_cons_zero, List.getElem_cons_succ, List.setIfInBounds_toArray, List.set_cons_zero, List.set_cons_succ]
              refine wpAnyH_done (by kernel_rfl) ?_ _
              go_wp2
              go_ret
              exact ⟨ret_bool (by rw [HEQ.out]; simp), HE8.out⟩
    · have heb : (da == db) = false := by simp [hne]
      have zS := conj36 HX.out HY.out HZ.out
      refine wp_region_held_drew (S := fun w' => w'.cell? ⟨q, 0, none⟩ = some (.int .i64 a.id) ∧ w'.cell? ⟨q, 1, none⟩ = some (.int .i64 a.team) ∧ w'.cell? ⟨q, 2, none⟩ = some (.int .i64 a.x) ∧ w'.cell? ⟨q, 3, none⟩ = some (.int .i64 a.y) ∧ w'.cell? ⟨q, 4, none⟩ = some (.int .i64 a.depth) ∧ w'.cell? ⟨q, 5, none⟩ = some (.int .i64 a.speed) ∧ w'.cell? ⟨q, 6, none⟩ = some (.int .i64 a.mast) ∧ w'.cell? ⟨q, 7, none⟩ = some (.int .i64 a.noise) ∧ w'.cell? ⟨q, 8, none⟩ = some (.bool a.afloat) ∧ w'.cell? ⟨q, 9, none⟩ = some (.bool a.radar) ∧ w'.cell? ⟨q, 10, none⟩ = some (.bool a.sonar) ∧ w'.cell? ⟨q, 11, none⟩ = some (.bool a.ping) ∧ w'.cell? ⟨q2, 0, none⟩ = some (.int .i64 b.id) ∧ w'.cell? ⟨q2, 1, none⟩ = some (.int .i64 b.team) ∧ w'.cell? ⟨q2, 2, none⟩ = some (.int .i64 b.x) ∧ w'.cell? ⟨q2, 3, none⟩ = some (.int .i64 b.y) ∧ w'.cell? ⟨q2, 4, none⟩ = some (.int .i64 b.depth) ∧ w'.cell? ⟨q2, 5, none⟩ = some (.int .i64 b.speed) ∧ w'.cell? ⟨q2, 6, none⟩ = some (.int .i64 b.mast) ∧ w'.cell? ⟨q2, 7, none⟩ = some (.int .i64 b.noise) ∧ w'.cell? ⟨q2, 8, none⟩ = some (.bool b.afloat) ∧ w'.cell? ⟨q2, 9, none⟩ = some (.bool b.radar) ∧ w'.cell? ⟨q2, 10, none⟩ = some (.bool b.sonar) ∧ w'.cell? ⟨q2, 11, none⟩ = some (.bool b.ping) ∧ w'.cell? ⟨q3, 0, none⟩ = some (.int .i64 t.id) ∧ w'.cell? ⟨q3, 1, none⟩ = some (.int .i64 t.team) ∧ w'.cell? ⟨q3, 2, none⟩ = some (.int .i64 t.x) ∧ w'.cell? ⟨q3, 3, none⟩ = some (.int .i64 t.y) ∧ w'.cell? ⟨q3, 4, none⟩ = some (.int .i64 t.depth) ∧ w'.cell? ⟨q3, 5, none⟩ = some (.int .i64 t.speed) ∧ w'.cell? ⟨q3, 6, none⟩ = some (.int .i64 t.mast) ∧ w'.cell? ⟨q3, 7, none⟩ = some (.int .i64 t.noise) ∧ w'.cell? ⟨q3, 8, none⟩ = some (.bool t.afloat) ∧ w'.cell? ⟨q3, 9, none⟩ = some (.bool t.radar) ∧ w'.cell? ⟨q3, 10, none⟩ = some (.bool t.sonar) ∧ w'.cell? ⟨q3, 11, none⟩ = some (.bool t.ping)) (by kernel_rfl) zS (fun hHeld => ?_)
      refine wpAnyH_take (i := 0) (v := ?_) rfl (by kernel_rfl) (by kernel_rfl) (by kernel_rfl) (fun _ _ _ h => h) (Or.inl ⟨by rfl, ?_⟩) (by assumption) ?_
      rotate_left
      · (intro w hSw; (try dsimp only at hSw); go_simp; try (with_reducible rfl))
      try simp only [Act.put, List.getElem_toArray, List.getElem_cons_zero, List.getElem_cons_succ, List.setIfInBounds_toArray, List.set_cons_zero, List.set_cons_succ]
      refine wpAnyH_take (i := 1) (v := ?_) rfl (by kernel_rfl) (by kernel_rfl) (by kernel_rfl) (fun _ _ _ h => h) (Or.inl ⟨by rfl, ?_⟩) (by assumption) ?_
      rotate_left
      · (intro w hSw; (try dsimp only at hSw); go_simp; try (with_reducible rfl))
      try simp only [Act.put, List.getElem_toArray, List.getElem_cons_zero, List.getElem_cons_succ, List.setIfInBounds_toArray, List.set_cons_zero, List.set_cons_succ]
      refine wpAnyH_take (i := 3) (v := ?_) rfl (by kernel_rfl) (by kernel_rfl) (by kernel_rfl) (fun _ _ _ h => h) (Or.inl ⟨by rfl, ?_⟩) (by assumption) ?_
      rotate_left
      · (intro w hSw; (try dsimp only at hSw); go_simp; try (with_reducible rfl))
      try simp only [Act.put, List.getElem_toArray, List.getElem_cons_zero, List.getElem_cons_succ, List.setIfInBounds_toArray, List.set_cons_zero, List.set_cons_succ]
      refine wpAnyH_take (i := 4) (v := ?_) rfl (by kernel_rfl) (by kernel_rfl) (by kernel_rfl) (fun _ _ _ h => h) (Or.inl ⟨by rfl, ?_⟩) (by assumption) ?_
      rotate_left
      · (intro w hSw; (try dsimp only at hSw); go_simp; try (with_reducible rfl))
      try simp only [Act.put, List.getElem_toArray, List.getElem_cons_zero, List.getElem_cons_succ, List.setIfInBounds_toArray, List.set_cons_zero, List.set_cons_succ]
      refine wpAnyH_ready (rs := [2]) (by kernel_rfl) (by simp) ?_
      refine (AllReadyH.cons rfl (fun K hK => ?_) AllReadyH.nil)
      · refine step_call rfl 39 #[.agg #[.int .i64 a.id, .int .i64 a.team, .int .i64 a.x, .int .i64 a.y, .int .i64 a.depth, .int .i64 a.speed, .int .i64 a.mast, .int .i64 a.noise, .bool a.afloat, .bool a.radar, .bool a.sonar, .bool a.ping], .agg #[.int .i64 t.id, .int .i64 t.team, .int .i64 t.x, .int .i64 t.y, .int .i64 t.depth, .int .i64 t.speed, .int .i64 t.mast, .int .i64 t.noise, .bool t.afloat, .bool t.radar, .bool t.sonar, .bool t.ping]] (by simp [go_sem]) (cA _).out ?_
        rintro e w5 ⟨rfl, b5⟩
        replace b5 := of_drew b5
        have HX5 := hide (HX.out.below b5)
        have HY5 := hide (HY.out.below b5)
        have HZ5 := hide (HZ.out.below b5)
        have HE5 := hide (lec HE.out b5)
        have zS5 := conj36 HX5.out HY5.out HZ5.out
        clear b5
        refine ⟨_, rfl, ?_⟩
        refine hK.out _ _ ?_ (fun hHeld => ?_)
        · (first | exact zS | exact zS5 | exact zS6 | exact zS7 | exact zS8)
        clear hK K
        try simp only [Act.put, List.getElem_toArray, List.getElem_cons_zero, List.getElem_cons_succ, List.setIfInBounds_toArray, List.set_cons_zero, List.set_cons_succ]
        refine wpAnyH_ready (rs := [5]) (by kernel_rfl) (by simp) ?_
        refine (AllReadyH.cons rfl (fun K hK => ?_) AllReadyH.nil)
        · refine step_call rfl 39 #[.agg #[.int .i64 b.id, .int .i64 b.team, .int .i64 b.x, .int .i64 b.y, .int .i64 b.depth, .int .i64 b.speed, .int .i64 b.mast, .int .i64 b.noise, .bool b.afloat, .bool b.radar, .bool b.sonar, .bool b.ping], .agg #[.int .i64 t.id, .int .i64 t.team, .int .i64 t.x, .int .i64 t.y, .int .i64 t.depth, .int .i64 t.speed, .int .i64 t.mast, .int .i64 t.noise, .bool t.afloat, .bool t.radar, .bool t.sonar, .bool t.ping]] (by simp [go_sem]) (cB _).out ?_
          rintro e w6 ⟨rfl, b6⟩
          skip
          have HX6 := hide (HX5.out.below b6)
          have HY6 := hide (HY5.out.below b6)
          have HZ6 := hide (HZ5.out.below b6)
          have HE6 := hide (lec HE5.out b6)
          have zS6 := conj36 HX6.out HY6.out HZ6.out
          clear b6
          refine ⟨_, rfl, ?_⟩
          refine hK.out _ _ ?_ (fun hHeld => ?_)
          · (first | exact zS | exact zS5 | exact zS6 | exact zS7 | exact zS8)
          clear hK K
          try simp only [Act.put, List.getElem_toArray, List.getElem_cons_zero, List.getElem_cons_succ, List.setIfInBounds_toArray, List.set_cons_zero, List.set_cons_succ]
          refine wpAnyH_take (i := 6) (v := ?_) rfl (by kernel_rfl) (by kernel_rfl) (by kernel_rfl) (fun _ _ _ h => h) (Or.inl ⟨by rfl, ?_⟩) (by assumption) ?_
          rotate_left
          · (intro w hSw; (try dsimp only at hSw); go_simp; try (with_reducible rfl))
          try simp only [Act.put, List.getElem_toArray, List.getElem_cons_zero, List.getElem_cons_succ, List.setIfInBounds_toArray, List.set_cons_zero, List.set_cons_succ]
          refine wpAnyH_take (i := 7) (v := ?_) rfl (by kernel_rfl) (by kernel_rfl) (by kernel_rfl) (fun _ _ _ h => h) (Or.inl ⟨by rfl, ?_⟩) (by assumption) ?_
          rotate_left
          · (intro w hSw; (try dsimp only at hSw); go_simp; try (with_reducible rfl))
          try simp only [Act.put, List.getElem_toArray, List.getElem_cons_zero, List.getElem_cons_succ, List.setIfInBounds_toArray, List.set_cons_zero, List.set_cons_succ]
          refine wpAnyH_take (i := 8) (v := ?_) rfl (by kernel_rfl) (by kernel_rfl) (by kernel_rfl) (fun _ _ _ h => h) (Or.inl ⟨by rfl, ?_⟩) (by assumption) ?_
          rotate_left
          · (intro w hSw; (try dsimp only at hSw); go_simp; try (with_reducible rfl))
          try simp only [Act.put, List.getElem_toArray, List.getElem_cons_zero, List.getElem_cons_succ, List.setIfInBounds_toArray, List.set_cons_zero, List.set_cons_succ]
          refine wpAnyH_take (i := 9) (v := ?_) rfl (by kernel_rfl) (by kernel_rfl) (by kernel_rfl) (fun _ _ _ h => h) (Or.inl ⟨by rfl, ?_⟩) (by assumption) ?_
          rotate_left
          · (intro w hSw; (try dsimp only at hSw); go_simp; try (with_reducible rfl))
          try simp only [Act.put, List.getElem_toArray, List.getElem_cons_zero, List.getElem_cons_succ, List.setIfInBounds_toArray, List.set_cons_zero, List.set_cons_succ]
          refine wpAnyH_take (i := 11) (v := ?_) rfl (by kernel_rfl) (by kernel_rfl) (by kernel_rfl) (fun _ _ _ h => h) (Or.inl ⟨by rfl, ?_⟩) (by assumption) ?_
          rotate_left
          · (intro w hSw; (try dsimp only at hSw); go_simp; try (with_reducible rfl))
          try simp only [Act.put, List.getElem_toArray, List.getElem_cons_zero, List.getElem_cons_succ, List.setIfInBounds_toArray, List.set_cons_zero, List.set_cons_succ]
          refine wpAnyH_take (i := 12) (v := ?_) rfl (by kernel_rfl) (by kernel_rfl) (by kernel_rfl) (fun _ _ _ h => h) (Or.inl ⟨by rfl, ?_⟩) (by assumption) ?_
          rotate_left
          · (intro w hSw; (try dsimp only at hSw); go_simp; try (with_reducible rfl))
          try simp only [Act.put, List.getElem_toArray, List.getElem_cons_zero, List.getElem_cons_succ, List.setIfInBounds_toArray, List.set_cons_zero, List.set_cons_succ]
          refine wpAnyH_ready (rs := [10]) (by kernel_rfl) (by simp) ?_
          refine (AllReadyH.cons rfl (fun K hK => ?_) AllReadyH.nil)
          · refine step_call_g (by rfl) 39 #[.agg #[.int .i64 a.id, .int .i64 a.team, .int .i64 a.x, .int .i64 a.y, .int .i64 a.depth, .int .i64 a.speed, .int .i64 a.mast, .int .i64 a.noise, .bool a.afloat, .bool a.radar, .bool a.sonar, .bool a.ping], .agg #[.int .i64 t.id, .int .i64 t.team, .int .i64 t.x, .int .i64 t.y, .int .i64 t.depth, .int .i64 t.speed, .int .i64 t.mast, .int .i64 t.noise, .bool t.afloat, .bool t.radar, .bool t.sonar, .bool t.ping]] (by simp [go_sem]) (cA _).out ?_
            rintro e w7 ⟨rfl, b7⟩
            skip
            have HX7 := hide (HX6.out.below b7)
            have HY7 := hide (HY6.out.below b7)
            have HZ7 := hide (HZ6.out.below b7)
            have HE7 := hide (lec HE6.out b7)
            have zS7 := conj36 HX7.out HY7.out HZ7.out
            clear b7
            refine ⟨_, rfl, ?_⟩
            refine hK.out _ _ ?_ (fun hHeld => ?_)
            · (first | exact zS | exact zS5 | exact zS6 | exact zS7 | exact zS8)
            clear hK K
            try simp only [Act.put, List.getElem_toArray, List.getElem_cons_zero, List.getElem_cons_succ, List.setIfInBounds_toArray, List.set_cons_zero, List.set_cons_succ]
            refine wpAnyH_ready (rs := [13]) (by kernel_rfl) (by simp) ?_
            refine (AllReadyH.cons rfl (fun K hK => ?_) AllReadyH.nil)
            · refine step_call_g (by rfl) 39 #[.agg #[.int .i64 b.id, .int .i64 b.team, .int .i64 b.x, .int .i64 b.y, .int .i64 b.depth, .int .i64 b.speed, .int .i64 b.mast, .int .i64 b.noise, .bool b.afloat, .bool b.radar, .bool b.sonar, .bool b.ping], .agg #[.int .i64 t.id, .int .i64 t.team, .int .i64 t.x, .int .i64 t.y, .int .i64 t.depth, .int .i64 t.speed, .int .i64 t.mast, .int .i64 t.noise, .bool t.afloat, .bool t.radar, .bool t.sonar, .bool t.ping]] (by simp [go_sem]) (cB _).out ?_
              rintro e w8 ⟨rfl, b8⟩
              skip
              have HX8 := hide (HX7.out.below b8)
              have HY8 := hide (HY7.out.below b8)
              have HZ8 := hide (HZ7.out.below b8)
              have HE8 := hide (lec HE7.out b8)
              have zS8 := conj36 HX8.out HY8.out HZ8.out
              clear b8
              refine ⟨_, rfl, ?_⟩
              refine hK.out _ _ ?_ (fun hHeld => ?_)
              · (first | exact zS | exact zS5 | exact zS6 | exact zS7 | exact zS8)
              clear hK K
              try simp only [Act.put, List.getElem_toArray, List.getElem_cons_zero, List.getElem_cons_succ, List.setIfInBounds_toArray, List.set_cons_zero, List.set_cons_succ]
              refine wpAnyH_take (i := 14) (v := ?_) rfl (by kernel_rfl) (by kernel_rfl) (by kernel_rfl) (fun _ _ _ h => h) (Or.inl ⟨by rfl, ?_⟩) (by assumption) ?_
              rotate_left
              · (intro w hSw; (try dsimp only at hSw); go_simp; try (with_reducible rfl))
              try simp only [Act.put, List.getElem_toArray, List.getElem_cons_zero, List.getElem_cons_succ, List.setIfInBounds_toArray, List.set_cons_zero, List.set_cons_succ]
              refine wpAnyH_take (i := 15) (v := ?_) rfl (by kernel_rfl) (by kernel_rfl) (by kernel_rfl) (fun _ _ _ h => h) (Or.inl ⟨by rfl, ?_⟩) (by assumption) ?_
              rotate_left
              · (intro w hSw; (try dsimp only at hSw); go_simp; try (with_reducible rfl))
              try simp only [Act.put, List.getElem_toArray, List.getElem_cons_zero, List.getElem_cons_succ, List.setIfInBounds_toArray, List.set_cons_zero, List.set_cons_succ]
              refine wpAnyH_take (i := 16) (v := undef) rfl (by kernel_rfl) (by kernel_rfl) (by kernel_rfl) (fun _ _ _ h => h) (Or.inr ⟨by rfl, rfl⟩) (by assumption) ?_
              try simp only [Act.put, List.getElem_toArray, List.getElem_cons_zero, List.getElem_cons_succ, List.setIfInBounds_toArray, List.set_cons_zero, List.set_cons_succ]
              refine wpAnyH_take (i := 17) (v := undef) rfl (by kernel_rfl) (by kernel_rfl) (by kernel_rfl) (fun _ _ _ h => h) (Or.inr ⟨by rfl, rfl⟩) (by assumption) ?_
              try simp only [Act.put, List.getElem_toArray, List.getElem_cons_zero, List.getElem_cons_succ, List.setIfInBounds_toArray, List.set_cons_zero, List.set_cons_succ]
              refine wpAnyH_take (i := 18) (v := undef) rfl (by kernel_rfl) (by kernel_rfl) (by kernel_rfl) (fun _ _ _ h => h) (Or.inr ⟨by rfl, rfl⟩) (by assumption) ?_
              try simp only [Act.put, List.getElem_toArray, List.getElem_cons_zero, List.getElem_cons_succ, List.setIfInBounds_toArray, List.set_cons_zero, List.set_cons_succ]
              refine wpAnyH_take (i := 19) (v := undef) rfl (by kernel_rfl) (by kernel_rfl) (by kernel_rfl) (fun _ _ _ h => h) (Or.inr ⟨by rfl, rfl⟩) (by assumption) ?_
              try simp only [Act.put, List.getElem_toArray, List.getElem_cons_zero, List.getElem_cons_succ, List.setIfInBounds_toArray, List.set_cons_zero, List.set_cons_succ]
              refine wpAnyH_take (i := 20) (v := undef) rfl (by kernel_rfl) (by kernel_rfl) (by kernel_rfl) (fun _ _ _ h => h) (Or.inr ⟨by rfl, rfl⟩) (by assumption) ?_
              try simp only [Act.put, List.getElem_toArray, List.getElem_cons_zero, List.getElem_cons_succ, List.setIfInBounds_toArray, List.set_cons_zero, List.set_cons_succ]
              refine wpAnyH_take (i := 21) (v := ?_) rfl (by kernel_rfl) (by kernel_rfl) (by kernel_rfl) (fun _ _ _ h => h) (Or.inl ⟨by rfl, ?_⟩) (by assumption) ?_
              rotate_left
              · (intro w hSw; (try dsimp only at hSw); go_simp; try (with_reducible rfl))
              try simp only [Act.put, List.getElem_toArray, List.getElem_cons_zero, List.getElem_cons_succ, List.setIfInBounds_toArray, List.set_cons_zero, List.set_cons_succ]
              refine wpAnyH_take (i := 22) (v := ?_) rfl (by kernel_rfl) (by kernel_rfl) (by kernel_rfl) (fun _ _ _ h => h) (Or.inl ⟨by rfl, ?_⟩) (by assumption) ?_
              rotate_left
              · (intro w hSw; (try dsimp only at hSw); go_simp; try (with_reducible rfl))
              try simp only [Act.put, List.getElem_toArray, List.getElem_cons_zero, List.getElem_cons_succ, List.setIfInBounds_toArray, List.set_cons_zero, List.set_cons_succ]
              refine wpAnyH_take (i := 23) (v := ?_) rfl (by kernel_rfl) (by kernel_rfl) (by kernel_rfl) (fun _ _ _ h => h) (Or.inl ⟨by rfl, ?_⟩) (by assumption) ?_
              rotate_left
              · (intro w hSw; (try dsimp only at hSw); go_simp; try (with_reducible rfl))
              try simp only [Act.put, List.getElem_toArray, List.getElem_cons_zero, List.getElem_cons_succ, List.setIfInBounds_toArray, List.set_cons_zero, List.set_cons_succ]
              refine wpAnyH_done (by kernel_rfl) ?_ _
              go_wp2
              go_ret
              exact ⟨ret_bool (by simp [hlt, hne]), HE8.out⟩
end Go.Proofs.Qxb6500776a
