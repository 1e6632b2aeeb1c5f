import Derived.Test.Qxb6500773aGreatZP
namespace Go.Proofs.Qxb6500773aGreat
set_option maxRecDepth 100000
open Go.RowKit

set_option linter.unusedSimpArgs false in
set_option maxRecDepth 100000 in
set_option maxHeartbeats 4000000 in
/-- cnf.Formula.Equal, with the same number of variables -/
theorem fEqualS_any (w : World) (B1 b1 B2 b2 : Nat) (va1 ve1 va2 ve2 : Value) (nv : Int) (L E M F : List Int) (hp : FF w B1 b1 va1 ve1 nv L E) (hq : FF w B2 b2 va2 ve2 nv M F) (hl : E.length ≤ 1000000000) (hll : L.length ≤ 1000000000) :
    Calls Tryz.prog 71 #[.pointer (some ⟨b1, 0, none⟩), .pointer (some ⟨b2, 0, none⟩)] w (SaPost w ((E == F) && (L == M))) := by
  have ce := fun w' (k : Below w.heap.size w w') => hide (arEqualZ_any w' B1 b1 1 B2 b2 1 va1 ve1 va2 ve2 L E M F (hp.below k).ar (hq.below k).ar hl hll)
  have zS : w.cell? ⟨b1, 0, none⟩ = some (.int .i64 nv) ∧ w.cell? ⟨b2, 0, none⟩ = some (.int .i64 nv) := ⟨hp.c, hq.c⟩
  have hn2 : (nv == nv) = true := by simp
  clear hp hq
  generalize ((E == F) && (L == M)) = R at *
  go_enter Tryz.func71, Tryz.ntmps71
  go_upto_region 1 with fail
  refine wp_region_held_drew (S := fun w' => w'.cell? ⟨b1, 0, none⟩ = some (.int .i64 nv) ∧ w'.cell? ⟨b2, 0, none⟩ = some (.int .i64 nv)) (by kernel_rfl) zS (fun hHeld => ?_)
  refine wpAnyH_take (i := 0) (v := ?_) rfl (by kernel_rfl) (by kernel_rfl) (by kernel_rfl) (fun _ _ _ h => h) (Or.inl ⟨by rfl, ?_⟩) (by assumption) ?_
  rotate_left
  · (intro w hSw; (try dsimp only at hSw); go_simp; try (with_reducible rfl))
  try simp only [Act.put, List.getElem_toArray, List.getElem_cons_zero, List.getElem_cons_succ, List.setIfInBounds_toArray, List.set_cons_zero, List.set_cons_succ]
  refine wpAnyH_take (i := 1) (v := ?_) rfl (by kernel_rfl) (by kernel_rfl) (by kernel_rfl) (fun _ _ _ h => h) (Or.inl ⟨by rfl, ?_⟩) (by assumption) ?_
  rotate_left
  · (intro w hSw; (try dsimp only at hSw); go_simp; try (with_reducible rfl))
  try simp only [Act.put, List.getElem_toArray, List.getElem_cons_zero, List.getElem_cons_succ, List.setIfInBounds_toArray, List.set_cons_zero, List.set_cons_succ]
  refine wpAnyH_take (i := 2) (v := ?_) rfl (by kernel_rfl) (by kernel_rfl) (by kernel_rfl) (fun _ _ _ h => h) (Or.inl ⟨by rfl, ?_⟩) (by assumption) ?_
  rotate_left
  · (intro w hSw; (try dsimp only at hSw); go_simp; try (with_reducible rfl))
  try simp only [Act.put, List.getElem_toArray, List.getElem_cons_zero, List.getElem_cons_succ, List.setIfInBounds_toArray, List.set_cons_zero, List.set_cons_succ]
  refine wpAnyH_take (i := 3) (v := ?_) rfl (by kernel_rfl) (by kernel_rfl) (by kernel_rfl) (fun _ _ _ h => h) (Or.inl ⟨by rfl, ?_⟩) (by assumption) ?_
  rotate_left
  · (intro w hSw; (try dsimp only at hSw); ((obtain ⟨z1, z2⟩ := hSw)); go_simp; try (with_reducible rfl))
  try simp only [Act.put, List.getElem_toArray, List.getElem_cons_zero, List.getElem_cons_succ, List.setIfInBounds_toArray, List.set_cons_zero, List.set_cons_succ]
  refine wpAnyH_take (i := 4) (v := ?_) rfl (by kernel_rfl) (by kernel_rfl) (by kernel_rfl) (fun _ _ _ h => h) (Or.inl ⟨by rfl, ?_⟩) (by assumption) ?_
  rotate_left
  · (intro w hSw; (try dsimp only at hSw); go_simp; try (with_reducible rfl))
  try simp only [Act.put, List.getElem_toArray, List.getElem_cons_zero, List.getElem_cons_succ, List.setIfInBounds_toArray, List.set_cons_zero, List.set_cons_succ]
  refine wpAnyH_take (i := 5) (v := ?_) rfl (by kernel_rfl) (by kernel_rfl) (by kernel_rfl) (fun _ _ _ h => h) (Or.inl ⟨by rfl, ?_⟩) (by assumption) ?_
  rotate_left
  · (intro w hSw; (try dsimp only at hSw); go_simp; try (with_reducible rfl))
  try simp only [Act.put, List.getElem_toArray, List.getElem_cons_zero, List.getElem_cons_succ, List.setIfInBounds_toArray, List.set_cons_zero, List.set_cons_succ]
  refine wpAnyH_take (i := 6) (v := ?_) rfl (by kernel_rfl) (by kernel_rfl) (by kernel_rfl) (fun _ _ _ h => h) (Or.inl ⟨by rfl, ?_⟩) (by assumption) ?_
  rotate_left
  · (intro w hSw; (try dsimp only at hSw); go_simp; try (with_reducible rfl))
  try simp only [Act.put, List.getElem_toArray, List.getElem_cons_zero, List.getElem_cons_succ, List.setIfInBounds_toArray, List.set_cons_zero, List.set_cons_succ]
  refine wpAnyH_take (i := 7) (v := ?_) rfl (by kernel_rfl) (by kernel_rfl) (by kernel_rfl) (fun _ _ _ h => h) (Or.inl ⟨by rfl, ?_⟩) (by assumption) ?_
  rotate_left
  · (intro w hSw; (try dsimp only at hSw); ((obtain ⟨z1, z2⟩ := hSw)); go_simp; try (with_reducible rfl))
  try simp only [Act.put, List.getElem_toArray, List.getElem_cons_zero, List.getElem_cons_succ, List.setIfInBounds_toArray, List.set_cons_zero, List.set_cons_succ]
  refine wpAnyH_take (i := 8) (v := ?_) rfl (by kernel_rfl) (by kernel_rfl) (by kernel_rfl) (fun _ _ _ h => h) (Or.inl ⟨by rfl, ?_⟩) (by assumption) ?_
  rotate_left
  · (intro w hSw; (try dsimp only at hSw); go_simp; try (with_reducible rfl))
  try simp only [Act.put, List.getElem_toArray, List.getElem_cons_zero, List.getElem_cons_succ, List.setIfInBounds_toArray, List.set_cons_zero, List.set_cons_succ]
  refine wpAnyH_take (i := 9) (v := ?_) rfl (by kernel_rfl) (by kernel_rfl) (by kernel_rfl) (fun _ _ _ h => h) (Or.inl ⟨by rfl, ?_⟩) (by assumption) ?_
  rotate_left
  · (intro w hSw; (try dsimp only at hSw); go_simp; try (with_reducible rfl))
  try simp only [Act.put, List.getElem_toArray, List.getElem_cons_zero, List.getElem_cons_succ, List.setIfInBounds_toArray, List.set_cons_zero, List.set_cons_succ]
  refine wpAnyH_take (i := 10) (v := ?_) rfl (by kernel_rfl) (by kernel_rfl) (by kernel_rfl) (fun _ _ _ h => h) (Or.inl ⟨by rfl, ?_⟩) (by assumption) ?_
  rotate_left
  · (intro w hSw; (try dsimp only at hSw); go_simp; try (with_reducible rfl))
  try simp only [Act.put, List.getElem_toArray, List.getElem_cons_zero, List.getElem_cons_succ, List.setIfInBounds_toArray, List.set_cons_zero, List.set_cons_succ]
  refine wpAnyH_take (i := 11) (v := ?_) rfl (by kernel_rfl) (by kernel_rfl) (by kernel_rfl) (fun _ _ _ h => h) (Or.inl ⟨by rfl, ?_⟩) (by assumption) ?_
  rotate_left
  · (intro w hSw; (try dsimp only at hSw); go_simp; try (with_reducible rfl))
  try simp only [Act.put, List.getElem_toArray, List.getElem_cons_zero, List.getElem_cons_succ, List.setIfInBounds_toArray, List.set_cons_zero, List.set_cons_succ]
  refine wpAnyH_take (i := 12) (v := ?_) rfl (by kernel_rfl) (by kernel_rfl) (by kernel_rfl) (fun _ _ _ h => h) (Or.inl ⟨by rfl, ?_⟩) (by assumption) ?_
  rotate_left
  · (intro w hSw; (try dsimp only at hSw); go_simp; try (with_reducible rfl))
  try simp only [Act.put, List.getElem_toArray, List.getElem_cons_zero, List.getElem_cons_succ, List.setIfInBounds_toArray, List.set_cons_zero, List.set_cons_succ]
  refine wpAnyH_take (i := 13) (v := ?_) rfl (by kernel_rfl) (by kernel_rfl) (by kernel_rfl) (fun _ _ _ h => h) (Or.inl ⟨by rfl, ?_⟩) (by assumption) ?_
  rotate_left
  · (intro w hSw; (try dsimp only at hSw); go_simp; try (with_reducible rfl))
  try simp only [Act.put, List.getElem_toArray, List.getElem_cons_zero, List.getElem_cons_succ, List.setIfInBounds_toArray, List.set_cons_zero, List.set_cons_succ]
  refine wpAnyH_take (i := 14) (v := ?_) rfl (by kernel_rfl) (by kernel_rfl) (by kernel_rfl) (fun _ _ _ h => h) (Or.inl ⟨by rfl, ?_⟩) (by assumption) ?_
  rotate_left
  · (intro w hSw; (try dsimp only at hSw); go_simp; try (with_reducible rfl))
  try simp only [Act.put, List.getElem_toArray, List.getElem_cons_zero, List.getElem_cons_succ, List.setIfInBounds_toArray, List.set_cons_zero, List.set_cons_succ]
  refine wpAnyH_take (i := 15) (v := ?_) rfl (by kernel_rfl) (by kernel_rfl) (by kernel_rfl) (fun _ _ _ h => h) (Or.inl ⟨by rfl, ?_⟩) (by assumption) ?_
  rotate_left
  · (intro w hSw; (try dsimp only at hSw); go_simp; try (with_reducible rfl))
  try simp only [Act.put, List.getElem_toArray, List.getElem_cons_zero, List.getElem_cons_succ, List.setIfInBounds_toArray, List.set_cons_zero, List.set_cons_succ]
  refine wpAnyH_ready (rs := [16]) (by kernel_rfl) (by simp) ?_
  refine (AllReadyH.cons rfl (fun K hK => ?_) AllReadyH.nil)
  · refine step_call_g (by rfl) 132 #[.pointer (some ⟨b1, 1, none⟩), .pointer (some ⟨b2, 1, none⟩)] (by simp [go_sem]) (ce _ ((Below.refl _ _).drew)).out ?_
    rintro e w5 ⟨rfl, b5⟩
    have HB := hide (of_drew b5)
    have zS5 : w5.cell? ⟨b1, 0, none⟩ = some (.int .i64 nv) ∧ w5.cell? ⟨b2, 0, none⟩ = some (.int .i64 nv) := ⟨cellKeep HB.out zS.1, cellKeep HB.out zS.2⟩
    clear b5
    refine ⟨_, rfl, ?_⟩
    refine hK.out _ _ ?_ (fun hHeld => ?_)
    · (first | with_reducible exact zS5 | with_reducible exact zS | exact zS)
    clear hK K
    try simp only [Act.put, List.getElem_toArray, List.getElem_cons_zero, List.getElem_cons_succ, List.setIfInBounds_toArray, List.set_cons_zero, List.set_cons_succ]
    refine wpAnyH_take (i := 17) (v := ?_) rfl (by kernel_rfl) (by kernel_rfl) (by kernel_rfl) (fun _ _ _ h => h) (Or.inl ⟨by rfl, ?_⟩) (by assumption) ?_
    rotate_left
    · (intro w hSw; (try dsimp only at hSw); go_simp; try (with_reducible rfl))
    try simp only [Act.put, List.getElem_toArray, List.getElem_cons_zero, List.getElem_cons_succ, List.setIfInBounds_toArray, List.set_cons_zero, List.set_cons_succ]
    refine wpAnyH_take (i := 18) (v := ?_) rfl (by kernel_rfl) (by kernel_rfl) (by kernel_rfl) (fun _ _ _ h => h) (Or.inl ⟨by rfl, ?_⟩) (by assumption) ?_
    rotate_left
    · (intro w hSw; (try dsimp only at hSw); go_simp; try (with_reducible rfl))
    try simp only [Act.put, List.getElem_toArray, List.getElem_cons_zero, List.getElem_cons_succ, List.setIfInBounds_toArray, List.set_cons_zero, List.set_cons_succ]
    refine wpAnyH_done (by kernel_rfl) ?_ _
    clear ce zS zS5
    go_wp2
    go_ret
    exact ⟨rfl, HB.out⟩
set_option linter.unusedSimpArgs false in
set_option maxRecDepth 100000 in
set_option maxHeartbeats 4000000 in
/-- cnf.Formula.Equal -/
theorem fEqualZ_any (w : World) (B1 b1 B2 b2 : Nat) (va1 ve1 va2 ve2 : Value) (nv nu : Int) (L E M F : List Int) (hp : FF w B1 b1 va1 ve1 nv L E) (hq : FF w B2 b2 va2 ve2 nu M F) (hl : E.length ≤ 1000000000) (hll : L.length ≤ 1000000000) :
    Calls Tryz.prog 71 #[.pointer (some ⟨b1, 0, none⟩), .pointer (some ⟨b2, 0, none⟩)] w (SaPost w ((nv == nu) && ((E == F) && (L == M)))) := by
  by_cases h : nv = nu
  · subst h
    rw [beq_self_eq_true, Bool.true_and]
    exact fEqualS_any w B1 b1 B2 b2 va1 ve1 va2 ve2 nv L E M F hp hq hl hll
  · have hb : (nv == nu) = false := by simp [h]
    rw [hb, Bool.false_and]
    have c1 := hp.c
    have c2 := hq.c
    clear hp hq h
    go_enter Tryz.func71, Tryz.ntmps71
    go_upto_region 1 with fail
    go_quiet (fail)
    rename_i nq
    go_wp2
    go_ret
    exact ⟨rfl, belN w nq⟩
set_option linter.unusedSimpArgs false in
set_option maxRecDepth 100000 in
set_option maxHeartbeats 4000000 in
/-- cnf.Proof.Equal -/
theorem pfEqualZ_any (w : World) (B1 b1 B2 b2 : Nat) (va1 ve1 vd1 va2 ve2 vd2 : Value) (L E M F : List Int) (D G : List Bool) (hp : PF w B1 b1 va1 ve1 vd1 L E D) (hq : PF w B2 b2 va2 ve2 vd2 M F G) (hD : D.length = E.length) (hG : G.length = F.length) (hl : E.length ≤ 1000000000) (hll : L.length ≤ 1000000000) :
    Calls Tryz.prog 73 #[.pointer (some ⟨b1, 0, none⟩), .pointer (some ⟨b2, 0, none⟩)] w (SaPost w (((E == F) && (L == M)) && (D == G))) := by
  have HP := hide hp
  have HQ := hide hq
  have HDL := hide (show D.length ≤ 1000000000 by omega)
  have ce := fun w' (k : Below w.heap.size w w') => hide (arEqualZ_any w' B1 b1 0 B2 b2 0 va1 ve1 va2 ve2 L E M F (hp.below k).ar (hq.below k).ar hl hll)
  obtain ⟨a1, c1, rfl⟩ := own_form hp.r2
  obtain ⟨a2, c2, rfl⟩ := own_form hq.r2
  clear hp hq hl hll
  have HDG : Hid (((E == F) && (L == M)) = true → G.length = D.length) := fun z => by
    rw [Bool.and_eq_true, beq_iff_eq] at z
    rw [hG, hD, z.1]
  obtain ⟨Q, hQ⟩ : ∃ Q, ((E == F) && (L == M)) = Q := ⟨_, rfl⟩
  rw [hQ] at ce HDG ⊢
  clear hQ hD hG
  obtain ⟨R, hR⟩ : ∃ R, (D == G) = R := ⟨_, rfl⟩
  have HRR := hide hR
  rw [hR]
  clear hR
  have HQB : Hid (∀ q : Bool, q = Q → ∀ z : Bool, z = (q && R) → Ending.returned (.bool z) = .returned (.bool (Q && R))) := fun q h1 z h2 => by rw [h2, h1]
  go_enter Tryz.func73, Tryz.ntmps73
  go_upto_region 1 with fail
  refine wp_region_held_drew (S := fun w' => True) (by kernel_rfl) trivial (fun hHeld => ?_)
  refine wpAnyH_take (i := 0) (v := ?_) rfl (by kernel_rfl) (by kernel_rfl) (by kernel_rfl) (fun _ _ _ h => h) (Or.inl ⟨by rfl, ?_⟩) (by assumption) ?_
  rotate_left
  · (intro w hSw; (try dsimp only at hSw); go_simp; try (with_reducible rfl))
  try simp only [Act.put, List.getElem_toArray, List.getElem_cons_zero, List.getElem_cons_succ, List.setIfInBounds_toArray, List.set_cons_zero, List.set_cons_succ]
  refine wpAnyH_take (i := 1) (v := ?_) rfl (by kernel_rfl) (by kernel_rfl) (by kernel_rfl) (fun _ _ _ h => h) (Or.inl ⟨by rfl, ?_⟩) (by assumption) ?_
  rotate_left
  · (intro w hSw; (try dsimp only at hSw); go_simp; try (with_reducible rfl))
  try simp only [Act.put, List.getElem_toArray, List.getElem_cons_zero, List.getElem_cons_succ, List.setIfInBounds_toArray, List.set_cons_zero, List.set_cons_succ]
  refine wpAnyH_take (i := 2) (v := ?_) rfl (by kernel_rfl) (by kernel_rfl) (by kernel_rfl) (fun _ _ _ h => h) (Or.inl ⟨by rfl, ?_⟩) (by assumption) ?_
  rotate_left
  · (intro w hSw; (try dsimp only at hSw); go_simp; try (with_reducible rfl))
  try simp only [Act.put, List.getElem_toArray, List.getElem_cons_zero, List.getElem_cons_succ, List.setIfInBounds_toArray, List.set_cons_zero, List.set_cons_succ]
  refine wpAnyH_take (i := 3) (v := ?_) rfl (by kernel_rfl) (by kernel_rfl) (by kernel_rfl) (fun _ _ _ h => h) (Or.inl ⟨by rfl, ?_⟩) (by assumption) ?_
  rotate_left
  · (intro w hSw; (try dsimp only at hSw); go_simp; try (with_reducible rfl))
  try simp only [Act.put, List.getElem_toArray, List.getElem_cons_zero, List.getElem_cons_succ, List.setIfInBounds_toArray, List.set_cons_zero, List.set_cons_succ]
  refine wpAnyH_take (i := 4) (v := ?_) rfl (by kernel_rfl) (by kernel_rfl) (by kernel_rfl) (fun _ _ _ h => h) (Or.inl ⟨by rfl, ?_⟩) (by assumption) ?_
  rotate_left
  · (intro w hSw; (try dsimp only at hSw); go_simp; try (with_reducible rfl))
  try simp only [Act.put, List.getElem_toArray, List.getElem_cons_zero, List.getElem_cons_succ, List.setIfInBounds_toArray, List.set_cons_zero, List.set_cons_succ]
  refine wpAnyH_take (i := 5) (v := ?_) rfl (by kernel_rfl) (by kernel_rfl) (by kernel_rfl) (fun _ _ _ h => h) (Or.inl ⟨by rfl, ?_⟩) (by assumption) ?_
  rotate_left
  · (intro w hSw; (try dsimp only at hSw); go_simp; try (with_reducible rfl))
  try simp only [Act.put, List.getElem_toArray, List.getElem_cons_zero, List.getElem_cons_succ, List.setIfInBounds_toArray, List.set_cons_zero, List.set_cons_succ]
  refine wpAnyH_ready (rs := [6]) (by kernel_rfl) (by simp) ?_
  refine (AllReadyH.cons rfl (fun K hK => ?_) AllReadyH.nil)
  · refine step_call rfl 132 #[.pointer (some ⟨b1, 0, none⟩), .pointer (some ⟨b2, 0, none⟩)] (by simp [go_sem]) (ce _ ((Below.refl _ _).drew)).out ?_
    rintro e w5 ⟨rfl, b5⟩
    have HB := hide (of_drew b5)
    clear b5
    refine ⟨_, rfl, ?_⟩
    refine hK.out _ _ ?_ (fun hHeld => ?_)
    · trivial
    clear hK K
    try simp only [Act.put, List.getElem_toArray, List.getElem_cons_zero, List.getElem_cons_succ, List.setIfInBounds_toArray, List.set_cons_zero, List.set_cons_succ]
    refine wpAnyH_take (i := 7) (v := ?_) rfl (by kernel_rfl) (by kernel_rfl) (by kernel_rfl) (fun _ _ _ h => h) (Or.inl ⟨by rfl, ?_⟩) (by assumption) ?_
    rotate_left
    · (intro w hSw; (try dsimp only at hSw); go_simp; try (with_reducible rfl))
    try simp only [Act.put, List.getElem_toArray, List.getElem_cons_zero, List.getElem_cons_succ, List.setIfInBounds_toArray, List.set_cons_zero, List.set_cons_succ]
    refine wpAnyH_done (by kernel_rfl) ?_ _
    clear ce
    cases Q
    · go_wp2
      go_ret
      exact ⟨HQB.out false rfl false rfl, HB.out⟩
    replace HDG := hide (HDG.out rfl)
    have x1 := (HP.out.below HB.out).c2
    go_wp2
    go_loopw [5, 6, 20] (fun _ _ s20 wx => ∃ (i : Nat), s20 = .int .i64 i ∧ i ≤ D.length ∧ Hid ((D.drop i == G.drop i) = R) ∧ Below w.heap.size w wx) (fun _ _ s20 _ => D.length - (intOf s20).toNat)
    case atStart => exact ⟨0, rfl, Nat.zero_le _, HRR, HB.out⟩
    case round =>
      clear HB x1 HRR
      obtain ⟨i, rfl, hi, HS, hb⟩ := hrel
      have HB := hide hb
      clear hb
      by_cases hlt : i < D.length
      · obtain ⟨x, hx⟩ : ∃ x, D[i]? = some x := ⟨_, List.getElem?_eq_getElem hlt⟩
        obtain ⟨y, hy⟩ : ∃ y, G[i]? = some y := ⟨_, List.getElem?_eq_getElem (by have := HDG.out; omega)⟩
        have x4 := (HQ.out.below HB.out).c2
        rw [HDG.out] at x4
        obtain ⟨g1, k1, ea, y1, -⟩ := row_cell (HP.out.below HB.out).r2 (i := i) (u := .bool x) (by rw [List.getElem?_map, hx]; rfl)
        injection ea with ea
        subst ea
        obtain ⟨g2, k2, ea, y2, -⟩ := row_cell (HQ.out.below HB.out).r2 (i := i) (u := .bool y) (by rw [List.getElem?_map, hy]; rfl)
        injection ea with ea
        subst ea
        rw [eq_drop hx hy] at HS
        clear hx hy
        have h1 : decide ((i : Int) < (D.length : Int)) = true := by simp; omega
        have h1n : decide (i < D.length) = true := by simp; omega
        have h2 : decide ((i : Int) < 0) = false := by simp
        have h3 : (i : Int) < (D.length : Int) := by omega
        have h4 : IntKind.i64.wrap ((i : Int) + 1) = (i : Int) + 1 := by rw [IntKind.wrap_i64]; have := HDL.out; omega
        by_cases hxy : x = y
        · have h5 : (!(x == y)) = false := by simp [hxy]
          have HS2 : Hid ((D.drop (i + 1) == G.drop (i + 1)) = R) := by
            show _ = _
            have := HS.out
            rw [show (x == y) = true by simp [hxy], Bool.true_and] at this
            exact this
          clear hxy HS
          go_wp2
          go_roundw
          case rel => exact ⟨i + 1, by simp, by omega, HS2, HB.out⟩
          case measure => simp [intOf]; omega
        · have h5 : (!(x == y)) = true := by simp [hxy]
          have HS2 : Hid (false = R) := by
            show _ = _
            have := HS.out
            rw [show (x == y) = false by simp [hxy], Bool.false_and] at this
            exact this
          clear hxy HS
          go_wp2
          go_ret
          exact ⟨HQB.out true rfl _ HS2.out, HB.out⟩
      · have h1 : decide ((i : Int) < (D.length : Int)) = false := by simp; omega
        have h1n : decide (i < D.length) = false := by simp; omega
        have HS3 : Hid (true = R) := by
          show _ = _
          have := HS.out
          rw [List.drop_of_length_le (by omega), List.drop_of_length_le (by have := HDG.out; omega)] at this
          exact this
        clear HS
        go_wp2
        go_ret
        exact ⟨HQB.out true rfl _ HS3.out, HB.out⟩
end Go.Proofs.Qxb6500773aGreat
