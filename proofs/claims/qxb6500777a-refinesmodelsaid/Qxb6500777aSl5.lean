import Derived.Test.Qxb6500777aSl4
namespace Go.Proofs.Qxb6500777a
open Go.RowKit

theorem s14 {w : World} {b1 o1 b2 o2 : Nat} {s1 s2 : Slt} (h : RA w b1 o1 s1.vals) (k : RA w b2 o2 s2.vals) : w.cell? ⟨b1, o1 + 3, none⟩ = some (.int .i64 s1.tr.num) ∧ w.cell? ⟨b1, o1 + 4, none⟩ = some (.int .i64 s1.tr.x) ∧ w.cell? ⟨b1, o1 + 5, none⟩ = some (.int .i64 s1.tr.y) ∧ w.cell? ⟨b1, o1 + 6, none⟩ = some (.int .i64 s1.tr.co) ∧ w.cell? ⟨b1, o1 + 7, none⟩ = some (.int .i64 s1.tr.sp) ∧ w.cell? ⟨b1, o1 + 8, none⟩ = some (.int .i64 s1.tr.st) ∧ w.cell? ⟨b1, o1 + 9, none⟩ = some (.int .i64 s1.tr.ag) ∧ w.cell? ⟨b2, o2 + 3, none⟩ = some (.int .i64 s2.tr.num) ∧ w.cell? ⟨b2, o2 + 4, none⟩ = some (.int .i64 s2.tr.x) ∧ w.cell? ⟨b2, o2 + 5, none⟩ = some (.int .i64 s2.tr.y) ∧ w.cell? ⟨b2, o2 + 6, none⟩ = some (.int .i64 s2.tr.co) ∧ w.cell? ⟨b2, o2 + 7, none⟩ = some (.int .i64 s2.tr.sp) ∧ w.cell? ⟨b2, o2 + 8, none⟩ = some (.int .i64 s2.tr.st) ∧ w.cell? ⟨b2, o2 + 9, none⟩ = some (.int .i64 s2.tr.ag) := ⟨h.tr.c 0 _ rfl, h.tr.c 1 _ rfl, h.tr.c 2 _ rfl, h.tr.c 3 _ rfl, h.tr.c 4 _ rfl, h.tr.c 5 _ rfl, h.tr.c 6 _ rfl, k.tr.c 0 _ rfl, k.tr.c 1 _ rfl, k.tr.c 2 _ rfl, k.tr.c 3 _ rfl, k.tr.c 4 _ rfl, k.tr.c 5 _ rfl, k.tr.c 6 _ rfl⟩
set_option linter.unusedSimpArgs false in
set_option maxRecDepth 100000 in
set_option maxHeartbeats 4000000 in
/-- tracks.ahead -/
theorem ahead_any (w : World) (b1 o1 b2 o2 : Nat) (s1 s2 : Slt) (h1 : RA w b1 o1 s1.vals) (h2 : RA w b2 o2 s2.vals) :
    Calls Try.prog 78 #[.pointer (some ⟨b1, o1, none⟩), .pointer (some ⟨b2, o2, none⟩)] w fun e w' => e = .returned (.bool (aheadP s1 s2)) ∧ Below w.heap.size w w' := by
  have H1 := hide h1
  have H2 := hide h2
  have L1 := hide (h1.lt (by simp [Slt.vals]))
  have L2 := hide (h2.lt (by simp [Slt.vals]))
  obtain ⟨_, _, c2, c3, c4, c5, c6, c7, c8, c9⟩ := h1.sl
  obtain ⟨_, _, d2, d3, d4, d5, d6, d7, d8, d9⟩ := h2.sl
  clear h1 h2
  by_cases ha : s1.tr.ag = s2.tr.ag
  · have ea : (s1.tr.ag != s2.tr.ag) = false := by simp [ha]
    have HA := hide ha
    clear ha
    go_enter Try.func78, Try.ntmps78
    go_upto_region 1 with fail
    go_quiet (fail)
    rename_i nq
    go_upto_region 3 with fail
    clear c2 c3 c4 c5 c6 c7 c8 c9 d2 d3 d4 d5 d6 d7 d8 d9
    have HB0 := hide (belN w nq)
    have G1 := hide (H1.out.drewN nq)
    have G2 := hide (H2.out.drewN nq)
    generalize w.drewN nq = w1 at *
    have zS := s14 G1.out G2.out
    have b12 := fun w => hide (before_any w s1.tr s2.tr)
    have b21 := fun w => hide (before_any w s2.tr s1.tr)
    cases e12 : beforeP s1.tr s2.tr
    · rw [e12] at b12
      cases e21 : beforeP s2.tr s1.tr
      · rw [e21] at b21
        have HAH := hide (show aheadP s1 s2 = if s1.tr.st ≠ s2.tr.st then decide (s1.tr.st < s2.tr.st) else decide (s1.sk < s2.sk) by unfold aheadP; rw [if_neg (by simp [HA.out]), if_neg (by simp [e12, e21])])
        refine wp_region_held_drew (S := fun w' => w'.cell? ⟨b1, o1 + 3, none⟩ = some (.int .i64 s1.tr.num) ∧ w'.cell? ⟨b1, o1 + 4, none⟩ = some (.int .i64 s1.tr.x) ∧ w'.cell? ⟨b1, o1 + 5, none⟩ = some (.int .i64 s1.tr.y) ∧ w'.cell? ⟨b1, o1 + 6, none⟩ = some (.int .i64 s1.tr.co) ∧ w'.cell? ⟨b1, o1 + 7, none⟩ = some (.int .i64 s1.tr.sp) ∧ w'.cell? ⟨b1, o1 + 8, none⟩ = some (.int .i64 s1.tr.st) ∧ w'.cell? ⟨b1, o1 + 9, none⟩ = some (.int .i64 s1.tr.ag) ∧ w'.cell? ⟨b2, o2 + 3, none⟩ = some (.int .i64 s2.tr.num) ∧ w'.cell? ⟨b2, o2 + 4, none⟩ = some (.int .i64 s2.tr.x) ∧ w'.cell? ⟨b2, o2 + 5, none⟩ = some (.int .i64 s2.tr.y) ∧ w'.cell? ⟨b2, o2 + 6, none⟩ = some (.int .i64 s2.tr.co) ∧ w'.cell? ⟨b2, o2 + 7, none⟩ = some (.int .i64 s2.tr.sp) ∧ w'.cell? ⟨b2, o2 + 8, none⟩ = some (.int .i64 s2.tr.st) ∧ w'.cell? ⟨b2, o2 + 9, none⟩ = some (.int .i64 s2.tr.ag)) (by kernel_rfl) zS (fun hHeld => ?_)
        refine wpAnyH_take (i := 0) (v := ?_) rfl (by kernel_rfl) (by kernel_rfl) (by kernel_rfl) (fun _ _ _ h => h) (Or.inl ⟨by rfl, ?_⟩) (by assumption) ?_
        rotate_left
        · (intro w hSw; (try dsimp only at hSw); go_simp; try (with_reducible rfl))
        try simp only [Act.put, List.getElem_toArray, List.getElem_cons_zero, List.getElem_cons_succ, List.setIfInBounds_toArray, List.set_cons_zero, List.set_cons_succ]
        refine wpAnyH_take (i := 1) (v := ?_) rfl (by kernel_rfl) (by kernel_rfl) (by kernel_rfl) (fun _ _ _ h => h) (Or.inl ⟨by rfl, ?_⟩) (by assumption) ?_
        rotate_left
        · (intro w hSw; (try dsimp only at hSw); go_simp; try (with_reducible rfl))
        try simp only [Act.put, List.getElem_toArray, List.getElem_cons_zero, List.getElem_cons_succ, List.setIfInBounds_toArray, List.set_cons_zero, List.set_cons_succ]
        refine wpAnyH_take (i := 2) (v := ?_) rfl (by kernel_rfl) (by kernel_rfl) (by kernel_rfl) (fun _ _ _ h => h) (Or.inl ⟨by rfl, ?_⟩) (by assumption) ?_
        rotate_left
        · (intro w hSw; (try dsimp only at hSw); go_simp; try (with_reducible rfl))
        try simp only [Act.put, List.getElem_toArray, List.getElem_cons_zero, List.getElem_cons_succ, List.setIfInBounds_toArray, List.set_cons_zero, List.set_cons_succ]
        refine wpAnyH_take (i := 3) (v := ?_) rfl (by kernel_rfl) (by kernel_rfl) (by kernel_rfl) (fun _ _ _ h => h) (Or.inl ⟨by rfl, ?_⟩) (by assumption) ?_
        rotate_left
        · (intro w hSw; (try dsimp only at hSw); go_simp; try (with_reducible rfl))
        try simp only [Act.put, List.getElem_toArray, List.getElem_cons_zero, List.getElem_cons_succ, List.setIfInBounds_toArray, List.set_cons_zero, List.set_cons_succ]
        refine wpAnyH_take (i := 4) (v := ?_) rfl (by kernel_rfl) (by kernel_rfl) (by kernel_rfl) (fun _ _ _ h => h) (Or.inl ⟨by rfl, ?_⟩) (by assumption) ?_
        rotate_left
        · (intro w hSw; (try dsimp only at hSw); go_simp; try (with_reducible rfl))
        try simp only [Act.put, List.getElem_toArray, List.getElem_cons_zero, List.getElem_cons_succ, List.setIfInBounds_toArray, List.set_cons_zero, List.set_cons_succ]
        refine wpAnyH_take (i := 5) (v := ?_) rfl (by kernel_rfl) (by kernel_rfl) (by kernel_rfl) (fun _ _ _ h => h) (Or.inl ⟨by rfl, ?_⟩) (by assumption) ?_
        rotate_left
        · (intro w hSw; (try dsimp only at hSw); go_simp; try (with_reducible rfl))
        try simp only [Act.put, List.getElem_toArray, List.getElem_cons_zero, List.getElem_cons_succ, List.setIfInBounds_toArray, List.set_cons_zero, List.set_cons_succ]
        refine wpAnyH_take (i := 6) (v := ?_) rfl (by kernel_rfl) (by kernel_rfl) (by kernel_rfl) (fun _ _ _ h => h) (Or.inl ⟨by rfl, ?_⟩) (by assumption) ?_
        rotate_left
        · (intro w hSw; (try dsimp only at hSw); go_simp; try (with_reducible rfl))
        try simp only [Act.put, List.getElem_toArray, List.getElem_cons_zero, List.getElem_cons_succ, List.setIfInBounds_toArray, List.set_cons_zero, List.set_cons_succ]
        refine wpAnyH_take (i := 7) (v := ?_) rfl (by kernel_rfl) (by kernel_rfl) (by kernel_rfl) (fun _ _ _ h => h) (Or.inl ⟨by rfl, ?_⟩) (by assumption) ?_
        rotate_left
        · (intro w hSw; (try dsimp only at hSw); go_simp; try (with_reducible rfl))
        try simp only [Act.put, List.getElem_toArray, List.getElem_cons_zero, List.getElem_cons_succ, List.setIfInBounds_toArray, List.set_cons_zero, List.set_cons_succ]
        refine wpAnyH_ready (rs := [8]) (by kernel_rfl) (by simp) ?_
        refine (AllReadyH.cons rfl (fun K hK => ?_) AllReadyH.nil)
        · refine step_call rfl 62 #[.agg #[.int .i64 s1.tr.num, .int .i64 s1.tr.x, .int .i64 s1.tr.y, .int .i64 s1.tr.co, .int .i64 s1.tr.sp, .int .i64 s1.tr.st, .int .i64 s1.tr.ag], .agg #[.int .i64 s2.tr.num, .int .i64 s2.tr.x, .int .i64 s2.tr.y, .int .i64 s2.tr.co, .int .i64 s2.tr.sp, .int .i64 s2.tr.st, .int .i64 s2.tr.ag]] (by simp [go_sem]) (b12 _).out ?_
          rintro e w2 ⟨rfl, bb2⟩
          replace bb2 := of_drew bb2
          have G12 := hide (G1.out.below (G1.out.lt (by simp [Slt.vals])) bb2)
          have G22 := hide (G2.out.below (G2.out.lt (by simp [Slt.vals])) bb2)
          have HB2 := hide (lec HB0.out bb2)
          have zS2 := s14 G12.out G22.out
          clear bb2
          refine ⟨_, rfl, ?_⟩
          refine hK.out _ _ ?_ (fun hHeld => ?_)
          · (first | with_reducible exact zS3 | with_reducible exact zS2 | with_reducible exact zS | exact zS)
          clear hK K
          try simp only [Act.put, List.getElem_toArray, List.getElem_cons_zero, List.getElem_cons_succ, List.setIfInBounds_toArray, List.set_cons_zero, List.set_cons_succ]
          refine wpAnyH_take (i := 9) (v := ?_) rfl (by kernel_rfl) (by kernel_rfl) (by kernel_rfl) (fun _ _ _ h => h) (Or.inl ⟨by rfl, ?_⟩) (by assumption) ?_
          rotate_left
          · (intro w hSw; (try dsimp only at hSw); go_simp; try (with_reducible rfl))
          try simp only [Act.put, List.getElem_toArray, List.getElem_cons_zero, List.getElem_cons_succ, List.setIfInBounds_toArray, List.set_cons_zero, List.set_cons_succ]
          refine wpAnyH_take (i := 10) (v := ?_) rfl (by kernel_rfl) (by kernel_rfl) (by kernel_rfl) (fun _ _ _ h => h) (Or.inl ⟨by rfl, ?_⟩) (by assumption) ?_
          rotate_left
          · (intro w hSw; (try dsimp only at hSw); go_simp; try (with_reducible rfl))
          try simp only [Act.put, List.getElem_toArray, List.getElem_cons_zero, List.getElem_cons_succ, List.setIfInBounds_toArray, List.set_cons_zero, List.set_cons_succ]
          refine wpAnyH_take (i := 11) (v := ?_) rfl (by kernel_rfl) (by kernel_rfl) (by kernel_rfl) (fun _ _ _ h => h) (Or.inl ⟨by rfl, ?_⟩) (by assumption) ?_
          rotate_left
          · (intro w hSw; (try dsimp only at hSw); go_simp; try (with_reducible rfl))
          try simp only [Act.put, List.getElem_toArray, List.getElem_cons_zero, List.getElem_cons_succ, List.setIfInBounds_toArray, List.set_cons_zero, List.set_cons_succ]
          refine wpAnyH_take (i := 12) (v := ?_) rfl (by kernel_rfl) (by kernel_rfl) (by kernel_rfl) (fun _ _ _ h => h) (Or.inl ⟨by rfl, ?_⟩) (by assumption) ?_
          rotate_left
          · (intro w hSw; (try dsimp only at hSw); go_simp; try (with_reducible rfl))
          try simp only [Act.put, List.getElem_toArray, List.getElem_cons_zero, List.getElem_cons_succ, List.setIfInBounds_toArray, List.set_cons_zero, List.set_cons_succ]
          refine wpAnyH_take (i := 13) (v := ?_) rfl (by kernel_rfl) (by kernel_rfl) (by kernel_rfl) (fun _ _ _ h => h) (Or.inl ⟨by rfl, ?_⟩) (by assumption) ?_
          rotate_left
          · (intro w hSw; (try dsimp only at hSw); go_simp; try (with_reducible rfl))
          try simp only [Act.put, List.getElem_toArray, List.getElem_cons_zero, List.getElem_cons_succ, List.setIfInBounds_toArray, List.set_cons_zero, List.set_cons_succ]
          refine wpAnyH_take (i := 14) (v := ?_) rfl (by kernel_rfl) (by kernel_rfl) (by kernel_rfl) (fun _ _ _ h => h) (Or.inl ⟨by rfl, ?_⟩) (by assumption) ?_
          rotate_left
          · (intro w hSw; (try dsimp only at hSw); go_simp; try (with_reducible rfl))
          try simp only [Act.put, List.getElem_toArray, List.getElem_cons_zero, List.getElem_cons_succ, List.setIfInBounds_toArray, List.set_cons_zero, List.set_cons_succ]
          refine wpAnyH_take (i := 15) (v := ?_) rfl (by kernel_rfl) (by kernel_rfl) (by kernel_rfl) (fun _ _ _ h => h) (Or.inl ⟨by rfl, ?_⟩) (by assumption) ?_
          rotate_left
          · (intro w hSw; (try dsimp only at hSw); go_simp; try (with_reducible rfl))
          try simp only [Act.put, List.getElem_toArray, List.getElem_cons_zero, List.getElem_cons_succ, List.setIfInBounds_toArray, List.set_cons_zero, List.set_cons_succ]
          refine wpAnyH_take (i := 16) (v := ?_) rfl (by kernel_rfl) (by kernel_rfl) (by kernel_rfl) (fun _ _ _ h => h) (Or.inl ⟨by rfl, ?_⟩) (by assumption) ?_
          rotate_left
          · (intro w hSw; (try dsimp only at hSw); go_simp; try (with_reducible rfl))
          try simp only [Act.put, List.getElem_toArray, List.getElem_cons_zero, List.getElem_cons_succ, List.setIfInBounds_toArray, List.set_cons_zero, List.set_cons_succ]
          refine wpAnyH_take (i := 17) (v := ?_) rfl (by kernel_rfl) (by kernel_rfl) (by kernel_rfl) (fun _ _ _ h => h) (Or.inl ⟨by rfl, ?_⟩) (by assumption) ?_
          rotate_left
          · (intro w hSw; (try dsimp only at hSw); go_simp; try (with_reducible rfl))
          try simp only [Act.put, List.getElem_toArray, List.getElem_cons_zero, List.getElem_cons_succ, List.setIfInBounds_toArray, List.set_cons_zero, List.set_cons_succ]
          refine wpAnyH_ready (rs := [18]) (by kernel_rfl) (by simp) ?_
          refine (AllReadyH.cons rfl (fun K hK => ?_) AllReadyH.nil)
          · refine step_call_g (by rfl) 62 #[.agg #[.int .i64 s2.tr.num, .int .i64 s2.tr.x, .int .i64 s2.tr.y, .int .i64 s2.tr.co, .int .i64 s2.tr.sp, .int .i64 s2.tr.st, .int .i64 s2.tr.ag], .agg #[.int .i64 s1.tr.num, .int .i64 s1.tr.x, .int .i64 s1.tr.y, .int .i64 s1.tr.co, .int .i64 s1.tr.sp, .int .i64 s1.tr.st, .int .i64 s1.tr.ag]] (by simp [go_sem]) (b21 _).out ?_
            rintro e w3 ⟨rfl, bb3⟩
            skip
            have G13 := hide (G12.out.below (G12.out.lt (by simp [Slt.vals])) bb3)
            have G23 := hide (G22.out.below (G22.out.lt (by simp [Slt.vals])) bb3)
            have HB3 := hide (lec HB2.out bb3)
            have zS3 := s14 G13.out G23.out
            clear bb3
            refine ⟨_, rfl, ?_⟩
            refine hK.out _ _ ?_ (fun hHeld => ?_)
            · (first | with_reducible exact zS3 | with_reducible exact zS2 | with_reducible exact zS | exact zS)
            clear hK K
            try simp only [Act.put, List.getElem_toArray, List.getElem_cons_zero, List.getElem_cons_succ, List.setIfInBounds_toArray, List.set_cons_zero, List.set_cons_succ]
            refine wpAnyH_take (i := 19) (v := ?_) rfl (by kernel_rfl) (by kernel_rfl) (by kernel_rfl) (fun _ _ _ h => h) (Or.inl ⟨by rfl, ?_⟩) (by assumption) ?_
            rotate_left
            · (intro w hSw; (try dsimp only at hSw); go_simp; try (with_reducible rfl))
            try simp only [Act.put, List.getElem_toArray, List.getElem_cons_zero, List.getElem_cons_succ, List.setIfInBounds_toArray, List.set_cons_zero, List.set_cons_succ]
            refine wpAnyH_done (by kernel_rfl) ?_ _
            clear zS zS2 zS3
            obtain ⟨_, _, c2, c3, c4, c5, c6, c7, c8, c9⟩ := G13.out.sl
            obtain ⟨_, _, d2, d3, d4, d5, d6, d7, d8, d9⟩ := G23.out.sl
            by_cases hst : s1.tr.st = s2.tr.st
            · have es : (s1.tr.st != s2.tr.st) = false := by simp [hst]
              have HST := hide hst
              clear hst
              go_upto_region 5 with fail
              go_quiet (fail)
              go_upto_region 7 with fail
              go_quiet (fail)
              go_wp2
              go_ret
              exact ⟨ret_bool (by rw [HAH.out, if_neg (by simp [HST.out])]), lec HB3.out (lec (belN _ _) (belN _ _))⟩
            · have es : (s1.tr.st != s2.tr.st) = true := by simp [hst]
              have HST := hide hst
              clear hst
              go_upto_region 5 with fail
              go_quiet (fail)
              go_upto_region 6 with fail
              go_quiet (fail)
              go_wp2
              go_ret
              exact ⟨ret_bool (by rw [HAH.out, if_pos HST.out]), lec HB3.out (lec (belN _ _) (belN _ _))⟩
      · rw [e21] at b21
        have HAH := hide (show aheadP s1 s2 = false by unfold aheadP; rw [if_neg (by simp [HA.out]), if_pos (.inr e21), e12])
        refine wp_region_held_drew (S := fun w' => w'.cell? ⟨b1, o1 + 3, none⟩ = some (.int .i64 s1.tr.num) ∧ w'.cell? ⟨b1, o1 + 4, none⟩ = some (.int .i64 s1.tr.x) ∧ w'.cell? ⟨b1, o1 + 5, none⟩ = some (.int .i64 s1.tr.y) ∧ w'.cell? ⟨b1, o1 + 6, none⟩ = some (.int .i64 s1.tr.co) ∧ w'.cell? ⟨b1, o1 + 7, none⟩ = some (.int .i64 s1.tr.sp) ∧ w'.cell? ⟨b1, o1 + 8, none⟩ = some (.int .i64 s1.tr.st) ∧ w'.cell? ⟨b1, o1 + 9, none⟩ = some (.int .i64 s1.tr.ag) ∧ w'.cell? ⟨b2, o2 + 3, none⟩ = some (.int .i64 s2.tr.num) ∧ w'.cell? ⟨b2, o2 + 4, none⟩ = some (.int .i64 s2.tr.x) ∧ w'.cell? ⟨b2, o2 + 5, none⟩ = some (.int .i64 s2.tr.y) ∧ w'.cell? ⟨b2, o2 + 6, none⟩ = some (.int .i64 s2.tr.co) ∧ w'.cell? ⟨b2, o2 + 7, none⟩ = some (.int .i64 s2.tr.sp) ∧ w'.cell? ⟨b2, o2 + 8, none⟩ = some (.int .i64 s2.tr.st) ∧ w'.cell? ⟨b2, o2 + 9, none⟩ = some (.int .i64 s2.tr.ag)) (by kernel_rfl) zS (fun hHeld => ?_)
        refine wpAnyH_take (i := 0) (v := ?_) rfl (by kernel_rfl) (by kernel_rfl) (by kernel_rfl) (fun _ _ _ h => h) (Or.inl ⟨by rfl, ?_⟩) (by assumption) ?_
        rotate_left
        · (intro w hSw; (try dsimp only at hSw); go_simp; try (with_reducible rfl))
        try simp only [Act.put, List.getElem_toArray, List.getElem_cons_zero, List.getElem_cons_succ, List.setIfInBounds_toArray, List.set_cons_zero, List.set_cons_succ]
        refine wpAnyH_take (i := 1) (v := ?_) rfl (by kernel_rfl) (by kernel_rfl) (by kernel_rfl) (fun _ _ _ h => h) (Or.inl ⟨by rfl, ?_⟩) (by assumption) ?_
        rotate_left
        · (intro w hSw; (try dsimp only at hSw); go_simp; try (with_reducible rfl))
        try simp only [Act.put, List.getElem_toArray, List.getElem_cons_zero, List.getElem_cons_succ, List.setIfInBounds_toArray, List.set_cons_zero, List.set_cons_succ]
        refine wpAnyH_take (i := 2) (v := ?_) rfl (by kernel_rfl) (by kernel_rfl) (by kernel_rfl) (fun _ _ _ h => h) (Or.inl ⟨by rfl, ?_⟩) (by assumption) ?_
        rotate_left
        · (intro w hSw; (try dsimp only at hSw); go_simp; try (with_reducible rfl))
        try simp only [Act.put, List.getElem_toArray, List.getElem_cons_zero, List.getElem_cons_succ, List.setIfInBounds_toArray, List.set_cons_zero, List.set_cons_succ]
        refine wpAnyH_take (i := 3) (v := ?_) rfl (by kernel_rfl) (by kernel_rfl) (by kernel_rfl) (fun _ _ _ h => h) (Or.inl ⟨by rfl, ?_⟩) (by assumption) ?_
        rotate_left
        · (intro w hSw; (try dsimp only at hSw); go_simp; try (with_reducible rfl))
        try simp only [Act.put, List.getElem_toArray, List.getElem_cons_zero, List.getElem_cons_succ, List.setIfInBounds_toArray, List.set_cons_zero, List.set_cons_succ]
        refine wpAnyH_take (i := 4) (v := ?_) rfl (by kernel_rfl) (by kernel_rfl) (by kernel_rfl) (fun _ _ _ h => h) (Or.inl ⟨by rfl, ?_⟩) (by assumption) ?_
        rotate_left
        · (intro w hSw; (try dsimp only at hSw); go_simp; try (with_reducible rfl))
        try simp only [Act.put, List.getElem_toArray, List.getElem_cons_zero, List.getElem_cons_succ, List.setIfInBounds_toArray, List.set_cons_zero, List.set_cons_succ]
        refine wpAnyH_take (i := 5) (v := ?_) rfl (by kernel_rfl) (by kernel_rfl) (by kernel_rfl) (fun _ _ _ h => h) (Or.inl ⟨by rfl, ?_⟩) (by assumption) ?_
        rotate_left
        · (intro w hSw; (try dsimp only at hSw); go_simp; try (with_reducible rfl))
        try simp only [Act.put, List.getElem_toArray, List.getElem_cons_zero, List.getElem_cons_succ, List.setIfInBounds_toArray, List.set_cons_zero, List.set_cons_succ]
        refine wpAnyH_take (i := 6) (v := ?_) rfl (by kernel_rfl) (by kernel_rfl) (by kernel_rfl) (fun _ _ _ h => h) (Or.inl ⟨by rfl, ?_⟩) (by assumption) ?_
        rotate_left
        · (intro w hSw; (try dsimp only at hSw); go_simp; try (with_reducible rfl))
        try simp only [Act.put, List.getElem_toArray, List.getElem_cons_zero, List.getElem_cons_succ, List.setIfInBounds_toArray, List.set_cons_zero, List.set_cons_succ]
        refine wpAnyH_take (i := 7) (v := ?_) rfl (by kernel_rfl) (by kernel_rfl) (by kernel_rfl) (fun _ _ _ h => h) (Or.inl ⟨by rfl, ?_⟩) (by assumption) ?_
        rotate_left
        · (intro w hSw; (try dsimp only at hSw); go_simp; try (with_reducible rfl))
        try simp only [Act.put, List.getElem_toArray, List.getElem_cons_zero, List.getElem_cons_succ, List.setIfInBounds_toArray, List.set_cons_zero, List.set_cons_succ]
        refine wpAnyH_ready (rs := [8]) (by kernel_rfl) (by simp) ?_
        refine (AllReadyH.cons rfl (fun K hK => ?_) AllReadyH.nil)
        · refine step_call rfl 62 #[.agg #[.int .i64 s1.tr.num, .int .i64 s1.tr.x, .int .i64 s1.tr.y, .int .i64 s1.tr.co, .int .i64 s1.tr.sp, .int .i64 s1.tr.st, .int .i64 s1.tr.ag], .agg #[.int .i64 s2.tr.num, .int .i64 s2.tr.x, .int .i64 s2.tr.y, .int .i64 s2.tr.co, .int .i64 s2.tr.sp, .int .i64 s2.tr.st, .int .i64 s2.tr.ag]] (by simp [go_sem]) (b12 _).out ?_
          rintro e w2 ⟨rfl, bb2⟩
          replace bb2 := of_drew bb2
          have G12 := hide (G1.out.below (G1.out.lt (by simp [Slt.vals])) bb2)
          have G22 := hide (G2.out.below (G2.out.lt (by simp [Slt.vals])) bb2)
          have HB2 := hide (lec HB0.out bb2)
          have zS2 := s14 G12.out G22.out
          clear bb2
          refine ⟨_, rfl, ?_⟩
          refine hK.out _ _ ?_ (fun hHeld => ?_)
          · (first | with_reducible exact zS3 | with_reducible exact zS2 | with_reducible exact zS | exact zS)
          clear hK K
          try simp only [Act.put, List.getElem_toArray, List.getElem_cons_zero, List.getElem_cons_succ, List.setIfInBounds_toArray, List.set_cons_zero, List.set_cons_succ]
          refine wpAnyH_take (i := 9) (v := ?_) rfl (by kernel_rfl) (by kernel_rfl) (by kernel_rfl) (fun _ _ _ h => h) (Or.inl ⟨by rfl, ?_⟩) (by assumption) ?_
          rotate_left
          · (intro w hSw; (try dsimp only at hSw); go_simp; try (with_reducible rfl))
          try simp only [Act.put, List.getElem_toArray, List.getElem_cons_zero, List.getElem_cons_succ, List.setIfInBounds_toArray, List.set_cons_zero, List.set_cons_succ]
          refine wpAnyH_take (i := 10) (v := ?_) rfl (by kernel_rfl) (by kernel_rfl) (by kernel_rfl) (fun _ _ _ h => h) (Or.inl ⟨by rfl, ?_⟩) (by assumption) ?_
          rotate_left
          · (intro w hSw; (try dsimp only at hSw); go_simp; try (with_reducible rfl))
          try simp only [Act.put, List.getElem_toArray, List.getElem_cons_zero, List.getElem_cons_succ, List.setIfInBounds_toArray, List.set_cons_zero, List.set_cons_succ]
          refine wpAnyH_take (i := 11) (v := ?_) rfl (by kernel_rfl) (by kernel_rfl) (by kernel_rfl) (fun _ _ _ h => h) (Or.inl ⟨by rfl, ?_⟩) (by assumption) ?_
          rotate_left
          · (intro w hSw; (try dsimp only at hSw); go_simp; try (with_reducible rfl))
          try simp only [Act.put, List.getElem_toArray, List.getElem_cons_zero, List.getElem_cons_succ, List.setIfInBounds_toArray, List.set_cons_zero, List.set_cons_succ]
          refine wpAnyH_take (i := 12) (v := ?_) rfl (by kernel_rfl) (by kernel_rfl) (by kernel_rfl) (fun _ _ _ h => h) (Or.inl ⟨by rfl, ?_⟩) (by assumption) ?_
          rotate_left
          · (intro w hSw; (try dsimp only at hSw); go_simp; try (with_reducible rfl))
          try simp only [Act.put, List.getElem_toArray, List.getElem_cons_zero, List.getElem_cons_succ, List.setIfInBounds_toArray, List.set_cons_zero, List.set_cons_succ]
          refine wpAnyH_take (i := 13) (v := ?_) rfl (by kernel_rfl) (by kernel_rfl) (by kernel_rfl) (fun _ _ _ h => h) (Or.inl ⟨by rfl, ?_⟩) (by assumption) ?_
          rotate_left
          · (intro w hSw; (try dsimp only at hSw); go_simp; try (with_reducible rfl))
          try simp only [Act.put, List.getElem_toArray, List.getElem_cons_zero, List.getElem_cons_succ, List.setIfInBounds_toArray, List.set_cons_zero, List.set_cons_succ]
          refine wpAnyH_take (i := 14) (v := ?_) rfl (by kernel_rfl) (by kernel_rfl) (by kernel_rfl) (fun _ _ _ h => h) (Or.inl ⟨by rfl, ?_⟩) (by assumption) ?_
          rotate_left
          · (intro w hSw; (try dsimp only at hSw); go_simp; try (with_reducible rfl))
          try simp only [Act.put, List.getElem_toArray, List.getElem_cons_zero, List.getElem_cons_succ, List.setIfInBounds_toArray, List.set_cons_zero, List.set_cons_succ]
          refine wpAnyH_take (i := 15) (v := ?_) rfl (by kernel_rfl) (by kernel_rfl) (by kernel_rfl) (fun _ _ _ h => h) (Or.inl ⟨by rfl, ?_⟩) (by assumption) ?_
          rotate_left
          · (intro w hSw; (try dsimp only at hSw); go_simp; try (with_reducible rfl))
          try simp only [Act.put, List.getElem_toArray, List.getElem_cons_zero, List.getElem_cons_succ, List.setIfInBounds_toArray, List.set_cons_zero, List.set_cons_succ]
          refine wpAnyH_take (i := 16) (v := ?_) rfl (by kernel_rfl) (by kernel_rfl) (by kernel_rfl) (fun _ _ _ h => h) (Or.inl ⟨by rfl, ?_⟩) (by assumption) ?_
          rotate_left
          · (intro w hSw; (try dsimp only at hSw); go_simp; try (with_reducible rfl))
          try simp only [Act.put, List.getElem_toArray, List.getElem_cons_zero, List.getElem_cons_succ, List.setIfInBounds_toArray, List.set_cons_zero, List.set_cons_succ]
          refine wpAnyH_take (i := 17) (v := ?_) rfl (by kernel_rfl) (by kernel_rfl) (by kernel_rfl) (fun _ _ _ h => h) (Or.inl ⟨by rfl, ?_⟩) (by assumption) ?_
          rotate_left
          · (intro w hSw; (try dsimp only at hSw); go_simp; try (with_reducible rfl))
          try simp only [Act.put, List.getElem_toArray, List.getElem_cons_zero, List.getElem_cons_succ, List.setIfInBounds_toArray, List.set_cons_zero, List.set_cons_succ]
          refine wpAnyH_ready (rs := [18]) (by kernel_rfl) (by simp) ?_
          refine (AllReadyH.cons rfl (fun K hK => ?_) AllReadyH.nil)
          · refine step_call_g (by rfl) 62 #[.agg #[.int .i64 s2.tr.num, .int .i64 s2.tr.x, .int .i64 s2.tr.y, .int .i64 s2.tr.co, .int .i64 s2.tr.sp, .int .i64 s2.tr.st, .int .i64 s2.tr.ag], .agg #[.int .i64 s1.tr.num, .int .i64 s1.tr.x, .int .i64 s1.tr.y, .int .i64 s1.tr.co, .int .i64 s1.tr.sp, .int .i64 s1.tr.st, .int .i64 s1.tr.ag]] (by simp [go_sem]) (b21 _).out ?_
            rintro e w3 ⟨rfl, bb3⟩
            skip
            have G13 := hide (G12.out.below (G12.out.lt (by simp [Slt.vals])) bb3)
            have G23 := hide (G22.out.below (G22.out.lt (by simp [Slt.vals])) bb3)
            have HB3 := hide (lec HB2.out bb3)
            have zS3 := s14 G13.out G23.out
            clear bb3
            refine ⟨_, rfl, ?_⟩
            refine hK.out _ _ ?_ (fun hHeld => ?_)
            · (first | with_reducible exact zS3 | with_reducible exact zS2 | with_reducible exact zS | exact zS)
            clear hK K
            try simp only [Act.put, List.getElem_toArray, List.getElem_cons_zero, List.getElem_cons_succ, List.setIfInBounds_toArray, List.set_cons_zero, List.set_cons_succ]
            refine wpAnyH_take (i := 19) (v := ?_) rfl (by kernel_rfl) (by kernel_rfl) (by kernel_rfl) (fun _ _ _ h => h) (Or.inl ⟨by rfl, ?_⟩) (by assumption) ?_
            rotate_left
            · (intro w hSw; (try dsimp only at hSw); go_simp; try (with_reducible rfl))
            try simp only [Act.put, List.getElem_toArray, List.getElem_cons_zero, List.getElem_cons_succ, List.setIfInBounds_toArray, List.set_cons_zero, List.set_cons_succ]
            refine wpAnyH_done (by kernel_rfl) ?_ _
            clear zS zS2
            go_upto_region 4 with fail
            refine wp_region_held_drew (S := fun w' => w'.cell? ⟨b1, o1 + 3, none⟩ = some (.int .i64 s1.tr.num) ∧ w'.cell? ⟨b1, o1 + 4, none⟩ = some (.int .i64 s1.tr.x) ∧ w'.cell? ⟨b1, o1 + 5, none⟩ = some (.int .i64 s1.tr.y) ∧ w'.cell? ⟨b1, o1 + 6, none⟩ = some (.int .i64 s1.tr.co) ∧ w'.cell? ⟨b1, o1 + 7, none⟩ = some (.int .i64 s1.tr.sp) ∧ w'.cell? ⟨b1, o1 + 8, none⟩ = some (.int .i64 s1.tr.st) ∧ w'.cell? ⟨b1, o1 + 9, none⟩ = some (.int .i64 s1.tr.ag) ∧ w'.cell? ⟨b2, o2 + 3, none⟩ = some (.int .i64 s2.tr.num) ∧ w'.cell? ⟨b2, o2 + 4, none⟩ = some (.int .i64 s2.tr.x) ∧ w'.cell? ⟨b2, o2 + 5, none⟩ = some (.int .i64 s2.tr.y) ∧ w'.cell? ⟨b2, o2 + 6, none⟩ = some (.int .i64 s2.tr.co) ∧ w'.cell? ⟨b2, o2 + 7, none⟩ = some (.int .i64 s2.tr.sp) ∧ w'.cell? ⟨b2, o2 + 8, none⟩ = some (.int .i64 s2.tr.st) ∧ w'.cell? ⟨b2, o2 + 9, none⟩ = some (.int .i64 s2.tr.ag)) (by kernel_rfl) zS3 (fun hHeld => ?_)
            refine wpAnyH_take (i := 0) (v := ?_) rfl (by kernel_rfl) (by kernel_rfl) (by kernel_rfl) (fun _ _ _ h => h) (Or.inl ⟨by rfl, ?_⟩) (by assumption) ?_
            rotate_left
            · (intro w hSw; (try dsimp only at hSw); go_simp; try (with_reducible rfl))
            try simp only [Act.put, List.getElem_toArray, List.getElem_cons_zero, List.getElem_cons_succ, List.setIfInBounds_toArray, List.set_cons_zero, List.set_cons_succ]
            refine wpAnyH_take (i := 1) (v := ?_) rfl (by kernel_rfl) (by kernel_rfl) (by kernel_rfl) (fun _ _ _ h => h) (Or.inl ⟨by rfl, ?_⟩) (by assumption) ?_
            rotate_left
            · (intro w hSw; (try dsimp only at hSw); go_simp; try (with_reducible rfl))
            try simp only [Act.put, List.getElem_toArray, List.getElem_cons_zero, List.getElem_cons_succ, List.setIfInBounds_toArray, List.set_cons_zero, List.set_cons_succ]
            refine wpAnyH_take (i := 2) (v := ?_) rfl (by kernel_rfl) (by kernel_rfl) (by kernel_rfl) (fun _ _ _ h => h) (Or.inl ⟨by rfl, ?_⟩) (by assumption) ?_
            rotate_left
            · (intro w hSw; (try dsimp only at hSw); go_simp; try (with_reducible rfl))
            try simp only [Act.put, List.getElem_toArray, List.getElem_cons_zero, List.getElem_cons_succ, List.setIfInBounds_toArray, List.set_cons_zero, List.set_cons_succ]
            refine wpAnyH_take (i := 3) (v := ?_) rfl (by kernel_rfl) (by kernel_rfl) (by kernel_rfl) (fun _ _ _ h => h) (Or.inl ⟨by rfl, ?_⟩) (by assumption) ?_
            rotate_left
            · (intro w hSw; (try dsimp only at hSw); go_simp; try (with_reducible rfl))
            try simp only [Act.put, List.getElem_toArray, List.getElem_cons_zero, List.getElem_cons_succ, List.setIfInBounds_toArray, List.set_cons_zero, List.set_cons_succ]
            refine wpAnyH_take (i := 4) (v := ?_) rfl (by kernel_rfl) (by kernel_rfl) (by kernel_rfl) (fun _ _ _ h => h) (Or.inl ⟨by rfl, ?_⟩) (by assumption) ?_
            rotate_left
            · (intro w hSw; (try dsimp only at hSw); go_simp; try (with_reducible rfl))
            try simp only [Act.put, List.getElem_toArray, List.getElem_cons_zero, List.getElem_cons_succ, List.setIfInBounds_toArray, List.set_cons_zero, List.set_cons_succ]
            refine wpAnyH_take (i := 5) (v := ?_) rfl (by kernel_rfl) (by kernel_rfl) (by kernel_rfl) (fun _ _ _ h => h) (Or.inl ⟨by rfl, ?_⟩) (by assumption) ?_
            rotate_left
            · (intro w hSw; (try dsimp only at hSw); go_simp; try (with_reducible rfl))
            try simp only [Act.put, List.getElem_toArray, List.getElem_cons_zero, List.getElem_cons_succ, List.setIfInBounds_toArray, List.set_cons_zero, List.set_cons_succ]
            refine wpAnyH_take (i := 6) (v := ?_) rfl (by kernel_rfl) (by kernel_rfl) (by kernel_rfl) (fun _ _ _ h => h) (Or.inl ⟨by rfl, ?_⟩) (by assumption) ?_
            rotate_left
            · (intro w hSw; (try dsimp only at hSw); go_simp; try (with_reducible rfl))
            try simp only [Act.put, List.getElem_toArray, List.getElem_cons_zero, List.getElem_cons_succ, List.setIfInBounds_toArray, List.set_cons_zero, List.set_cons_succ]
            refine wpAnyH_take (i := 7) (v := ?_) rfl (by kernel_rfl) (by kernel_rfl) (by kernel_rfl) (fun _ _ _ h => h) (Or.inl ⟨by rfl, ?_⟩) (by assumption) ?_
            rotate_left
            · (intro w hSw; (try dsimp only at hSw); go_simp; try (with_reducible rfl))
            try simp only [Act.put, List.getElem_toArray, List.getElem_cons_zero, List.getElem_cons_succ, List.setIfInBounds_toArray, List.set_cons_zero, List.set_cons_succ]
            refine wpAnyH_ready (rs := [8]) (by kernel_rfl) (by simp) ?_
            refine (AllReadyH.cons rfl (fun K hK => ?_) AllReadyH.nil)
            · refine step_call rfl 62 #[.agg #[.int .i64 s1.tr.num, .int .i64 s1.tr.x, .int .i64 s1.tr.y, .int .i64 s1.tr.co, .int .i64 s1.tr.sp, .int .i64 s1.tr.st, .int .i64 s1.tr.ag], .agg #[.int .i64 s2.tr.num, .int .i64 s2.tr.x, .int .i64 s2.tr.y, .int .i64 s2.tr.co, .int .i64 s2.tr.sp, .int .i64 s2.tr.st, .int .i64 s2.tr.ag]] (by simp [go_sem]) (b12 _).out ?_
              rintro e w4 ⟨rfl, bb4⟩
              replace bb4 := of_drew bb4
              have G14 := hide (G13.out.below (G13.out.lt (by simp [Slt.vals])) bb4)
              have G24 := hide (G23.out.below (G23.out.lt (by simp [Slt.vals])) bb4)
              have HB4 := hide (lec HB3.out bb4)
              have zS4 := s14 G14.out G24.out
              clear bb4
              refine ⟨_, rfl, ?_⟩
              refine hK.out _ _ ?_ (fun hHeld => ?_)
              · (first | with_reducible exact zS4 | exact zS3)
              clear hK K
              try simp only [Act.put, List.getElem_toArray, List.getElem_cons_zero, List.getElem_cons_succ, List.setIfInBounds_toArray, List.set_cons_zero, List.set_cons_succ]
              refine wpAnyH_take (i := 9) (v := ?_) rfl (by kernel_rfl) (by kernel_rfl) (by kernel_rfl) (fun _ _ _ h => h) (Or.inl ⟨by rfl, ?_⟩) (by assumption) ?_
              rotate_left
              · (intro w hSw; (try dsimp only at hSw); go_simp; try (with_reducible rfl))
              try simp only [Act.put, List.getElem_toArray, List.getElem_cons_zero, List.getElem_cons_succ, List.setIfInBounds_toArray, List.set_cons_zero, List.set_cons_succ]
              refine wpAnyH_done (by kernel_rfl) ?_ _
              go_wp2
              go_ret
              exact ⟨ret_bool HAH.out.symm, HB4.out⟩
    · rw [e12] at b12
      have HAH := hide (show aheadP s1 s2 = true by unfold aheadP; rw [if_neg (by simp [HA.out]), if_pos (.inl e12), e12])
      refine wp_region_held_drew (S := fun w' => w'.cell? ⟨b1, o1 + 3, none⟩ = some (.int .i64 s1.tr.num) ∧ w'.cell? ⟨b1, o1 + 4, none⟩ = some (.int .i64 s1.tr.x) ∧ w'.cell? ⟨b1, o1 + 5, none⟩ = some (.int .i64 s1.tr.y) ∧ w'.cell? ⟨b1, o1 + 6, none⟩ = some (.int .i64 s1.tr.co) ∧ w'.cell? ⟨b1, o1 + 7, none⟩ = some (.int .i64 s1.tr.sp) ∧ w'.cell? ⟨b1, o1 + 8, none⟩ = some (.int .i64 s1.tr.st) ∧ w'.cell? ⟨b1, o1 + 9, none⟩ = some (.int .i64 s1.tr.ag) ∧ w'.cell? ⟨b2, o2 + 3, none⟩ = some (.int .i64 s2.tr.num) ∧ w'.cell? ⟨b2, o2 + 4, none⟩ = some (.int .i64 s2.tr.x) ∧ w'.cell? ⟨b2, o2 + 5, none⟩ = some (.int .i64 s2.tr.y) ∧ w'.cell? ⟨b2, o2 + 6, none⟩ = some (.int .i64 s2.tr.co) ∧ w'.cell? ⟨b2, o2 + 7, none⟩ = some (.int .i64 s2.tr.sp) ∧ w'.cell? ⟨b2, o2 + 8, none⟩ = some (.int .i64 s2.tr.st) ∧ w'.cell? ⟨b2, o2 + 9, none⟩ = some (.int .i64 s2.tr.ag)) (by kernel_rfl) zS (fun hHeld => ?_)
      refine wpAnyH_take (i := 0) (v := ?_) rfl (by kernel_rfl) (by kernel_rfl) (by kernel_rfl) (fun _ _ _ h => h) (Or.inl ⟨by rfl, ?_⟩) (by assumption) ?_
      rotate_left
      · (intro w hSw; (try dsimp only at hSw); go_simp; try (with_reducible rfl))
      try simp only [Act.put, List.getElem_toArray, List.getElem_cons_zero, List.getElem_cons_succ, List.setIfInBounds_toArray, List.set_cons_zero, List.set_cons_succ]
      refine wpAnyH_take (i := 1) (v := ?_) rfl (by kernel_rfl) (by kernel_rfl) (by kernel_rfl) (fun _ _ _ h => h) (Or.inl ⟨by rfl, ?_⟩) (by assumption) ?_
      rotate_left
      · (intro w hSw; (try dsimp only at hSw); go_simp; try (with_reducible rfl))
      try simp only [Act.put, List.getElem_toArray, List.getElem_cons_zero, List.getElem_cons_succ, List.setIfInBounds_toArray, List.set_cons_zero, List.set_cons_succ]
      refine wpAnyH_take (i := 2) (v := ?_) rfl (by kernel_rfl) (by kernel_rfl) (by kernel_rfl) (fun _ _ _ h => h) (Or.inl ⟨by rfl, ?_⟩) (by assumption) ?_
      rotate_left
      · (intro w hSw; (try dsimp only at hSw); go_simp; try (with_reducible rfl))
      try simp only [Act.put, List.getElem_toArray, List.getElem_cons_zero, List.getElem_cons_succ, List.setIfInBounds_toArray, List.set_cons_zero, List.set_cons_succ]
      refine wpAnyH_take (i := 3) (v := ?_) rfl (by kernel_rfl) (by kernel_rfl) (by kernel_rfl) (fun _ _ _ h => h) (Or.inl ⟨by rfl, ?_⟩) (by assumption) ?_
      rotate_left
      · (intro w hSw; (try dsimp only at hSw); go_simp; try (with_reducible rfl))
      try simp only [Act.put, List.getElem_toArray, List.getElem_cons_zero, List.getElem_cons_succ, List.setIfInBounds_toArray, List.set_cons_zero, List.set_cons_succ]
      refine wpAnyH_take (i := 4) (v := ?_) rfl (by kernel_rfl) (by kernel_rfl) (by kernel_rfl) (fun _ _ _ h => h) (Or.inl ⟨by rfl, ?_⟩) (by assumption) ?_
      rotate_left
      · (intro w hSw; (try dsimp only at hSw); go_simp; try (with_reducible rfl))
      try simp only [Act.put, List.getElem_toArray, List.getElem_cons_zero, List.getElem_cons_succ, List.setIfInBounds_toArray, List.set_cons_zero, List.set_cons_succ]
      refine wpAnyH_take (i := 5) (v := ?_) rfl (by kernel_rfl) (by kernel_rfl) (by kernel_rfl) (fun _ _ _ h => h) (Or.inl ⟨by rfl, ?_⟩) (by assumption) ?_
      rotate_left
      · (intro w hSw; (try dsimp only at hSw); go_simp; try (with_reducible rfl))
      try simp only [Act.put, List.getElem_toArray, List.getElem_cons_zero, List.getElem_cons_succ, List.setIfInBounds_toArray, List.set_cons_zero, List.set_cons_succ]
      refine wpAnyH_take (i := 6) (v := ?_) rfl (by kernel_rfl) (by kernel_rfl) (by kernel_rfl) (fun _ _ _ h => h) (Or.inl ⟨by rfl, ?_⟩) (by assumption) ?_
      rotate_left
      · (intro w hSw; (try dsimp only at hSw); go_simp; try (with_reducible rfl))
      try simp only [Act.put, List.getElem_toArray, List.getElem_cons_zero, List.getElem_cons_succ, List.setIfInBounds_toArray, List.set_cons_zero, List.set_cons_succ]
      refine wpAnyH_take (i := 7) (v := ?_) rfl (by kernel_rfl) (by kernel_rfl) (by kernel_rfl) (fun _ _ _ h => h) (Or.inl ⟨by rfl, ?_⟩) (by assumption) ?_
      rotate_left
      · (intro w hSw; (try dsimp only at hSw); go_simp; try (with_reducible rfl))
      try simp only [Act.put, List.getElem_toArray, List.getElem_cons_zero, List.getElem_cons_succ, List.setIfInBounds_toArray, List.set_cons_zero, List.set_cons_succ]
      refine wpAnyH_ready (rs := [8]) (by kernel_rfl) (by simp) ?_
      refine (AllReadyH.cons rfl (fun K hK => ?_) AllReadyH.nil)
      · refine step_call rfl 62 #[.agg #[.int .i64 s1.tr.num, .int .i64 s1.tr.x, .int .i64 s1.tr.y, .int .i64 s1.tr.co, .int .i64 s1.tr.sp, .int .i64 s1.tr.st, .int .i64 s1.tr.ag], .agg #[.int .i64 s2.tr.num, .int .i64 s2.tr.x, .int .i64 s2.tr.y, .int .i64 s2.tr.co, .int .i64 s2.tr.sp, .int .i64 s2.tr.st, .int .i64 s2.tr.ag]] (by simp [go_sem]) (b12 _).out ?_
        rintro e w2 ⟨rfl, bb2⟩
        replace bb2 := of_drew bb2
        have G12 := hide (G1.out.below (G1.out.lt (by simp [Slt.vals])) bb2)
        have G22 := hide (G2.out.below (G2.out.lt (by simp [Slt.vals])) bb2)
        have HB2 := hide (lec HB0.out bb2)
        have zS2 := s14 G12.out G22.out
        clear bb2
        refine ⟨_, rfl, ?_⟩
        refine hK.out _ _ ?_ (fun hHeld => ?_)
        · (first | with_reducible exact zS2 | with_reducible exact zS | exact zS)
        clear hK K
        try simp only [Act.put, List.getElem_toArray, List.getElem_cons_zero, List.getElem_cons_succ, List.setIfInBounds_toArray, List.set_cons_zero, List.set_cons_succ]
        refine wpAnyH_take (i := 9) (v := ?_) rfl (by kernel_rfl) (by kernel_rfl) (by kernel_rfl) (fun _ _ _ h => h) (Or.inl ⟨by rfl, ?_⟩) (by assumption) ?_
        rotate_left
        · (intro w hSw; (try dsimp only at hSw); go_simp; try (with_reducible rfl))
        try simp only [Act.put, List.getElem_toArray, List.getElem_cons_zero, List.getElem_cons_succ, List.setIfInBounds_toArray, List.set_cons_zero, List.set_cons_succ]
        refine wpAnyH_take (i := 10) (v := undef) rfl (by kernel_rfl) (by kernel_rfl) (by kernel_rfl) (fun _ _ _ h => h) (Or.inr ⟨by rfl, rfl⟩) (by assumption) ?_
        try simp only [Act.put, List.getElem_toArray, List.getElem_cons_zero, List.getElem_cons_succ, List.setIfInBounds_toArray, List.set_cons_zero, List.set_cons_succ]
        refine wpAnyH_take (i := 11) (v := undef) rfl (by kernel_rfl) (by kernel_rfl) (by kernel_rfl) (fun _ _ _ h => h) (Or.inr ⟨by rfl, rfl⟩) (by assumption) ?_
        try simp only [Act.put, List.getElem_toArray, List.getElem_cons_zero, List.getElem_cons_succ, List.setIfInBounds_toArray, List.set_cons_zero, List.set_cons_succ]
        refine wpAnyH_take (i := 12) (v := undef) rfl (by kernel_rfl) (by kernel_rfl) (by kernel_rfl) (fun _ _ _ h => h) (Or.inr ⟨by rfl, rfl⟩) (by assumption) ?_
        try simp only [Act.put, List.getElem_toArray, List.getElem_cons_zero, List.getElem_cons_succ, List.setIfInBounds_toArray, List.set_cons_zero, List.set_cons_succ]
        refine wpAnyH_take (i := 13) (v := undef) rfl (by kernel_rfl) (by kernel_rfl) (by kernel_rfl) (fun _ _ _ h => h) (Or.inr ⟨by rfl, rfl⟩) (by assumption) ?_
        try simp only [Act.put, List.getElem_toArray, List.getElem_cons_zero, List.getElem_cons_succ, List.setIfInBounds_toArray, List.set_cons_zero, List.set_cons_succ]
        refine wpAnyH_take (i := 14) (v := undef) rfl (by kernel_rfl) (by kernel_rfl) (by kernel_rfl) (fun _ _ _ h => h) (Or.inr ⟨by rfl, rfl⟩) (by assumption) ?_
        try simp only [Act.put, List.getElem_toArray, List.getElem_cons_zero, List.getElem_cons_succ, List.setIfInBounds_toArray, List.set_cons_zero, List.set_cons_succ]
        refine wpAnyH_take (i := 15) (v := undef) rfl (by kernel_rfl) (by kernel_rfl) (by kernel_rfl) (fun _ _ _ h => h) (Or.inr ⟨by rfl, rfl⟩) (by assumption) ?_
        try simp only [Act.put, List.getElem_toArray, List.getElem_cons_zero, List.getElem_cons_succ, List.setIfInBounds_toArray, List.set_cons_zero, List.set_cons_succ]
        refine wpAnyH_take (i := 16) (v := undef) rfl (by kernel_rfl) (by kernel_rfl) (by kernel_rfl) (fun _ _ _ h => h) (Or.inr ⟨by rfl, rfl⟩) (by assumption) ?_
        try simp only [Act.put, List.getElem_toArray, List.getElem_cons_zero, List.getElem_cons_succ, List.setIfInBounds_toArray, List.set_cons_zero, List.set_cons_succ]
        refine wpAnyH_take (i := 17) (v := undef) rfl (by kernel_rfl) (by kernel_rfl) (by kernel_rfl) (fun _ _ _ h => h) (Or.inr ⟨by rfl, rfl⟩) (by assumption) ?_
        try simp only [Act.put, List.getElem_toArray, List.getElem_cons_zero, List.getElem_cons_succ, List.setIfInBounds_toArray, List.set_cons_zero, List.set_cons_succ]
        refine wpAnyH_take (i := 18) (v := undef) rfl (by kernel_rfl) (by kernel_rfl) (by kernel_rfl) (fun _ _ _ h => h) (Or.inr ⟨by rfl, rfl⟩) (by assumption) ?_
        try simp only [Act.put, List.getElem_toArray, List.getElem_cons_zero, List.getElem_cons_succ, List.setIfInBounds_toArray, List.set_cons_zero, List.set_cons_succ]
        refine wpAnyH_take (i := 19) (v := ?_) rfl (by kernel_rfl) (by kernel_rfl) (by kernel_rfl) (fun _ _ _ h => h) (Or.inl ⟨by rfl, ?_⟩) (by assumption) ?_
        rotate_left
        · (intro w hSw; (try dsimp only at hSw); go_simp; try (with_reducible rfl))
        try simp only [Act.put, List.getElem_toArray, List.getElem_cons_zero, List.getElem_cons_succ, List.setIfInBounds_toArray, List.set_cons_zero, List.set_cons_succ]
        refine wpAnyH_done (by kernel_rfl) ?_ _
        clear zS
        go_upto_region 4 with fail
        refine wp_region_held_drew (S := fun w' => w'.cell? ⟨b1, o1 + 3, none⟩ = some (.int .i64 s1.tr.num) ∧ w'.cell? ⟨b1, o1 + 4, none⟩ = some (.int .i64 s1.tr.x) ∧ w'.cell? ⟨b1, o1 + 5, none⟩ = some (.int .i64 s1.tr.y) ∧ w'.cell? ⟨b1, o1 + 6, none⟩ = some (.int .i64 s1.tr.co) ∧ w'.cell? ⟨b1, o1 + 7, none⟩ = some (.int .i64 s1.tr.sp) ∧ w'.cell? ⟨b1, o1 + 8, none⟩ = some (.int .i64 s1.tr.st) ∧ w'.cell? ⟨b1, o1 + 9, none⟩ = some (.int .i64 s1.tr.ag) ∧ w'.cell? ⟨b2, o2 + 3, none⟩ = some (.int .i64 s2.tr.num) ∧ w'.cell? ⟨b2, o2 + 4, none⟩ = some (.int .i64 s2.tr.x) ∧ w'.cell? ⟨b2, o2 + 5, none⟩ = some (.int .i64 s2.tr.y) ∧ w'.cell? ⟨b2, o2 + 6, none⟩ = some (.int .i64 s2.tr.co) ∧ w'.cell? ⟨b2, o2 + 7, none⟩ = some (.int .i64 s2.tr.sp) ∧ w'.cell? ⟨b2, o2 + 8, none⟩ = some (.int .i64 s2.tr.st) ∧ w'.cell? ⟨b2, o2 + 9, none⟩ = some (.int .i64 s2.tr.ag)) (by kernel_rfl) zS2 (fun hHeld => ?_)
        refine wpAnyH_take (i := 0) (v := ?_) rfl (by kernel_rfl) (by kernel_rfl) (by kernel_rfl) (fun _ _ _ h => h) (Or.inl ⟨by rfl, ?_⟩) (by assumption) ?_
        rotate_left
        · (intro w hSw; (try dsimp only at hSw); go_simp; try (with_reducible rfl))
        try simp only [Act.put, List.getElem_toArray, List.getElem_cons_zero, List.getElem_cons_succ, List.setIfInBounds_toArray, List.set_cons_zero, List.set_cons_succ]
        refine wpAnyH_take (i := 1) (v := ?_) rfl (by kernel_rfl) (by kernel_rfl) (by kernel_rfl) (fun _ _ _ h => h) (Or.inl ⟨by rfl, ?_⟩) (by assumption) ?_
        rotate_left
        · (intro w hSw; (try dsimp only at hSw); go_simp; try (with_reducible rfl))
        try simp only [Act.put, List.getElem_toArray, List.getElem_cons_zero, List.getElem_cons_succ, List.setIfInBounds_toArray, List.set_cons_zero, List.set_cons_succ]
        refine wpAnyH_take (i := 2) (v := ?_) rfl (by kernel_rfl) (by kernel_rfl) (by kernel_rfl) (fun _ _ _ h => h) (Or.inl ⟨by rfl, ?_⟩) (by assumption) ?_
        rotate_left
        · (intro w hSw; (try dsimp only at hSw); go_simp; try (with_reducible rfl))
        try simp only [Act.put, List.getElem_toArray, List.getElem_cons_zero, List.getElem_cons_succ, List.setIfInBounds_toArray, List.set_cons_zero, List.set_cons_succ]
        refine wpAnyH_take (i := 3) (v := ?_) rfl (by kernel_rfl) (by kernel_rfl) (by kernel_rfl) (fun _ _ _ h => h) (Or.inl ⟨by rfl, ?_⟩) (by assumption) ?_
        rotate_left
        · (intro w hSw; (try dsimp only at hSw); go_simp; try (with_reducible rfl))
        try simp only [Act.put, List.getElem_toArray, List.getElem_cons_zero, List.getElem_cons_succ, List.setIfInBounds_toArray, List.set_cons_zero, List.set_cons_succ]
        refine wpAnyH_take (i := 4) (v := ?_) rfl (by kernel_rfl) (by kernel_rfl) (by kernel_rfl) (fun _ _ _ h => h) (Or.inl ⟨by rfl, ?_⟩) (by assumption) ?_
        rotate_left
        · (intro w hSw; (try dsimp only at hSw); go_simp; try (with_reducible rfl))
        try simp only [Act.put, List.getElem_toArray, List.getElem_cons_zero, List.getElem_cons_succ, List.setIfInBounds_toArray, List.set_cons_zero, List.set_cons_succ]
        refine wpAnyH_take (i := 5) (v := ?_) rfl (by kernel_rfl) (by kernel_rfl) (by kernel_rfl) (fun _ _ _ h => h) (Or.inl ⟨by rfl, ?_⟩) (by assumption) ?_
        rotate_left
        · (intro w hSw; (try dsimp only at hSw); go_simp; try (with_reducible rfl))
        try simp only [Act.put, List.getElem_toArray, List.getElem_cons_zero, List.getElem_cons_succ, List.setIfInBounds_toArray, List.set_cons_zero, List.set_cons_succ]
        refine wpAnyH_take (i := 6) (v := ?_) rfl (by kernel_rfl) (by kernel_rfl) (by kernel_rfl) (fun _ _ _ h => h) (Or.inl ⟨by rfl, ?_⟩) (by assumption) ?_
        rotate_left
        · (intro w hSw; (try dsimp only at hSw); go_simp; try (with_reducible rfl))
        try simp only [Act.put, List.getElem_toArray, List.getElem_cons_zero, List.getElem_cons_succ, List.setIfInBounds_toArray, List.set_cons_zero, List.set_cons_succ]
        refine wpAnyH_take (i := 7) (v := ?_) rfl (by kernel_rfl) (by kernel_rfl) (by kernel_rfl) (fun _ _ _ h => h) (Or.inl ⟨by rfl, ?_⟩) (by assumption) ?_
        rotate_left
        · (intro w hSw; (try dsimp only at hSw); go_simp; try (with_reducible rfl))
        try simp only [Act.put, List.getElem_toArray, List.getElem_cons_zero, List.getElem_cons_succ, List.setIfInBounds_toArray, List.set_cons_zero, List.set_cons_succ]
        refine wpAnyH_ready (rs := [8]) (by kernel_rfl) (by simp) ?_
        refine (AllReadyH.cons rfl (fun K hK => ?_) AllReadyH.nil)
        · refine step_call rfl 62 #[.agg #[.int .i64 s1.tr.num, .int .i64 s1.tr.x, .int .i64 s1.tr.y, .int .i64 s1.tr.co, .int .i64 s1.tr.sp, .int .i64 s1.tr.st, .int .i64 s1.tr.ag], .agg #[.int .i64 s2.tr.num, .int .i64 s2.tr.x, .int .i64 s2.tr.y, .int .i64 s2.tr.co, .int .i64 s2.tr.sp, .int .i64 s2.tr.st, .int .i64 s2.tr.ag]] (by simp [go_sem]) (b12 _).out ?_
          rintro e w4 ⟨rfl, bb4⟩
          replace bb4 := of_drew bb4
          have G14 := hide (G12.out.below (G12.out.lt (by simp [Slt.vals])) bb4)
          have G24 := hide (G22.out.below (G22.out.lt (by simp [Slt.vals])) bb4)
          have HB4 := hide (lec HB2.out bb4)
          have zS4 := s14 G14.out G24.out
          clear bb4
          refine ⟨_, rfl, ?_⟩
          refine hK.out _ _ ?_ (fun hHeld => ?_)
          · (first | with_reducible exact zS4 | exact zS2)
          clear hK K
          try simp only [Act.put, List.getElem_toArray, List.getElem_cons_zero, List.getElem_cons_succ, List.setIfInBounds_toArray, List.set_cons_zero, List.set_cons_succ]
          refine wpAnyH_take (i := 9) (v := ?_) rfl (by kernel_rfl) (by kernel_rfl) (by kernel_rfl) (fun _ _ _ h => h) (Or.inl ⟨by rfl, ?_⟩) (by assumption) ?_
          rotate_left
          · (intro w hSw; (try dsimp only at hSw); go_simp; try (with_reducible rfl))
          try simp only [Act.put, List.getElem_toArray, List.getElem_cons_zero, List.getElem_cons_succ, List.setIfInBounds_toArray, List.set_cons_zero, List.set_cons_succ]
          refine wpAnyH_done (by kernel_rfl) ?_ _
          go_wp2
          go_ret
          exact ⟨ret_bool HAH.out.symm, HB4.out⟩
  · have ea : (s1.tr.ag != s2.tr.ag) = true := by simp [ha]
    have HAH := hide (show aheadP s1 s2 = decide (s1.tr.ag < s2.tr.ag) by unfold aheadP; rw [if_pos ha])
    clear ha
    go_enter Try.func78, Try.ntmps78
    go_upto_region 1 with fail
    go_quiet (fail)
    go_upto_region 2 with fail
    go_quiet (fail)
    go_wp2
    go_ret
    exact ⟨ret_bool HAH.out.symm, lec (belN _ _) (belN _ _)⟩
end Go.Proofs.Qxb6500777a
