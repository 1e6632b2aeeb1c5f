import Derived.Test.Qxb6500778aNC
namespace Go.Proofs.Qxb6500778a
open Go.RowKit

set_option linter.unusedSimpArgs false in
set_option maxRecDepth 100000 in
set_option maxHeartbeats 8000000 in
theorem good_link (w : World) (q o : Nat) (dv hp pr ln ix cl : Int) (pm up : Bool) (hc : CO w q o ⟨4, dv, hp, pr, ln, ix, cl, pm, up⟩) (hd : gdB dv = true) :
    Calls Try.prog 36 #[.pointer (some ⟨q, o, none⟩)] w fun e w' => e = .returned (.bool (gdB hp && (decide (dv < hp) && finB ⟨4, dv, hp, pr, ln, ix, cl, pm, up⟩ ⟨4, dv, hp, 0, 0, 0, 0, false, up⟩))) ∧ Ex (fun _ => False) w w' := by
  have HC := hide hc
  have k0 := hc.c0
  have k1 := hc.c1
  simp only [] at k0 k1
  have hql : q < w.heap.size := World.block_lt_of_cell? _ _ k0
  have HG := hide (gx_new hc { Chg.zero with kd := 4, dv := dv })
  have HD := hide (goodDevice_any w dv)
  rw [hd] at HD
  clear hc
  obtain ⟨gd, hgd⟩ : ∃ x, gdB hp = x := ⟨_, rfl⟩
  obtain ⟨lt, hlt⟩ : ∃ x, decide (dv < hp) = x := ⟨_, rfl⟩
  rw [hgd, hlt]
  have H_gd := hide hgd
  have H_lt := hide hlt
  clear hgd hlt
  go_enter Try.func36, Try.ntmps36
  go_wp2_with fail
  refine HD.out.mono ?_
  rintro e wz ⟨rfl, rfl⟩
  go_upto_region 3 with fail
  refine wp_region_held_drew (S := fun w' => w'.cell? ⟨q, o, none⟩ = some (.int .i64 4) ∧ w'.cell? ⟨q, o + 1, none⟩ = some (.int .i64 dv)) (by kernel_rfl) (And.intro k0 k1) (fun hHeld => ?_)
  refine wpAnyH_take (i := 0) (v := ?_) rfl (by kernel_rfl) (by kernel_rfl) (by kernel_rfl) (fun _ _ _ h => h) (Or.inl ⟨by rfl, ?_⟩) (by assumption) ?_
  rotate_left
  · (intro w hSw; (try dsimp only at hSw); go_simp; try (with_reducible rfl))
  try simp only [Act.put, List.getElem_toArray, List.getElem_cons_zero, List.getElem_cons_succ, List.setIfInBounds_toArray, List.set_cons_zero, List.set_cons_succ]
  refine wpAnyH_take (i := 1) (v := ?_) rfl (by kernel_rfl) (by kernel_rfl) (by kernel_rfl) (fun _ _ _ h => h) (Or.inl ⟨by rfl, ?_⟩) (by assumption) ?_
  rotate_left
  · (intro w hSw; (try dsimp only at hSw); go_simp; try (with_reducible rfl))
  try simp only [Act.put, List.getElem_toArray, List.getElem_cons_zero, List.getElem_cons_succ, List.setIfInBounds_toArray, List.set_cons_zero, List.set_cons_succ]
  refine wpAnyH_take (i := 2) (v := ?_) rfl (by kernel_rfl) (by kernel_rfl) (by kernel_rfl) (fun _ _ _ h => h) (Or.inl ⟨by rfl, ?_⟩) (by assumption) ?_
  rotate_left
  · (intro w hSw; (try dsimp only at hSw); go_simp; try (with_reducible rfl))
  try simp only [Act.put, List.getElem_toArray, List.getElem_cons_zero, List.getElem_cons_succ, List.setIfInBounds_toArray, List.set_cons_zero, List.set_cons_succ]
  refine wpAnyH_take (i := 3) (v := ?_) rfl (by kernel_rfl) (by kernel_rfl) (by kernel_rfl) (fun _ _ _ h => h) (Or.inl ⟨by rfl, ?_⟩) (by assumption) ?_
  rotate_left
  · (intro w hSw; (try dsimp only at hSw); go_simp; try (with_reducible rfl))
  try simp only [Act.put, List.getElem_toArray, List.getElem_cons_zero, List.getElem_cons_succ, List.setIfInBounds_toArray, List.set_cons_zero, List.set_cons_succ]
  refine wpAnyH_take (i := 4) (v := ?_) rfl (by kernel_rfl) (by kernel_rfl) (by kernel_rfl) (fun _ _ _ h => h) (Or.inl ⟨by rfl, ?_⟩) (by assumption) ?_
  rotate_left
  · (intro w hSw; (try dsimp only at hSw); go_simp; try (with_reducible rfl))
  try simp only [Act.put, List.getElem_toArray, List.getElem_cons_zero, List.getElem_cons_succ, List.setIfInBounds_toArray, List.set_cons_zero, List.set_cons_succ]
  refine wpAnyH_take (i := 5) (v := ?_) rfl (by kernel_rfl) (by kernel_rfl) (by kernel_rfl) (fun _ _ _ h => h) (Or.inl ⟨by rfl, ?_⟩) (by assumption) ?_
  rotate_left
  · (intro w hSw; (try dsimp only at hSw); go_simp; try (with_reducible rfl))
  try simp only [Act.put, List.getElem_toArray, List.getElem_cons_zero, List.getElem_cons_succ, List.setIfInBounds_toArray, List.set_cons_zero, List.set_cons_succ]
  refine wpAnyH_take (i := 6) (v := ?_) rfl (by kernel_rfl) (by kernel_rfl) (by kernel_rfl) (fun _ _ _ h => h) (Or.inl ⟨by rfl, ?_⟩) (by assumption) ?_
  rotate_left
  · (intro w hSw; (try dsimp only at hSw); go_simp; try (with_reducible rfl))
  try simp only [Act.put, List.getElem_toArray, List.getElem_cons_zero, List.getElem_cons_succ, List.setIfInBounds_toArray, List.set_cons_zero, List.set_cons_succ]
  refine wpAnyH_take (i := 7) (v := ?_) rfl (by kernel_rfl) (by kernel_rfl) (by kernel_rfl) (fun _ _ _ h => h) (Or.inl ⟨by rfl, ?_⟩) (by assumption) ?_
  rotate_left
  · (intro w hSw; (try dsimp only at hSw); go_simp; try (with_reducible rfl))
  try simp only [Act.put, List.getElem_toArray, List.getElem_cons_zero, List.getElem_cons_succ, List.setIfInBounds_toArray, List.set_cons_zero, List.set_cons_succ]
  refine wpAnyH_take (i := 8) (v := ?_) rfl (by kernel_rfl) (by kernel_rfl) (by kernel_rfl) (fun _ _ _ h => h) (Or.inl ⟨by rfl, ?_⟩) (by assumption) ?_
  rotate_left
  · (intro w hSw; (try dsimp only at hSw); go_simp; try (with_reducible rfl))
  try simp only [Act.put, List.getElem_toArray, List.getElem_cons_zero, List.getElem_cons_succ, List.setIfInBounds_toArray, List.set_cons_zero, List.set_cons_succ]
  refine wpAnyH_ready (rs := [9]) (by kernel_rfl) (by simp) ?_
  refine (AllReadyH.cons rfl (fun K hK => ?_) AllReadyH.nil)
  · go_simp
    refine hK.out _ _ ?_ (fun hHeld => ?_)
    · first | exact hHeld | (simp [go_sem, k0, k1, hql, Nat.ne_of_lt]; done)
    clear hK K
    try simp only [Act.put, List.getElem_toArray, List.getElem_cons_zero, List.getElem_cons_succ, List.setIfInBounds_toArray, List.set_cons_zero, List.set_cons_succ]
    refine wpAnyH_ready (rs := [10]) (by kernel_rfl) (by simp) ?_
    refine (AllReadyH.cons rfl (fun K hK => ?_) AllReadyH.nil)
    · go_simp
      refine hK.out _ _ ?_ (fun hHeld => ?_)
      · first | exact hHeld | (simp [go_sem, k0, k1, hql, Nat.ne_of_lt]; done)
      clear hK K
      try simp only [Act.put, List.getElem_toArray, List.getElem_cons_zero, List.getElem_cons_succ, List.setIfInBounds_toArray, List.set_cons_zero, List.set_cons_succ]
      refine wpAnyH_done (by kernel_rfl) ?_ _
      simp only [Chg.vals, Chg.zero] at HG
      clear k0 k1 hHeld HD HC
      obtain ⟨r, hr⟩ : ∃ r, wz.heap.size = r := ⟨_, rfl⟩
      rw [hr] at HG ⊢
      generalize (wz.alloc (.cells #[.int .i64 4, .int .i64 dv, .int .i64 0, .int .i64 0, .int .i64 0, .int .i64 0, .int .i64 0, .bool false, .bool false] 45)).drew = W at *
      have hqr : ¬ q = r := by omega
      have kz := HG.out.co.c0
      simp only [] at kz
      have k2 := HG.out.co.c2
      have k8 := HG.out.co.c8
      have u2 := HG.out.cu.c2
      have u8 := HG.out.cu.c8
      have uf := HG.out.cu.fr
      simp only [] at k2 k8 u2 u8
      go_upto_region 22 with fail
      clear kz
      refine wp_region_held_drew (S := fun w' => w'.cell? ⟨q, o + 2, none⟩ = some (.int .i64 hp) ∧ w'.cell? ⟨q, o + 8, none⟩ = some (.bool up)) (by kernel_rfl) (And.intro k2 k8) (fun hHeld => ?_)
      refine wpAnyH_take (i := 0) (v := ?_) rfl (by kernel_rfl) (by kernel_rfl) (by kernel_rfl) (fun _ _ _ h => h) (Or.inl ⟨by rfl, ?_⟩) (by assumption) ?_
      rotate_left
      · (intro w hSw; (try dsimp only at hSw); go_simp; try (with_reducible rfl))
      try simp only [Act.put, List.getElem_toArray, List.getElem_cons_zero, List.getElem_cons_succ, List.setIfInBounds_toArray, List.set_cons_zero, List.set_cons_succ]
      refine wpAnyH_take (i := 1) (v := ?_) rfl (by kernel_rfl) (by kernel_rfl) (by kernel_rfl) (fun _ _ _ h => h) (Or.inl ⟨by rfl, ?_⟩) (by assumption) ?_
      rotate_left
      · (intro w hSw; (try dsimp only at hSw); go_simp; try (with_reducible rfl))
      try simp only [Act.put, List.getElem_toArray, List.getElem_cons_zero, List.getElem_cons_succ, List.setIfInBounds_toArray, List.set_cons_zero, List.set_cons_succ]
      refine wpAnyH_take (i := 2) (v := ?_) rfl (by kernel_rfl) (by kernel_rfl) (by kernel_rfl) (fun _ _ _ h => h) (Or.inl ⟨by rfl, ?_⟩) (by assumption) ?_
      rotate_left
      · (intro w hSw; (try dsimp only at hSw); go_simp; try (with_reducible rfl))
      try simp only [Act.put, List.getElem_toArray, List.getElem_cons_zero, List.getElem_cons_succ, List.setIfInBounds_toArray, List.set_cons_zero, List.set_cons_succ]
      refine wpAnyH_take (i := 3) (v := ?_) rfl (by kernel_rfl) (by kernel_rfl) (by kernel_rfl) (fun _ _ _ h => h) (Or.inl ⟨by rfl, ?_⟩) (by assumption) ?_
      rotate_left
      · (intro w hSw; (try dsimp only at hSw); go_simp; try (with_reducible rfl))
      try simp only [Act.put, List.getElem_toArray, List.getElem_cons_zero, List.getElem_cons_succ, List.setIfInBounds_toArray, List.set_cons_zero, List.set_cons_succ]
      refine wpAnyH_take (i := 4) (v := ?_) rfl (by kernel_rfl) (by kernel_rfl) (by kernel_rfl) (fun _ _ _ h => h) (Or.inl ⟨by rfl, ?_⟩) (by assumption) ?_
      rotate_left
      · (intro w hSw; (try dsimp only at hSw); go_simp; try (with_reducible rfl))
      try simp only [Act.put, List.getElem_toArray, List.getElem_cons_zero, List.getElem_cons_succ, List.setIfInBounds_toArray, List.set_cons_zero, List.set_cons_succ]
      refine wpAnyH_take (i := 5) (v := ?_) rfl (by kernel_rfl) (by kernel_rfl) (by kernel_rfl) (fun _ _ _ h => h) (Or.inl ⟨by rfl, ?_⟩) (by assumption) ?_
      rotate_left
      · (intro w hSw; (try dsimp only at hSw); go_simp; try (with_reducible rfl))
      try simp only [Act.put, List.getElem_toArray, List.getElem_cons_zero, List.getElem_cons_succ, List.setIfInBounds_toArray, List.set_cons_zero, List.set_cons_succ]
      refine wpAnyH_take (i := 6) (v := ?_) rfl (by kernel_rfl) (by kernel_rfl) (by kernel_rfl) (fun _ _ _ h => h) (Or.inl ⟨by rfl, ?_⟩) (by assumption) ?_
      rotate_left
      · (intro w hSw; (try dsimp only at hSw); go_simp; try (with_reducible rfl))
      try simp only [Act.put, List.getElem_toArray, List.getElem_cons_zero, List.getElem_cons_succ, List.setIfInBounds_toArray, List.set_cons_zero, List.set_cons_succ]
      refine wpAnyH_take (i := 7) (v := ?_) rfl (by kernel_rfl) (by kernel_rfl) (by kernel_rfl) (fun _ _ _ h => h) (Or.inl ⟨by rfl, ?_⟩) (by assumption) ?_
      rotate_left
      · (intro w hSw; (try dsimp only at hSw); go_simp; try (with_reducible rfl))
      try simp only [Act.put, List.getElem_toArray, List.getElem_cons_zero, List.getElem_cons_succ, List.setIfInBounds_toArray, List.set_cons_zero, List.set_cons_succ]
      refine wpAnyH_take (i := 8) (v := ?_) rfl (by kernel_rfl) (by kernel_rfl) (by kernel_rfl) (fun _ _ _ h => h) (Or.inl ⟨by rfl, ?_⟩) (by assumption) ?_
      rotate_left
      · (intro w hSw; (try dsimp only at hSw); go_simp; try (with_reducible rfl))
      try simp only [Act.put, List.getElem_toArray, List.getElem_cons_zero, List.getElem_cons_succ, List.setIfInBounds_toArray, List.set_cons_zero, List.set_cons_succ]
      refine wpAnyH_ready (rs := [9]) (by kernel_rfl) (by simp) ?_
      refine (AllReadyH.cons rfl (fun K hK => ?_) AllReadyH.nil)
      · go_simp
        refine hK.out _ _ ?_ (fun hHeld => ?_)
        · first | exact hHeld | (simp [go_sem, k2, k8, hqr]; done)
        clear hK K
        try simp only [Act.put, List.getElem_toArray, List.getElem_cons_zero, List.getElem_cons_succ, List.setIfInBounds_toArray, List.set_cons_zero, List.set_cons_succ]
        refine wpAnyH_take (i := 10) (v := ?_) rfl (by kernel_rfl) (by kernel_rfl) (by kernel_rfl) (fun _ _ _ h => h) (Or.inl ⟨by rfl, ?_⟩) (by assumption) ?_
        rotate_left
        · (intro w hSw; (try dsimp only at hSw); go_simp; try (with_reducible rfl))
        try simp only [Act.put, List.getElem_toArray, List.getElem_cons_zero, List.getElem_cons_succ, List.setIfInBounds_toArray, List.set_cons_zero, List.set_cons_succ]
        refine wpAnyH_ready (rs := [11]) (by kernel_rfl) (by simp) ?_
        refine (AllReadyH.cons rfl (fun K hK => ?_) AllReadyH.nil)
        · go_simp
          refine hK.out _ _ ?_ (fun hHeld => ?_)
          · first | exact hHeld | (simp [go_sem, k2, k8, hqr]; done)
          clear hK K
          try simp only [Act.put, List.getElem_toArray, List.getElem_cons_zero, List.getElem_cons_succ, List.setIfInBounds_toArray, List.set_cons_zero, List.set_cons_succ]
          refine wpAnyH_done (by kernel_rfl) ?_ _
          replace HG := hide ((HG.out.un (((Ex.refl (fun k => k = r) W).set (p := r) (j := 2) rfl (.int .i64 hp)).set (p := r) (j := 8) rfl (.bool up)) ((HG.out.cu.put2 hp).put8 up)).drewN 1)
          rw [drewN1] at HG
          clear hHeld uf k2 k8 u2 u8
          generalize ((W.setCell ⟨r, 2, none⟩ (.int .i64 hp)).setCell ⟨r, 8, none⟩ (.bool up)).drew = W1 at *
          have hge : decide (hp ≤ dv) = !lt := by
            rw [← H_lt.out]
            by_cases h : dv < hp
            · rw [decide_eq_false (by omega), decide_eq_true h]; rfl
            · rw [decide_eq_true (by omega), decide_eq_false h]; rfl
          have k1 := HG.out.co.c1
          have k2 := HG.out.co.c2
          simp only [] at k1 k2
          have HGD : ∀ n, Hid (Calls Try.prog 59 #[.int .i64 hp] (W1.drewN n) fun e w' => e = .returned (.bool gd) ∧ w' = W1.drewN n) := fun n => by
            have := goodDevice_any (W1.drewN n) hp
            rwa [H_gd.out] at this
          clear H_gd H_lt
          go_upto_region 23 with fail
          cases gd
          · go_quiet (first | (go_at_call 59; refine Calls.quiet_of_same (HGD _).out))
            replace HG := hide (HG.out.drewN nq)
            go_wp2
            go_ret
            exact ⟨by first | rfl | simp, HG.out.ex⟩
          · cases lt
            · simp only [Bool.not_false] at hge
              go_quiet (first | (go_at_call 59; refine Calls.quiet_of_same (HGD _).out))
              replace HG := hide (HG.out.drewN nq)
              go_wp2
              go_ret
              exact ⟨by first | rfl | simp, HG.out.ex⟩
            · simp only [Bool.not_true] at hge
              go_quiet (first | (go_at_call 59; refine Calls.quiet_of_same (HGD _).out))
              replace HG := hide (HG.out.drewN nq)
              generalize W1.drewN nq = W2 at *
              clear k1 k2 HGD
              go_upto_region 27 with fail
              clear hge
              have k0 := HG.out.co.c0
              have k1 := HG.out.co.c1
              have k2 := HG.out.co.c2
              have k3 := HG.out.co.c3
              have k4 := HG.out.co.c4
              have k5 := HG.out.co.c5
              have k6 := HG.out.co.c6
              have k7 := HG.out.co.c7
              have k8 := HG.out.co.c8
              have u0 := HG.out.cu.c0
              have u1 := HG.out.cu.c1
              have u2 := HG.out.cu.c2
              have u3 := HG.out.cu.c3
              have u4 := HG.out.cu.c4
              have u5 := HG.out.cu.c5
              have u6 := HG.out.cu.c6
              have u7 := HG.out.cu.c7
              have u8 := HG.out.cu.c8
              have uf := HG.out.cu.fr
              simp only [] at k0 k1 k2 k3 k4 k5 k6 k7 k8 u0 u1 u2 u3 u4 u5 u6 u7 u8
              have HG0 := HG
              by_cases h_pr : pr = 0
              rotate_left
              · have e_pr : (pr == 0) = false := by simpa using h_pr
                have hfin : finB ⟨4, dv, hp, pr, ln, ix, cl, pm, up⟩ ⟨4, dv, hp, 0, 0, 0, 0, false, up⟩ = false := by simp [finB, eqC, h_pr]
                go_quiet (fail)
                replace HG := hide (HG.out.drewN nq)
                go_wp2
                go_ret
                exact ⟨by first | rfl | rw [hfin], HG.out.ex⟩
              subst h_pr
              by_cases h_ln : ln = 0
              rotate_left
              · have e_ln : (ln == 0) = false := by simpa using h_ln
                have hfin : finB ⟨4, dv, hp, 0, ln, ix, cl, pm, up⟩ ⟨4, dv, hp, 0, 0, 0, 0, false, up⟩ = false := by simp [finB, eqC, h_ln]
                go_quiet (fail)
                replace HG := hide (HG.out.drewN nq)
                go_wp2
                go_ret
                exact ⟨by first | rfl | rw [hfin], HG.out.ex⟩
              subst h_ln
              by_cases h_ix : ix = 0
              rotate_left
              · have e_ix : (ix == 0) = false := by simpa using h_ix
                have hfin : finB ⟨4, dv, hp, 0, 0, ix, cl, pm, up⟩ ⟨4, dv, hp, 0, 0, 0, 0, false, up⟩ = false := by simp [finB, eqC, h_ix]
                go_quiet (fail)
                replace HG := hide (HG.out.drewN nq)
                go_wp2
                go_ret
                exact ⟨by first | rfl | rw [hfin], HG.out.ex⟩
              subst h_ix
              by_cases h_cl : cl = 0
              rotate_left
              · have e_cl : (cl == 0) = false := by simpa using h_cl
                have hfin : finB ⟨4, dv, hp, 0, 0, 0, cl, pm, up⟩ ⟨4, dv, hp, 0, 0, 0, 0, false, up⟩ = false := by simp [finB, eqC, h_cl]
                go_quiet (fail)
                replace HG := hide (HG.out.drewN nq)
                go_wp2
                go_ret
                exact ⟨by first | rfl | rw [hfin], HG.out.ex⟩
              subst h_cl
              cases pm
              rotate_left
              · have hfin : finB ⟨4, dv, hp, 0, 0, 0, 0, true, up⟩ ⟨4, dv, hp, 0, 0, 0, 0, false, up⟩ = false := by simp [finB, eqC]
                go_quiet (fail)
                replace HG := hide (HG.out.drewN nq)
                go_wp2
                go_ret
                exact ⟨by first | rfl | rw [hfin], HG.out.ex⟩
              have hfin : finB ⟨4, dv, hp, 0, 0, 0, 0, false, up⟩ ⟨4, dv, hp, 0, 0, 0, 0, false, up⟩ = true := by simp [finB, eqC]
              go_quiet (fail)
              replace HG := hide (HG.out.drewN nq)
              go_wp2
              go_ret
              exact ⟨by first | rfl | rw [hfin], HG.out.ex⟩
set_option linter.unusedSimpArgs false in
set_option maxRecDepth 100000 in
set_option maxHeartbeats 8000000 in
theorem good_ins (w : World) (q o : Nat) (dv hp pr ln ix cl : Int) (pm up : Bool) (hc : CO w q o ⟨2, dv, hp, pr, ln, ix, cl, pm, up⟩) (hd : gdB dv = true) :
    Calls Try.prog 36 #[.pointer (some ⟨q, o, none⟩)] w fun e w' => e = .returned (.bool (gpB pr ln && (decide (0 ≤ cl) && (decide (cl ≤ 16) && finB ⟨2, dv, hp, pr, ln, ix, cl, pm, up⟩ ⟨2, dv, 0, pr, ln, ix, cl, pm, false⟩)))) ∧ Ex (fun _ => False) w w' := by
  have HC := hide hc
  have k0 := hc.c0
  have k1 := hc.c1
  simp only [] at k0 k1
  have hql : q < w.heap.size := World.block_lt_of_cell? _ _ k0
  have HG := hide (gx_new hc { Chg.zero with kd := 2, dv := dv })
  have HD := hide (goodDevice_any w dv)
  rw [hd] at HD
  clear hc
  obtain ⟨gp, hgp⟩ : ∃ x, gpB pr ln = x := ⟨_, rfl⟩
  obtain ⟨c0, hc0⟩ : ∃ x, decide (0 ≤ cl) = x := ⟨_, rfl⟩
  obtain ⟨c1, hc1⟩ : ∃ x, decide (cl ≤ 16) = x := ⟨_, rfl⟩
  rw [hgp, hc0, hc1]
  have H_gp := hide hgp
  have H_c0 := hide hc0
  have H_c1 := hide hc1
  clear hgp hc0 hc1
  go_enter Try.func36, Try.ntmps36
  go_wp2_with fail
  refine HD.out.mono ?_
  rintro e wz ⟨rfl, rfl⟩
  go_upto_region 3 with fail
  refine wp_region_held_drew (S := fun w' => w'.cell? ⟨q, o, none⟩ = some (.int .i64 2) ∧ w'.cell? ⟨q, o + 1, none⟩ = some (.int .i64 dv)) (by kernel_rfl) (And.intro k0 k1) (fun hHeld => ?_)
  refine wpAnyH_take (i := 0) (v := ?_) rfl (by kernel_rfl) (by kernel_rfl) (by kernel_rfl) (fun _ _ _ h => h) (Or.inl ⟨by rfl, ?_⟩) (by assumption) ?_
  rotate_left
  · (intro w hSw; (try dsimp only at hSw); go_simp; try (with_reducible rfl))
  try simp only [Act.put, List.getElem_toArray, List.getElem_cons_zero, List.getElem_cons_succ, List.setIfInBounds_toArray, List.set_cons_zero, List.set_cons_succ]
  refine wpAnyH_take (i := 1) (v := ?_) rfl (by kernel_rfl) (by kernel_rfl) (by kernel_rfl) (fun _ _ _ h => h) (Or.inl ⟨by rfl, ?_⟩) (by assumption) ?_
  rotate_left
  · (intro w hSw; (try dsimp only at hSw); go_simp; try (with_reducible rfl))
  try simp only [Act.put, List.getElem_toArray, List.getElem_cons_zero, List.getElem_cons_succ, List.setIfInBounds_toArray, List.set_cons_zero, List.set_cons_succ]
  refine wpAnyH_take (i := 2) (v := ?_) rfl (by kernel_rfl) (by kernel_rfl) (by kernel_rfl) (fun _ _ _ h => h) (Or.inl ⟨by rfl, ?_⟩) (by assumption) ?_
  rotate_left
  · (intro w hSw; (try dsimp only at hSw); go_simp; try (with_reducible rfl))
  try simp only [Act.put, List.getElem_toArray, List.getElem_cons_zero, List.getElem_cons_succ, List.setIfInBounds_toArray, List.set_cons_zero, List.set_cons_succ]
  refine wpAnyH_take (i := 3) (v := ?_) rfl (by kernel_rfl) (by kernel_rfl) (by kernel_rfl) (fun _ _ _ h => h) (Or.inl ⟨by rfl, ?_⟩) (by assumption) ?_
  rotate_left
  · (intro w hSw; (try dsimp only at hSw); go_simp; try (with_reducible rfl))
  try simp only [Act.put, List.getElem_toArray, List.getElem_cons_zero, List.getElem_cons_succ, List.setIfInBounds_toArray, List.set_cons_zero, List.set_cons_succ]
  refine wpAnyH_take (i := 4) (v := ?_) rfl (by kernel_rfl) (by kernel_rfl) (by kernel_rfl) (fun _ _ _ h => h) (Or.inl ⟨by rfl, ?_⟩) (by assumption) ?_
  rotate_left
  · (intro w hSw; (try dsimp only at hSw); go_simp; try (with_reducible rfl))
  try simp only [Act.put, List.getElem_toArray, List.getElem_cons_zero, List.getElem_cons_succ, List.setIfInBounds_toArray, List.set_cons_zero, List.set_cons_succ]
  refine wpAnyH_take (i := 5) (v := ?_) rfl (by kernel_rfl) (by kernel_rfl) (by kernel_rfl) (fun _ _ _ h => h) (Or.inl ⟨by rfl, ?_⟩) (by assumption) ?_
  rotate_left
  · (intro w hSw; (try dsimp only at hSw); go_simp; try (with_reducible rfl))
  try simp only [Act.put, List.getElem_toArray, List.getElem_cons_zero, List.getElem_cons_succ, List.setIfInBounds_toArray, List.set_cons_zero, List.set_cons_succ]
  refine wpAnyH_take (i := 6) (v := ?_) rfl (by kernel_rfl) (by kernel_rfl) (by kernel_rfl) (fun _ _ _ h => h) (Or.inl ⟨by rfl, ?_⟩) (by assumption) ?_
  rotate_left
  · (intro w hSw; (try dsimp only at hSw); go_simp; try (with_reducible rfl))
  try simp only [Act.put, List.getElem_toArray, List.getElem_cons_zero, List.getElem_cons_succ, List.setIfInBounds_toArray, List.set_cons_zero, List.set_cons_succ]
  refine wpAnyH_take (i := 7) (v := ?_) rfl (by kernel_rfl) (by kernel_rfl) (by kernel_rfl) (fun _ _ _ h => h) (Or.inl ⟨by rfl, ?_⟩) (by assumption) ?_
  rotate_left
  · (intro w hSw; (try dsimp only at hSw); go_simp; try (with_reducible rfl))
  try simp only [Act.put, List.getElem_toArray, List.getElem_cons_zero, List.getElem_cons_succ, List.setIfInBounds_toArray, List.set_cons_zero, List.set_cons_succ]
  refine wpAnyH_take (i := 8) (v := ?_) rfl (by kernel_rfl) (by kernel_rfl) (by kernel_rfl) (fun _ _ _ h => h) (Or.inl ⟨by rfl, ?_⟩) (by assumption) ?_
  rotate_left
  · (intro w hSw; (try dsimp only at hSw); go_simp; try (with_reducible rfl))
  try simp only [Act.put, List.getElem_toArray, List.getElem_cons_zero, List.getElem_cons_succ, List.setIfInBounds_toArray, List.set_cons_zero, List.set_cons_succ]
  refine wpAnyH_ready (rs := [9]) (by kernel_rfl) (by simp) ?_
  refine (AllReadyH.cons rfl (fun K hK => ?_) AllReadyH.nil)
  · go_simp
    refine hK.out _ _ ?_ (fun hHeld => ?_)
    · first | exact hHeld | (simp [go_sem, k0, k1, hql, Nat.ne_of_lt]; done)
    clear hK K
    try simp only [Act.put, List.getElem_toArray, List.getElem_cons_zero, List.getElem_cons_succ, List.setIfInBounds_toArray, List.set_cons_zero, List.set_cons_succ]
    refine wpAnyH_ready (rs := [10]) (by kernel_rfl) (by simp) ?_
    refine (AllReadyH.cons rfl (fun K hK => ?_) AllReadyH.nil)
    · go_simp
      refine hK.out _ _ ?_ (fun hHeld => ?_)
      · first | exact hHeld | (simp [go_sem, k0, k1, hql, Nat.ne_of_lt]; done)
      clear hK K
      try simp only [Act.put, List.getElem_toArray, List.getElem_cons_zero, List.getElem_cons_succ, List.setIfInBounds_toArray, List.set_cons_zero, List.set_cons_succ]
      refine wpAnyH_done (by kernel_rfl) ?_ _
      simp only [Chg.vals, Chg.zero] at HG
      clear k0 k1 hHeld HD HC
      obtain ⟨r, hr⟩ : ∃ r, wz.heap.size = r := ⟨_, rfl⟩
      rw [hr] at HG ⊢
      generalize (wz.alloc (.cells #[.int .i64 2, .int .i64 dv, .int .i64 0, .int .i64 0, .int .i64 0, .int .i64 0, .int .i64 0, .bool false, .bool false] 45)).drew = W at *
      have hqr : ¬ q = r := by omega
      have kz := HG.out.co.c0
      simp only [] at kz
      have k3 := HG.out.co.c3
      have k4 := HG.out.co.c4
      have k5 := HG.out.co.c5
      have u3 := HG.out.cu.c3
      have u4 := HG.out.cu.c4
      have u5 := HG.out.cu.c5
      have uf := HG.out.cu.fr
      simp only [] at k3 k4 k5 u3 u4 u5
      go_upto_region 15 with fail
      clear kz
      refine wp_region_held_drew (S := fun w' => w'.cell? ⟨q, o + 3, none⟩ = some (.int .i64 pr) ∧ w'.cell? ⟨q, o + 4, none⟩ = some (.int .i64 ln) ∧ w'.cell? ⟨q, o + 5, none⟩ = some (.int .i64 ix)) (by kernel_rfl) (And.intro k3 (And.intro k4 k5)) (fun hHeld => ?_)
      refine wpAnyH_take (i := 0) (v := ?_) rfl (by kernel_rfl) (by kernel_rfl) (by kernel_rfl) (fun _ _ _ h => h) (Or.inl ⟨by rfl, ?_⟩) (by assumption) ?_
      rotate_left
      · (intro w hSw; (try dsimp only at hSw); go_simp; try (with_reducible rfl))
      try simp only [Act.put, List.getElem_toArray, List.getElem_cons_zero, List.getElem_cons_succ, List.setIfInBounds_toArray, List.set_cons_zero, List.set_cons_succ]
      refine wpAnyH_take (i := 1) (v := ?_) rfl (by kernel_rfl) (by kernel_rfl) (by kernel_rfl) (fun _ _ _ h => h) (Or.inl ⟨by rfl, ?_⟩) (by assumption) ?_
      rotate_left
      · (intro w hSw; (try dsimp only at hSw); go_simp; try (with_reducible rfl))
      try simp only [Act.put, List.getElem_toArray, List.getElem_cons_zero, List.getElem_cons_succ, List.setIfInBounds_toArray, List.set_cons_zero, List.set_cons_succ]
      refine wpAnyH_take (i := 2) (v := ?_) rfl (by kernel_rfl) (by kernel_rfl) (by kernel_rfl) (fun _ _ _ h => h) (Or.inl ⟨by rfl, ?_⟩) (by assumption) ?_
      rotate_left
      · (intro w hSw; (try dsimp only at hSw); go_simp; try (with_reducible rfl))
      try simp only [Act.put, List.getElem_toArray, List.getElem_cons_zero, List.getElem_cons_succ, List.setIfInBounds_toArray, List.set_cons_zero, List.set_cons_succ]
      refine wpAnyH_take (i := 3) (v := ?_) rfl (by kernel_rfl) (by kernel_rfl) (by kernel_rfl) (fun _ _ _ h => h) (Or.inl ⟨by rfl, ?_⟩) (by assumption) ?_
      rotate_left
      · (intro w hSw; (try dsimp only at hSw); go_simp; try (with_reducible rfl))
      try simp only [Act.put, List.getElem_toArray, List.getElem_cons_zero, List.getElem_cons_succ, List.setIfInBounds_toArray, List.set_cons_zero, List.set_cons_succ]
      refine wpAnyH_take (i := 4) (v := ?_) rfl (by kernel_rfl) (by kernel_rfl) (by kernel_rfl) (fun _ _ _ h => h) (Or.inl ⟨by rfl, ?_⟩) (by assumption) ?_
      rotate_left
      · (intro w hSw; (try dsimp only at hSw); go_simp; try (with_reducible rfl))
      try simp only [Act.put, List.getElem_toArray, List.getElem_cons_zero, List.getElem_cons_succ, List.setIfInBounds_toArray, List.set_cons_zero, List.set_cons_succ]
      refine wpAnyH_take (i := 5) (v := ?_) rfl (by kernel_rfl) (by kernel_rfl) (by kernel_rfl) (fun _ _ _ h => h) (Or.inl ⟨by rfl, ?_⟩) (by assumption) ?_
      rotate_left
      · (intro w hSw; (try dsimp only at hSw); go_simp; try (with_reducible rfl))
      try simp only [Act.put, List.getElem_toArray, List.getElem_cons_zero, List.getElem_cons_succ, List.setIfInBounds_toArray, List.set_cons_zero, List.set_cons_succ]
      refine wpAnyH_take (i := 6) (v := ?_) rfl (by kernel_rfl) (by kernel_rfl) (by kernel_rfl) (fun _ _ _ h => h) (Or.inl ⟨by rfl, ?_⟩) (by assumption) ?_
      rotate_left
      · (intro w hSw; (try dsimp only at hSw); go_simp; try (with_reducible rfl))
      try simp only [Act.put, List.getElem_toArray, List.getElem_cons_zero, List.getElem_cons_succ, List.setIfInBounds_toArray, List.set_cons_zero, List.set_cons_succ]
      refine wpAnyH_take (i := 7) (v := ?_) rfl (by kernel_rfl) (by kernel_rfl) (by kernel_rfl) (fun _ _ _ h => h) (Or.inl ⟨by rfl, ?_⟩) (by assumption) ?_
      rotate_left
      · (intro w hSw; (try dsimp only at hSw); go_simp; try (with_reducible rfl))
      try simp only [Act.put, List.getElem_toArray, List.getElem_cons_zero, List.getElem_cons_succ, List.setIfInBounds_toArray, List.set_cons_zero, List.set_cons_succ]
      refine wpAnyH_take (i := 8) (v := ?_) rfl (by kernel_rfl) (by kernel_rfl) (by kernel_rfl) (fun _ _ _ h => h) (Or.inl ⟨by rfl, ?_⟩) (by assumption) ?_
      rotate_left
      · (intro w hSw; (try dsimp only at hSw); go_simp; try (with_reducible rfl))
      try simp only [Act.put, List.getElem_toArray, List.getElem_cons_zero, List.getElem_cons_succ, List.setIfInBounds_toArray, List.set_cons_zero, List.set_cons_succ]
      refine wpAnyH_take (i := 9) (v := ?_) rfl (by kernel_rfl) (by kernel_rfl) (by kernel_rfl) (fun _ _ _ h => h) (Or.inl ⟨by rfl, ?_⟩) (by assumption) ?_
      rotate_left
      · (intro w hSw; (try dsimp only at hSw); go_simp; try (with_reducible rfl))
      try simp only [Act.put, List.getElem_toArray, List.getElem_cons_zero, List.getElem_cons_succ, List.setIfInBounds_toArray, List.set_cons_zero, List.set_cons_succ]
      refine wpAnyH_take (i := 10) (v := ?_) rfl (by kernel_rfl) (by kernel_rfl) (by kernel_rfl) (fun _ _ _ h => h) (Or.inl ⟨by rfl, ?_⟩) (by assumption) ?_
      rotate_left
      · (intro w hSw; (try dsimp only at hSw); go_simp; try (with_reducible rfl))
      try simp only [Act.put, List.getElem_toArray, List.getElem_cons_zero, List.getElem_cons_succ, List.setIfInBounds_toArray, List.set_cons_zero, List.set_cons_succ]
      refine wpAnyH_take (i := 11) (v := ?_) rfl (by kernel_rfl) (by kernel_rfl) (by kernel_rfl) (fun _ _ _ h => h) (Or.inl ⟨by rfl, ?_⟩) (by assumption) ?_
      rotate_left
      · (intro w hSw; (try dsimp only at hSw); go_simp; try (with_reducible rfl))
      try simp only [Act.put, List.getElem_toArray, List.getElem_cons_zero, List.getElem_cons_succ, List.setIfInBounds_toArray, List.set_cons_zero, List.set_cons_succ]
      refine wpAnyH_take (i := 12) (v := ?_) rfl (by kernel_rfl) (by kernel_rfl) (by kernel_rfl) (fun _ _ _ h => h) (Or.inl ⟨by rfl, ?_⟩) (by assumption) ?_
      rotate_left
      · (intro w hSw; (try dsimp only at hSw); go_simp; try (with_reducible rfl))
      try simp only [Act.put, List.getElem_toArray, List.getElem_cons_zero, List.getElem_cons_succ, List.setIfInBounds_toArray, List.set_cons_zero, List.set_cons_succ]
      refine wpAnyH_ready (rs := [13]) (by kernel_rfl) (by simp) ?_
      refine (AllReadyH.cons rfl (fun K hK => ?_) AllReadyH.nil)
      · go_simp
        refine hK.out _ _ ?_ (fun hHeld => ?_)
        · first | exact hHeld | (simp [go_sem, k3, k4, k5, hqr]; done)
        clear hK K
        try simp only [Act.put, List.getElem_toArray, List.getElem_cons_zero, List.getElem_cons_succ, List.setIfInBounds_toArray, List.set_cons_zero, List.set_cons_succ]
        refine wpAnyH_take (i := 14) (v := ?_) rfl (by kernel_rfl) (by kernel_rfl) (by kernel_rfl) (fun _ _ _ h => h) (Or.inl ⟨by rfl, ?_⟩) (by assumption) ?_
        rotate_left
        · (intro w hSw; (try dsimp only at hSw); go_simp; try (with_reducible rfl))
        try simp only [Act.put, List.getElem_toArray, List.getElem_cons_zero, List.getElem_cons_succ, List.setIfInBounds_toArray, List.set_cons_zero, List.set_cons_succ]
        refine wpAnyH_ready (rs := [15]) (by kernel_rfl) (by simp) ?_
        refine (AllReadyH.cons rfl (fun K hK => ?_) AllReadyH.nil)
        · go_simp
          refine hK.out _ _ ?_ (fun hHeld => ?_)
          · first | exact hHeld | (simp [go_sem, k3, k4, k5, hqr]; done)
          clear hK K
          try simp only [Act.put, List.getElem_toArray, List.getElem_cons_zero, List.getElem_cons_succ, List.setIfInBounds_toArray, List.set_cons_zero, List.set_cons_succ]
          refine wpAnyH_take (i := 16) (v := ?_) rfl (by kernel_rfl) (by kernel_rfl) (by kernel_rfl) (fun _ _ _ h => h) (Or.inl ⟨by rfl, ?_⟩) (by assumption) ?_
          rotate_left
          · (intro w hSw; (try dsimp only at hSw); go_simp; try (with_reducible rfl))
          try simp only [Act.put, List.getElem_toArray, List.getElem_cons_zero, List.getElem_cons_succ, List.setIfInBounds_toArray, List.set_cons_zero, List.set_cons_succ]
          refine wpAnyH_ready (rs := [17]) (by kernel_rfl) (by simp) ?_
          refine (AllReadyH.cons rfl (fun K hK => ?_) AllReadyH.nil)
          · go_simp
            refine hK.out _ _ ?_ (fun hHeld => ?_)
            · first | exact hHeld | (simp [go_sem, k3, k4, k5, hqr]; done)
            clear hK K
            try simp only [Act.put, List.getElem_toArray, List.getElem_cons_zero, List.getElem_cons_succ, List.setIfInBounds_toArray, List.set_cons_zero, List.set_cons_succ]
            refine wpAnyH_done (by kernel_rfl) ?_ _
            replace HG := hide ((HG.out.un ((((Ex.refl (fun k => k = r) W).set (p := r) (j := 3) rfl (.int .i64 pr)).set (p := r) (j := 4) rfl (.int .i64 ln)).set (p := r) (j := 5) rfl (.int .i64 ix)) (((HG.out.cu.put3 pr).put4 ln).put5 ix)).drewN 1)
            rw [drewN1] at HG
            clear hHeld uf k3 k4 k5 u3 u4 u5
            generalize (((W.setCell ⟨r, 3, none⟩ (.int .i64 pr)).setCell ⟨r, 4, none⟩ (.int .i64 ln)).setCell ⟨r, 5, none⟩ (.int .i64 ix)).drew = W1 at *
            have kz := HG.out.co.c0
            simp only [] at kz
            have k6 := HG.out.co.c6
            have k7 := HG.out.co.c7
            have u6 := HG.out.cu.c6
            have u7 := HG.out.cu.c7
            have uf := HG.out.cu.fr
            simp only [] at k6 k7 u6 u7
            go_upto_region 16 with fail
            clear kz
            refine wp_region_held_drew (S := fun w' => w'.cell? ⟨q, o + 6, none⟩ = some (.int .i64 cl) ∧ w'.cell? ⟨q, o + 7, none⟩ = some (.bool pm)) (by kernel_rfl) (And.intro k6 k7) (fun hHeld => ?_)
            refine wpAnyH_take (i := 0) (v := ?_) rfl (by kernel_rfl) (by kernel_rfl) (by kernel_rfl) (fun _ _ _ h => h) (Or.inl ⟨by rfl, ?_⟩) (by assumption) ?_
            rotate_left
            · (intro w hSw; (try dsimp only at hSw); go_simp; try (with_reducible rfl))
            try simp only [Act.put, List.getElem_toArray, List.getElem_cons_zero, List.getElem_cons_succ, List.setIfInBounds_toArray, List.set_cons_zero, List.set_cons_succ]
            refine wpAnyH_take (i := 1) (v := ?_) rfl (by kernel_rfl) (by kernel_rfl) (by kernel_rfl) (fun _ _ _ h => h) (Or.inl ⟨by rfl, ?_⟩) (by assumption) ?_
            rotate_left
            · (intro w hSw; (try dsimp only at hSw); go_simp; try (with_reducible rfl))
            try simp only [Act.put, List.getElem_toArray, List.getElem_cons_zero, List.getElem_cons_succ, List.setIfInBounds_toArray, List.set_cons_zero, List.set_cons_succ]
            refine wpAnyH_take (i := 2) (v := ?_) rfl (by kernel_rfl) (by kernel_rfl) (by kernel_rfl) (fun _ _ _ h => h) (Or.inl ⟨by rfl, ?_⟩) (by assumption) ?_
            rotate_left
            · (intro w hSw; (try dsimp only at hSw); go_simp; try (with_reducible rfl))
            try simp only [Act.put, List.getElem_toArray, List.getElem_cons_zero, List.getElem_cons_succ, List.setIfInBounds_toArray, List.set_cons_zero, List.set_cons_succ]
            refine wpAnyH_take (i := 3) (v := ?_) rfl (by kernel_rfl) (by kernel_rfl) (by kernel_rfl) (fun _ _ _ h => h) (Or.inl ⟨by rfl, ?_⟩) (by assumption) ?_
            rotate_left
            · (intro w hSw; (try dsimp only at hSw); go_simp; try (with_reducible rfl))
            try simp only [Act.put, List.getElem_toArray, List.getElem_cons_zero, List.getElem_cons_succ, List.setIfInBounds_toArray, List.set_cons_zero, List.set_cons_succ]
            refine wpAnyH_take (i := 4) (v := ?_) rfl (by kernel_rfl) (by kernel_rfl) (by kernel_rfl) (fun _ _ _ h => h) (Or.inl ⟨by rfl, ?_⟩) (by assumption) ?_
            rotate_left
            · (intro w hSw; (try dsimp only at hSw); go_simp; try (with_reducible rfl))
            try simp only [Act.put, List.getElem_toArray, List.getElem_cons_zero, List.getElem_cons_succ, List.setIfInBounds_toArray, List.set_cons_zero, List.set_cons_succ]
            refine wpAnyH_take (i := 5) (v := ?_) rfl (by kernel_rfl) (by kernel_rfl) (by kernel_rfl) (fun _ _ _ h => h) (Or.inl ⟨by rfl, ?_⟩) (by assumption) ?_
            rotate_left
            · (intro w hSw; (try dsimp only at hSw); go_simp; try (with_reducible rfl))
            try simp only [Act.put, List.getElem_toArray, List.getElem_cons_zero, List.getElem_cons_succ, List.setIfInBounds_toArray, List.set_cons_zero, List.set_cons_succ]
            refine wpAnyH_take (i := 6) (v := ?_) rfl (by kernel_rfl) (by kernel_rfl) (by kernel_rfl) (fun _ _ _ h => h) (Or.inl ⟨by rfl, ?_⟩) (by assumption) ?_
            rotate_left
            · (intro w hSw; (try dsimp only at hSw); go_simp; try (with_reducible rfl))
            try simp only [Act.put, List.getElem_toArray, List.getElem_cons_zero, List.getElem_cons_succ, List.setIfInBounds_toArray, List.set_cons_zero, List.set_cons_succ]
            refine wpAnyH_take (i := 7) (v := ?_) rfl (by kernel_rfl) (by kernel_rfl) (by kernel_rfl) (fun _ _ _ h => h) (Or.inl ⟨by rfl, ?_⟩) (by assumption) ?_
            rotate_left
            · (intro w hSw; (try dsimp only at hSw); go_simp; try (with_reducible rfl))
            try simp only [Act.put, List.getElem_toArray, List.getElem_cons_zero, List.getElem_cons_succ, List.setIfInBounds_toArray, List.set_cons_zero, List.set_cons_succ]
            refine wpAnyH_take (i := 8) (v := ?_) rfl (by kernel_rfl) (by kernel_rfl) (by kernel_rfl) (fun _ _ _ h => h) (Or.inl ⟨by rfl, ?_⟩) (by assumption) ?_
            rotate_left
            · (intro w hSw; (try dsimp only at hSw); go_simp; try (with_reducible rfl))
            try simp only [Act.put, List.getElem_toArray, List.getElem_cons_zero, List.getElem_cons_succ, List.setIfInBounds_toArray, List.set_cons_zero, List.set_cons_succ]
            refine wpAnyH_ready (rs := [9]) (by kernel_rfl) (by simp) ?_
            refine (AllReadyH.cons rfl (fun K hK => ?_) AllReadyH.nil)
            · go_simp
              refine hK.out _ _ ?_ (fun hHeld => ?_)
              · first | exact hHeld | (simp [go_sem, k6, k7, hqr]; done)
              clear hK K
              try simp only [Act.put, List.getElem_toArray, List.getElem_cons_zero, List.getElem_cons_succ, List.setIfInBounds_toArray, List.set_cons_zero, List.set_cons_succ]
              refine wpAnyH_take (i := 10) (v := ?_) rfl (by kernel_rfl) (by kernel_rfl) (by kernel_rfl) (fun _ _ _ h => h) (Or.inl ⟨by rfl, ?_⟩) (by assumption) ?_
              rotate_left
              · (intro w hSw; (try dsimp only at hSw); go_simp; try (with_reducible rfl))
              try simp only [Act.put, List.getElem_toArray, List.getElem_cons_zero, List.getElem_cons_succ, List.setIfInBounds_toArray, List.set_cons_zero, List.set_cons_succ]
              refine wpAnyH_ready (rs := [11]) (by kernel_rfl) (by simp) ?_
              refine (AllReadyH.cons rfl (fun K hK => ?_) AllReadyH.nil)
              · go_simp
                refine hK.out _ _ ?_ (fun hHeld => ?_)
                · first | exact hHeld | (simp [go_sem, k6, k7, hqr]; done)
                clear hK K
                try simp only [Act.put, List.getElem_toArray, List.getElem_cons_zero, List.getElem_cons_succ, List.setIfInBounds_toArray, List.set_cons_zero, List.set_cons_succ]
                refine wpAnyH_done (by kernel_rfl) ?_ _
                replace HG := hide ((HG.out.un (((Ex.refl (fun k => k = r) W1).set (p := r) (j := 6) rfl (.int .i64 cl)).set (p := r) (j := 7) rfl (.bool pm)) ((HG.out.cu.put6 cl).put7 pm)).drewN 1)
                rw [drewN1] at HG
                clear hHeld uf k6 k7 u6 u7
                generalize ((W1.setCell ⟨r, 6, none⟩ (.int .i64 cl)).setCell ⟨r, 7, none⟩ (.bool pm)).drew = W2 at *
                have hl0 : decide (cl < 0) = !c0 := by
                  rw [← H_c0.out]
                  by_cases h : 0 ≤ cl
                  · rw [decide_eq_false (by omega), decide_eq_true h]; rfl
                  · rw [decide_eq_true (by omega), decide_eq_false h]; rfl
                have hl1 : decide (16 < cl) = !c1 := by
                  rw [← H_c1.out]
                  by_cases h : cl ≤ 16
                  · rw [decide_eq_false (by omega), decide_eq_true h]; rfl
                  · rw [decide_eq_true (by omega), decide_eq_false h]; rfl
                have k3 := HG.out.co.c3
                have k4 := HG.out.co.c4
                have k6 := HG.out.co.c6
                simp only [] at k3 k4 k6
                have HGP : ∀ n, Hid (Calls Try.prog 60 #[.int .i64 pr, .int .i64 ln] (W2.drewN n) fun e w' => e = .returned (.bool gp) ∧ w' = W2.drewN n) := fun n => by
                  have := goodPrefix_any (W2.drewN n) pr ln
                  rwa [H_gp.out] at this
                clear H_gp H_c0 H_c1
                go_upto_region 17 with fail
                cases gp
                · go_quiet (first | (go_at_call 60; refine Calls.quiet_of_same (HGP _).out))
                  replace HG := hide (HG.out.drewN nq)
                  go_wp2
                  go_ret
                  exact ⟨by first | rfl | simp, HG.out.ex⟩
                · cases c0
                  · simp only [Bool.not_false] at hl0
                    go_quiet (first | (go_at_call 60; refine Calls.quiet_of_same (HGP _).out))
                    replace HG := hide (HG.out.drewN nq)
                    go_wp2
                    go_ret
                    exact ⟨by first | rfl | simp, HG.out.ex⟩
                  · cases c1
                    · simp only [Bool.not_false, Bool.not_true] at hl0 hl1
                      go_quiet (first | (go_at_call 60; refine Calls.quiet_of_same (HGP _).out))
                      replace HG := hide (HG.out.drewN nq)
                      go_wp2
                      go_ret
                      exact ⟨by first | rfl | simp, HG.out.ex⟩
                    · simp only [Bool.not_true] at hl0 hl1
                      go_quiet (first | (go_at_call 60; refine Calls.quiet_of_same (HGP _).out))
                      replace HG := hide (HG.out.drewN nq)
                      generalize W2.drewN nq = W3 at *
                      clear k3 k4 k6 HGP
                      go_upto_region 27 with fail
                      clear hl0 hl1
                      have k0 := HG.out.co.c0
                      have k1 := HG.out.co.c1
                      have k2 := HG.out.co.c2
                      have k3 := HG.out.co.c3
                      have k4 := HG.out.co.c4
                      have k5 := HG.out.co.c5
                      have k6 := HG.out.co.c6
                      have k7 := HG.out.co.c7
                      have k8 := HG.out.co.c8
                      have u0 := HG.out.cu.c0
                      have u1 := HG.out.cu.c1
                      have u2 := HG.out.cu.c2
                      have u3 := HG.out.cu.c3
                      have u4 := HG.out.cu.c4
                      have u5 := HG.out.cu.c5
                      have u6 := HG.out.cu.c6
                      have u7 := HG.out.cu.c7
                      have u8 := HG.out.cu.c8
                      have uf := HG.out.cu.fr
                      simp only [] at k0 k1 k2 k3 k4 k5 k6 k7 k8 u0 u1 u2 u3 u4 u5 u6 u7 u8
                      have HG0 := HG
                      by_cases h_hp : hp = 0
                      rotate_left
                      · have e_hp : (hp == 0) = false := by simpa using h_hp
                        have hfin : finB ⟨2, dv, hp, pr, ln, ix, cl, pm, up⟩ ⟨2, dv, 0, pr, ln, ix, cl, pm, false⟩ = false := by simp [finB, eqC, h_hp]
                        go_quiet (fail)
                        replace HG := hide (HG.out.drewN nq)
                        go_wp2
                        go_ret
                        exact ⟨by first | rfl | rw [hfin], HG.out.ex⟩
                      subst h_hp
                      cases up
                      rotate_left
                      · have hfin : finB ⟨2, dv, 0, pr, ln, ix, cl, pm, true⟩ ⟨2, dv, 0, pr, ln, ix, cl, pm, false⟩ = false := by simp [finB, eqC]
                        go_quiet (fail)
                        replace HG := hide (HG.out.drewN nq)
                        go_wp2
                        go_ret
                        exact ⟨by first | rfl | rw [hfin], HG.out.ex⟩
                      by_cases hx0 : 0 ≤ ix
                      rotate_left
                      · have d0 : decide (0 ≤ ix) = false := decide_eq_false hx0
                        have hfin : finB ⟨2, dv, 0, pr, ln, ix, cl, pm, false⟩ ⟨2, dv, 0, pr, ln, ix, cl, pm, false⟩ = false := by simp [finB, eqC, hx0]
                        go_quiet (fail)
                        replace HG := hide (HG.out.drewN nq)
                        go_wp2
                        go_ret
                        exact ⟨by first | rfl | rw [hfin], HG.out.ex⟩
                      by_cases hx1 : ix < 64
                      rotate_left
                      · have d1 : decide (ix < 64) = false := decide_eq_false hx1
                        have hfin : finB ⟨2, dv, 0, pr, ln, ix, cl, pm, false⟩ ⟨2, dv, 0, pr, ln, ix, cl, pm, false⟩ = false := by simp [finB, eqC, hx1]
                        go_quiet (fail)
                        replace HG := hide (HG.out.drewN nq)
                        go_wp2
                        go_ret
                        exact ⟨by first | rfl | rw [hfin], HG.out.ex⟩
                      have hfin : finB ⟨2, dv, 0, pr, ln, ix, cl, pm, false⟩ ⟨2, dv, 0, pr, ln, ix, cl, pm, false⟩ = true := by simp [finB, eqC, hx0, hx1]
                      go_quiet (fail)
                      replace HG := hide (HG.out.drewN nq)
                      go_wp2
                      go_ret
                      exact ⟨by first | rfl | rw [hfin], HG.out.ex⟩
end Go.Proofs.Qxb6500778a
