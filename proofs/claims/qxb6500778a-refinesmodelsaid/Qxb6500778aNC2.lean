import Derived.Test.Qxb6500778aNC
namespace Go.Proofs.Qxb6500778a
open Go.RowKit

set_option linter.unusedSimpArgs false in
set_option maxRecDepth 100000 in
set_option maxHeartbeats 8000000 in
theorem good_del (w : World) (q o : Nat) (dv hp pr ln ix cl : Int) (pm up : Bool) (hc : CO w q o ⟨1, dv, hp, pr, ln, ix, cl, pm, up⟩) (hd : gdB dv = true) :
    Calls Try.prog 36 #[.pointer (some ⟨q, o, none⟩)] w fun e w' => e = .returned (.bool (gpB pr ln && finB ⟨1, dv, hp, pr, ln, ix, cl, pm, up⟩ ⟨1, dv, 0, pr, ln, 0, 0, false, false⟩)) ∧ Ex (fun _ => False) w w' := by
  have HC := hide hc
  have k0 := hc.c0
  have k1 := hc.c1
  simp only [] at k0 k1
  have hql : q < w.heap.size := World.block_lt_of_cell? _ _ k0
  have HG := hide (gx_new hc { Chg.zero with kd := 1, dv := dv })
  have HD := hide (goodDevice_any w dv)
  rw [hd] at HD
  clear hc
  obtain ⟨gp, hgp⟩ : ∃ x, gpB pr ln = x := ⟨_, rfl⟩
  rw [hgp]
  have H_gp := hide hgp
  clear hgp
  go_enter Try.func36, Try.ntmps36
  go_wp2_with fail
  refine HD.out.mono ?_
  rintro e wz ⟨rfl, rfl⟩
  go_upto_region 3 with fail
  refine wp_region_held_drew (S := fun w' => w'.cell? ⟨q, o, none⟩ = some (.int .i64 1) ∧ w'.cell? ⟨q, o + 1, none⟩ = some (.int .i64 dv)) (by kernel_rfl) (And.intro k0 k1) (fun hHeld => ?_)
  refine wpAnyH_take (i := 0) (v := ?_) rfl (by kernel_rfl) (by kernel_rfl) (by kernel_rfl) (fun _ _ _ h => h) (Or.inl ⟨by rfl, ?_⟩) (by assumption) ?_
  rotate_left
  · (intro w hSw; (try dsimp only at hSw); go_simp; try (with_reducible rfl))
  try simp only [Act.put, List.getElem_toArray, List.getElem_cons_zero, List.getElem_cons_succ, List.setIfInBounds_toArray, List.set_cons_zero, List.set_cons_succ]
  refine wpAnyH_take (i := 1) (v := ?_) rfl (by kernel_rfl) (by kernel_rfl) (by kernel_rfl) (fun _ _ _ h => h) (Or.inl ⟨by rfl, ?_⟩) (by assumption) ?_
  rotate_left
  · (intro w hSw; (try dsimp only at hSw); go_simp; try (with_reducible rfl))
  try simp only [Act.put, List.getElem_toArray, List.getElem_cons_zero, List.getElem_cons_succ, List.setIfInBounds_toArray, List.set_cons_zero, List.set_cons_succ]
  refine wpAnyH_take (i := 2) (v := ?_) rfl (by kernel_rfl) (by kernel_rfl) (by kernel_rfl) (fun _ _ _ h => h) (Or.inl ⟨by rfl, ?_⟩) (by assumption) ?_
  rotate_left
  · (intro w hSw; (try dsimp only at hSw); go_simp; try (with_reducible rfl))
  try simp only [Act.put, List.getElem_toArray, List.getElem_cons_zero, List.getElem_cons_succ, List.setIfInBounds_toArray, List.set_cons_zero, List.set_cons_succ]
  refine wpAnyH_take (i := 3) (v := ?_) rfl (by kernel_rfl) (by kernel_rfl) (by kernel_rfl) (fun _ _ _ h => h) (Or.inl ⟨by rfl, ?_⟩) (by assumption) ?_
  rotate_left
  · (intro w hSw; (try dsimp only at hSw); go_simp; try (with_reducible rfl))
  try simp only [Act.put, List.getElem_toArray, List.getElem_cons_zero, List.getElem_cons_succ, List.setIfInBounds_toArray, List.set_cons_zero, List.set_cons_succ]
  refine wpAnyH_take (i := 4) (v := ?_) rfl (by kernel_rfl) (by kernel_rfl) (by kernel_rfl) (fun _ _ _ h => h) (Or.inl ⟨by rfl, ?_⟩) (by assumption) ?_
  rotate_left
  · (intro w hSw; (try dsimp only at hSw); go_simp; try (with_reducible rfl))
  try simp only [Act.put, List.getElem_toArray, List.getElem_cons_zero, List.getElem_cons_succ, List.setIfInBounds_toArray, List.set_cons_zero, List.set_cons_succ]
  refine wpAnyH_take (i := 5) (v := ?_) rfl (by kernel_rfl) (by kernel_rfl) (by kernel_rfl) (fun _ _ _ h => h) (Or.inl ⟨by rfl, ?_⟩) (by assumption) ?_
  rotate_left
  · (intro w hSw; (try dsimp only at hSw); go_simp; try (with_reducible rfl))
  try simp only [Act.put, List.getElem_toArray, List.getElem_cons_zero, List.getElem_cons_succ, List.setIfInBounds_toArray, List.set_cons_zero, List.set_cons_succ]
  refine wpAnyH_take (i := 6) (v := ?_) rfl (by kernel_rfl) (by kernel_rfl) (by kernel_rfl) (fun _ _ _ h => h) (Or.inl ⟨by rfl, ?_⟩) (by assumption) ?_
  rotate_left
  · (intro w hSw; (try dsimp only at hSw); go_simp; try (with_reducible rfl))
  try simp only [Act.put, List.getElem_toArray, List.getElem_cons_zero, List.getElem_cons_succ, List.setIfInBounds_toArray, List.set_cons_zero, List.set_cons_succ]
  refine wpAnyH_take (i := 7) (v := ?_) rfl (by kernel_rfl) (by kernel_rfl) (by kernel_rfl) (fun _ _ _ h => h) (Or.inl ⟨by rfl, ?_⟩) (by assumption) ?_
  rotate_left
  · (intro w hSw; (try dsimp only at hSw); go_simp; try (with_reducible rfl))
  try simp only [Act.put, List.getElem_toArray, List.getElem_cons_zero, List.getElem_cons_succ, List.setIfInBounds_toArray, List.set_cons_zero, List.set_cons_succ]
  refine wpAnyH_take (i := 8) (v := ?_) rfl (by kernel_rfl) (by kernel_rfl) (by kernel_rfl) (fun _ _ _ h => h) (Or.inl ⟨by rfl, ?_⟩) (by assumption) ?_
  rotate_left
  · (intro w hSw; (try dsimp only at hSw); go_simp; try (with_reducible rfl))
  try simp only [Act.put, List.getElem_toArray, List.getElem_cons_zero, List.getElem_cons_succ, List.setIfInBounds_toArray, List.set_cons_zero, List.set_cons_succ]
  refine wpAnyH_ready (rs := [9]) (by kernel_rfl) (by simp) ?_
  refine (AllReadyH.cons rfl (fun K hK => ?_) AllReadyH.nil)
  · go_simp
    refine hK.out _ _ ?_ (fun hHeld => ?_)
    · first | exact hHeld | (simp [go_sem, k0, k1, hql, Nat.ne_of_lt]; done)
    clear hK K
    try simp only [Act.put, List.getElem_toArray, List.getElem_cons_zero, List.getElem_cons_succ, List.setIfInBounds_toArray, List.set_cons_zero, List.set_cons_succ]
    refine wpAnyH_ready (rs := [10]) (by kernel_rfl) (by simp) ?_
    refine (AllReadyH.cons rfl (fun K hK => ?_) AllReadyH.nil)
    · go_simp
      refine hK.out _ _ ?_ (fun hHeld => ?_)
      · first | exact hHeld | (simp [go_sem, k0, k1, hql, Nat.ne_of_lt]; done)
      clear hK K
      try simp only [Act.put, List.getElem_toArray, List.getElem_cons_zero, List.getElem_cons_succ, List.setIfInBounds_toArray, List.set_cons_zero, List.set_cons_succ]
      refine wpAnyH_done (by kernel_rfl) ?_ _
      simp only [Chg.vals, Chg.zero] at HG
      clear k0 k1 hHeld HD HC
      obtain ⟨r, hr⟩ : ∃ r, wz.heap.size = r := ⟨_, rfl⟩
      rw [hr] at HG ⊢
      generalize (wz.alloc (.cells #[.int .i64 1, .int .i64 dv, .int .i64 0, .int .i64 0, .int .i64 0, .int .i64 0, .int .i64 0, .bool false, .bool false] 45)).drew = W at *
      have hqr : ¬ q = r := by omega
      have kz := HG.out.co.c0
      simp only [] at kz
      have k3 := HG.out.co.c3
      have k4 := HG.out.co.c4
      have u3 := HG.out.cu.c3
      have u4 := HG.out.cu.c4
      have uf := HG.out.cu.fr
      simp only [] at k3 k4 u3 u4
      go_upto_region 11 with fail
      clear kz
      refine wp_region_held_drew (S := fun w' => w'.cell? ⟨q, o + 3, none⟩ = some (.int .i64 pr) ∧ w'.cell? ⟨q, o + 4, none⟩ = some (.int .i64 ln)) (by kernel_rfl) (And.intro k3 k4) (fun hHeld => ?_)
      refine wpAnyH_take (i := 0) (v := ?_) rfl (by kernel_rfl) (by kernel_rfl) (by kernel_rfl) (fun _ _ _ h => h) (Or.inl ⟨by rfl, ?_⟩) (by assumption) ?_
      rotate_left
      · (intro w hSw; (try dsimp only at hSw); go_simp; try (with_reducible rfl))
      try simp only [Act.put, List.getElem_toArray, List.getElem_cons_zero, List.getElem_cons_succ, List.setIfInBounds_toArray, List.set_cons_zero, List.set_cons_succ]
      refine wpAnyH_take (i := 1) (v := ?_) rfl (by kernel_rfl) (by kernel_rfl) (by kernel_rfl) (fun _ _ _ h => h) (Or.inl ⟨by rfl, ?_⟩) (by assumption) ?_
      rotate_left
      · (intro w hSw; (try dsimp only at hSw); go_simp; try (with_reducible rfl))
      try simp only [Act.put, List.getElem_toArray, List.getElem_cons_zero, List.getElem_cons_succ, List.setIfInBounds_toArray, List.set_cons_zero, List.set_cons_succ]
      refine wpAnyH_take (i := 2) (v := ?_) rfl (by kernel_rfl) (by kernel_rfl) (by kernel_rfl) (fun _ _ _ h => h) (Or.inl ⟨by rfl, ?_⟩) (by assumption) ?_
      rotate_left
      · (intro w hSw; (try dsimp only at hSw); go_simp; try (with_reducible rfl))
      try simp only [Act.put, List.getElem_toArray, List.getElem_cons_zero, List.getElem_cons_succ, List.setIfInBounds_toArray, List.set_cons_zero, List.set_cons_succ]
      refine wpAnyH_take (i := 3) (v := ?_) rfl (by kernel_rfl) (by kernel_rfl) (by kernel_rfl) (fun _ _ _ h => h) (Or.inl ⟨by rfl, ?_⟩) (by assumption) ?_
      rotate_left
      · (intro w hSw; (try dsimp only at hSw); go_simp; try (with_reducible rfl))
      try simp only [Act.put, List.getElem_toArray, List.getElem_cons_zero, List.getElem_cons_succ, List.setIfInBounds_toArray, List.set_cons_zero, List.set_cons_succ]
      refine wpAnyH_take (i := 4) (v := ?_) rfl (by kernel_rfl) (by kernel_rfl) (by kernel_rfl) (fun _ _ _ h => h) (Or.inl ⟨by rfl, ?_⟩) (by assumption) ?_
      rotate_left
      · (intro w hSw; (try dsimp only at hSw); go_simp; try (with_reducible rfl))
      try simp only [Act.put, List.getElem_toArray, List.getElem_cons_zero, List.getElem_cons_succ, List.setIfInBounds_toArray, List.set_cons_zero, List.set_cons_succ]
      refine wpAnyH_take (i := 5) (v := ?_) rfl (by kernel_rfl) (by kernel_rfl) (by kernel_rfl) (fun _ _ _ h => h) (Or.inl ⟨by rfl, ?_⟩) (by assumption) ?_
      rotate_left
      · (intro w hSw; (try dsimp only at hSw); go_simp; try (with_reducible rfl))
      try simp only [Act.put, List.getElem_toArray, List.getElem_cons_zero, List.getElem_cons_succ, List.setIfInBounds_toArray, List.set_cons_zero, List.set_cons_succ]
      refine wpAnyH_take (i := 6) (v := ?_) rfl (by kernel_rfl) (by kernel_rfl) (by kernel_rfl) (fun _ _ _ h => h) (Or.inl ⟨by rfl, ?_⟩) (by assumption) ?_
      rotate_left
      · (intro w hSw; (try dsimp only at hSw); go_simp; try (with_reducible rfl))
      try simp only [Act.put, List.getElem_toArray, List.getElem_cons_zero, List.getElem_cons_succ, List.setIfInBounds_toArray, List.set_cons_zero, List.set_cons_succ]
      refine wpAnyH_take (i := 7) (v := ?_) rfl (by kernel_rfl) (by kernel_rfl) (by kernel_rfl) (fun _ _ _ h => h) (Or.inl ⟨by rfl, ?_⟩) (by assumption) ?_
      rotate_left
      · (intro w hSw; (try dsimp only at hSw); go_simp; try (with_reducible rfl))
      try simp only [Act.put, List.getElem_toArray, List.getElem_cons_zero, List.getElem_cons_succ, List.setIfInBounds_toArray, List.set_cons_zero, List.set_cons_succ]
      refine wpAnyH_take (i := 8) (v := ?_) rfl (by kernel_rfl) (by kernel_rfl) (by kernel_rfl) (fun _ _ _ h => h) (Or.inl ⟨by rfl, ?_⟩) (by assumption) ?_
      rotate_left
      · (intro w hSw; (try dsimp only at hSw); go_simp; try (with_reducible rfl))
      try simp only [Act.put, List.getElem_toArray, List.getElem_cons_zero, List.getElem_cons_succ, List.setIfInBounds_toArray, List.set_cons_zero, List.set_cons_succ]
      refine wpAnyH_ready (rs := [9]) (by kernel_rfl) (by simp) ?_
      refine (AllReadyH.cons rfl (fun K hK => ?_) AllReadyH.nil)
      · go_simp
        refine hK.out _ _ ?_ (fun hHeld => ?_)
        · first | exact hHeld | (simp [go_sem, k3, k4, hqr]; done)
        clear hK K
        try simp only [Act.put, List.getElem_toArray, List.getElem_cons_zero, List.getElem_cons_succ, List.setIfInBounds_toArray, List.set_cons_zero, List.set_cons_succ]
        refine wpAnyH_take (i := 10) (v := ?_) rfl (by kernel_rfl) (by kernel_rfl) (by kernel_rfl) (fun _ _ _ h => h) (Or.inl ⟨by rfl, ?_⟩) (by assumption) ?_
        rotate_left
        · (intro w hSw; (try dsimp only at hSw); go_simp; try (with_reducible rfl))
        try simp only [Act.put, List.getElem_toArray, List.getElem_cons_zero, List.getElem_cons_succ, List.setIfInBounds_toArray, List.set_cons_zero, List.set_cons_succ]
        refine wpAnyH_ready (rs := [11]) (by kernel_rfl) (by simp) ?_
        refine (AllReadyH.cons rfl (fun K hK => ?_) AllReadyH.nil)
        · go_simp
          refine hK.out _ _ ?_ (fun hHeld => ?_)
          · first | exact hHeld | (simp [go_sem, k3, k4, hqr]; done)
          clear hK K
          try simp only [Act.put, List.getElem_toArray, List.getElem_cons_zero, List.getElem_cons_succ, List.setIfInBounds_toArray, List.set_cons_zero, List.set_cons_succ]
          refine wpAnyH_done (by kernel_rfl) ?_ _
          replace HG := hide ((HG.out.un (((Ex.refl (fun k => k = r) W).set (p := r) (j := 3) rfl (.int .i64 pr)).set (p := r) (j := 4) rfl (.int .i64 ln)) ((HG.out.cu.put3 pr).put4 ln)).drewN 1)
          rw [drewN1] at HG
          clear hHeld uf k3 k4 u3 u4
          generalize ((W.setCell ⟨r, 3, none⟩ (.int .i64 pr)).setCell ⟨r, 4, none⟩ (.int .i64 ln)).drew = W1 at *
          have k3 := HG.out.co.c3
          have k4 := HG.out.co.c4
          simp only [] at k3 k4
          have HGP : ∀ n, Hid (Calls Try.prog 60 #[.int .i64 pr, .int .i64 ln] (W1.drewN n) fun e w' => e = .returned (.bool gp) ∧ w' = W1.drewN n) := fun n => by
            have := goodPrefix_any (W1.drewN n) pr ln
            rwa [H_gp.out] at this
          clear H_gp
          go_upto_region 12 with fail
          cases gp
          · go_quiet (first | (go_at_call 60; refine Calls.quiet_of_same (HGP _).out))
            replace HG := hide (HG.out.drewN nq)
            go_wp2
            go_ret
            exact ⟨by first | rfl | simp, HG.out.ex⟩
          · go_quiet (first | (go_at_call 60; refine Calls.quiet_of_same (HGP _).out))
            replace HG := hide (HG.out.drewN nq)
            generalize W1.drewN nq = W2 at *
            clear k3 k4 HGP
            go_upto_region 27 with fail
            have k0 := HG.out.co.c0
            have k1 := HG.out.co.c1
            have k2 := HG.out.co.c2
            have k3 := HG.out.co.c3
            have k4 := HG.out.co.c4
            have k5 := HG.out.co.c5
            have k6 := HG.out.co.c6
            have k7 := HG.out.co.c7
            have k8 := HG.out.co.c8
            have u0 := HG.out.cu.c0
            have u1 := HG.out.cu.c1
            have u2 := HG.out.cu.c2
            have u3 := HG.out.cu.c3
            have u4 := HG.out.cu.c4
            have u5 := HG.out.cu.c5
            have u6 := HG.out.cu.c6
            have u7 := HG.out.cu.c7
            have u8 := HG.out.cu.c8
            have uf := HG.out.cu.fr
            simp only [] at k0 k1 k2 k3 k4 k5 k6 k7 k8 u0 u1 u2 u3 u4 u5 u6 u7 u8
            have HG0 := HG
            by_cases h_hp : hp = 0
            rotate_left
            · have e_hp : (hp == 0) = false := by simpa using h_hp
              have hfin : finB ⟨1, dv, hp, pr, ln, ix, cl, pm, up⟩ ⟨1, dv, 0, pr, ln, 0, 0, false, false⟩ = false := by simp [finB, eqC, h_hp]
              go_quiet (fail)
              replace HG := hide (HG.out.drewN nq)
              go_wp2
              go_ret
              exact ⟨by first | rfl | rw [hfin], HG.out.ex⟩
            subst h_hp
            by_cases h_ix : ix = 0
            rotate_left
            · have e_ix : (ix == 0) = false := by simpa using h_ix
              have hfin : finB ⟨1, dv, 0, pr, ln, ix, cl, pm, up⟩ ⟨1, dv, 0, pr, ln, 0, 0, false, false⟩ = false := by simp [finB, eqC, h_ix]
              go_quiet (fail)
              replace HG := hide (HG.out.drewN nq)
              go_wp2
              go_ret
              exact ⟨by first | rfl | rw [hfin], HG.out.ex⟩
            subst h_ix
            by_cases h_cl : cl = 0
            rotate_left
            · have e_cl : (cl == 0) = false := by simpa using h_cl
              have hfin : finB ⟨1, dv, 0, pr, ln, 0, cl, pm, up⟩ ⟨1, dv, 0, pr, ln, 0, 0, false, false⟩ = false := by simp [finB, eqC, h_cl]
              go_quiet (fail)
              replace HG := hide (HG.out.drewN nq)
              go_wp2
              go_ret
              exact ⟨by first | rfl | rw [hfin], HG.out.ex⟩
            subst h_cl
            cases pm
            rotate_left
            · have hfin : finB ⟨1, dv, 0, pr, ln, 0, 0, true, up⟩ ⟨1, dv, 0, pr, ln, 0, 0, false, false⟩ = false := by simp [finB, eqC]
              go_quiet (fail)
              replace HG := hide (HG.out.drewN nq)
              go_wp2
              go_ret
              exact ⟨by first | rfl | rw [hfin], HG.out.ex⟩
            cases up
            rotate_left
            · have hfin : finB ⟨1, dv, 0, pr, ln, 0, 0, false, true⟩ ⟨1, dv, 0, pr, ln, 0, 0, false, false⟩ = false := by simp [finB, eqC]
              go_quiet (fail)
              replace HG := hide (HG.out.drewN nq)
              go_wp2
              go_ret
              exact ⟨by first | rfl | rw [hfin], HG.out.ex⟩
            have hfin : finB ⟨1, dv, 0, pr, ln, 0, 0, false, false⟩ ⟨1, dv, 0, pr, ln, 0, 0, false, false⟩ = true := by simp [finB, eqC]
            go_quiet (fail)
            replace HG := hide (HG.out.drewN nq)
            go_wp2
            go_ret
            exact ⟨by first | rfl | rw [hfin], HG.out.ex⟩
set_option linter.unusedSimpArgs false in
set_option maxRecDepth 100000 in
set_option maxHeartbeats 8000000 in
theorem good_add (w : World) (q o : Nat) (dv hp pr ln ix cl : Int) (pm up : Bool) (hc : CO w q o ⟨0, dv, hp, pr, ln, ix, cl, pm, up⟩) (hd : gdB dv = true) :
    Calls Try.prog 36 #[.pointer (some ⟨q, o, none⟩)] w fun e w' => e = .returned (.bool (gpB pr ln && (gdB hp && finB ⟨0, dv, hp, pr, ln, ix, cl, pm, up⟩ ⟨0, dv, hp, pr, ln, 0, 0, false, false⟩))) ∧ Ex (fun _ => False) w w' := by
  have HC := hide hc
  have k0 := hc.c0
  have k1 := hc.c1
  simp only [] at k0 k1
  have hql : q < w.heap.size := World.block_lt_of_cell? _ _ k0
  have HG := hide (gx_new hc { Chg.zero with kd := 0, dv := dv })
  have HD := hide (goodDevice_any w dv)
  rw [hd] at HD
  clear hc
  obtain ⟨gp, hgp⟩ : ∃ x, gpB pr ln = x := ⟨_, rfl⟩
  obtain ⟨gd, hgd⟩ : ∃ x, gdB hp = x := ⟨_, rfl⟩
  rw [hgp, hgd]
  have H_gp := hide hgp
  have H_gd := hide hgd
  clear hgp hgd
  go_enter Try.func36, Try.ntmps36
  go_wp2_with fail
  refine HD.out.mono ?_
  rintro e wz ⟨rfl, rfl⟩
  go_upto_region 3 with fail
  refine wp_region_held_drew (S := fun w' => w'.cell? ⟨q, o, none⟩ = some (.int .i64 0) ∧ w'.cell? ⟨q, o + 1, none⟩ = some (.int .i64 dv)) (by kernel_rfl) (And.intro k0 k1) (fun hHeld => ?_)
  refine wpAnyH_take (i := 0) (v := ?_) rfl (by kernel_rfl) (by kernel_rfl) (by kernel_rfl) (fun _ _ _ h => h) (Or.inl ⟨by rfl, ?_⟩) (by assumption) ?_
  rotate_left
  · (intro w hSw; (try dsimp only at hSw); go_simp; try (with_reducible rfl))
  try simp only [Act.put, List.getElem_toArray, List.getElem_cons_zero, List.getElem_cons_succ, List.setIfInBounds_toArray, List.set_cons_zero, List.set_cons_succ]
  refine wpAnyH_take (i := 1) (v := ?_) rfl (by kernel_rfl) (by kernel_rfl) (by kernel_rfl) (fun _ _ _ h => h) (Or.inl ⟨by rfl, ?_⟩) (by assumption) ?_
  rotate_left
  · (intro w hSw; (try dsimp only at hSw); go_simp; try (with_reducible rfl))
  try simp only [Act.put, List.getElem_toArray, List.getElem_cons_zero, List.getElem_cons_succ, List.setIfInBounds_toArray, List.set_cons_zero, List.set_cons_succ]
  refine wpAnyH_take (i := 2) (v := ?_) rfl (by kernel_rfl) (by kernel_rfl) (by kernel_rfl) (fun _ _ _ h => h) (Or.inl ⟨by rfl, ?_⟩) (by assumption) ?_
  rotate_left
  · (intro w hSw; (try dsimp only at hSw); go_simp; try (with_reducible rfl))
  try simp only [Act.put, List.getElem_toArray, List.getElem_cons_zero, List.getElem_cons_succ, List.setIfInBounds_toArray, List.set_cons_zero, List.set_cons_succ]
  refine wpAnyH_take (i := 3) (v := ?_) rfl (by kernel_rfl) (by kernel_rfl) (by kernel_rfl) (fun _ _ _ h => h) (Or.inl ⟨by rfl, ?_⟩) (by assumption) ?_
  rotate_left
  · (intro w hSw; (try dsimp only at hSw); go_simp; try (with_reducible rfl))
  try simp only [Act.put, List.getElem_toArray, List.getElem_cons_zero, List.getElem_cons_succ, List.setIfInBounds_toArray, List.set_cons_zero, List.set_cons_succ]
  refine wpAnyH_take (i := 4) (v := ?_) rfl (by kernel_rfl) (by kernel_rfl) (by kernel_rfl) (fun _ _ _ h => h) (Or.inl ⟨by rfl, ?_⟩) (by assumption) ?_
  rotate_left
  · (intro w hSw; (try dsimp only at hSw); go_simp; try (with_reducible rfl))
  try simp only [Act.put, List.getElem_toArray, List.getElem_cons_zero, List.getElem_cons_succ, List.setIfInBounds_toArray, List.set_cons_zero, List.set_cons_succ]
  refine wpAnyH_take (i := 5) (v := ?_) rfl (by kernel_rfl) (by kernel_rfl) (by kernel_rfl) (fun _ _ _ h => h) (Or.inl ⟨by rfl, ?_⟩) (by assumption) ?_
  rotate_left
  · (intro w hSw; (try dsimp only at hSw); go_simp; try (with_reducible rfl))
  try simp only [Act.put, List.getElem_toArray, List.getElem_cons_zero, List.getElem_cons_succ, List.setIfInBounds_toArray, List.set_cons_zero, List.set_cons_succ]
  refine wpAnyH_take (i := 6) (v := ?_) rfl (by kernel_rfl) (by kernel_rfl) (by kernel_rfl) (fun _ _ _ h => h) (Or.inl ⟨by rfl, ?_⟩) (by assumption) ?_
  rotate_left
  · (intro w hSw; (try dsimp only at hSw); go_simp; try (with_reducible rfl))
  try simp only [Act.put, List.getElem_toArray, List.getElem_cons_zero, List.getElem_cons_succ, List.setIfInBounds_toArray, List.set_cons_zero, List.set_cons_succ]
  refine wpAnyH_take (i := 7) (v := ?_) rfl (by kernel_rfl) (by kernel_rfl) (by kernel_rfl) (fun _ _ _ h => h) (Or.inl ⟨by rfl, ?_⟩) (by assumption) ?_
  rotate_left
  · (intro w hSw; (try dsimp only at hSw); go_simp; try (with_reducible rfl))
  try simp only [Act.put, List.getElem_toArray, List.getElem_cons_zero, List.getElem_cons_succ, List.setIfInBounds_toArray, List.set_cons_zero, List.set_cons_succ]
  refine wpAnyH_take (i := 8) (v := ?_) rfl (by kernel_rfl) (by kernel_rfl) (by kernel_rfl) (fun _ _ _ h => h) (Or.inl ⟨by rfl, ?_⟩) (by assumption) ?_
  rotate_left
  · (intro w hSw; (try dsimp only at hSw); go_simp; try (with_reducible rfl))
  try simp only [Act.put, List.getElem_toArray, List.getElem_cons_zero, List.getElem_cons_succ, List.setIfInBounds_toArray, List.set_cons_zero, List.set_cons_succ]
  refine wpAnyH_ready (rs := [9]) (by kernel_rfl) (by simp) ?_
  refine (AllReadyH.cons rfl (fun K hK => ?_) AllReadyH.nil)
  · go_simp
    refine hK.out _ _ ?_ (fun hHeld => ?_)
    · first | exact hHeld | (simp [go_sem, k0, k1, hql, Nat.ne_of_lt]; done)
    clear hK K
    try simp only [Act.put, List.getElem_toArray, List.getElem_cons_zero, List.getElem_cons_succ, List.setIfInBounds_toArray, List.set_cons_zero, List.set_cons_succ]
    refine wpAnyH_ready (rs := [10]) (by kernel_rfl) (by simp) ?_
    refine (AllReadyH.cons rfl (fun K hK => ?_) AllReadyH.nil)
    · go_simp
      refine hK.out _ _ ?_ (fun hHeld => ?_)
      · first | exact hHeld | (simp [go_sem, k0, k1, hql, Nat.ne_of_lt]; done)
      clear hK K
      try simp only [Act.put, List.getElem_toArray, List.getElem_cons_zero, List.getElem_cons_succ, List.setIfInBounds_toArray, List.set_cons_zero, List.set_cons_succ]
      refine wpAnyH_done (by kernel_rfl) ?_ _
      simp only [Chg.vals, Chg.zero] at HG
      clear k0 k1 hHeld HD HC
      obtain ⟨r, hr⟩ : ∃ r, wz.heap.size = r := ⟨_, rfl⟩
      rw [hr] at HG ⊢
      generalize (wz.alloc (.cells #[.int .i64 0, .int .i64 dv, .int .i64 0, .int .i64 0, .int .i64 0, .int .i64 0, .int .i64 0, .bool false, .bool false] 45)).drew = W at *
      have hqr : ¬ q = r := by omega
      have kz := HG.out.co.c0
      simp only [] at kz
      have k2 := HG.out.co.c2
      have k3 := HG.out.co.c3
      have k4 := HG.out.co.c4
      have u3 := HG.out.cu.c3
      have u4 := HG.out.cu.c4
      have u2 := HG.out.cu.c2
      have uf := HG.out.cu.fr
      simp only [] at k2 k3 k4 u3 u4 u2
      go_upto_region 7 with fail
      clear kz
      refine wp_region_held_drew (S := fun w' => w'.cell? ⟨q, o + 2, none⟩ = some (.int .i64 hp) ∧ w'.cell? ⟨q, o + 3, none⟩ = some (.int .i64 pr) ∧ w'.cell? ⟨q, o + 4, none⟩ = some (.int .i64 ln)) (by kernel_rfl) (And.intro k2 (And.intro k3 k4)) (fun hHeld => ?_)
      refine wpAnyH_take (i := 0) (v := ?_) rfl (by kernel_rfl) (by kernel_rfl) (by kernel_rfl) (fun _ _ _ h => h) (Or.inl ⟨by rfl, ?_⟩) (by assumption) ?_
      rotate_left
      · (intro w hSw; (try dsimp only at hSw); go_simp; try (with_reducible rfl))
      try simp only [Act.put, List.getElem_toArray, List.getElem_cons_zero, List.getElem_cons_succ, List.setIfInBounds_toArray, List.set_cons_zero, List.set_cons_succ]
      refine wpAnyH_take (i := 1) (v := ?_) rfl (by kernel_rfl) (by kernel_rfl) (by kernel_rfl) (fun _ _ _ h => h) (Or.inl ⟨by rfl, ?_⟩) (by assumption) ?_
      rotate_left
      · (intro w hSw; (try dsimp only at hSw); go_simp; try (with_reducible rfl))
      try simp only [Act.put, List.getElem_toArray, List.getElem_cons_zero, List.getElem_cons_succ, List.setIfInBounds_toArray, List.set_cons_zero, List.set_cons_succ]
      refine wpAnyH_take (i := 2) (v := ?_) rfl (by kernel_rfl) (by kernel_rfl) (by kernel_rfl) (fun _ _ _ h => h) (Or.inl ⟨by rfl, ?_⟩) (by assumption) ?_
      rotate_left
      · (intro w hSw; (try dsimp only at hSw); go_simp; try (with_reducible rfl))
      try simp only [Act.put, List.getElem_toArray, List.getElem_cons_zero, List.getElem_cons_succ, List.setIfInBounds_toArray, List.set_cons_zero, List.set_cons_succ]
      refine wpAnyH_take (i := 3) (v := ?_) rfl (by kernel_rfl) (by kernel_rfl) (by kernel_rfl) (fun _ _ _ h => h) (Or.inl ⟨by rfl, ?_⟩) (by assumption) ?_
      rotate_left
      · (intro w hSw; (try dsimp only at hSw); go_simp; try (with_reducible rfl))
      try simp only [Act.put, List.getElem_toArray, List.getElem_cons_zero, List.getElem_cons_succ, List.setIfInBounds_toArray, List.set_cons_zero, List.set_cons_succ]
      refine wpAnyH_take (i := 4) (v := ?_) rfl (by kernel_rfl) (by kernel_rfl) (by kernel_rfl) (fun _ _ _ h => h) (Or.inl ⟨by rfl, ?_⟩) (by assumption) ?_
      rotate_left
      · (intro w hSw; (try dsimp only at hSw); go_simp; try (with_reducible rfl))
      try simp only [Act.put, List.getElem_toArray, List.getElem_cons_zero, List.getElem_cons_succ, List.setIfInBounds_toArray, List.set_cons_zero, List.set_cons_succ]
      refine wpAnyH_take (i := 5) (v := ?_) rfl (by kernel_rfl) (by kernel_rfl) (by kernel_rfl) (fun _ _ _ h => h) (Or.inl ⟨by rfl, ?_⟩) (by assumption) ?_
      rotate_left
      · (intro w hSw; (try dsimp only at hSw); go_simp; try (with_reducible rfl))
      try simp only [Act.put, List.getElem_toArray, List.getElem_cons_zero, List.getElem_cons_succ, List.setIfInBounds_toArray, List.set_cons_zero, List.set_cons_succ]
      refine wpAnyH_take (i := 6) (v := ?_) rfl (by kernel_rfl) (by kernel_rfl) (by kernel_rfl) (fun _ _ _ h => h) (Or.inl ⟨by rfl, ?_⟩) (by assumption) ?_
      rotate_left
      · (intro w hSw; (try dsimp only at hSw); go_simp; try (with_reducible rfl))
      try simp only [Act.put, List.getElem_toArray, List.getElem_cons_zero, List.getElem_cons_succ, List.setIfInBounds_toArray, List.set_cons_zero, List.set_cons_succ]
      refine wpAnyH_take (i := 7) (v := ?_) rfl (by kernel_rfl) (by kernel_rfl) (by kernel_rfl) (fun _ _ _ h => h) (Or.inl ⟨by rfl, ?_⟩) (by assumption) ?_
      rotate_left
      · (intro w hSw; (try dsimp only at hSw); go_simp; try (with_reducible rfl))
      try simp only [Act.put, List.getElem_toArray, List.getElem_cons_zero, List.getElem_cons_succ, List.setIfInBounds_toArray, List.set_cons_zero, List.set_cons_succ]
      refine wpAnyH_take (i := 8) (v := ?_) rfl (by kernel_rfl) (by kernel_rfl) (by kernel_rfl) (fun _ _ _ h => h) (Or.inl ⟨by rfl, ?_⟩) (by assumption) ?_
      rotate_left
      · (intro w hSw; (try dsimp only at hSw); go_simp; try (with_reducible rfl))
      try simp only [Act.put, List.getElem_toArray, List.getElem_cons_zero, List.getElem_cons_succ, List.setIfInBounds_toArray, List.set_cons_zero, List.set_cons_succ]
      refine wpAnyH_take (i := 9) (v := ?_) rfl (by kernel_rfl) (by kernel_rfl) (by kernel_rfl) (fun _ _ _ h => h) (Or.inl ⟨by rfl, ?_⟩) (by assumption) ?_
      rotate_left
      · (intro w hSw; (try dsimp only at hSw); go_simp; try (with_reducible rfl))
      try simp only [Act.put, List.getElem_toArray, List.getElem_cons_zero, List.getElem_cons_succ, List.setIfInBounds_toArray, List.set_cons_zero, List.set_cons_succ]
      refine wpAnyH_take (i := 10) (v := ?_) rfl (by kernel_rfl) (by kernel_rfl) (by kernel_rfl) (fun _ _ _ h => h) (Or.inl ⟨by rfl, ?_⟩) (by assumption) ?_
      rotate_left
      · (intro w hSw; (try dsimp only at hSw); go_simp; try (with_reducible rfl))
      try simp only [Act.put, List.getElem_toArray, List.getElem_cons_zero, List.getElem_cons_succ, List.setIfInBounds_toArray, List.set_cons_zero, List.set_cons_succ]
      refine wpAnyH_take (i := 11) (v := ?_) rfl (by kernel_rfl) (by kernel_rfl) (by kernel_rfl) (fun _ _ _ h => h) (Or.inl ⟨by rfl, ?_⟩) (by assumption) ?_
      rotate_left
      · (intro w hSw; (try dsimp only at hSw); go_simp; try (with_reducible rfl))
      try simp only [Act.put, List.getElem_toArray, List.getElem_cons_zero, List.getElem_cons_succ, List.setIfInBounds_toArray, List.set_cons_zero, List.set_cons_succ]
      refine wpAnyH_take (i := 12) (v := ?_) rfl (by kernel_rfl) (by kernel_rfl) (by kernel_rfl) (fun _ _ _ h => h) (Or.inl ⟨by rfl, ?_⟩) (by assumption) ?_
      rotate_left
      · (intro w hSw; (try dsimp only at hSw); go_simp; try (with_reducible rfl))
      try simp only [Act.put, List.getElem_toArray, List.getElem_cons_zero, List.getElem_cons_succ, List.setIfInBounds_toArray, List.set_cons_zero, List.set_cons_succ]
      refine wpAnyH_ready (rs := [13]) (by kernel_rfl) (by simp) ?_
      refine (AllReadyH.cons rfl (fun K hK => ?_) AllReadyH.nil)
      · go_simp
        refine hK.out _ _ ?_ (fun hHeld => ?_)
        · first | exact hHeld | (simp [go_sem, k2, k3, k4, hqr]; done)
        clear hK K
        try simp only [Act.put, List.getElem_toArray, List.getElem_cons_zero, List.getElem_cons_succ, List.setIfInBounds_toArray, List.set_cons_zero, List.set_cons_succ]
        refine wpAnyH_take (i := 14) (v := ?_) rfl (by kernel_rfl) (by kernel_rfl) (by kernel_rfl) (fun _ _ _ h => h) (Or.inl ⟨by rfl, ?_⟩) (by assumption) ?_
        rotate_left
        · (intro w hSw; (try dsimp only at hSw); go_simp; try (with_reducible rfl))
        try simp only [Act.put, List.getElem_toArray, List.getElem_cons_zero, List.getElem_cons_succ, List.setIfInBounds_toArray, List.set_cons_zero, List.set_cons_succ]
        refine wpAnyH_ready (rs := [15]) (by kernel_rfl) (by simp) ?_
        refine (AllReadyH.cons rfl (fun K hK => ?_) AllReadyH.nil)
        · go_simp
          refine hK.out _ _ ?_ (fun hHeld => ?_)
          · first | exact hHeld | (simp [go_sem, k2, k3, k4, hqr]; done)
          clear hK K
          try simp only [Act.put, List.getElem_toArray, List.getElem_cons_zero, List.getElem_cons_succ, List.setIfInBounds_toArray, List.set_cons_zero, List.set_cons_succ]
          refine wpAnyH_take (i := 16) (v := ?_) rfl (by kernel_rfl) (by kernel_rfl) (by kernel_rfl) (fun _ _ _ h => h) (Or.inl ⟨by rfl, ?_⟩) (by assumption) ?_
          rotate_left
          · (intro w hSw; (try dsimp only at hSw); go_simp; try (with_reducible rfl))
          try simp only [Act.put, List.getElem_toArray, List.getElem_cons_zero, List.getElem_cons_succ, List.setIfInBounds_toArray, List.set_cons_zero, List.set_cons_succ]
          refine wpAnyH_ready (rs := [17]) (by kernel_rfl) (by simp) ?_
          refine (AllReadyH.cons rfl (fun K hK => ?_) AllReadyH.nil)
          · go_simp
            refine hK.out _ _ ?_ (fun hHeld => ?_)
            · first | exact hHeld | (simp [go_sem, k2, k3, k4, hqr]; done)
            clear hK K
            try simp only [Act.put, List.getElem_toArray, List.getElem_cons_zero, List.getElem_cons_succ, List.setIfInBounds_toArray, List.set_cons_zero, List.set_cons_succ]
            refine wpAnyH_done (by kernel_rfl) ?_ _
            replace HG := hide ((HG.out.un ((((Ex.refl (fun k => k = r) W).set (p := r) (j := 3) rfl (.int .i64 pr)).set (p := r) (j := 4) rfl (.int .i64 ln)).set (p := r) (j := 2) rfl (.int .i64 hp)) (((HG.out.cu.put3 pr).put4 ln).put2 hp)).drewN 1)
            rw [drewN1] at HG
            clear hHeld uf k2 k3 k4 u3 u4 u2
            generalize (((W.setCell ⟨r, 3, none⟩ (.int .i64 pr)).setCell ⟨r, 4, none⟩ (.int .i64 ln)).setCell ⟨r, 2, none⟩ (.int .i64 hp)).drew = W1 at *
            have k2 := HG.out.co.c2
            have k3 := HG.out.co.c3
            have k4 := HG.out.co.c4
            simp only [] at k2 k3 k4
            have HGP : ∀ n, Hid (Calls Try.prog 60 #[.int .i64 pr, .int .i64 ln] (W1.drewN n) fun e w' => e = .returned (.bool gp) ∧ w' = W1.drewN n) := fun n => by
              have := goodPrefix_any (W1.drewN n) pr ln
              rwa [H_gp.out] at this
            have HGD : ∀ n, Hid (Calls Try.prog 59 #[.int .i64 hp] (W1.drewN n) fun e w' => e = .returned (.bool gd) ∧ w' = W1.drewN n) := fun n => by
              have := goodDevice_any (W1.drewN n) hp
              rwa [H_gd.out] at this
            clear H_gp H_gd
            go_upto_region 8 with fail
            cases gp
            · go_quiet (first | (go_at_call 60; refine Calls.quiet_of_same (HGP _).out) | (go_at_call 59; refine Calls.quiet_of_same (HGD _).out))
              replace HG := hide (HG.out.drewN nq)
              go_wp2
              go_ret
              exact ⟨by first | rfl | simp, HG.out.ex⟩
            · cases gd
              · go_quiet (first | (go_at_call 60; refine Calls.quiet_of_same (HGP _).out) | (go_at_call 59; refine Calls.quiet_of_same (HGD _).out))
                replace HG := hide (HG.out.drewN nq)
                go_wp2
                go_ret
                exact ⟨by first | rfl | simp, HG.out.ex⟩
              · go_quiet (first | (go_at_call 60; refine Calls.quiet_of_same (HGP _).out) | (go_at_call 59; refine Calls.quiet_of_same (HGD _).out))
                replace HG := hide (HG.out.drewN nq)
                generalize W1.drewN nq = W2 at *
                clear k2 k3 k4 HGP HGD
                go_upto_region 27 with fail
                have k0 := HG.out.co.c0
                have k1 := HG.out.co.c1
                have k2 := HG.out.co.c2
                have k3 := HG.out.co.c3
                have k4 := HG.out.co.c4
                have k5 := HG.out.co.c5
                have k6 := HG.out.co.c6
                have k7 := HG.out.co.c7
                have k8 := HG.out.co.c8
                have u0 := HG.out.cu.c0
                have u1 := HG.out.cu.c1
                have u2 := HG.out.cu.c2
                have u3 := HG.out.cu.c3
                have u4 := HG.out.cu.c4
                have u5 := HG.out.cu.c5
                have u6 := HG.out.cu.c6
                have u7 := HG.out.cu.c7
                have u8 := HG.out.cu.c8
                have uf := HG.out.cu.fr
                simp only [] at k0 k1 k2 k3 k4 k5 k6 k7 k8 u0 u1 u2 u3 u4 u5 u6 u7 u8
                have HG0 := HG
                by_cases h_ix : ix = 0
                rotate_left
                · have e_ix : (ix == 0) = false := by simpa using h_ix
                  have hfin : finB ⟨0, dv, hp, pr, ln, ix, cl, pm, up⟩ ⟨0, dv, hp, pr, ln, 0, 0, false, false⟩ = false := by simp [finB, eqC, h_ix]
                  go_quiet (fail)
                  replace HG := hide (HG.out.drewN nq)
                  go_wp2
                  go_ret
                  exact ⟨by first | rfl | rw [hfin], HG.out.ex⟩
                subst h_ix
                by_cases h_cl : cl = 0
                rotate_left
                · have e_cl : (cl == 0) = false := by simpa using h_cl
                  have hfin : finB ⟨0, dv, hp, pr, ln, 0, cl, pm, up⟩ ⟨0, dv, hp, pr, ln, 0, 0, false, false⟩ = false := by simp [finB, eqC, h_cl]
                  go_quiet (fail)
                  replace HG := hide (HG.out.drewN nq)
                  go_wp2
                  go_ret
                  exact ⟨by first | rfl | rw [hfin], HG.out.ex⟩
                subst h_cl
                cases pm
                rotate_left
                · have hfin : finB ⟨0, dv, hp, pr, ln, 0, 0, true, up⟩ ⟨0, dv, hp, pr, ln, 0, 0, false, false⟩ = false := by simp [finB, eqC]
                  go_quiet (fail)
                  replace HG := hide (HG.out.drewN nq)
                  go_wp2
                  go_ret
                  exact ⟨by first | rfl | rw [hfin], HG.out.ex⟩
                cases up
                rotate_left
                · have hfin : finB ⟨0, dv, hp, pr, ln, 0, 0, false, true⟩ ⟨0, dv, hp, pr, ln, 0, 0, false, false⟩ = false := by simp [finB, eqC]
                  go_quiet (fail)
                  replace HG := hide (HG.out.drewN nq)
                  go_wp2
                  go_ret
                  exact ⟨by first | rfl | rw [hfin], HG.out.ex⟩
                have hfin : finB ⟨0, dv, hp, pr, ln, 0, 0, false, false⟩ ⟨0, dv, hp, pr, ln, 0, 0, false, false⟩ = true := by simp [finB, eqC]
                go_quiet (fail)
                replace HG := hide (HG.out.drewN nq)
                go_wp2
                go_ret
                exact ⟨by first | rfl | rw [hfin], HG.out.ex⟩
end Go.Proofs.Qxb6500778a
