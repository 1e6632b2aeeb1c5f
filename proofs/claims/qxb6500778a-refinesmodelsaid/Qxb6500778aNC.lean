import Derived.Test.Qxb6500778aN5
namespace Go.Proofs.Qxb6500778a
open Go.RowKit

def GoodP (p l : Int) : Prop := (0 ≤ l ∧ l ≤ 8) ∧ (0 ≤ p ∧ p ≤ 255) ∧ algB p l = true
instance (p l : Int) : Decidable (GoodP p l) := by unfold GoodP; infer_instance
def gpB (p l : Int) : Bool := decide (GoodP p l)
def gdB (d : Int) : Bool := decide (0 ≤ d ∧ d ≤ 15)
theorem goodDevice_any (w : World) (d : Int) : Calls Try.prog 59 #[.int .i64 d] w fun e w' => e = .returned (.bool (gdB d)) ∧ w' = w := by
  by_cases h0 : 0 ≤ d
  · by_cases h1 : d < 16
    · have e : gdB d = true := decide_eq_true ⟨h0, by omega⟩
      rw [e]
      clear e
      go_enter Try.func59, Try.ntmps59
      go_wp2
      go_ret
      exact ⟨rfl, rfl⟩
    · have e : gdB d = false := decide_eq_false (fun h => by omega)
      rw [e]
      clear e
      have d1 : decide (d < 16) = false := decide_eq_false h1
      go_enter Try.func59, Try.ntmps59
      go_wp2
      go_ret
      exact ⟨rfl, rfl⟩
  · have e : gdB d = false := decide_eq_false (fun h => by omega)
    rw [e]
    clear e
    have d1 : decide (0 ≤ d) = false := decide_eq_false h0
    go_enter Try.func59, Try.ntmps59
    go_wp2
    go_ret
    exact ⟨rfl, rfl⟩
theorem goodPrefix_any (w : World) (p l : Int) : Calls Try.prog 60 #[.int .i64 p, .int .i64 l] w fun e w' => e = .returned (.bool (gpB p l)) ∧ w' = w := by
  obtain ⟨b1, h1⟩ : ∃ b, decide (l < 0) = b := ⟨_, rfl⟩
  obtain ⟨b2, h2⟩ : ∃ b, decide (8 < l) = b := ⟨_, rfl⟩
  obtain ⟨b3, h3⟩ : ∃ b, decide (p < 0) = b := ⟨_, rfl⟩
  obtain ⟨b4, h4⟩ : ∃ b, decide (256 ≤ p) = b := ⟨_, rfl⟩
  by_cases hg : (0 ≤ l ∧ l ≤ 8) ∧ (0 ≤ p ∧ p ≤ 255)
  · have e : gpB p l = algB p l := by
      unfold gpB
      cases ha : algB p l
      · exact decide_eq_false (fun h => by have := h.2.2; rw [ha] at this; cases this)
      · exact decide_eq_true ⟨hg.1, hg.2, ha⟩
    rw [e]
    obtain rfl : b1 = false := by rw [← h1]; exact decide_eq_false (by omega)
    obtain rfl : b2 = false := by rw [← h2]; exact decide_eq_false (by omega)
    obtain rfl : b3 = false := by rw [← h3]; exact decide_eq_false (by omega)
    obtain rfl : b4 = false := by rw [← h4]; exact decide_eq_false (by omega)
    have HA := hide (aligned_any w p l hg.1)
    clear hg e
    go_enter Try.func60, Try.ntmps60
    go_wp2_with fail
    refine HA.out.mono ?_
    rintro e w' ⟨rfl, rfl⟩
    go_wp2
    go_ret
    exact ⟨rfl, rfl⟩
  · have e : gpB p l = false := decide_eq_false (fun h => hg ⟨h.1, h.2.1⟩)
    have hor : (b1 || (b2 || (b3 || b4))) = true := by
      rw [← h1, ← h2, ← h3, ← h4]
      simp only [Bool.or_eq_true, decide_eq_true_eq]
      omega
    rw [e]
    clear hg e
    cases b1
    · cases b2
      · cases b3
        · cases b4
          · cases hor
          · go_enter Try.func60, Try.ntmps60
            go_wp2
            go_ret
            exact ⟨rfl, rfl⟩
        · go_enter Try.func60, Try.ntmps60
          go_wp2
          go_ret
          exact ⟨rfl, rfl⟩
      · go_enter Try.func60, Try.ntmps60
        go_wp2
        go_ret
        exact ⟨rfl, rfl⟩
    · go_enter Try.func60, Try.ntmps60
      go_wp2
      go_ret
      exact ⟨rfl, rfl⟩
structure GX (w0 w : World) (q o r : Nat) (c u : Chg) : Prop where
  co : CO w q o c
  cu : CS w r u
  ex : Ex (fun _ => False) w0 w
  hr : w0.heap.size ≤ r
  hq : q < w0.heap.size
section
variable {w0 w w' : World} {q o r : Nat} {c u u' : Chg}
theorem GX.un (h : GX w0 w q o r c u) (e : Ex (fun k => k = r) w w') (hu : CS w' r u') : GX w0 w' q o r c u' := by
  have h1 := h.hr
  have h2 := h.hq
  exact ⟨h.co.other e (by omega), hu, h.ex.trans2 e (fun j hj => .inr (by omega)), h1, h2⟩
theorem GX.drewN (h : GX w0 w q o r c u) (n : Nat) : GX w0 (w.drewN n) q o r c u :=
  ⟨h.co.other ((Ex.refl (fun _ => False) w).drewN n) (fun e => e), h.cu.other ((Ex.refl (fun _ => False) w).drewN n) (fun e => e), h.ex.drewN n, h.hr, h.hq⟩
end
theorem gx_new {w : World} {q o : Nat} {c : Chg} (hc : CO w q o c) (u : Chg) : GX w (w.alloc (.cells u.vals.toArray 45)).drew q o w.heap.size c u :=
  ⟨hc.other (((Ex.refl (fun _ => False) w).alloc _).drew) (fun e => e), (cs_alloc w u 45).other ((Ex.refl (fun _ => False) _).drew) (fun e => e), ((Ex.refl _ w).alloc _).drew, Nat.le_refl _, World.block_lt_of_cell? _ _ hc.c0⟩
/-- what goodChange asks of a change of kind k whose used fields are u's -/
def eqC (c u : Chg) : Bool := (c.hp == u.hp) && ((c.pr == u.pr) && ((c.ln == u.ln) && ((c.ix == u.ix) && ((c.cl == u.cl) && ((c.pm == u.pm) && (c.up == u.up))))))
def finB (c u : Chg) : Bool := eqC c u && (decide (0 ≤ c.ix) && decide (c.ix < 64))
set_option linter.unusedSimpArgs false in
set_option maxRecDepth 100000 in
set_option maxHeartbeats 8000000 in
theorem good_if (w : World) (q o : Nat) (dv hp pr ln ix cl : Int) (pm up : Bool) (hc : CO w q o ⟨5, dv, hp, pr, ln, ix, cl, pm, up⟩) (hd : gdB dv = true) :
    Calls Try.prog 36 #[.pointer (some ⟨q, o, none⟩)] w fun e w' => e = .returned (.bool (finB ⟨5, dv, hp, pr, ln, ix, cl, pm, up⟩ ⟨5, dv, 0, 0, 0, 0, 0, false, up⟩)) ∧ Ex (fun _ => False) w w' := by
  have HC := hide hc
  have k0 := hc.c0
  have k1 := hc.c1
  simp only [] at k0 k1
  have hql : q < w.heap.size := World.block_lt_of_cell? _ _ k0
  have HG := hide (gx_new hc { Chg.zero with kd := 5, dv := dv })
  have HD := hide (goodDevice_any w dv)
  rw [hd] at HD
  clear hc
  go_enter Try.func36, Try.ntmps36
  go_wp2_with fail
  refine HD.out.mono ?_
  rintro e wz ⟨rfl, rfl⟩
  go_upto_region 3 with fail
  refine wp_region_held_drew (S := fun w' => w'.cell? ⟨q, o, none⟩ = some (.int .i64 5) ∧ w'.cell? ⟨q, o + 1, none⟩ = some (.int .i64 dv)) (by kernel_rfl) (And.intro k0 k1) (fun hHeld => ?_)
  refine wpAnyH_take (i := 0) (v := ?_) rfl (by kernel_rfl) (by kernel_rfl) (by kernel_rfl) (fun _ _ _ h => h) (Or.inl ⟨by rfl, ?_⟩) (by assumption) ?_
  rotate_left
  · (intro w hSw; (try dsimp only at hSw); go_simp; try (with_reducible rfl))
  try simp only [Act.put, List.getElem_toArray, List.getElem_cons_zero, List.getElem_cons_succ, List.setIfInBounds_toArray, List.set_cons_zero, List.set_cons_succ]
  refine wpAnyH_take (i := 1) (v := ?_) rfl (by kernel_rfl) (by kernel_rfl) (by kernel_rfl) (fun _ _ _ h => h) (Or.inl ⟨by rfl, ?_⟩) (by assumption) ?_
  rotate_left
  · (intro w hSw; (try dsimp only at hSw); go_simp; try (with_reducible rfl))
  try simp only [Act.put, List.getElem_toArray, List.getElem_cons_zero, List.getElem_cons_succ, List.setIfInBounds_toArray, List.set_cons_zero, List.set_cons_succ]
  refine wpAnyH_take (i := 2) (v := ?_) rfl (by kernel_rfl) (by kernel_rfl) (by kernel_rfl) (fun _ _ _ h => h) (Or.inl ⟨by rfl, ?_⟩) (by assumption) ?_
  rotate_left
  · (intro w hSw; (try dsimp only at hSw); go_simp; try (with_reducible rfl))
  try simp only [Act.put, List.getElem_toArray, List.getElem_cons_zero, List.getElem_cons_succ, List.setIfInBounds_toArray, List.set_cons_zero, List.set_cons_succ]
  refine wpAnyH_take (i := 3) (v := ?_) rfl (by kernel_rfl) (by kernel_rfl) (by kernel_rfl) (fun _ _ _ h => h) (Or.inl ⟨by rfl, ?_⟩) (by assumption) ?_
  rotate_left
  · (intro w hSw; (try dsimp only at hSw); go_simp; try (with_reducible rfl))
  try simp only [Act.put, List.getElem_toArray, List.getElem_cons_zero, List.getElem_cons_succ, List.setIfInBounds_toArray, List.set_cons_zero, List.set_cons_succ]
  refine wpAnyH_take (i := 4) (v := ?_) rfl (by kernel_rfl) (by kernel_rfl) (by kernel_rfl) (fun _ _ _ h => h) (Or.inl ⟨by rfl, ?_⟩) (by assumption) ?_
  rotate_left
  · (intro w hSw; (try dsimp only at hSw); go_simp; try (with_reducible rfl))
  try simp only [Act.put, List.getElem_toArray, List.getElem_cons_zero, List.getElem_cons_succ, List.setIfInBounds_toArray, List.set_cons_zero, List.set_cons_succ]
  refine wpAnyH_take (i := 5) (v := ?_) rfl (by kernel_rfl) (by kernel_rfl) (by kernel_rfl) (fun _ _ _ h => h) (Or.inl ⟨by rfl, ?_⟩) (by assumption) ?_
  rotate_left
  · (intro w hSw; (try dsimp only at hSw); go_simp; try (with_reducible rfl))
  try simp only [Act.put, List.getElem_toArray, List.getElem_cons_zero, List.getElem_cons_succ, List.setIfInBounds_toArray, List.set_cons_zero, List.set_cons_succ]
  refine wpAnyH_take (i := 6) (v := ?_) rfl (by kernel_rfl) (by kernel_rfl) (by kernel_rfl) (fun _ _ _ h => h) (Or.inl ⟨by rfl, ?_⟩) (by assumption) ?_
  rotate_left
  · (intro w hSw; (try dsimp only at hSw); go_simp; try (with_reducible rfl))
  try simp only [Act.put, List.getElem_toArray, List.getElem_cons_zero, List.getElem_cons_succ, List.setIfInBounds_toArray, List.set_cons_zero, List.set_cons_succ]
  refine wpAnyH_take (i := 7) (v := ?_) rfl (by kernel_rfl) (by kernel_rfl) (by kernel_rfl) (fun _ _ _ h => h) (Or.inl ⟨by rfl, ?_⟩) (by assumption) ?_
  rotate_left
  · (intro w hSw; (try dsimp only at hSw); go_simp; try (with_reducible rfl))
  try simp only [Act.put, List.getElem_toArray, List.getElem_cons_zero, List.getElem_cons_succ, List.setIfInBounds_toArray, List.set_cons_zero, List.set_cons_succ]
  refine wpAnyH_take (i := 8) (v := ?_) rfl (by kernel_rfl) (by kernel_rfl) (by kernel_rfl) (fun _ _ _ h => h) (Or.inl ⟨by rfl, ?_⟩) (by assumption) ?_
  rotate_left
  · (intro w hSw; (try dsimp only at hSw); go_simp; try (with_reducible rfl))
  try simp only [Act.put, List.getElem_toArray, List.getElem_cons_zero, List.getElem_cons_succ, List.setIfInBounds_toArray, List.set_cons_zero, List.set_cons_succ]
  refine wpAnyH_ready (rs := [9]) (by kernel_rfl) (by simp) ?_
  refine (AllReadyH.cons rfl (fun K hK => ?_) AllReadyH.nil)
  · go_simp
    refine hK.out _ _ ?_ (fun hHeld => ?_)
    · first | exact hHeld | (simp [go_sem, k0, k1, hql, Nat.ne_of_lt]; done)
    clear hK K
    try simp only [Act.put, List.getElem_toArray, List.getElem_cons_zero, List.getElem_cons_succ, List.setIfInBounds_toArray, List.set_cons_zero, List.set_cons_succ]
    refine wpAnyH_ready (rs := [10]) (by kernel_rfl) (by simp) ?_
    refine (AllReadyH.cons rfl (fun K hK => ?_) AllReadyH.nil)
    · go_simp
      refine hK.out _ _ ?_ (fun hHeld => ?_)
      · first | exact hHeld | (simp [go_sem, k0, k1, hql, Nat.ne_of_lt]; done)
      clear hK K
      try simp only [Act.put, List.getElem_toArray, List.getElem_cons_zero, List.getElem_cons_succ, List.setIfInBounds_toArray, List.set_cons_zero, List.set_cons_succ]
      refine wpAnyH_done (by kernel_rfl) ?_ _
      simp only [Chg.vals, Chg.zero] at HG
      clear k0 k1 hHeld HD HC
      obtain ⟨r, hr⟩ : ∃ r, wz.heap.size = r := ⟨_, rfl⟩
      rw [hr] at HG ⊢
      generalize (wz.alloc (.cells #[.int .i64 5, .int .i64 dv, .int .i64 0, .int .i64 0, .int .i64 0, .int .i64 0, .int .i64 0, .bool false, .bool false] 45)).drew = W at *
      have hqr : ¬ q = r := by omega
      have k0 := HG.out.co.c0
      have k8 := HG.out.co.c8
      have u8 := HG.out.cu.c8
      have uf := HG.out.cu.fr
      simp only [] at k0 k8 u8
      go_upto_region 27 with fail
      replace HG := hide (HG.out.un ((Ex.refl (fun k => k = r) W).set (p := r) (j := 8) rfl (.bool up)) (HG.out.cu.put8 up))
      clear k0 k8 u8 uf
      generalize W.setCell ⟨r, 8, none⟩ (.bool up) = W1 at *
      have k0 := HG.out.co.c0
      have k1 := HG.out.co.c1
      have k2 := HG.out.co.c2
      have k3 := HG.out.co.c3
      have k4 := HG.out.co.c4
      have k5 := HG.out.co.c5
      have k6 := HG.out.co.c6
      have k7 := HG.out.co.c7
      have k8 := HG.out.co.c8
      have u0 := HG.out.cu.c0
      have u1 := HG.out.cu.c1
      have u2 := HG.out.cu.c2
      have u3 := HG.out.cu.c3
      have u4 := HG.out.cu.c4
      have u5 := HG.out.cu.c5
      have u6 := HG.out.cu.c6
      have u7 := HG.out.cu.c7
      have u8 := HG.out.cu.c8
      have uf := HG.out.cu.fr
      simp only [] at k0 k1 k2 k3 k4 k5 k6 k7 k8 u0 u1 u2 u3 u4 u5 u6 u7 u8
      have HG0 := HG
      by_cases h_hp : hp = 0
      rotate_left
      · have e_hp : (hp == 0) = false := by simpa using h_hp
        have hfin : finB ⟨5, dv, hp, pr, ln, ix, cl, pm, up⟩ ⟨5, dv, 0, 0, 0, 0, 0, false, up⟩ = false := by simp [finB, eqC, h_hp]
        go_quiet (fail)
        replace HG := hide (HG.out.drewN nq)
        go_wp2
        go_ret
        exact ⟨by first | rfl | rw [hfin], HG.out.ex⟩
      subst h_hp
      by_cases h_pr : pr = 0
      rotate_left
      · have e_pr : (pr == 0) = false := by simpa using h_pr
        have hfin : finB ⟨5, dv, 0, pr, ln, ix, cl, pm, up⟩ ⟨5, dv, 0, 0, 0, 0, 0, false, up⟩ = false := by simp [finB, eqC, h_pr]
        go_quiet (fail)
        replace HG := hide (HG.out.drewN nq)
        go_wp2
        go_ret
        exact ⟨by first | rfl | rw [hfin], HG.out.ex⟩
      subst h_pr
      by_cases h_ln : ln = 0
      rotate_left
      · have e_ln : (ln == 0) = false := by simpa using h_ln
        have hfin : finB ⟨5, dv, 0, 0, ln, ix, cl, pm, up⟩ ⟨5, dv, 0, 0, 0, 0, 0, false, up⟩ = false := by simp [finB, eqC, h_ln]
        go_quiet (fail)
        replace HG := hide (HG.out.drewN nq)
        go_wp2
        go_ret
        exact ⟨by first | rfl | rw [hfin], HG.out.ex⟩
      subst h_ln
      by_cases h_ix : ix = 0
      rotate_left
      · have e_ix : (ix == 0) = false := by simpa using h_ix
        have hfin : finB ⟨5, dv, 0, 0, 0, ix, cl, pm, up⟩ ⟨5, dv, 0, 0, 0, 0, 0, false, up⟩ = false := by simp [finB, eqC, h_ix]
        go_quiet (fail)
        replace HG := hide (HG.out.drewN nq)
        go_wp2
        go_ret
        exact ⟨by first | rfl | rw [hfin], HG.out.ex⟩
      subst h_ix
      by_cases h_cl : cl = 0
      rotate_left
      · have e_cl : (cl == 0) = false := by simpa using h_cl
        have hfin : finB ⟨5, dv, 0, 0, 0, 0, cl, pm, up⟩ ⟨5, dv, 0, 0, 0, 0, 0, false, up⟩ = false := by simp [finB, eqC, h_cl]
        go_quiet (fail)
        replace HG := hide (HG.out.drewN nq)
        go_wp2
        go_ret
        exact ⟨by first | rfl | rw [hfin], HG.out.ex⟩
      subst h_cl
      cases pm
      rotate_left
      · have hfin : finB ⟨5, dv, 0, 0, 0, 0, 0, true, up⟩ ⟨5, dv, 0, 0, 0, 0, 0, false, up⟩ = false := by simp [finB, eqC]
        go_quiet (fail)
        replace HG := hide (HG.out.drewN nq)
        go_wp2
        go_ret
        exact ⟨by first | rfl | rw [hfin], HG.out.ex⟩
      have hfin : finB ⟨5, dv, 0, 0, 0, 0, 0, false, up⟩ ⟨5, dv, 0, 0, 0, 0, 0, false, up⟩ = true := by simp [finB, eqC]
      go_quiet (fail)
      replace HG := hide (HG.out.drewN nq)
      go_wp2
      go_ret
      exact ⟨by first | rfl | rw [hfin], HG.out.ex⟩
set_option linter.unusedSimpArgs false in
set_option maxRecDepth 100000 in
set_option maxHeartbeats 8000000 in
theorem good_rem (w : World) (q o : Nat) (dv hp pr ln ix cl : Int) (pm up : Bool) (hc : CO w q o ⟨3, dv, hp, pr, ln, ix, cl, pm, up⟩) (hd : gdB dv = true) :
    Calls Try.prog 36 #[.pointer (some ⟨q, o, none⟩)] w fun e w' => e = .returned (.bool (finB ⟨3, dv, hp, pr, ln, ix, cl, pm, up⟩ ⟨3, dv, 0, 0, 0, ix, 0, false, false⟩)) ∧ Ex (fun _ => False) w w' := by
  have HC := hide hc
  have k0 := hc.c0
  have k1 := hc.c1
  simp only [] at k0 k1
  have hql : q < w.heap.size := World.block_lt_of_cell? _ _ k0
  have HG := hide (gx_new hc { Chg.zero with kd := 3, dv := dv })
  have HD := hide (goodDevice_any w dv)
  rw [hd] at HD
  clear hc
  go_enter Try.func36, Try.ntmps36
  go_wp2_with fail
  refine HD.out.mono ?_
  rintro e wz ⟨rfl, rfl⟩
  go_upto_region 3 with fail
  refine wp_region_held_drew (S := fun w' => w'.cell? ⟨q, o, none⟩ = some (.int .i64 3) ∧ w'.cell? ⟨q, o + 1, none⟩ = some (.int .i64 dv)) (by kernel_rfl) (And.intro k0 k1) (fun hHeld => ?_)
  refine wpAnyH_take (i := 0) (v := ?_) rfl (by kernel_rfl) (by kernel_rfl) (by kernel_rfl) (fun _ _ _ h => h) (Or.inl ⟨by rfl, ?_⟩) (by assumption) ?_
  rotate_left
  · (intro w hSw; (try dsimp only at hSw); go_simp; try (with_reducible rfl))
  try simp only [Act.put, List.getElem_toArray, List.getElem_cons_zero, List.getElem_cons_succ, List.setIfInBounds_toArray, List.set_cons_zero, List.set_cons_succ]
  refine wpAnyH_take (i := 1) (v := ?_) rfl (by kernel_rfl) (by kernel_rfl) (by kernel_rfl) (fun _ _ _ h => h) (Or.inl ⟨by rfl, ?_⟩) (by assumption) ?_
  rotate_left
  · (intro w hSw; (try dsimp only at hSw); go_simp; try (with_reducible rfl))
  try simp only [Act.put, List.getElem_toArray, List.getElem_cons_zero, List.getElem_cons_succ, List.setIfInBounds_toArray, List.set_cons_zero, List.set_cons_succ]
  refine wpAnyH_take (i := 2) (v := ?_) rfl (by kernel_rfl) (by kernel_rfl) (by kernel_rfl) (fun _ _ _ h => h) (Or.inl ⟨by rfl, ?_⟩) (by assumption) ?_
  rotate_left
  · (intro w hSw; (try dsimp only at hSw); go_simp; try (with_reducible rfl))
  try simp only [Act.put, List.getElem_toArray, List.getElem_cons_zero, List.getElem_cons_succ, List.setIfInBounds_toArray, List.set_cons_zero, List.set_cons_succ]
  refine wpAnyH_take (i := 3) (v := ?_) rfl (by kernel_rfl) (by kernel_rfl) (by kernel_rfl) (fun _ _ _ h => h) (Or.inl ⟨by rfl, ?_⟩) (by assumption) ?_
  rotate_left
  · (intro w hSw; (try dsimp only at hSw); go_simp; try (with_reducible rfl))
  try simp only [Act.put, List.getElem_toArray, List.getElem_cons_zero, List.getElem_cons_succ, List.setIfInBounds_toArray, List.set_cons_zero, List.set_cons_succ]
  refine wpAnyH_take (i := 4) (v := ?_) rfl (by kernel_rfl) (by kernel_rfl) (by kernel_rfl) (fun _ _ _ h => h) (Or.inl ⟨by rfl, ?_⟩) (by assumption) ?_
  rotate_left
  · (intro w hSw; (try dsimp only at hSw); go_simp; try (with_reducible rfl))
  try simp only [Act.put, List.getElem_toArray, List.getElem_cons_zero, List.getElem_cons_succ, List.setIfInBounds_toArray, List.set_cons_zero, List.set_cons_succ]
  refine wpAnyH_take (i := 5) (v := ?_) rfl (by kernel_rfl) (by kernel_rfl) (by kernel_rfl) (fun _ _ _ h => h) (Or.inl ⟨by rfl, ?_⟩) (by assumption) ?_
  rotate_left
  · (intro w hSw; (try dsimp only at hSw); go_simp; try (with_reducible rfl))
  try simp only [Act.put, List.getElem_toArray, List.getElem_cons_zero, List.getElem_cons_succ, List.setIfInBounds_toArray, List.set_cons_zero, List.set_cons_succ]
  refine wpAnyH_take (i := 6) (v := ?_) rfl (by kernel_rfl) (by kernel_rfl) (by kernel_rfl) (fun _ _ _ h => h) (Or.inl ⟨by rfl, ?_⟩) (by assumption) ?_
  rotate_left
  · (intro w hSw; (try dsimp only at hSw); go_simp; try (with_reducible rfl))
  try simp only [Act.put, List.getElem_toArray, List.getElem_cons_zero, List.getElem_cons_succ, List.setIfInBounds_toArray, List.set_cons_zero, List.set_cons_succ]
  refine wpAnyH_take (i := 7) (v := ?_) rfl (by kernel_rfl) (by kernel_rfl) (by kernel_rfl) (fun _ _ _ h => h) (Or.inl ⟨by rfl, ?_⟩) (by assumption) ?_
  rotate_left
  · (intro w hSw; (try dsimp only at hSw); go_simp; try (with_reducible rfl))
  try simp only [Act.put, List.getElem_toArray, List.getElem_cons_zero, List.getElem_cons_succ, List.setIfInBounds_toArray, List.set_cons_zero, List.set_cons_succ]
  refine wpAnyH_take (i := 8) (v := ?_) rfl (by kernel_rfl) (by kernel_rfl) (by kernel_rfl) (fun _ _ _ h => h) (Or.inl ⟨by rfl, ?_⟩) (by assumption) ?_
  rotate_left
  · (intro w hSw; (try dsimp only at hSw); go_simp; try (with_reducible rfl))
  try simp only [Act.put, List.getElem_toArray, List.getElem_cons_zero, List.getElem_cons_succ, List.setIfInBounds_toArray, List.set_cons_zero, List.set_cons_succ]
  refine wpAnyH_ready (rs := [9]) (by kernel_rfl) (by simp) ?_
  refine (AllReadyH.cons rfl (fun K hK => ?_) AllReadyH.nil)
  · go_simp
    refine hK.out _ _ ?_ (fun hHeld => ?_)
    · first | exact hHeld | (simp [go_sem, k0, k1, hql, Nat.ne_of_lt]; done)
    clear hK K
    try simp only [Act.put, List.getElem_toArray, List.getElem_cons_zero, List.getElem_cons_succ, List.setIfInBounds_toArray, List.set_cons_zero, List.set_cons_succ]
    refine wpAnyH_ready (rs := [10]) (by kernel_rfl) (by simp) ?_
    refine (AllReadyH.cons rfl (fun K hK => ?_) AllReadyH.nil)
    · go_simp
      refine hK.out _ _ ?_ (fun hHeld => ?_)
      · first | exact hHeld | (simp [go_sem, k0, k1, hql, Nat.ne_of_lt]; done)
      clear hK K
      try simp only [Act.put, List.getElem_toArray, List.getElem_cons_zero, List.getElem_cons_succ, List.setIfInBounds_toArray, List.set_cons_zero, List.set_cons_succ]
      refine wpAnyH_done (by kernel_rfl) ?_ _
      simp only [Chg.vals, Chg.zero] at HG
      clear k0 k1 hHeld HD HC
      obtain ⟨r, hr⟩ : ∃ r, wz.heap.size = r := ⟨_, rfl⟩
      rw [hr] at HG ⊢
      generalize (wz.alloc (.cells #[.int .i64 3, .int .i64 dv, .int .i64 0, .int .i64 0, .int .i64 0, .int .i64 0, .int .i64 0, .bool false, .bool false] 45)).drew = W at *
      have hqr : ¬ q = r := by omega
      have k0 := HG.out.co.c0
      have k5 := HG.out.co.c5
      have u5 := HG.out.cu.c5
      have uf := HG.out.cu.fr
      simp only [] at k0 k5 u5
      go_upto_region 27 with fail
      replace HG := hide (HG.out.un ((Ex.refl (fun k => k = r) W).set (p := r) (j := 5) rfl (.int .i64 ix)) (HG.out.cu.put5 ix))
      clear k0 k5 u5 uf
      generalize W.setCell ⟨r, 5, none⟩ (.int .i64 ix) = W1 at *
      have k0 := HG.out.co.c0
      have k1 := HG.out.co.c1
      have k2 := HG.out.co.c2
      have k3 := HG.out.co.c3
      have k4 := HG.out.co.c4
      have k5 := HG.out.co.c5
      have k6 := HG.out.co.c6
      have k7 := HG.out.co.c7
      have k8 := HG.out.co.c8
      have u0 := HG.out.cu.c0
      have u1 := HG.out.cu.c1
      have u2 := HG.out.cu.c2
      have u3 := HG.out.cu.c3
      have u4 := HG.out.cu.c4
      have u5 := HG.out.cu.c5
      have u6 := HG.out.cu.c6
      have u7 := HG.out.cu.c7
      have u8 := HG.out.cu.c8
      have uf := HG.out.cu.fr
      simp only [] at k0 k1 k2 k3 k4 k5 k6 k7 k8 u0 u1 u2 u3 u4 u5 u6 u7 u8
      have HG0 := HG
      by_cases h_hp : hp = 0
      rotate_left
      · have e_hp : (hp == 0) = false := by simpa using h_hp
        have hfin : finB ⟨3, dv, hp, pr, ln, ix, cl, pm, up⟩ ⟨3, dv, 0, 0, 0, ix, 0, false, false⟩ = false := by simp [finB, eqC, h_hp]
        go_quiet (fail)
        replace HG := hide (HG.out.drewN nq)
        go_wp2
        go_ret
        exact ⟨by first | rfl | rw [hfin], HG.out.ex⟩
      subst h_hp
      by_cases h_pr : pr = 0
      rotate_left
      · have e_pr : (pr == 0) = false := by simpa using h_pr
        have hfin : finB ⟨3, dv, 0, pr, ln, ix, cl, pm, up⟩ ⟨3, dv, 0, 0, 0, ix, 0, false, false⟩ = false := by simp [finB, eqC, h_pr]
        go_quiet (fail)
        replace HG := hide (HG.out.drewN nq)
        go_wp2
        go_ret
        exact ⟨by first | rfl | rw [hfin], HG.out.ex⟩
      subst h_pr
      by_cases h_ln : ln = 0
      rotate_left
      · have e_ln : (ln == 0) = false := by simpa using h_ln
        have hfin : finB ⟨3, dv, 0, 0, ln, ix, cl, pm, up⟩ ⟨3, dv, 0, 0, 0, ix, 0, false, false⟩ = false := by simp [finB, eqC, h_ln]
        go_quiet (fail)
        replace HG := hide (HG.out.drewN nq)
        go_wp2
        go_ret
        exact ⟨by first | rfl | rw [hfin], HG.out.ex⟩
      subst h_ln
      by_cases h_cl : cl = 0
      rotate_left
      · have e_cl : (cl == 0) = false := by simpa using h_cl
        have hfin : finB ⟨3, dv, 0, 0, 0, ix, cl, pm, up⟩ ⟨3, dv, 0, 0, 0, ix, 0, false, false⟩ = false := by simp [finB, eqC, h_cl]
        go_quiet (fail)
        replace HG := hide (HG.out.drewN nq)
        go_wp2
        go_ret
        exact ⟨by first | rfl | rw [hfin], HG.out.ex⟩
      subst h_cl
      cases pm
      rotate_left
      · have hfin : finB ⟨3, dv, 0, 0, 0, ix, 0, true, up⟩ ⟨3, dv, 0, 0, 0, ix, 0, false, false⟩ = false := by simp [finB, eqC]
        go_quiet (fail)
        replace HG := hide (HG.out.drewN nq)
        go_wp2
        go_ret
        exact ⟨by first | rfl | rw [hfin], HG.out.ex⟩
      cases up
      rotate_left
      · have hfin : finB ⟨3, dv, 0, 0, 0, ix, 0, false, true⟩ ⟨3, dv, 0, 0, 0, ix, 0, false, false⟩ = false := by simp [finB, eqC]
        go_quiet (fail)
        replace HG := hide (HG.out.drewN nq)
        go_wp2
        go_ret
        exact ⟨by first | rfl | rw [hfin], HG.out.ex⟩
      by_cases hx0 : 0 ≤ ix
      rotate_left
      · have d0 : decide (0 ≤ ix) = false := decide_eq_false hx0
        have hfin : finB ⟨3, dv, 0, 0, 0, ix, 0, false, false⟩ ⟨3, dv, 0, 0, 0, ix, 0, false, false⟩ = false := by simp [finB, eqC, hx0]
        go_quiet (fail)
        replace HG := hide (HG.out.drewN nq)
        go_wp2
        go_ret
        exact ⟨by first | rfl | rw [hfin], HG.out.ex⟩
      by_cases hx1 : ix < 64
      rotate_left
      · have d1 : decide (ix < 64) = false := decide_eq_false hx1
        have hfin : finB ⟨3, dv, 0, 0, 0, ix, 0, false, false⟩ ⟨3, dv, 0, 0, 0, ix, 0, false, false⟩ = false := by simp [finB, eqC, hx1]
        go_quiet (fail)
        replace HG := hide (HG.out.drewN nq)
        go_wp2
        go_ret
        exact ⟨by first | rfl | rw [hfin], HG.out.ex⟩
      have hfin : finB ⟨3, dv, 0, 0, 0, ix, 0, false, false⟩ ⟨3, dv, 0, 0, 0, ix, 0, false, false⟩ = true := by simp [finB, eqC, hx0, hx1]
      go_quiet (fail)
      replace HG := hide (HG.out.drewN nq)
      go_wp2
      go_ret
      exact ⟨by first | rfl | rw [hfin], HG.out.ex⟩
end Go.Proofs.Qxb6500778a
