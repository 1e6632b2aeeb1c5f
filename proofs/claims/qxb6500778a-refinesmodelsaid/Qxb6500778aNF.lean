import Derived.Test.Qxb6500778aNB
import Derived.Test.Qxb6500778aNC2
import Derived.Test.Qxb6500778aNC4
namespace Go.Proofs.Qxb6500778a
open Go.RowKit

instance (c : Chg) : Decidable (GoodC c) := by unfold GoodC; infer_instance
set_option maxRecDepth 100000 in
theorem good_dev (w : World) (q o : Nat) (c : Chg) (hc : CO w q o c) (hd : gdB c.dv = false) :
    Calls Try.prog 36 #[.pointer (some ⟨q, o, none⟩)] w fun e w' => e = .returned (.bool false) ∧ Ex (fun _ => False) w w' := by
  have k1 := hc.c1
  have HD := hide (goodDevice_any w c.dv)
  rw [hd] at HD
  generalize c.dv = dv at *
  clear hc hd
  go_enter Try.func36, Try.ntmps36
  go_wp2_with fail
  refine HD.out.mono ?_
  rintro e wz ⟨rfl, rfl⟩
  go_wp2
  go_ret
  exact ⟨rfl, Ex.refl _ _⟩
theorem good_eq (b : Bool) (c : Chg) (h : b = true ↔ GoodC c) : b = decide (GoodC c) := by
  cases b
  · exact (decide_eq_false (fun x => by cases h.2 x)).symm
  · exact (decide_eq_true (h.1 rfl)).symm
theorem good_add_eq (dv hp pr ln ix cl : Int) (pm up : Bool) (hd : gdB dv = true) : (gpB pr ln && (gdB hp && finB ⟨0, dv, hp, pr, ln, ix, cl, pm, up⟩ ⟨0, dv, hp, pr, ln, 0, 0, false, false⟩)) = decide (GoodC ⟨0, dv, hp, pr, ln, ix, cl, pm, up⟩) := by
  refine good_eq _ _ ?_
  simp only [gdB, decide_eq_true_eq] at hd
  simp only [GoodC, gpB, gdB, finB, eqC, decide_eq_true_eq, Bool.and_eq_true, beq_iff_eq]
  constructor
  · rintro ⟨h1, h2, ⟨_, _, _, h3, h4, h5, h6⟩, h7, h8⟩
    exact ⟨hd, .inl ⟨trivial, h1, h2, h3, h4, h5, h6⟩⟩
  · rintro ⟨_, h | h | h | h | h | h⟩
    · obtain ⟨_, h1, h2, h3, h4, h5, h6⟩ := h
      exact ⟨h1, h2, ⟨trivial, trivial, trivial, h3, h4, h5, h6⟩, by omega, by omega⟩
    all_goals (exfalso; have := h.1; omega)
theorem good_del_eq (dv hp pr ln ix cl : Int) (pm up : Bool) (hd : gdB dv = true) : (gpB pr ln && finB ⟨1, dv, hp, pr, ln, ix, cl, pm, up⟩ ⟨1, dv, 0, pr, ln, 0, 0, false, false⟩) = decide (GoodC ⟨1, dv, hp, pr, ln, ix, cl, pm, up⟩) := by
  refine good_eq _ _ ?_
  simp only [gdB, decide_eq_true_eq] at hd
  simp only [GoodC, gpB, finB, eqC, decide_eq_true_eq, Bool.and_eq_true, beq_iff_eq]
  constructor
  · rintro ⟨h1, ⟨h2, _, _, h3, h4, h5, h6⟩, h7, h8⟩
    exact ⟨hd, .inr (.inl ⟨trivial, h1, h2, h3, h4, h5, h6⟩)⟩
  · rintro ⟨_, h | h | h | h | h | h⟩
    all_goals first
      | (exfalso; have h0 := h.1; omega)
      | (obtain ⟨_, h1, h2, h3, h4, h5, h6⟩ := h; exact ⟨h1, ⟨h2, trivial, trivial, h3, h4, h5, h6⟩, by omega, by omega⟩)
theorem good_ins_eq (dv hp pr ln ix cl : Int) (pm up : Bool) (hd : gdB dv = true) : (gpB pr ln && (decide (0 ≤ cl) && (decide (cl ≤ 16) && finB ⟨2, dv, hp, pr, ln, ix, cl, pm, up⟩ ⟨2, dv, 0, pr, ln, ix, cl, pm, false⟩))) = decide (GoodC ⟨2, dv, hp, pr, ln, ix, cl, pm, up⟩) := by
  refine good_eq _ _ ?_
  simp only [gdB, decide_eq_true_eq] at hd
  simp only [GoodC, gpB, finB, eqC, decide_eq_true_eq, Bool.and_eq_true, beq_iff_eq]
  constructor
  · rintro ⟨h1, hc0, hc1, ⟨h2, _, _, _, _, _, h6⟩, h7, h8⟩
    exact ⟨hd, .inr (.inr (.inl ⟨trivial, h1, h2, ⟨h7, by omega⟩, ⟨hc0, hc1⟩, h6⟩))⟩
  · rintro ⟨_, h | h | h | h | h | h⟩
    all_goals first
      | (exfalso; have h0 := h.1; omega)
      | (obtain ⟨_, h1, h2, h3, h4, h6⟩ := h; exact ⟨h1, h4.1, h4.2, ⟨h2, trivial, trivial, trivial, trivial, trivial, h6⟩, by omega, by omega⟩)
theorem good_rem_eq (dv hp pr ln ix cl : Int) (pm up : Bool) (hd : gdB dv = true) : finB ⟨3, dv, hp, pr, ln, ix, cl, pm, up⟩ ⟨3, dv, 0, 0, 0, ix, 0, false, false⟩ = decide (GoodC ⟨3, dv, hp, pr, ln, ix, cl, pm, up⟩) := by
  refine good_eq _ _ ?_
  simp only [gdB, decide_eq_true_eq] at hd
  simp only [GoodC, finB, eqC, decide_eq_true_eq, Bool.and_eq_true, beq_iff_eq]
  constructor
  · rintro ⟨⟨h2, h3, h4, _, h5, h6, h9⟩, h7, h8⟩
    exact ⟨hd, .inr (.inr (.inr (.inl ⟨trivial, h3, h4, h2, ⟨h7, by omega⟩, h5, h6, h9⟩)))⟩
  · rintro ⟨_, h | h | h | h | h | h⟩
    all_goals first
      | (exfalso; have h0 := h.1; omega)
      | (obtain ⟨_, h3, h4, h2, h7, h5, h6, h9⟩ := h; exact ⟨⟨h2, h3, h4, trivial, h5, h6, h9⟩, by omega, by omega⟩)
theorem good_link_eq (dv hp pr ln ix cl : Int) (pm up : Bool) (hd : gdB dv = true) : (gdB hp && (decide (dv < hp) && finB ⟨4, dv, hp, pr, ln, ix, cl, pm, up⟩ ⟨4, dv, hp, 0, 0, 0, 0, false, up⟩)) = decide (GoodC ⟨4, dv, hp, pr, ln, ix, cl, pm, up⟩) := by
  refine good_eq _ _ ?_
  simp only [gdB, decide_eq_true_eq] at hd
  simp only [GoodC, gdB, finB, eqC, decide_eq_true_eq, Bool.and_eq_true, beq_iff_eq]
  constructor
  · rintro ⟨h0, h1, ⟨_, h3, h4, h5, h6, h9, _⟩, h7, h8⟩
    exact ⟨hd, .inr (.inr (.inr (.inr (.inl ⟨trivial, h3, h4, ⟨h1, h0.2⟩, h5, h6, h9⟩))))⟩
  · rintro ⟨_, h | h | h | h | h | h⟩
    all_goals first
      | (exfalso; have h0 := h.1; omega)
      | (obtain ⟨_, h3, h4, h1, h5, h6, h9⟩ := h; exact ⟨by omega, h1.1, ⟨trivial, h3, h4, h5, h6, h9, trivial⟩, by omega, by omega⟩)
theorem good_if_eq (dv hp pr ln ix cl : Int) (pm up : Bool) (hd : gdB dv = true) : finB ⟨5, dv, hp, pr, ln, ix, cl, pm, up⟩ ⟨5, dv, 0, 0, 0, 0, 0, false, up⟩ = decide (GoodC ⟨5, dv, hp, pr, ln, ix, cl, pm, up⟩) := by
  refine good_eq _ _ ?_
  simp only [gdB, decide_eq_true_eq] at hd
  simp only [GoodC, finB, eqC, decide_eq_true_eq, Bool.and_eq_true, beq_iff_eq]
  constructor
  · rintro ⟨⟨h2, h3, h4, h5, h6, h9, _⟩, h7, h8⟩
    exact ⟨hd, .inr (.inr (.inr (.inr (.inr ⟨trivial, h3, h4, h2, h5, h6, h9⟩))))⟩
  · rintro ⟨_, h | h | h | h | h | h⟩
    all_goals first
      | (exfalso; have h0 := h.1; omega)
      | (obtain ⟨_, h3, h4, h2, h5, h6, h9⟩ := h; exact ⟨⟨h2, h3, h4, h5, h6, h9, trivial⟩, by omega, by omega⟩)
set_option linter.unusedSimpArgs false in
set_option maxRecDepth 100000 in
set_option maxHeartbeats 8000000 in
theorem good_other (w : World) (q o : Nat) (kd dv hp pr ln ix cl : Int) (pm up : Bool) (hc : CO w q o ⟨kd, dv, hp, pr, ln, ix, cl, pm, up⟩) (hd : gdB dv = true) (hk : kd < 0 ∨ 5 < kd) :
    Calls Try.prog 36 #[.pointer (some ⟨q, o, none⟩)] w fun e w' => e = .returned (.bool false) ∧ Ex (fun _ => False) w w' := by
  have e0 : (kd == 0) = false := by simp only [beq_eq_false_iff_ne]; omega
  have e1 : (kd == 1) = false := by simp only [beq_eq_false_iff_ne]; omega
  have e2 : (kd == 2) = false := by simp only [beq_eq_false_iff_ne]; omega
  have e3 : (kd == 3) = false := by simp only [beq_eq_false_iff_ne]; omega
  have e4 : (kd == 4) = false := by simp only [beq_eq_false_iff_ne]; omega
  have e5 : (kd == 5) = false := by simp only [beq_eq_false_iff_ne]; omega
  have k0 := hc.c0
  have k1 := hc.c1
  simp only [] at k0 k1
  have hql : q < w.heap.size := World.block_lt_of_cell? _ _ k0
  have HG := hide (gx_new hc { Chg.zero with kd := kd, dv := dv })
  have HD := hide (goodDevice_any w dv)
  rw [hd] at HD
  clear hc hk hd
  go_enter Try.func36, Try.ntmps36
  go_wp2_with fail
  refine HD.out.mono ?_
  rintro e wz ⟨rfl, rfl⟩
  go_upto_region 3 with fail
  refine wp_region_held_drew (S := fun w' => w'.cell? ⟨q, o, none⟩ = some (.int .i64 kd) ∧ w'.cell? ⟨q, o + 1, none⟩ = some (.int .i64 dv)) (by kernel_rfl) (And.intro k0 k1) (fun hHeld => ?_)
  refine wpAnyH_take (i := 0) (v := ?_) rfl (by kernel_rfl) (by kernel_rfl) (by kernel_rfl) (fun _ _ _ h => h) (Or.inl ⟨by rfl, ?_⟩) (by assumption) ?_
  rotate_left
  · (intro w hSw; (try dsimp only at hSw); go_simp; try (with_reducible rfl))
  try simp only [Act.put, List.getElem_toArray, List.getElem_cons_zero, List.getElem_cons_succ, List.setIfInBounds_toArray, List.set_cons_zero, List.set_cons_succ]
  refine wpAnyH_take (i := 1) (v := ?_) rfl (by kernel_rfl) (by kernel_rfl) (by kernel_rfl) (fun _ _ _ h => h) (Or.inl ⟨by rfl, ?_⟩) (by assumption) ?_
  rotate_left
  · (intro w hSw; (try dsimp only at hSw); go_simp; try (with_reducible rfl))
  try simp only [Act.put, List.getElem_toArray, List.getElem_cons_zero, List.getElem_cons_succ, List.setIfInBounds_toArray, List.set_cons_zero, List.set_cons_succ]
  refine wpAnyH_take (i := 2) (v := ?_) rfl (by kernel_rfl) (by kernel_rfl) (by kernel_rfl) (fun _ _ _ h => h) (Or.inl ⟨by rfl, ?_⟩) (by assumption) ?_
  rotate_left
  · (intro w hSw; (try dsimp only at hSw); go_simp; try (with_reducible rfl))
  try simp only [Act.put, List.getElem_toArray, List.getElem_cons_zero, List.getElem_cons_succ, List.setIfInBounds_toArray, List.set_cons_zero, List.set_cons_succ]
  refine wpAnyH_take (i := 3) (v := ?_) rfl (by kernel_rfl) (by kernel_rfl) (by kernel_rfl) (fun _ _ _ h => h) (Or.inl ⟨by rfl, ?_⟩) (by assumption) ?_
  rotate_left
  · (intro w hSw; (try dsimp only at hSw); go_simp; try (with_reducible rfl))
  try simp only [Act.put, List.getElem_toArray, List.getElem_cons_zero, List.getElem_cons_succ, List.setIfInBounds_toArray, List.set_cons_zero, List.set_cons_succ]
  refine wpAnyH_take (i := 4) (v := ?_) rfl (by kernel_rfl) (by kernel_rfl) (by kernel_rfl) (fun _ _ _ h => h) (Or.inl ⟨by rfl, ?_⟩) (by assumption) ?_
  rotate_left
  · (intro w hSw; (try dsimp only at hSw); go_simp; try (with_reducible rfl))
  try simp only [Act.put, List.getElem_toArray, List.getElem_cons_zero, List.getElem_cons_succ, List.setIfInBounds_toArray, List.set_cons_zero, List.set_cons_succ]
  refine wpAnyH_take (i := 5) (v := ?_) rfl (by kernel_rfl) (by kernel_rfl) (by kernel_rfl) (fun _ _ _ h => h) (Or.inl ⟨by rfl, ?_⟩) (by assumption) ?_
  rotate_left
  · (intro w hSw; (try dsimp only at hSw); go_simp; try (with_reducible rfl))
  try simp only [Act.put, List.getElem_toArray, List.getElem_cons_zero, List.getElem_cons_succ, List.setIfInBounds_toArray, List.set_cons_zero, List.set_cons_succ]
  refine wpAnyH_take (i := 6) (v := ?_) rfl (by kernel_rfl) (by kernel_rfl) (by kernel_rfl) (fun _ _ _ h => h) (Or.inl ⟨by rfl, ?_⟩) (by assumption) ?_
  rotate_left
  · (intro w hSw; (try dsimp only at hSw); go_simp; try (with_reducible rfl))
  try simp only [Act.put, List.getElem_toArray, List.getElem_cons_zero, List.getElem_cons_succ, List.setIfInBounds_toArray, List.set_cons_zero, List.set_cons_succ]
  refine wpAnyH_take (i := 7) (v := ?_) rfl (by kernel_rfl) (by kernel_rfl) (by kernel_rfl) (fun _ _ _ h => h) (Or.inl ⟨by rfl, ?_⟩) (by assumption) ?_
  rotate_left
  · (intro w hSw; (try dsimp only at hSw); go_simp; try (with_reducible rfl))
  try simp only [Act.put, List.getElem_toArray, List.getElem_cons_zero, List.getElem_cons_succ, List.setIfInBounds_toArray, List.set_cons_zero, List.set_cons_succ]
  refine wpAnyH_take (i := 8) (v := ?_) rfl (by kernel_rfl) (by kernel_rfl) (by kernel_rfl) (fun _ _ _ h => h) (Or.inl ⟨by rfl, ?_⟩) (by assumption) ?_
  rotate_left
  · (intro w hSw; (try dsimp only at hSw); go_simp; try (with_reducible rfl))
  try simp only [Act.put, List.getElem_toArray, List.getElem_cons_zero, List.getElem_cons_succ, List.setIfInBounds_toArray, List.set_cons_zero, List.set_cons_succ]
  refine wpAnyH_ready (rs := [9]) (by kernel_rfl) (by simp) ?_
  refine (AllReadyH.cons rfl (fun K hK => ?_) AllReadyH.nil)
  · go_simp
    refine hK.out _ _ ?_ (fun hHeld => ?_)
    · first | exact hHeld | (simp [go_sem, k0, k1, hql, Nat.ne_of_lt]; done)
    clear hK K
    try simp only [Act.put, List.getElem_toArray, List.getElem_cons_zero, List.getElem_cons_succ, List.setIfInBounds_toArray, List.set_cons_zero, List.set_cons_succ]
    refine wpAnyH_ready (rs := [10]) (by kernel_rfl) (by simp) ?_
    refine (AllReadyH.cons rfl (fun K hK => ?_) AllReadyH.nil)
    · go_simp
      refine hK.out _ _ ?_ (fun hHeld => ?_)
      · first | exact hHeld | (simp [go_sem, k0, k1, hql, Nat.ne_of_lt]; done)
      clear hK K
      try simp only [Act.put, List.getElem_toArray, List.getElem_cons_zero, List.getElem_cons_succ, List.setIfInBounds_toArray, List.set_cons_zero, List.set_cons_succ]
      refine wpAnyH_done (by kernel_rfl) ?_ _
      simp only [Chg.vals, Chg.zero] at HG
      clear k0 k1 hHeld HD
      obtain ⟨r, hr⟩ : ∃ r, wz.heap.size = r := ⟨_, rfl⟩
      rw [hr] at HG ⊢
      generalize (wz.alloc (.cells #[.int .i64 kd, .int .i64 dv, .int .i64 0, .int .i64 0, .int .i64 0, .int .i64 0, .int .i64 0, .bool false, .bool false] 45)).drew = W at *
      have hqr : ¬ q = r := by omega
      have kz := HG.out.co.c0
      simp only [] at kz
      go_wp2
      go_ret
      exact ⟨rfl, HG.out.ex⟩
theorem goodChange_any (w : World) (q o : Nat) (c : Chg) (hc : CO w q o c) :
    Calls Try.prog 36 #[.pointer (some ⟨q, o, none⟩)] w fun e w' => e = .returned (.bool (decide (GoodC c))) ∧ Ex (fun _ => False) w w' := by
  obtain ⟨b, hb⟩ : ∃ b, gdB c.dv = b := ⟨_, rfl⟩
  cases b
  · have : decide (GoodC c) = false := decide_eq_false (fun h => by have h0 : gdB c.dv = true := decide_eq_true h.1; rw [hb] at h0; cases h0)
    rw [this]
    exact good_dev w q o c hc hb
  · obtain ⟨kd, dv, hp, pr, ln, ix, cl, pm, up⟩ := c
    by_cases hk : kd < 0 ∨ 5 < kd
    · have : decide (GoodC ⟨kd, dv, hp, pr, ln, ix, cl, pm, up⟩) = false := decide_eq_false (fun h => by
        rcases h.2 with h | h | h | h | h | h
        all_goals (have h0 := h.1; simp only [] at h0; omega))
      rw [this]
      exact good_other w q o kd dv hp pr ln ix cl pm up hc hb hk
    · have : kd = 0 ∨ kd = 1 ∨ kd = 2 ∨ kd = 3 ∨ kd = 4 ∨ kd = 5 := by omega
      rcases this with rfl | rfl | rfl | rfl | rfl | rfl
      · rw [← good_add_eq dv hp pr ln ix cl pm up hb]; exact good_add w q o dv hp pr ln ix cl pm up hc hb
      · rw [← good_del_eq dv hp pr ln ix cl pm up hb]; exact good_del w q o dv hp pr ln ix cl pm up hc hb
      · rw [← good_ins_eq dv hp pr ln ix cl pm up hb]; exact good_ins w q o dv hp pr ln ix cl pm up hc hb
      · rw [← good_rem_eq dv hp pr ln ix cl pm up hb]; exact good_rem w q o dv hp pr ln ix cl pm up hc hb
      · rw [← good_link_eq dv hp pr ln ix cl pm up hb]; exact good_link w q o dv hp pr ln ix cl pm up hc hb
      · rw [← good_if_eq dv hp pr ln ix cl pm up hb]; exact good_if w q o dv hp pr ln ix cl pm up hc hb
end Go.Proofs.Qxb6500778a
