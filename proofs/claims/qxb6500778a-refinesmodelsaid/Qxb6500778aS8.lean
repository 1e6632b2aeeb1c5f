import Derived.Test.Qxb6500778aS7
namespace Go.Proofs.Qxb6500778a
open Go.RowKit

set_option linter.unusedSimpArgs false in
set_option maxRecDepth 100000 in
set_option maxHeartbeats 16000000 in
theorem step_stage (w : World) (s b : Nat) (x : Sn) (vr va : Nat → Value) (sv uv : Value) (a : Int) (c : Chg) (da : Option Addr) (s_ : List Int) (cp : Nat) (h : SS w s b x vr va sv uv) (hst : x.st.length ≤ 1000000) :
    Calls Try.prog 10 #[.pointer (some ⟨s, 0, none⟩), .agg #[.int .i64 2, .int .i64 a, .int .i64 c.kd, .int .i64 c.dv, .int .i64 c.hp, .int .i64 c.pr, .int .i64 c.ln, .int .i64 c.ix, .int .i64 c.cl, .bool c.pm, .bool c.up, .slice da s_.length cp]] w (TPost w s b vr va sv uv (fun k => sv.ownBlock = some k) ({ x with st := x.st ++ [c] }) (ansV 0 0 ⟨#[]⟩)) := by
  obtain ⟨W, hW⟩ : ∃ W, W = (w.alloc (.cells #[.int .i64 2, .int .i64 a, .int .i64 c.kd, .int .i64 c.dv, .int .i64 c.hp, .int .i64 c.pr, .int .i64 c.ln, .int .i64 c.ix, .int .i64 c.cl, .bool c.pm, .bool c.up, .slice da s_.length cp] 48)).alloc (.cells #[.int .i64 0, .int .i64 0, .string ⟨#[]⟩] 40) := ⟨_, rfl⟩
  have HB : Hid (SB w W s b x vr va sv uv w.heap.size (w.heap.size + 1)) := by rw [hW]; exact sb_new h _
  have HBX : Hid (∀ j u, (#[.int .i64 2, .int .i64 a, .int .i64 c.kd, .int .i64 c.dv, .int .i64 c.hp, .int .i64 c.pr, .int .i64 c.ln, .int .i64 c.ix, .int .i64 c.cl, .bool c.pm, .bool c.up, .slice da s_.length cp].toList)[j]? = some u → W.cell? ⟨w.heap.size, j, none⟩ = some u) := fun j u hj => by
    have h1 := new_cells w [.int .i64 2, .int .i64 a, .int .i64 c.kd, .int .i64 c.dv, .int .i64 c.hp, .int .i64 c.pr, .int .i64 c.ln, .int .i64 c.ix, .int .i64 c.cl, .bool c.pm, .bool c.up, .slice da s_.length cp] 48 j u hj
    rw [Addr.add_mid, Nat.zero_add] at h1
    rw [hW]
    exact ((Ex.refl (fun _ => False) _).alloc _).cell (fun e => e) h1
  go_enter Try.func10, Try.ntmps10
  go_upto_region 1 with fail
  rw [← hW]
  clear hW h
  obtain ⟨r1, hr1⟩ : ∃ r, w.heap.size + 1 = r := ⟨_, rfl⟩
  rw [hr1] at HB ⊢
  obtain ⟨r0, hr0⟩ : ∃ r, w.heap.size = r := ⟨_, rfl⟩
  rw [hr0] at HB HBX ⊢
  clear hr0 hr1
  have k0 := HBX.out 0 _ rfl
  obtain ⟨i0, hi, hz0, hz1, hz2⟩ := info_parts Try.inf45
  have HI := hide (And.intro hi (And.intro hz0 (And.intro hz1 hz2)))
  clear hi hz0 hz1 hz2
  obtain ⟨sa, sc, hsv⟩ := own_len HB.out.ss.st
  obtain ⟨n, hn⟩ : ∃ n, x.st.length = n := ⟨_, rfl⟩
  rw [hn] at hsv hst
  subst hsv
  have HNL := hide hn
  have HTL := hide HB.out.tl
  obtain ⟨kd, dv, hp, pr, ln, ix, cl, pm, up⟩ := c
  have b0 := HBX.out 2 _ rfl
  have b1 := HBX.out 3 _ rfl
  have b2 := HBX.out 4 _ rfl
  have b3 := HBX.out 5 _ rfl
  have b4 := HBX.out 6 _ rfl
  have b5 := HBX.out 7 _ rfl
  have b6 := HBX.out 8 _ rfl
  have b7 := HBX.out 9 _ rfl
  have b8 := HBX.out 10 _ rfl
  simp only [] at b0 b1 b2 b3 b4 b5 b6 b7 b8
  have s1 := HB.out.ss.c1
  have sf := HB.out.ss.fz
  have hr1w : w.heap.size ≤ r1 := by have := HB.out.h1; omega
  have n_s : ¬ s = r1 := by have := HB.out.sl; omega
  have n_f : ∀ k, Foot b vr va k → ¬ k = r1 := fun k hk z => by have := HB.out.fl k hk; omega
  have n_u : ∀ k, uv.ownBlock = some k → ¬ k = r1 := fun k hk z => by have := HB.out.ul k hk; omega
  have hr00 := HB.out.h0
  have hr0s : r0 ≠ s := by have := HB.out.sl; omega
  have hr11 := HB.out.h1
  have hWs : w.heap.size ≤ W.heap.size := HB.out.ex.size
  have hr0l : r0 < W.heap.size := World.block_lt_of_cell? _ _ b0
  have hsW : s < W.heap.size := HB.out.ss.lt
  have HO : Hid (W.ownsRow (s + 1) 45 9 (.slice sa n sc) n (flatC x.st)) := by have := HB.out.ss.st; rw [hn] at this; exact this
  have HOA : Hid ((W.alloc (.cells #[.int .i64 kd, .int .i64 dv, .int .i64 hp, .int .i64 pr, .int .i64 ln, .int .i64 ix, .int .i64 cl, .bool pm, .bool up] 45)).drew.ownsRow (s + 1) 45 9 (.slice sa n sc) n (flatC x.st)) := own_kept HO.out (((Ex.refl (fun _ => False) W).alloc _).drew) (fun _ _ e => e)
  have s1a : (W.alloc (.cells #[.int .i64 kd, .int .i64 dv, .int .i64 hp, .int .i64 pr, .int .i64 ln, .int .i64 ix, .int .i64 cl, .bool pm, .bool up] 45)).drew.cell? ⟨s, 1, none⟩ = some (.slice sa n sc) := (((Ex.refl (fun _ => False) W).alloc _).drew).cell (fun e => e) s1
  have sfa : (W.alloc (.cells #[.int .i64 kd, .int .i64 dv, .int .i64 hp, .int .i64 pr, .int .i64 ln, .int .i64 ix, .int .i64 cl, .bool pm, .bool up] 45)).drew.frozen? ⟨s, 1, none⟩ = false := ((((Ex.refl (fun _ => False) W).alloc (.cells #[.int .i64 kd, .int .i64 dv, .int .i64 hp, .int .i64 pr, .int .i64 ln, .int .i64 ix, .int .i64 cl, .bool pm, .bool up] 45)).drew).frozen (fun e => e) hsW).trans (sf 1)
  have hsa : s < (W.alloc (.cells #[.int .i64 kd, .int .i64 dv, .int .i64 hp, .int .i64 pr, .int .i64 ln, .int .i64 ix, .int .i64 cl, .bool pm, .bool up] 45)).drew.heap.size := by simp [go_sem]; omega
  clear hn
  go_upto_region 13 with fail
  clear k0
  refine wp_region_held_drew (S := fun w' => w'.cell? ⟨r0, 2, none⟩ = some (.int .i64 kd) ∧ w'.cell? ⟨r0, 3, none⟩ = some (.int .i64 dv) ∧ w'.cell? ⟨r0, 4, none⟩ = some (.int .i64 hp) ∧ w'.cell? ⟨r0, 5, none⟩ = some (.int .i64 pr) ∧ w'.cell? ⟨r0, 6, none⟩ = some (.int .i64 ln) ∧ w'.cell? ⟨r0, 7, none⟩ = some (.int .i64 ix) ∧ w'.cell? ⟨r0, 8, none⟩ = some (.int .i64 cl) ∧ w'.cell? ⟨r0, 9, none⟩ = some (.bool pm) ∧ w'.cell? ⟨r0, 10, none⟩ = some (.bool up)) (by kernel_rfl) (And.intro b0 (And.intro b1 (And.intro b2 (And.intro b3 (And.intro b4 (And.intro b5 (And.intro b6 (And.intro b7 b8)))))))) (fun hHeld => ?_)
  refine wpAnyH_take (i := 0) (v := ?_) rfl (by kernel_rfl) (by kernel_rfl) (by kernel_rfl) (fun _ _ _ h => h) (Or.inl ⟨by rfl, ?_⟩) (by assumption) ?_
  rotate_left
  · (intro w hSw; (try dsimp only at hSw); go_simp; try (with_reducible rfl))
  try simp only [Act.put, List.getElem_toArray, List.getElem_cons_zero, List.getElem_cons_succ, List.setIfInBounds_toArray, List.set_cons_zero, List.set_cons_succ]
  refine wpAnyH_take (i := 1) (v := ?_) rfl (by kernel_rfl) (by kernel_rfl) (by kernel_rfl) (fun _ _ _ h => h) (Or.inl ⟨by rfl, ?_⟩) (by assumption) ?_
  rotate_left
  · (intro w hSw; (try dsimp only at hSw); go_simp; try (with_reducible rfl))
  try simp only [Act.put, List.getElem_toArray, List.getElem_cons_zero, List.getElem_cons_succ, List.setIfInBounds_toArray, List.set_cons_zero, List.set_cons_succ]
  refine wpAnyH_take (i := 2) (v := ?_) rfl (by kernel_rfl) (by kernel_rfl) (by kernel_rfl) (fun _ _ _ h => h) (Or.inl ⟨by rfl, ?_⟩) (by assumption) ?_
  rotate_left
  · (intro w hSw; (try dsimp only at hSw); go_simp; try (with_reducible rfl))
  try simp only [Act.put, List.getElem_toArray, List.getElem_cons_zero, List.getElem_cons_succ, List.setIfInBounds_toArray, List.set_cons_zero, List.set_cons_succ]
  refine wpAnyH_take (i := 3) (v := ?_) rfl (by kernel_rfl) (by kernel_rfl) (by kernel_rfl) (fun _ _ _ h => h) (Or.inl ⟨by rfl, ?_⟩) (by assumption) ?_
  rotate_left
  · (intro w hSw; (try dsimp only at hSw); go_simp; try (with_reducible rfl))
  try simp only [Act.put, List.getElem_toArray, List.getElem_cons_zero, List.getElem_cons_succ, List.setIfInBounds_toArray, List.set_cons_zero, List.set_cons_succ]
  refine wpAnyH_take (i := 5) (v := ?_) rfl (by kernel_rfl) (by kernel_rfl) (by kernel_rfl) (fun _ _ _ h => h) (Or.inl ⟨by rfl, ?_⟩) (by assumption) ?_
  rotate_left
  · (intro w hSw; (try dsimp only at hSw); go_simp; try (with_reducible rfl))
  try simp only [Act.put, List.getElem_toArray, List.getElem_cons_zero, List.getElem_cons_succ, List.setIfInBounds_toArray, List.set_cons_zero, List.set_cons_succ]
  refine wpAnyH_take (i := 6) (v := ?_) rfl (by kernel_rfl) (by kernel_rfl) (by kernel_rfl) (fun _ _ _ h => h) (Or.inl ⟨by rfl, ?_⟩) (by assumption) ?_
  rotate_left
  · (intro w hSw; (try dsimp only at hSw); go_simp; try (with_reducible rfl))
  try simp only [Act.put, List.getElem_toArray, List.getElem_cons_zero, List.getElem_cons_succ, List.setIfInBounds_toArray, List.set_cons_zero, List.set_cons_succ]
  refine wpAnyH_ready (rs := [4, 7]) (by kernel_rfl) (by simp) ?_
  refine (AllReadyH.cons rfl (fun K hK => ?_) (AllReadyH.cons rfl (fun K hK => ?_) AllReadyH.nil))
  · go_simp
    refine hK.out _ _ ?_ (fun hHeld => ?_)
    · first | exact hHeld | (simp [go_sem, b0, b1, b2, b3, b4, b5, b6, b7, b8, hr0l, Nat.ne_of_lt]; done) | exact ⟨hbg _ _ hHeld.1, hbg _ _ hHeld.2.1, hbg _ _ hHeld.2.2.1, hbg _ _ hHeld.2.2.2.1, hbg _ _ hHeld.2.2.2.2.1, hbg _ _ hHeld.2.2.2.2.2.1, hbg _ _ hHeld.2.2.2.2.2.2.1, hbg _ _ hHeld.2.2.2.2.2.2.2.1, hbg _ _ hHeld.2.2.2.2.2.2.2.2⟩ | exact ⟨(set_cell_ne _ _ _ _ _ _ hr0s).trans (hHeld.1), (set_cell_ne _ _ _ _ _ _ hr0s).trans (hHeld.2.1), (set_cell_ne _ _ _ _ _ _ hr0s).trans (hHeld.2.2.1), (set_cell_ne _ _ _ _ _ _ hr0s).trans (hHeld.2.2.2.1), (set_cell_ne _ _ _ _ _ _ hr0s).trans (hHeld.2.2.2.2.1), (set_cell_ne _ _ _ _ _ _ hr0s).trans (hHeld.2.2.2.2.2.1), (set_cell_ne _ _ _ _ _ _ hr0s).trans (hHeld.2.2.2.2.2.2.1), (set_cell_ne _ _ _ _ _ _ hr0s).trans (hHeld.2.2.2.2.2.2.2.1), (set_cell_ne _ _ _ _ _ _ hr0s).trans (hHeld.2.2.2.2.2.2.2.2)⟩
    clear hK K
    try simp only [Act.put, List.getElem_toArray, List.getElem_cons_zero, List.getElem_cons_succ, List.setIfInBounds_toArray, List.set_cons_zero, List.set_cons_succ]
    refine wpAnyH_ready (rs := [7]) (by kernel_rfl) (by simp) ?_
    refine (AllReadyH.cons rfl (fun K hK => ?_) AllReadyH.nil)
    · go_simp
      refine hK.out _ _ ?_ (fun hHeld => ?_)
      · first | exact hHeld | (simp [go_sem, b0, b1, b2, b3, b4, b5, b6, b7, b8, hr0l, Nat.ne_of_lt]; done) | exact ⟨hbg _ _ hHeld.1, hbg _ _ hHeld.2.1, hbg _ _ hHeld.2.2.1, hbg _ _ hHeld.2.2.2.1, hbg _ _ hHeld.2.2.2.2.1, hbg _ _ hHeld.2.2.2.2.2.1, hbg _ _ hHeld.2.2.2.2.2.2.1, hbg _ _ hHeld.2.2.2.2.2.2.2.1, hbg _ _ hHeld.2.2.2.2.2.2.2.2⟩ | exact ⟨(set_cell_ne _ _ _ _ _ _ hr0s).trans (hHeld.1), (set_cell_ne _ _ _ _ _ _ hr0s).trans (hHeld.2.1), (set_cell_ne _ _ _ _ _ _ hr0s).trans (hHeld.2.2.1), (set_cell_ne _ _ _ _ _ _ hr0s).trans (hHeld.2.2.2.1), (set_cell_ne _ _ _ _ _ _ hr0s).trans (hHeld.2.2.2.2.1), (set_cell_ne _ _ _ _ _ _ hr0s).trans (hHeld.2.2.2.2.2.1), (set_cell_ne _ _ _ _ _ _ hr0s).trans (hHeld.2.2.2.2.2.2.1), (set_cell_ne _ _ _ _ _ _ hr0s).trans (hHeld.2.2.2.2.2.2.2.1), (set_cell_ne _ _ _ _ _ _ hr0s).trans (hHeld.2.2.2.2.2.2.2.2)⟩
      clear hK K
      try simp only [Act.put, List.getElem_toArray, List.getElem_cons_zero, List.getElem_cons_succ, List.setIfInBounds_toArray, List.set_cons_zero, List.set_cons_succ]
      refine wpAnyH_ready (rs := [8]) (by kernel_rfl) (by simp) ?_
      refine (AllReadyH.cons rfl (fun K hK => ?_) AllReadyH.nil)
      · refine step_append_at rfl (.tmp 56) (.tmp 59) 35 rfl (s + 1) 45 i0 _ 9 64 Try.underlying35 HI.out.1 HI.out.2.1 HI.out.2.2.1 HI.out.2.2.2 rfl (by decide) (.slice sa n sc) n (flatC x.st) rfl HOA.out ⟨W.heap.size, 0, none⟩ 1 1 [.int .i64 kd, .int .i64 dv, .int .i64 hp, .int .i64 pr, .int .i64 ln, .int .i64 ix, .int .i64 cl, .bool pm, .bool up] rfl rfl (fun j u hj => new_cells W [.int .i64 kd, .int .i64 dv, .int .i64 hp, .int .i64 pr, .int .i64 ln, .int .i64 ix, .int .i64 cl, .bool pm, .bool up] 45 j u hj) (fun u hu => by simp at hu; rcases hu with z | z | z | z | z | z | z | z | z <;> subst z <;> rfl) (by unfold maxLen; omega) (by omega) (by have := HB.out.ss.lt; simp; omega) ?_
        intro v' w4 hown hgrow hat
        obtain ⟨sa4, sc4, rfl⟩ := own_len hown
        have HOW4 := hide hown
        have HGR := hide hgrow
        have HAT := hide hat
        have hsne : some s ≠ (Value.slice sa n sc).ownBlock := fun z => by have := (HO.out.lt s z.symm).1; omega
        have s14 : w4.cell? ⟨s, 1, none⟩ = some (.slice sa n sc) := hgrow.cell s1a hsne
        have sf4 : w4.frozen? ⟨s, 1, none⟩ = false := (hgrow.frozen_far ⟨s, 1, none⟩ hsa hsne).trans sfa
        have hbg : ∀ j u, (W.alloc (.cells #[.int .i64 kd, .int .i64 dv, .int .i64 hp, .int .i64 pr, .int .i64 ln, .int .i64 ix, .int .i64 cl, .bool pm, .bool up] 45)).drew.cell? ⟨r0, j, none⟩ = some u → w4.cell? ⟨r0, j, none⟩ = some u := fun j u hj => hgrow.cell hj (fun z => by have := (HO.out.lt r0 z.symm).2; have := HTL.out r0 z.symm; omega)
        clear hown hgrow hat
        refine hK.out _ _ ?_ (fun hHeld => ?_)
        · first | exact hHeld | (simp [go_sem, b0, b1, b2, b3, b4, b5, b6, b7, b8, hr0l, Nat.ne_of_lt]; done) | exact ⟨hbg _ _ hHeld.1, hbg _ _ hHeld.2.1, hbg _ _ hHeld.2.2.1, hbg _ _ hHeld.2.2.2.1, hbg _ _ hHeld.2.2.2.2.1, hbg _ _ hHeld.2.2.2.2.2.1, hbg _ _ hHeld.2.2.2.2.2.2.1, hbg _ _ hHeld.2.2.2.2.2.2.2.1, hbg _ _ hHeld.2.2.2.2.2.2.2.2⟩ | exact ⟨(set_cell_ne _ _ _ _ _ _ hr0s).trans (hHeld.1), (set_cell_ne _ _ _ _ _ _ hr0s).trans (hHeld.2.1), (set_cell_ne _ _ _ _ _ _ hr0s).trans (hHeld.2.2.1), (set_cell_ne _ _ _ _ _ _ hr0s).trans (hHeld.2.2.2.1), (set_cell_ne _ _ _ _ _ _ hr0s).trans (hHeld.2.2.2.2.1), (set_cell_ne _ _ _ _ _ _ hr0s).trans (hHeld.2.2.2.2.2.1), (set_cell_ne _ _ _ _ _ _ hr0s).trans (hHeld.2.2.2.2.2.2.1), (set_cell_ne _ _ _ _ _ _ hr0s).trans (hHeld.2.2.2.2.2.2.2.1), (set_cell_ne _ _ _ _ _ _ hr0s).trans (hHeld.2.2.2.2.2.2.2.2)⟩
        clear hK K
        try simp only [Act.put, List.getElem_toArray, List.getElem_cons_zero, List.getElem_cons_succ, List.setIfInBounds_toArray, List.set_cons_zero, List.set_cons_succ]
        refine wpAnyH_take (i := 9) (v := ?_) rfl (by kernel_rfl) (by kernel_rfl) (by kernel_rfl) (fun _ _ _ h => h) (Or.inl ⟨by rfl, ?_⟩) (by assumption) ?_
        rotate_left
        · (intro w hSw; (try dsimp only at hSw); go_simp; try (with_reducible rfl))
        try simp only [Act.put, List.getElem_toArray, List.getElem_cons_zero, List.getElem_cons_succ, List.setIfInBounds_toArray, List.set_cons_zero, List.set_cons_succ]
        refine wpAnyH_take (i := 10) (v := ?_) rfl (by kernel_rfl) (by kernel_rfl) (by kernel_rfl) (fun _ _ _ h => h) (Or.inl ⟨by rfl, ?_⟩) (by assumption) ?_
        rotate_left
        · (intro w hSw; (try dsimp only at hSw); go_simp; try (with_reducible rfl))
        try simp only [Act.put, List.getElem_toArray, List.getElem_cons_zero, List.getElem_cons_succ, List.setIfInBounds_toArray, List.set_cons_zero, List.set_cons_succ]
        refine wpAnyH_ready (rs := [11]) (by kernel_rfl) (by simp) ?_
        refine (AllReadyH.cons rfl (fun K hK => ?_) AllReadyH.nil)
        · go_simp
          refine hK.out _ _ ?_ (fun hHeld => ?_)
          · first | exact hHeld | (simp [go_sem, b0, b1, b2, b3, b4, b5, b6, b7, b8, hr0l, Nat.ne_of_lt]; done) | exact ⟨hbg _ _ hHeld.1, hbg _ _ hHeld.2.1, hbg _ _ hHeld.2.2.1, hbg _ _ hHeld.2.2.2.1, hbg _ _ hHeld.2.2.2.2.1, hbg _ _ hHeld.2.2.2.2.2.1, hbg _ _ hHeld.2.2.2.2.2.2.1, hbg _ _ hHeld.2.2.2.2.2.2.2.1, hbg _ _ hHeld.2.2.2.2.2.2.2.2⟩ | exact ⟨(set_cell_ne _ _ _ _ _ _ hr0s).trans (hHeld.1), (set_cell_ne _ _ _ _ _ _ hr0s).trans (hHeld.2.1), (set_cell_ne _ _ _ _ _ _ hr0s).trans (hHeld.2.2.1), (set_cell_ne _ _ _ _ _ _ hr0s).trans (hHeld.2.2.2.1), (set_cell_ne _ _ _ _ _ _ hr0s).trans (hHeld.2.2.2.2.1), (set_cell_ne _ _ _ _ _ _ hr0s).trans (hHeld.2.2.2.2.2.1), (set_cell_ne _ _ _ _ _ _ hr0s).trans (hHeld.2.2.2.2.2.2.1), (set_cell_ne _ _ _ _ _ _ hr0s).trans (hHeld.2.2.2.2.2.2.2.1), (set_cell_ne _ _ _ _ _ _ hr0s).trans (hHeld.2.2.2.2.2.2.2.2)⟩
          clear hK K
          try simp only [Act.put, List.getElem_toArray, List.getElem_cons_zero, List.getElem_cons_succ, List.setIfInBounds_toArray, List.set_cons_zero, List.set_cons_succ]
          refine wpAnyH_done (by kernel_rfl) ?_ _
          have HSG : Hid (SS (w4.setCell ⟨s, 1, none⟩ (.slice sa4 (n + 1) sc4)) s b { x with st := x.st ++ [⟨kd, dv, hp, pr, ln, ix, cl, pm, up⟩] } vr va (.slice sa4 (n + 1) sc4) uv) := by
            refine (HB.out.ss.new (((Ex.refl (fun _ => False) W).alloc (.cells #[.int .i64 kd, .int .i64 dv, .int .i64 hp, .int .i64 pr, .int .i64 ln, .int .i64 ix, .int .i64 cl, .bool pm, .bool up] 45)).drew)).grow (Ex.ofGrown HGR.out (fun k hk => hk)) (.slice sa4 (n + 1) sc4) (x.st ++ [⟨kd, dv, hp, pr, ln, ix, cl, pm, up⟩]) ?_ (fun k hk => ?_)
            · have h1 := HOW4.out
              rw [show (x.st ++ [(⟨kd, dv, hp, pr, ln, ix, cl, pm, up⟩ : Chg)]).length = n + 1 by rw [List.length_append, HNL.out]; rfl, flatC_snoc]
              exact h1
            · rcases HAT.out with z | z
              · left; rw [← hk]; exact z.symm
              · right
                rw [hk] at z
                injection z with z
                rw [z]
                exact Nat.le_refl _
          have HEF : Hid (Ex (fun k => k = s ∨ k = b ∨ (Value.slice sa n sc).ownBlock = some k) w (w4.setCell ⟨s, 1, none⟩ (.slice sa4 (n + 1) sc4))) := ((((HB.out.ex.alloc (.cells #[.int .i64 kd, .int .i64 dv, .int .i64 hp, .int .i64 pr, .int .i64 ln, .int .i64 ix, .int .i64 cl, .bool pm, .bool up] 45)).drew.mono (fun _ z => z.elim)).trans (Ex.ofGrown HGR.out (fun k hk => .inr (.inr hk.symm))))).set (p := s) (.inl rfl) _
          have hr1W : r1 < W.heap.size := World.block_lt_of_cell? _ _ HB.out.d0
          have EXG := hide ((((Ex.refl (fun _ => False) W).alloc (.cells #[.int .i64 kd, .int .i64 dv, .int .i64 hp, .int .i64 pr, .int .i64 ln, .int .i64 ix, .int .i64 cl, .bool pm, .bool up] 45)).drew.mono (fun _ z => z.elim)).trans (Ex.ofGrown (S := fun k => k = s ∨ (Value.slice sa n sc).ownBlock = some k) HGR.out (fun k hk => .inr hk.symm)) |>.set (p := s) (j := 1) (.inl rfl) (.slice sa4 (n + 1) sc4))
          have hr1n : ¬ (r1 = s ∨ (Value.slice sa n sc).ownBlock = some r1) := fun z => by
            rcases z with z | z
            · exact n_s z.symm
            · have := HTL.out r1 z; omega
          have g0 := EXG.out.cell hr1n HB.out.d0
          have g1 := EXG.out.cell hr1n HB.out.d1
          have g2 := EXG.out.cell hr1n HB.out.d2
          have gf := fun j => (EXG.out.frozen (q := r1) (j := j) hr1n hr1W).trans (HB.out.df j)
          have m_t : ∀ k, (Value.slice sa4 (n + 1) sc4).ownBlock = some k → ¬ k = r1 := fun k hk z => by
            rcases HAT.out with y | y
            · rw [hk] at y; have := HTL.out k y.symm; omega
            · rw [hk] at y; injection y with y; simp [go_sem] at y; omega
          have HVT : Hid (∀ k, (Value.slice sa4 (n + 1) sc4).ownBlock = some k → (Value.slice sa n sc).ownBlock = some k ∨ w.heap.size ≤ k) := fun k hk => by
            rcases HAT.out with y | y
            · left; rw [← hk]; exact y.symm
            · right; rw [hk] at y; injection y with y; simp [go_sem] at y; omega
          clear HGR HOW4 HAT EXG hHeld s14 sf4 s1 s1a sfa HOA HO hbg b0 b1 b2 b3 b4 b5 b6 b7 b8
          generalize w4.setCell ⟨s, 1, none⟩ (.slice sa4 (n + 1) sc4) = W9 at *
          go_wp2
          refine bodyPost_ret (v := ansV 0 0 ⟨#[]⟩) (by simp [results, Try.results10, go_sem, ansV, g0, g1, g2]) rfl ⟨rfl, ((HEF.out.setNew (p := r1) hr1w _).setNew (p := r1) hr1w _).setNew (p := r1) hr1w _, vr, va, .slice sa4 (n + 1) sc4, uv, HSG.out.r1 n_s n_f m_t n_u _ _ _, fun k hk => .inl hk, HVT.out, fun k hk => .inl hk⟩
  · go_simp
    refine hK.out _ _ ?_ (fun hHeld => ?_)
    · first | exact hHeld | (simp [go_sem, b0, b1, b2, b3, b4, b5, b6, b7, b8, hr0l, Nat.ne_of_lt]; done) | exact ⟨hbg _ _ hHeld.1, hbg _ _ hHeld.2.1, hbg _ _ hHeld.2.2.1, hbg _ _ hHeld.2.2.2.1, hbg _ _ hHeld.2.2.2.2.1, hbg _ _ hHeld.2.2.2.2.2.1, hbg _ _ hHeld.2.2.2.2.2.2.1, hbg _ _ hHeld.2.2.2.2.2.2.2.1, hbg _ _ hHeld.2.2.2.2.2.2.2.2⟩ | exact ⟨(set_cell_ne _ _ _ _ _ _ hr0s).trans (hHeld.1), (set_cell_ne _ _ _ _ _ _ hr0s).trans (hHeld.2.1), (set_cell_ne _ _ _ _ _ _ hr0s).trans (hHeld.2.2.1), (set_cell_ne _ _ _ _ _ _ hr0s).trans (hHeld.2.2.2.1), (set_cell_ne _ _ _ _ _ _ hr0s).trans (hHeld.2.2.2.2.1), (set_cell_ne _ _ _ _ _ _ hr0s).trans (hHeld.2.2.2.2.2.1), (set_cell_ne _ _ _ _ _ _ hr0s).trans (hHeld.2.2.2.2.2.2.1), (set_cell_ne _ _ _ _ _ _ hr0s).trans (hHeld.2.2.2.2.2.2.2.1), (set_cell_ne _ _ _ _ _ _ hr0s).trans (hHeld.2.2.2.2.2.2.2.2)⟩
    clear hK K
    try simp only [Act.put, List.getElem_toArray, List.getElem_cons_zero, List.getElem_cons_succ, List.setIfInBounds_toArray, List.set_cons_zero, List.set_cons_succ]
    refine wpAnyH_ready (rs := [4]) (by kernel_rfl) (by simp) ?_
    refine (AllReadyH.cons rfl (fun K hK => ?_) AllReadyH.nil)
    · go_simp
      refine hK.out _ _ ?_ (fun hHeld => ?_)
      · first | exact hHeld | (simp [go_sem, b0, b1, b2, b3, b4, b5, b6, b7, b8, hr0l, Nat.ne_of_lt]; done) | exact ⟨hbg _ _ hHeld.1, hbg _ _ hHeld.2.1, hbg _ _ hHeld.2.2.1, hbg _ _ hHeld.2.2.2.1, hbg _ _ hHeld.2.2.2.2.1, hbg _ _ hHeld.2.2.2.2.2.1, hbg _ _ hHeld.2.2.2.2.2.2.1, hbg _ _ hHeld.2.2.2.2.2.2.2.1, hbg _ _ hHeld.2.2.2.2.2.2.2.2⟩ | exact ⟨(set_cell_ne _ _ _ _ _ _ hr0s).trans (hHeld.1), (set_cell_ne _ _ _ _ _ _ hr0s).trans (hHeld.2.1), (set_cell_ne _ _ _ _ _ _ hr0s).trans (hHeld.2.2.1), (set_cell_ne _ _ _ _ _ _ hr0s).trans (hHeld.2.2.2.1), (set_cell_ne _ _ _ _ _ _ hr0s).trans (hHeld.2.2.2.2.1), (set_cell_ne _ _ _ _ _ _ hr0s).trans (hHeld.2.2.2.2.2.1), (set_cell_ne _ _ _ _ _ _ hr0s).trans (hHeld.2.2.2.2.2.2.1), (set_cell_ne _ _ _ _ _ _ hr0s).trans (hHeld.2.2.2.2.2.2.2.1), (set_cell_ne _ _ _ _ _ _ hr0s).trans (hHeld.2.2.2.2.2.2.2.2)⟩
      clear hK K
      try simp only [Act.put, List.getElem_toArray, List.getElem_cons_zero, List.getElem_cons_succ, List.setIfInBounds_toArray, List.set_cons_zero, List.set_cons_succ]
      refine wpAnyH_ready (rs := [8]) (by kernel_rfl) (by simp) ?_
      refine (AllReadyH.cons rfl (fun K hK => ?_) AllReadyH.nil)
      · refine step_append_at rfl (.tmp 56) (.tmp 59) 35 rfl (s + 1) 45 i0 _ 9 64 Try.underlying35 HI.out.1 HI.out.2.1 HI.out.2.2.1 HI.out.2.2.2 rfl (by decide) (.slice sa n sc) n (flatC x.st) rfl HOA.out ⟨W.heap.size, 0, none⟩ 1 1 [.int .i64 kd, .int .i64 dv, .int .i64 hp, .int .i64 pr, .int .i64 ln, .int .i64 ix, .int .i64 cl, .bool pm, .bool up] rfl rfl (fun j u hj => new_cells W [.int .i64 kd, .int .i64 dv, .int .i64 hp, .int .i64 pr, .int .i64 ln, .int .i64 ix, .int .i64 cl, .bool pm, .bool up] 45 j u hj) (fun u hu => by simp at hu; rcases hu with z | z | z | z | z | z | z | z | z <;> subst z <;> rfl) (by unfold maxLen; omega) (by omega) (by have := HB.out.ss.lt; simp; omega) ?_
        intro v' w4 hown hgrow hat
        obtain ⟨sa4, sc4, rfl⟩ := own_len hown
        have HOW4 := hide hown
        have HGR := hide hgrow
        have HAT := hide hat
        have hsne : some s ≠ (Value.slice sa n sc).ownBlock := fun z => by have := (HO.out.lt s z.symm).1; omega
        have s14 : w4.cell? ⟨s, 1, none⟩ = some (.slice sa n sc) := hgrow.cell s1a hsne
        have sf4 : w4.frozen? ⟨s, 1, none⟩ = false := (hgrow.frozen_far ⟨s, 1, none⟩ hsa hsne).trans sfa
        have hbg : ∀ j u, (W.alloc (.cells #[.int .i64 kd, .int .i64 dv, .int .i64 hp, .int .i64 pr, .int .i64 ln, .int .i64 ix, .int .i64 cl, .bool pm, .bool up] 45)).drew.cell? ⟨r0, j, none⟩ = some u → w4.cell? ⟨r0, j, none⟩ = some u := fun j u hj => hgrow.cell hj (fun z => by have := (HO.out.lt r0 z.symm).2; have := HTL.out r0 z.symm; omega)
        clear hown hgrow hat
        refine hK.out _ _ ?_ (fun hHeld => ?_)
        · first | exact hHeld | (simp [go_sem, b0, b1, b2, b3, b4, b5, b6, b7, b8, hr0l, Nat.ne_of_lt]; done) | exact ⟨hbg _ _ hHeld.1, hbg _ _ hHeld.2.1, hbg _ _ hHeld.2.2.1, hbg _ _ hHeld.2.2.2.1, hbg _ _ hHeld.2.2.2.2.1, hbg _ _ hHeld.2.2.2.2.2.1, hbg _ _ hHeld.2.2.2.2.2.2.1, hbg _ _ hHeld.2.2.2.2.2.2.2.1, hbg _ _ hHeld.2.2.2.2.2.2.2.2⟩ | exact ⟨(set_cell_ne _ _ _ _ _ _ hr0s).trans (hHeld.1), (set_cell_ne _ _ _ _ _ _ hr0s).trans (hHeld.2.1), (set_cell_ne _ _ _ _ _ _ hr0s).trans (hHeld.2.2.1), (set_cell_ne _ _ _ _ _ _ hr0s).trans (hHeld.2.2.2.1), (set_cell_ne _ _ _ _ _ _ hr0s).trans (hHeld.2.2.2.2.1), (set_cell_ne _ _ _ _ _ _ hr0s).trans (hHeld.2.2.2.2.2.1), (set_cell_ne _ _ _ _ _ _ hr0s).trans (hHeld.2.2.2.2.2.2.1), (set_cell_ne _ _ _ _ _ _ hr0s).trans (hHeld.2.2.2.2.2.2.2.1), (set_cell_ne _ _ _ _ _ _ hr0s).trans (hHeld.2.2.2.2.2.2.2.2)⟩
        clear hK K
        try simp only [Act.put, List.getElem_toArray, List.getElem_cons_zero, List.getElem_cons_succ, List.setIfInBounds_toArray, List.set_cons_zero, List.set_cons_succ]
        refine wpAnyH_take (i := 9) (v := ?_) rfl (by kernel_rfl) (by kernel_rfl) (by kernel_rfl) (fun _ _ _ h => h) (Or.inl ⟨by rfl, ?_⟩) (by assumption) ?_
        rotate_left
        · (intro w hSw; (try dsimp only at hSw); go_simp; try (with_reducible rfl))
        try simp only [Act.put, List.getElem_toArray, List.getElem_cons_zero, List.getElem_cons_succ, List.setIfInBounds_toArray, List.set_cons_zero, List.set_cons_succ]
        refine wpAnyH_take (i := 10) (v := ?_) rfl (by kernel_rfl) (by kernel_rfl) (by kernel_rfl) (fun _ _ _ h => h) (Or.inl ⟨by rfl, ?_⟩) (by assumption) ?_
        rotate_left
        · (intro w hSw; (try dsimp only at hSw); go_simp; try (with_reducible rfl))
        try simp only [Act.put, List.getElem_toArray, List.getElem_cons_zero, List.getElem_cons_succ, List.setIfInBounds_toArray, List.set_cons_zero, List.set_cons_succ]
        refine wpAnyH_ready (rs := [11]) (by kernel_rfl) (by simp) ?_
        refine (AllReadyH.cons rfl (fun K hK => ?_) AllReadyH.nil)
        · go_simp
          refine hK.out _ _ ?_ (fun hHeld => ?_)
          · first | exact hHeld | (simp [go_sem, b0, b1, b2, b3, b4, b5, b6, b7, b8, hr0l, Nat.ne_of_lt]; done) | exact ⟨hbg _ _ hHeld.1, hbg _ _ hHeld.2.1, hbg _ _ hHeld.2.2.1, hbg _ _ hHeld.2.2.2.1, hbg _ _ hHeld.2.2.2.2.1, hbg _ _ hHeld.2.2.2.2.2.1, hbg _ _ hHeld.2.2.2.2.2.2.1, hbg _ _ hHeld.2.2.2.2.2.2.2.1, hbg _ _ hHeld.2.2.2.2.2.2.2.2⟩ | exact ⟨(set_cell_ne _ _ _ _ _ _ hr0s).trans (hHeld.1), (set_cell_ne _ _ _ _ _ _ hr0s).trans (hHeld.2.1), (set_cell_ne _ _ _ _ _ _ hr0s).trans (hHeld.2.2.1), (set_cell_ne _ _ _ _ _ _ hr0s).trans (hHeld.2.2.2.1), (set_cell_ne _ _ _ _ _ _ hr0s).trans (hHeld.2.2.2.2.1), (set_cell_ne _ _ _ _ _ _ hr0s).trans (hHeld.2.2.2.2.2.1), (set_cell_ne _ _ _ _ _ _ hr0s).trans (hHeld.2.2.2.2.2.2.1), (set_cell_ne _ _ _ _ _ _ hr0s).trans (hHeld.2.2.2.2.2.2.2.1), (set_cell_ne _ _ _ _ _ _ hr0s).trans (hHeld.2.2.2.2.2.2.2.2)⟩
          clear hK K
          try simp only [Act.put, List.getElem_toArray, List.getElem_cons_zero, List.getElem_cons_succ, List.setIfInBounds_toArray, List.set_cons_zero, List.set_cons_succ]
          refine wpAnyH_done (by kernel_rfl) ?_ _
          have HSG : Hid (SS (w4.setCell ⟨s, 1, none⟩ (.slice sa4 (n + 1) sc4)) s b { x with st := x.st ++ [⟨kd, dv, hp, pr, ln, ix, cl, pm, up⟩] } vr va (.slice sa4 (n + 1) sc4) uv) := by
            refine (HB.out.ss.new (((Ex.refl (fun _ => False) W).alloc (.cells #[.int .i64 kd, .int .i64 dv, .int .i64 hp, .int .i64 pr, .int .i64 ln, .int .i64 ix, .int .i64 cl, .bool pm, .bool up] 45)).drew)).grow (Ex.ofGrown HGR.out (fun k hk => hk)) (.slice sa4 (n + 1) sc4) (x.st ++ [⟨kd, dv, hp, pr, ln, ix, cl, pm, up⟩]) ?_ (fun k hk => ?_)
            · have h1 := HOW4.out
              rw [show (x.st ++ [(⟨kd, dv, hp, pr, ln, ix, cl, pm, up⟩ : Chg)]).length = n + 1 by rw [List.length_append, HNL.out]; rfl, flatC_snoc]
              exact h1
            · rcases HAT.out with z | z
              · left; rw [← hk]; exact z.symm
              · right
                rw [hk] at z
                injection z with z
                rw [z]
                exact Nat.le_refl _
          have HEF : Hid (Ex (fun k => k = s ∨ k = b ∨ (Value.slice sa n sc).ownBlock = some k) w (w4.setCell ⟨s, 1, none⟩ (.slice sa4 (n + 1) sc4))) := ((((HB.out.ex.alloc (.cells #[.int .i64 kd, .int .i64 dv, .int .i64 hp, .int .i64 pr, .int .i64 ln, .int .i64 ix, .int .i64 cl, .bool pm, .bool up] 45)).drew.mono (fun _ z => z.elim)).trans (Ex.ofGrown HGR.out (fun k hk => .inr (.inr hk.symm))))).set (p := s) (.inl rfl) _
          have hr1W : r1 < W.heap.size := World.block_lt_of_cell? _ _ HB.out.d0
          have EXG := hide ((((Ex.refl (fun _ => False) W).alloc (.cells #[.int .i64 kd, .int .i64 dv, .int .i64 hp, .int .i64 pr, .int .i64 ln, .int .i64 ix, .int .i64 cl, .bool pm, .bool up] 45)).drew.mono (fun _ z => z.elim)).trans (Ex.ofGrown (S := fun k => k = s ∨ (Value.slice sa n sc).ownBlock = some k) HGR.out (fun k hk => .inr hk.symm)) |>.set (p := s) (j := 1) (.inl rfl) (.slice sa4 (n + 1) sc4))
          have hr1n : ¬ (r1 = s ∨ (Value.slice sa n sc).ownBlock = some r1) := fun z => by
            rcases z with z | z
            · exact n_s z.symm
            · have := HTL.out r1 z; omega
          have g0 := EXG.out.cell hr1n HB.out.d0
          have g1 := EXG.out.cell hr1n HB.out.d1
          have g2 := EXG.out.cell hr1n HB.out.d2
          have gf := fun j => (EXG.out.frozen (q := r1) (j := j) hr1n hr1W).trans (HB.out.df j)
          have m_t : ∀ k, (Value.slice sa4 (n + 1) sc4).ownBlock = some k → ¬ k = r1 := fun k hk z => by
            rcases HAT.out with y | y
            · rw [hk] at y; have := HTL.out k y.symm; omega
            · rw [hk] at y; injection y with y; simp [go_sem] at y; omega
          have HVT : Hid (∀ k, (Value.slice sa4 (n + 1) sc4).ownBlock = some k → (Value.slice sa n sc).ownBlock = some k ∨ w.heap.size ≤ k) := fun k hk => by
            rcases HAT.out with y | y
            · left; rw [← hk]; exact y.symm
            · right; rw [hk] at y; injection y with y; simp [go_sem] at y; omega
          clear HGR HOW4 HAT EXG hHeld s14 sf4 s1 s1a sfa HOA HO hbg b0 b1 b2 b3 b4 b5 b6 b7 b8
          generalize w4.setCell ⟨s, 1, none⟩ (.slice sa4 (n + 1) sc4) = W9 at *
          go_wp2
          refine bodyPost_ret (v := ansV 0 0 ⟨#[]⟩) (by simp [results, Try.results10, go_sem, ansV, g0, g1, g2]) rfl ⟨rfl, ((HEF.out.setNew (p := r1) hr1w _).setNew (p := r1) hr1w _).setNew (p := r1) hr1w _, vr, va, .slice sa4 (n + 1) sc4, uv, HSG.out.r1 n_s n_f m_t n_u _ _ _, fun k hk => .inl hk, HVT.out, fun k hk => .inl hk⟩
end Go.Proofs.Qxb6500778a
