import Derived.Test.Qxb6500778aUA
import Derived.Test.Qxb6500778aUB
namespace Go.Proofs.Qxb6500778a
open Go.RowKit

theorem flatR_snoc (L : List Rt) (x : Rt) : flatR (L ++ [x]) = flatR L ++ x.vals := by unfold flatR; simp
theorem flatA_snoc (L : List Rl) (x : Rl) : flatA (L ++ [x]) = flatA L ++ x.vals := by unfold flatA; simp
theorem mft_setR {b d : Nat} {vr va : Nat → Value} {v : Value} {n k : Nat} (hd : d < 16) (hv : ∀ k, v.ownBlock = some k → (vr d).ownBlock = some k ∨ n ≤ k) (hk : MFt b (upd vr d v) va k) : MFt b vr va k ∨ n ≤ k := by
  rcases hk with hk | ⟨x, hx, hk | hk⟩
  · exact .inl (.inl hk)
  · by_cases hxd : x = d
    · subst hxd
      rw [upd_get, if_pos rfl] at hk
      rcases hv k hk with z | z
      · exact .inl (.inr ⟨x, hx, .inl z⟩)
      · exact .inr z
    · rw [upd_get, if_neg hxd] at hk
      exact .inl (.inr ⟨x, hx, .inl hk⟩)
  · exact .inl (.inr ⟨x, hx, .inr hk⟩)
theorem mft_setA {b d : Nat} {vr va : Nat → Value} {v : Value} {n k : Nat} (hd : d < 16) (hv : ∀ k, v.ownBlock = some k → (va d).ownBlock = some k ∨ n ≤ k) (hk : MFt b vr (upd va d v) k) : MFt b vr va k ∨ n ≤ k := by
  rcases hk with hk | ⟨x, hx, hk | hk⟩
  · exact .inl (.inl hk)
  · exact .inl (.inr ⟨x, hx, .inl hk⟩)
  · by_cases hxd : x = d
    · subst hxd
      rw [upd_get, if_pos rfl] at hk
      rcases hv k hk with z | z
      · exact .inl (.inr ⟨x, hx, .inr z⟩)
      · exact .inr z
    · rw [upd_get, if_neg hxd] at hk
      exact .inl (.inr ⟨x, hx, .inr hk⟩)
set_option linter.unusedSimpArgs false in
set_option maxRecDepth 100000 in
set_option maxHeartbeats 8000000 in
/-- RouteAdd, done -/
theorem mch_0 (w : World) (b : Nat) (M : MN) (vr va : Nat → Value) (h : MX w b M vr va) (d : Nat) (hd : d < 16) (hp pr ln ix cl : Int) (pm up : Bool)
    (hb : ixR (M.rt d) pr ln 0 < 0) (hfu : (M.rt d).length + (M.ac d).length < 64) :
    Calls Try.prog 71 #[.pointer (some ⟨b, 0, none⟩), chV ⟨0, d, hp, pr, ln, ix, cl, pm, up⟩] w (CMPost w b vr va 0 { M with rt := upd M.rt d (M.rt d ++ [⟨pr, ln, hp⟩]) }) := by
  have nc := fun j u hh => new_cells w [.int .i64 0, .int .i64 (d : Int), .int .i64 hp, .int .i64 pr, .int .i64 ln, .int .i64 ix, .int .i64 cl, .bool pm, .bool up] 45 j u hh
  have c0 := nc 0 _ rfl
  have c1 := nc 1 _ rfl
  have c2 := nc 2 _ rfl
  have c3 := nc 3 _ rfl
  have c4 := nc 4 _ rfl
  simp only [Addr.add_mid, Nat.zero_add] at c0 c1 c2 c3 c4
  clear nc
  have HX := hide (h.new ((Ex.refl _ w).alloc (.cells #[.int .i64 0, .int .i64 (d : Int), .int .i64 hp, .int .i64 pr, .int .i64 ln, .int .i64 ix, .int .i64 cl, .bool pm, .bool up] 45)))
  have HE : Hid (Ex (fun _ => False) w (w.alloc (.cells #[.int .i64 0, .int .i64 (d : Int), .int .i64 hp, .int .i64 pr, .int .i64 ln, .int .i64 ix, .int .i64 cl, .bool pm, .bool up] 45))) := (Ex.refl _ w).alloc _
  have hbw := h.lt
  have HFT := hide (fun k hk => h.ft_lt (k := k) hk)
  clear h
  have HRA := hide (routeAt_any _ b 0 M vr va HX.out.ma d hd pr ln (by omega))
  have HFU := hide (full_any _ b 0 M vr va HX.out.ma d hd (by omega) (by omega))
  rw [decide_eq_false (by omega)] at HFU
  obtain ⟨at_, hat⟩ : ∃ a, ixR (M.rt d) pr ln 0 = a := ⟨_, rfl⟩
  rw [hat] at HRA hb
  clear hat
  have dz : decide (0 ≤ at_) = false := decide_eq_false (by omega)
  have hn64 : (M.rt d).length < 64 := by omega
  clear hb hfu
  unfold chV
  simp only []
  obtain ⟨i1, hi, hz0, hz1, hz2⟩ := info_parts Try.inf77
  have HI := hide (And.intro hi (And.intro hz0 (And.intro hz1 hz2)))
  clear hi hz0 hz1 hz2
  have hdi : (d : Int) < 16 := by omega
  go_enter Try.func71, Try.ntmps71
  go_upto_region 1 with fail
  generalize w.alloc (.cells #[.int .i64 0, .int .i64 (d : Int), .int .i64 hp, .int .i64 pr, .int .i64 ln, .int .i64 ix, .int .i64 cl, .bool pm, .bool up] 45) = W at *
  obtain ⟨r, hr⟩ : ∃ r, w.heap.size = r := ⟨_, rfl⟩
  have HRW := hide hr
  rw [hr] at c0 c1 c2 c3 c4 hbw ⊢
  clear hr
  go_wp2_with fail
  refine HRA.out.mono ?_
  rintro e w2 ⟨rfl, rfl⟩
  go_wp2_with fail
  refine HFU.out.mono ?_
  rintro e w3 ⟨rfl, mm, rfl⟩
  clear HRA HFU dz
  replace HE := hide (HE.out.drewN mm)
  replace HX := hide (HX.out.new ((Ex.refl (fun _ => False) _).drewN mm))
  have c2 : (w2.drewN mm).cell? ⟨r, 2, none⟩ = _ := ((Ex.refl (fun _ => False) w2).drewN mm).cell (fun e => e) c2
  have c3 : (w2.drewN mm).cell? ⟨r, 3, none⟩ = _ := ((Ex.refl (fun _ => False) w2).drewN mm).cell (fun e => e) c3
  have c4 : (w2.drewN mm).cell? ⟨r, 4, none⟩ = _ := ((Ex.refl (fun _ => False) w2).drewN mm).cell (fun e => e) c4
  clear c0 c1
  generalize w2.drewN mm = W at *
  obtain ⟨L, hL⟩ : ∃ L, M.rt d = L := ⟨_, rfl⟩
  obtain ⟨n, hn⟩ : ∃ n, L.length = n := ⟨_, rfl⟩
  have nr := HX.out.ma.r d hd
  rw [Nat.zero_add] at nr
  have nf := HX.out.fz d
  obtain ⟨sa, sc, hv⟩ := own_len (HX.out.ma.ro d hd)
  have HO := hide (HX.out.ma.ro d hd)
  rw [hv, hL, hn] at HO
  rw [hv, hL, hn] at nr
  rw [hL, hn] at hn64 hv
  have HV := hide hv
  have HL := hide hL
  have HNL := hide hn
  clear hv hL hn
  have hrW : r < W.heap.size := World.block_lt_of_cell? _ _ c2
  have hbW : b < W.heap.size := by omega
  have hrb : ¬ r = b := by omega
  have HTL : Hid (∀ k, (Value.slice sa n sc).ownBlock = some k → k ≠ b ∧ k < r) := fun k hk => by
    refine ⟨HX.out.rb d hd k (by rw [HV.out]; exact hk), ?_⟩
    rw [← HRW.out]
    exact HFT.out k (.inr ⟨d, hd, .inl (by rw [HV.out]; exact hk)⟩)
  have HOA : Hid ((W.alloc (.cells #[.int .i64 pr, .int .i64 ln, .int .i64 hp] 77)).drew.ownsRow 0 77 3 (.slice sa n sc) n (flatR L)) := own_kept HO.out (((Ex.refl (fun _ => False) W).alloc _).drew) (fun _ _ e => e)
  have nra : (W.alloc (.cells #[.int .i64 pr, .int .i64 ln, .int .i64 hp] 77)).drew.cell? ⟨b, d, none⟩ = some (.slice sa n sc) := (((Ex.refl (fun _ => False) W).alloc _).drew).cell (fun e => e) nr
  have nfa : (W.alloc (.cells #[.int .i64 pr, .int .i64 ln, .int .i64 hp] 77)).drew.frozen? ⟨b, d, none⟩ = false := ((((Ex.refl (fun _ => False) W).alloc (.cells #[.int .i64 pr, .int .i64 ln, .int .i64 hp] 77)).drew).frozen (fun e => e) hbW).trans nf
  have hba : b < (W.alloc (.cells #[.int .i64 pr, .int .i64 ln, .int .i64 hp] 77)).drew.heap.size := by simp [go_sem]; omega
  go_upto_region 8 with fail
  refine wp_region_held_drew (S := fun w' => w'.cell? ⟨r, 2, none⟩ = some (.int .i64 hp) ∧ w'.cell? ⟨r, 3, none⟩ = some (.int .i64 pr) ∧ w'.cell? ⟨r, 4, none⟩ = some (.int .i64 ln)) (by kernel_rfl) (And.intro c2 (And.intro c3 c4)) (fun hHeld => ?_)
  refine wpAnyH_take (i := 0) (v := ?_) rfl (by kernel_rfl) (by kernel_rfl) (by kernel_rfl) (fun _ _ _ h => h) (Or.inl ⟨by rfl, ?_⟩) (by assumption) ?_
  rotate_left
  · (intro w hSw; (try dsimp only at hSw); go_simp; try (with_reducible rfl))
  try simp only [Act.put, List.getElem_toArray, List.getElem_cons_zero, List.getElem_cons_succ, List.setIfInBounds_toArray, List.set_cons_zero, List.set_cons_succ]
  refine wpAnyH_take (i := 1) (v := ?_) rfl (by kernel_rfl) (by kernel_rfl) (by kernel_rfl) (fun _ _ _ h => h) (Or.inl ⟨by rfl, ?_⟩) (by assumption) ?_
  rotate_left
  · (intro w hSw; (try dsimp only at hSw); go_simp; try (with_reducible rfl))
  try simp only [Act.put, List.getElem_toArray, List.getElem_cons_zero, List.getElem_cons_succ, List.setIfInBounds_toArray, List.set_cons_zero, List.set_cons_succ]
  refine wpAnyH_take (i := 2) (v := ?_) rfl (by kernel_rfl) (by kernel_rfl) (by kernel_rfl) (fun _ _ _ h => h) (Or.inl ⟨by rfl, ?_⟩) (by assumption) ?_
  rotate_left
  · (intro w hSw; (try dsimp only at hSw); go_simp; try (with_reducible rfl))
  try simp only [Act.put, List.getElem_toArray, List.getElem_cons_zero, List.getElem_cons_succ, List.setIfInBounds_toArray, List.set_cons_zero, List.set_cons_succ]
  refine wpAnyH_take (i := 3) (v := ?_) rfl (by kernel_rfl) (by kernel_rfl) (by kernel_rfl) (fun _ _ _ h => h) (Or.inl ⟨by rfl, ?_⟩) (by assumption) ?_
  rotate_left
  · (intro w hSw; (try dsimp only at hSw); go_simp; try (with_reducible rfl))
  try simp only [Act.put, List.getElem_toArray, List.getElem_cons_zero, List.getElem_cons_succ, List.setIfInBounds_toArray, List.set_cons_zero, List.set_cons_succ]
  refine wpAnyH_take (i := 4) (v := ?_) rfl (by kernel_rfl) (by kernel_rfl) (by kernel_rfl) (fun _ _ _ h => h) (Or.inl ⟨by rfl, ?_⟩) (by assumption) ?_
  rotate_left
  · (intro w hSw; (try dsimp only at hSw); go_simp; try (with_reducible rfl))
  try simp only [Act.put, List.getElem_toArray, List.getElem_cons_zero, List.getElem_cons_succ, List.setIfInBounds_toArray, List.set_cons_zero, List.set_cons_succ]
  refine wpAnyH_take (i := 5) (v := ?_) rfl (by kernel_rfl) (by kernel_rfl) (by kernel_rfl) (fun _ _ _ h => h) (Or.inl ⟨by rfl, ?_⟩) (by assumption) ?_
  rotate_left
  · (intro w hSw; (try dsimp only at hSw); go_simp; try (with_reducible rfl))
  try simp only [Act.put, List.getElem_toArray, List.getElem_cons_zero, List.getElem_cons_succ, List.setIfInBounds_toArray, List.set_cons_zero, List.set_cons_succ]
  refine wpAnyH_take (i := 6) (v := ?_) rfl (by kernel_rfl) (by kernel_rfl) (by kernel_rfl) (fun _ _ _ h => h) (Or.inl ⟨by rfl, ?_⟩) (by assumption) ?_
  rotate_left
  · (intro w hSw; (try dsimp only at hSw); go_simp; try (with_reducible rfl))
  try simp only [Act.put, List.getElem_toArray, List.getElem_cons_zero, List.getElem_cons_succ, List.setIfInBounds_toArray, List.set_cons_zero, List.set_cons_succ]
  refine wpAnyH_take (i := 8) (v := ?_) rfl (by kernel_rfl) (by kernel_rfl) (by kernel_rfl) (fun _ _ _ h => h) (Or.inl ⟨by rfl, ?_⟩) (by assumption) ?_
  rotate_left
  · (intro w hSw; (try dsimp only at hSw); go_simp; try (with_reducible rfl))
  try simp only [Act.put, List.getElem_toArray, List.getElem_cons_zero, List.getElem_cons_succ, List.setIfInBounds_toArray, List.set_cons_zero, List.set_cons_succ]
  refine wpAnyH_take (i := 9) (v := ?_) rfl (by kernel_rfl) (by kernel_rfl) (by kernel_rfl) (fun _ _ _ h => h) (Or.inl ⟨by rfl, ?_⟩) (by assumption) ?_
  rotate_left
  · (intro w hSw; (try dsimp only at hSw); go_simp; try (with_reducible rfl))
  try simp only [Act.put, List.getElem_toArray, List.getElem_cons_zero, List.getElem_cons_succ, List.setIfInBounds_toArray, List.set_cons_zero, List.set_cons_succ]
  refine wpAnyH_take (i := 10) (v := ?_) rfl (by kernel_rfl) (by kernel_rfl) (by kernel_rfl) (fun _ _ _ h => h) (Or.inl ⟨by rfl, ?_⟩) (by assumption) ?_
  rotate_left
  · (intro w hSw; (try dsimp only at hSw); go_simp; try (with_reducible rfl))
  try simp only [Act.put, List.getElem_toArray, List.getElem_cons_zero, List.getElem_cons_succ, List.setIfInBounds_toArray, List.set_cons_zero, List.set_cons_succ]
  refine wpAnyH_take (i := 11) (v := ?_) rfl (by kernel_rfl) (by kernel_rfl) (by kernel_rfl) (fun _ _ _ h => h) (Or.inl ⟨by rfl, ?_⟩) (by assumption) ?_
  rotate_left
  · (intro w hSw; (try dsimp only at hSw); go_simp; try (with_reducible rfl))
  try simp only [Act.put, List.getElem_toArray, List.getElem_cons_zero, List.getElem_cons_succ, List.setIfInBounds_toArray, List.set_cons_zero, List.set_cons_succ]
  refine wpAnyH_take (i := 12) (v := ?_) rfl (by kernel_rfl) (by kernel_rfl) (by kernel_rfl) (fun _ _ _ h => h) (Or.inl ⟨by rfl, ?_⟩) (by assumption) ?_
  rotate_left
  · (intro w hSw; (try dsimp only at hSw); go_simp; try (with_reducible rfl))
  try simp only [Act.put, List.getElem_toArray, List.getElem_cons_zero, List.getElem_cons_succ, List.setIfInBounds_toArray, List.set_cons_zero, List.set_cons_succ]
  refine wpAnyH_take (i := 13) (v := ?_) rfl (by kernel_rfl) (by kernel_rfl) (by kernel_rfl) (fun _ _ _ h => h) (Or.inl ⟨by rfl, ?_⟩) (by assumption) ?_
  rotate_left
  · (intro w hSw; (try dsimp only at hSw); go_simp; try (with_reducible rfl))
  try simp only [Act.put, List.getElem_toArray, List.getElem_cons_zero, List.getElem_cons_succ, List.setIfInBounds_toArray, List.set_cons_zero, List.set_cons_succ]
  refine wpAnyH_take (i := 14) (v := ?_) rfl (by kernel_rfl) (by kernel_rfl) (by kernel_rfl) (fun _ _ _ h => h) (Or.inl ⟨by rfl, ?_⟩) (by assumption) ?_
  rotate_left
  · (intro w hSw; (try dsimp only at hSw); go_simp; try (with_reducible rfl))
  try simp only [Act.put, List.getElem_toArray, List.getElem_cons_zero, List.getElem_cons_succ, List.setIfInBounds_toArray, List.set_cons_zero, List.set_cons_succ]
  refine wpAnyH_take (i := 17) (v := ?_) rfl (by kernel_rfl) (by kernel_rfl) (by kernel_rfl) (fun _ _ _ h => h) (Or.inl ⟨by rfl, ?_⟩) (by assumption) ?_
  rotate_left
  · (intro w hSw; (try dsimp only at hSw); go_simp; try (with_reducible rfl))
  try simp only [Act.put, List.getElem_toArray, List.getElem_cons_zero, List.getElem_cons_succ, List.setIfInBounds_toArray, List.set_cons_zero, List.set_cons_succ]
  refine wpAnyH_take (i := 18) (v := ?_) rfl (by kernel_rfl) (by kernel_rfl) (by kernel_rfl) (fun _ _ _ h => h) (Or.inl ⟨by rfl, ?_⟩) (by assumption) ?_
  rotate_left
  · (intro w hSw; (try dsimp only at hSw); go_simp; try (with_reducible rfl))
  try simp only [Act.put, List.getElem_toArray, List.getElem_cons_zero, List.getElem_cons_succ, List.setIfInBounds_toArray, List.set_cons_zero, List.set_cons_succ]
  refine wpAnyH_ready (rs := [7, 15]) (by kernel_rfl) (by simp) ?_
  refine (AllReadyH.cons rfl (fun K hK => ?_) (AllReadyH.cons rfl (fun K hK => ?_) AllReadyH.nil))
  · go_simp
    refine hK.out _ _ ?_ (fun hHeld => ?_)
    · first | exact hHeld | (simp [go_sem, c2, c3, c4, nr, hrW, hbW, Nat.ne_of_lt]; done) | exact ⟨hbg _ _ hHeld.1, hbg _ _ hHeld.2.1, hbg _ _ hHeld.2.2⟩ | exact ⟨(set_cell_ne _ _ _ _ _ _ hrb).trans hHeld.1, (set_cell_ne _ _ _ _ _ _ hrb).trans hHeld.2.1, (set_cell_ne _ _ _ _ _ _ hrb).trans hHeld.2.2⟩
    clear hK K
    try simp only [Act.put, List.getElem_toArray, List.getElem_cons_zero, List.getElem_cons_succ, List.setIfInBounds_toArray, List.set_cons_zero, List.set_cons_succ]
    refine wpAnyH_ready (rs := [15]) (by kernel_rfl) (by simp) ?_
    refine (AllReadyH.cons rfl (fun K hK => ?_) AllReadyH.nil)
    · go_simp
      refine hK.out _ _ ?_ (fun hHeld => ?_)
      · first | exact hHeld | (simp [go_sem, c2, c3, c4, nr, hrW, hbW, Nat.ne_of_lt]; done) | exact ⟨hbg _ _ hHeld.1, hbg _ _ hHeld.2.1, hbg _ _ hHeld.2.2⟩ | exact ⟨(set_cell_ne _ _ _ _ _ _ hrb).trans hHeld.1, (set_cell_ne _ _ _ _ _ _ hrb).trans hHeld.2.1, (set_cell_ne _ _ _ _ _ _ hrb).trans hHeld.2.2⟩
      clear hK K
      try simp only [Act.put, List.getElem_toArray, List.getElem_cons_zero, List.getElem_cons_succ, List.setIfInBounds_toArray, List.set_cons_zero, List.set_cons_succ]
      refine wpAnyH_ready (rs := [16]) (by kernel_rfl) (by simp) ?_
      refine (AllReadyH.cons rfl (fun K hK => ?_) AllReadyH.nil)
      · refine step_append_at rfl (.tmp 37) (.tmp 45) 27 rfl 0 77 i1 _ 3 24 Try.underlying27 HI.out.1 HI.out.2.1 HI.out.2.2.1 HI.out.2.2.2 rfl (by decide) (.slice sa n sc) n (flatR L) rfl HOA.out ⟨W.heap.size, 0, none⟩ 1 1 [.int .i64 pr, .int .i64 ln, .int .i64 hp] rfl rfl (fun j u hj => new_cells W [.int .i64 pr, .int .i64 ln, .int .i64 hp] 77 j u hj) (fun u hu => by simp at hu; rcases hu with z | z | z <;> subst z <;> rfl) (by unfold maxLen; omega) (by omega) (by omega) ?_
        intro v' w4 hown hgrow hat
        obtain ⟨sa4, sc4, rfl⟩ := own_len hown
        have HOW4 := hide hown
        have HGR := hide hgrow
        have HAT := hide hat
        have hbne : some b ≠ (Value.slice sa n sc).ownBlock := fun z => by have := (HTL.out b z.symm).1; omega
        have nr4 : w4.cell? ⟨b, d, none⟩ = some (.slice sa n sc) := hgrow.cell nra hbne
        have nf4 : w4.frozen? ⟨b, d, none⟩ = false := (hgrow.frozen_far ⟨b, d, none⟩ hba hbne).trans nfa
        have hbg : ∀ j u, (W.alloc (.cells #[.int .i64 pr, .int .i64 ln, .int .i64 hp] 77)).drew.cell? ⟨r, j, none⟩ = some u → w4.cell? ⟨r, j, none⟩ = some u := fun j u hj => hgrow.cell hj (fun z => by have := (HTL.out r z.symm).2; omega)
        clear hown hgrow hat
        refine hK.out _ _ ?_ (fun hHeld => ?_)
        · first | exact hHeld | (simp [go_sem, c2, c3, c4, nr, hrW, hbW, Nat.ne_of_lt]; done) | exact ⟨hbg _ _ hHeld.1, hbg _ _ hHeld.2.1, hbg _ _ hHeld.2.2⟩ | exact ⟨(set_cell_ne _ _ _ _ _ _ hrb).trans hHeld.1, (set_cell_ne _ _ _ _ _ _ hrb).trans hHeld.2.1, (set_cell_ne _ _ _ _ _ _ hrb).trans hHeld.2.2⟩
        clear hK K
        try simp only [Act.put, List.getElem_toArray, List.getElem_cons_zero, List.getElem_cons_succ, List.setIfInBounds_toArray, List.set_cons_zero, List.set_cons_succ]
        refine wpAnyH_take (i := 19) (v := ?_) rfl (by kernel_rfl) (by kernel_rfl) (by kernel_rfl) (fun _ _ _ h => h) (Or.inl ⟨by rfl, ?_⟩) (by assumption) ?_
        rotate_left
        · (intro w hSw; (try dsimp only at hSw); go_simp; try (with_reducible rfl))
        try simp only [Act.put, List.getElem_toArray, List.getElem_cons_zero, List.getElem_cons_succ, List.setIfInBounds_toArray, List.set_cons_zero, List.set_cons_succ]
        refine wpAnyH_ready (rs := [20]) (by kernel_rfl) (by simp) ?_
        refine (AllReadyH.cons rfl (fun K hK => ?_) AllReadyH.nil)
        · go_simp
          refine hK.out _ _ ?_ (fun hHeld => ?_)
          · first | exact hHeld | (simp [go_sem, c2, c3, c4, nr, hrW, hbW, Nat.ne_of_lt]; done) | exact ⟨hbg _ _ hHeld.1, hbg _ _ hHeld.2.1, hbg _ _ hHeld.2.2⟩ | exact ⟨(set_cell_ne _ _ _ _ _ _ hrb).trans hHeld.1, (set_cell_ne _ _ _ _ _ _ hrb).trans hHeld.2.1, (set_cell_ne _ _ _ _ _ _ hrb).trans hHeld.2.2⟩
          clear hK K
          try simp only [Act.put, List.getElem_toArray, List.getElem_cons_zero, List.getElem_cons_succ, List.setIfInBounds_toArray, List.set_cons_zero, List.set_cons_succ]
          refine wpAnyH_done (by kernel_rfl) ?_ _
          have HXG : Hid (MX (w4.setCell ⟨b, d, none⟩ (.slice sa4 (n + 1) sc4)) b { M with rt := upd M.rt d (L ++ [⟨pr, ln, hp⟩]) } (upd vr d (.slice sa4 (n + 1) sc4)) va) := by
            have h1 := (HX.out.new (((Ex.refl (fun _ => False) W).alloc (.cells #[.int .i64 pr, .int .i64 ln, .int .i64 hp] 77)).drew)).setR hd (Ex.ofGrown HGR.out (fun k hk => by rw [HV.out]; exact hk)) (L := L ++ [⟨pr, ln, hp⟩]) (v := .slice sa4 (n + 1) sc4) (by
              rw [show (L ++ [(⟨pr, ln, hp⟩ : Rt)]).length = n + 1 by rw [List.length_append, HNL.out]; rfl, flatR_snoc]
              exact HOW4.out) (fun k hk => by
              rw [HV.out]
              rcases HAT.out with z | z
              · left; rw [← hk]; exact z.symm
              · right
                rw [hk] at z
                injection z with z
                rw [z]
                exact Nat.le_refl _)
            rw [Nat.zero_add] at h1
            exact h1
          have HEF : Hid (Ex (MFt b vr va) w (w4.setCell ⟨b, d, none⟩ (.slice sa4 (n + 1) sc4))) := ((((HE.out.alloc (.cells #[.int .i64 pr, .int .i64 ln, .int .i64 hp] 77)).drew.mono (fun _ z => z.elim)).trans (Ex.ofGrown HGR.out (fun k hk => .inr ⟨d, hd, .inl (by rw [HV.out]; exact hk.symm)⟩)))).set (p := b) (.inl rfl) _
          have HVT : Hid (∀ k, (Value.slice sa4 (n + 1) sc4).ownBlock = some k → (vr d).ownBlock = some k ∨ r ≤ k) := fun k hk => by
            rw [HV.out]
            rcases HAT.out with y | y
            · left; rw [← hk]; exact y.symm
            · right; rw [hk] at y; injection y with y; simp [go_sem] at y; omega
          clear HGR HOW4 HAT nr4 nf4 nr nra nf nfa HOA HO hbg c2 c3 c4 HX HE
          generalize w4.setCell ⟨b, d, none⟩ (.slice sa4 (n + 1) sc4) = W9 at *
          clear hHeld
          go_wp2
          go_ret
          rw [HL.out]
          refine ⟨rfl, HEF.out, _, va, HXG.out, fun k hk => ?_⟩
          rw [HRW.out]
          exact mft_setR hd HVT.out hk
  · go_simp
    refine hK.out _ _ ?_ (fun hHeld => ?_)
    · first | exact hHeld | (simp [go_sem, c2, c3, c4, nr, hrW, hbW, Nat.ne_of_lt]; done) | exact ⟨hbg _ _ hHeld.1, hbg _ _ hHeld.2.1, hbg _ _ hHeld.2.2⟩ | exact ⟨(set_cell_ne _ _ _ _ _ _ hrb).trans hHeld.1, (set_cell_ne _ _ _ _ _ _ hrb).trans hHeld.2.1, (set_cell_ne _ _ _ _ _ _ hrb).trans hHeld.2.2⟩
    clear hK K
    try simp only [Act.put, List.getElem_toArray, List.getElem_cons_zero, List.getElem_cons_succ, List.setIfInBounds_toArray, List.set_cons_zero, List.set_cons_succ]
    refine wpAnyH_ready (rs := [7]) (by kernel_rfl) (by simp) ?_
    refine (AllReadyH.cons rfl (fun K hK => ?_) AllReadyH.nil)
    · go_simp
      refine hK.out _ _ ?_ (fun hHeld => ?_)
      · first | exact hHeld | (simp [go_sem, c2, c3, c4, nr, hrW, hbW, Nat.ne_of_lt]; done) | exact ⟨hbg _ _ hHeld.1, hbg _ _ hHeld.2.1, hbg _ _ hHeld.2.2⟩ | exact ⟨(set_cell_ne _ _ _ _ _ _ hrb).trans hHeld.1, (set_cell_ne _ _ _ _ _ _ hrb).trans hHeld.2.1, (set_cell_ne _ _ _ _ _ _ hrb).trans hHeld.2.2⟩
      clear hK K
      try simp only [Act.put, List.getElem_toArray, List.getElem_cons_zero, List.getElem_cons_succ, List.setIfInBounds_toArray, List.set_cons_zero, List.set_cons_succ]
      refine wpAnyH_ready (rs := [16]) (by kernel_rfl) (by simp) ?_
      refine (AllReadyH.cons rfl (fun K hK => ?_) AllReadyH.nil)
      · refine step_append_at rfl (.tmp 37) (.tmp 45) 27 rfl 0 77 i1 _ 3 24 Try.underlying27 HI.out.1 HI.out.2.1 HI.out.2.2.1 HI.out.2.2.2 rfl (by decide) (.slice sa n sc) n (flatR L) rfl HOA.out ⟨W.heap.size, 0, none⟩ 1 1 [.int .i64 pr, .int .i64 ln, .int .i64 hp] rfl rfl (fun j u hj => new_cells W [.int .i64 pr, .int .i64 ln, .int .i64 hp] 77 j u hj) (fun u hu => by simp at hu; rcases hu with z | z | z <;> subst z <;> rfl) (by unfold maxLen; omega) (by omega) (by omega) ?_
        intro v' w4 hown hgrow hat
        obtain ⟨sa4, sc4, rfl⟩ := own_len hown
        have HOW4 := hide hown
        have HGR := hide hgrow
        have HAT := hide hat
        have hbne : some b ≠ (Value.slice sa n sc).ownBlock := fun z => by have := (HTL.out b z.symm).1; omega
        have nr4 : w4.cell? ⟨b, d, none⟩ = some (.slice sa n sc) := hgrow.cell nra hbne
        have nf4 : w4.frozen? ⟨b, d, none⟩ = false := (hgrow.frozen_far ⟨b, d, none⟩ hba hbne).trans nfa
        have hbg : ∀ j u, (W.alloc (.cells #[.int .i64 pr, .int .i64 ln, .int .i64 hp] 77)).drew.cell? ⟨r, j, none⟩ = some u → w4.cell? ⟨r, j, none⟩ = some u := fun j u hj => hgrow.cell hj (fun z => by have := (HTL.out r z.symm).2; omega)
        clear hown hgrow hat
        refine hK.out _ _ ?_ (fun hHeld => ?_)
        · first | exact hHeld | (simp [go_sem, c2, c3, c4, nr, hrW, hbW, Nat.ne_of_lt]; done) | exact ⟨hbg _ _ hHeld.1, hbg _ _ hHeld.2.1, hbg _ _ hHeld.2.2⟩ | exact ⟨(set_cell_ne _ _ _ _ _ _ hrb).trans hHeld.1, (set_cell_ne _ _ _ _ _ _ hrb).trans hHeld.2.1, (set_cell_ne _ _ _ _ _ _ hrb).trans hHeld.2.2⟩
        clear hK K
        try simp only [Act.put, List.getElem_toArray, List.getElem_cons_zero, List.getElem_cons_succ, List.setIfInBounds_toArray, List.set_cons_zero, List.set_cons_succ]
        refine wpAnyH_take (i := 19) (v := ?_) rfl (by kernel_rfl) (by kernel_rfl) (by kernel_rfl) (fun _ _ _ h => h) (Or.inl ⟨by rfl, ?_⟩) (by assumption) ?_
        rotate_left
        · (intro w hSw; (try dsimp only at hSw); go_simp; try (with_reducible rfl))
        try simp only [Act.put, List.getElem_toArray, List.getElem_cons_zero, List.getElem_cons_succ, List.setIfInBounds_toArray, List.set_cons_zero, List.set_cons_succ]
        refine wpAnyH_ready (rs := [20]) (by kernel_rfl) (by simp) ?_
        refine (AllReadyH.cons rfl (fun K hK => ?_) AllReadyH.nil)
        · go_simp
          refine hK.out _ _ ?_ (fun hHeld => ?_)
          · first | exact hHeld | (simp [go_sem, c2, c3, c4, nr, hrW, hbW, Nat.ne_of_lt]; done) | exact ⟨hbg _ _ hHeld.1, hbg _ _ hHeld.2.1, hbg _ _ hHeld.2.2⟩ | exact ⟨(set_cell_ne _ _ _ _ _ _ hrb).trans hHeld.1, (set_cell_ne _ _ _ _ _ _ hrb).trans hHeld.2.1, (set_cell_ne _ _ _ _ _ _ hrb).trans hHeld.2.2⟩
          clear hK K
          try simp only [Act.put, List.getElem_toArray, List.getElem_cons_zero, List.getElem_cons_succ, List.setIfInBounds_toArray, List.set_cons_zero, List.set_cons_succ]
          refine wpAnyH_done (by kernel_rfl) ?_ _
          have HXG : Hid (MX (w4.setCell ⟨b, d, none⟩ (.slice sa4 (n + 1) sc4)) b { M with rt := upd M.rt d (L ++ [⟨pr, ln, hp⟩]) } (upd vr d (.slice sa4 (n + 1) sc4)) va) := by
            have h1 := (HX.out.new (((Ex.refl (fun _ => False) W).alloc (.cells #[.int .i64 pr, .int .i64 ln, .int .i64 hp] 77)).drew)).setR hd (Ex.ofGrown HGR.out (fun k hk => by rw [HV.out]; exact hk)) (L := L ++ [⟨pr, ln, hp⟩]) (v := .slice sa4 (n + 1) sc4) (by
              rw [show (L ++ [(⟨pr, ln, hp⟩ : Rt)]).length = n + 1 by rw [List.length_append, HNL.out]; rfl, flatR_snoc]
              exact HOW4.out) (fun k hk => by
              rw [HV.out]
              rcases HAT.out with z | z
              · left; rw [← hk]; exact z.symm
              · right
                rw [hk] at z
                injection z with z
                rw [z]
                exact Nat.le_refl _)
            rw [Nat.zero_add] at h1
            exact h1
          have HEF : Hid (Ex (MFt b vr va) w (w4.setCell ⟨b, d, none⟩ (.slice sa4 (n + 1) sc4))) := ((((HE.out.alloc (.cells #[.int .i64 pr, .int .i64 ln, .int .i64 hp] 77)).drew.mono (fun _ z => z.elim)).trans (Ex.ofGrown HGR.out (fun k hk => .inr ⟨d, hd, .inl (by rw [HV.out]; exact hk.symm)⟩)))).set (p := b) (.inl rfl) _
          have HVT : Hid (∀ k, (Value.slice sa4 (n + 1) sc4).ownBlock = some k → (vr d).ownBlock = some k ∨ r ≤ k) := fun k hk => by
            rw [HV.out]
            rcases HAT.out with y | y
            · left; rw [← hk]; exact y.symm
            · right; rw [hk] at y; injection y with y; simp [go_sem] at y; omega
          clear HGR HOW4 HAT nr4 nf4 nr nra nf nfa HOA HO hbg c2 c3 c4 HX HE
          generalize w4.setCell ⟨b, d, none⟩ (.slice sa4 (n + 1) sc4) = W9 at *
          clear hHeld
          go_wp2
          go_ret
          rw [HL.out]
          refine ⟨rfl, HEF.out, _, va, HXG.out, fun k hk => ?_⟩
          rw [HRW.out]
          exact mft_setR hd HVT.out hk
end Go.Proofs.Qxb6500778a
