import Derived.Test.Qxb6500777aLfP
namespace Go.Proofs.Qxb6500777a
open Go.RowKit

theorem fuse_step {D : List Det} {k : Nat} {d : Det} (h : D[k]? = some d) (team : Int) (t : Nat) (ht : t < 112) : fuseP (D.take (k + 1)) team t = if d.team = team ∧ d.target = t ∧ fuseP (D.take k) team t < d.grade ∧ d.grade ≤ 3 then d.grade else fuseP (D.take k) team t := by
  have h0 := (fuse_rng (D.take k) team t).1
  rw [fuse_snoc h]
  generalize fuseP (D.take k) team = f at *
  unfold fuseS
  by_cases c : d.team = team ∧ soundP d = true ∧ f d.target.toNat < d.grade
  · rw [if_pos c]
    have hs := c.2.1
    unfold soundP at hs
    rw [decide_eq_true_eq] at hs
    by_cases e : t = d.target.toNat
    · rw [e, upd_same, if_pos ⟨c.1, by omega, c.2.2, hs.2.2.2⟩]
    · rw [upd_ne _ _ e, if_neg (fun z => e (by omega))]
  · rw [if_neg c]
    split
    · next z =>
      exfalso
      have : d.target.toNat = t := by omega
      refine c ⟨z.1, ?_, by rw [this]; exact z.2.2.1⟩
      unfold soundP
      rw [decide_eq_true_eq]
      omega
    · rfl
theorem fuse_zero (team : Int) (t : Nat) : fuseP ([] : List Det) team t = 0 := rfl
set_option maxHeartbeats 4000000 in
/-- tracksm.Fused -/
theorem fused_any (w : World) (a : Option Addr) (n c : Nat) (D : List Det) (hD : DA w a D) (hn : n = D.length) (hl : n ≤ 1000000) (team : Int) (t : Nat) (ht : t < 112) :
    Calls Try.prog 31 #[.slice a n c, .int .i64 team, .int .i64 t] w fun e w' => e = .returned (.int .i64 (fuseP D team t)) ∧ w' = w := by
  have HD := hide hD
  have HN := hide hn
  clear hD hn
  go_enter Try.func31, Try.ntmps31
  go_wp2
  go_loop [7, 8] (fun s7 s8 => ∃ k : Nat, k ≤ n ∧ s8 = .int .i64 k ∧ s7 = .int .i64 (fuseP (D.take k) team t)) (fun _ s8 => n - (intOf s8).toNat)
  case atStart => exact ⟨0, by omega, rfl, rfl⟩
  case round =>
    obtain ⟨k, hk, rfl, rfl⟩ := hrel
    by_cases hkn : k < n
    · have hkni : (k : Int) < (n : Int) := by omega
      obtain ⟨d, hd⟩ : ∃ d, D[k]? = some d := ⟨_, List.getElem?_eq_getElem (by have := HN.out; omega)⟩
      have HX := hide (fuse_step hd team t ht)
      obtain ⟨g, off, e, hc⟩ := HD.out k d hd
      subst e
      have c0 := hc 0 _ rfl
      have c1 := hc 1 _ rfl
      have c3 := hc 3 _ rfl
      rw [Nat.add_zero] at c0
      clear hc hd
      obtain ⟨v, hv⟩ : ∃ v, fuseP (D.take k) team t = v := ⟨_, rfl⟩
      rw [hv] at HX ⊢
      clear hv
      by_cases h1 : d.team = team
      · have b1 : (d.team == team) = true := by simp [h1]
        by_cases h2 : d.target = t
        · have b2 : (d.target == (t : Int)) = true := by simp [h2]
          by_cases h3 : v < d.grade
          · by_cases h4 : d.grade ≤ 3
            · have HX2 := hide (show fuseP (D.take (k + 1)) team t = d.grade by rw [HX.out, if_pos ⟨h1, h2, h3, h4⟩])
              clear h1 h2
              go_wp2
              go_round
              case rel => exact ⟨k + 1, by omega, by simp, by rw [HX2.out]⟩
              case measure => simp [intOf]; omega
            · have HX2 := hide (show fuseP (D.take (k + 1)) team t = v by rw [HX.out, if_neg (fun z => h4 z.2.2.2)])
              have b4 : decide (d.grade ≤ 3) = false := by simp; omega
              clear h1 h2 h4
              go_wp2
              go_round
              case rel => exact ⟨k + 1, by omega, by simp, by rw [HX2.out]⟩
              case measure => simp [intOf]; omega
          · have HX2 := hide (show fuseP (D.take (k + 1)) team t = v by rw [HX.out, if_neg (fun z => h3 z.2.2.1)])
            have b3 : decide (v < d.grade) = false := by simp; omega
            clear h1 h2 h3
            go_wp2
            go_round
            case rel => exact ⟨k + 1, by omega, by simp, by rw [HX2.out]⟩
            case measure => simp [intOf]; omega
        · have b2 : (d.target == (t : Int)) = false := by simp [h2]
          have HX2 := hide (show fuseP (D.take (k + 1)) team t = v by rw [HX.out, if_neg (fun z => h2 z.2.1)])
          clear h1 h2
          go_wp2
          go_round
          case rel => exact ⟨k + 1, by omega, by simp, by rw [HX2.out]⟩
          case measure => simp [intOf]; omega
      · have b1 : (d.team == team) = false := by simp [h1]
        have HX2 := hide (show fuseP (D.take (k + 1)) team t = v by rw [HX.out, if_neg (fun z => h1 z.1)])
        clear h1
        go_wp2
        go_round
        case rel => exact ⟨k + 1, by omega, by simp, by rw [HX2.out]⟩
        case measure => simp [intOf]; omega
    · have hkni : ¬ (k : Int) < (n : Int) := by omega
      rw [List.take_of_length_le (by have := HN.out; omega)]
      go_wp2
      go_ret
      exact ⟨rfl, rfl⟩
def SnPost (w : World) (t : Trk) (e : Ending) (w' : World) : Prop := e = .returned (.agg #[.int .i64 t.num, .int .i64 t.x, .int .i64 t.y, .int .i64 t.co, .int .i64 t.sp, .int .i64 t.st, .int .i64 t.ag]) ∧ Below w.heap.size w w'
theorem fr5 {w w1 : World} {x : Nat} (h : Below w.heap.size w w1) (hx : w.heap.size ≤ x) (a b c d : Int) : Below w.heap.size w ((((((((w1.setCell ⟨x, 0, none⟩ (.int .i64 0)).setCell ⟨x, 1, none⟩ (.int .i64 a)).setCell ⟨x, 2, none⟩ (.int .i64 b)).setCell ⟨x, 3, none⟩ (.int .i64 c)).setCell ⟨x, 4, none⟩ (.int .i64 d)).setCell ⟨x, 5, none⟩ (.int .i64 0)).setCell ⟨x, 6, none⟩ (.int .i64 0)).drew) :=
  (((((((h.setCell hx _).setCell hx _).setCell hx _).setCell hx _).setCell hx _).setCell hx _).setCell hx _).drew
set_option linter.unusedSimpArgs false in
set_option maxRecDepth 100000 in
set_option maxHeartbeats 4000000 in
/-- tracksm.Seen -/
theorem seen_any (w : World) (W : Tgt) (hW : TgtOk W) (g : Int) : Calls Try.prog 32 #[.agg #[.int .i64 W.x, .int .i64 W.y, .int .i64 W.co, .int .i64 W.sp], .int .i64 g] w (SnPost w (lookP trk0 W g)) := by
  have HW := hide hW
  clear hW
  have HB := hide (be2 w (.cells #[.int .i64 W.x, .int .i64 W.y, .int .i64 W.co, .int .i64 W.sp] 60) (.cells #[.int .i64 0, .int .i64 0, .int .i64 0, .int .i64 0, .int .i64 0, .int .i64 0, .int .i64 0] 51))
  have x0 : ((w.alloc (.cells #[.int .i64 W.x, .int .i64 W.y, .int .i64 W.co, .int .i64 W.sp] 60)).alloc (.cells #[.int .i64 0, .int .i64 0, .int .i64 0, .int .i64 0, .int .i64 0, .int .i64 0, .int .i64 0] 51)).cell? ⟨w.heap.size, 0, none⟩ = some (.int .i64 W.x) := by simp [go_sem]
  have x1 : ((w.alloc (.cells #[.int .i64 W.x, .int .i64 W.y, .int .i64 W.co, .int .i64 W.sp] 60)).alloc (.cells #[.int .i64 0, .int .i64 0, .int .i64 0, .int .i64 0, .int .i64 0, .int .i64 0, .int .i64 0] 51)).cell? ⟨w.heap.size, 1, none⟩ = some (.int .i64 W.y) := by simp [go_sem]
  have x2 : ((w.alloc (.cells #[.int .i64 W.x, .int .i64 W.y, .int .i64 W.co, .int .i64 W.sp] 60)).alloc (.cells #[.int .i64 0, .int .i64 0, .int .i64 0, .int .i64 0, .int .i64 0, .int .i64 0, .int .i64 0] 51)).cell? ⟨w.heap.size, 2, none⟩ = some (.int .i64 W.co) := by simp [go_sem]
  have x3 : ((w.alloc (.cells #[.int .i64 W.x, .int .i64 W.y, .int .i64 W.co, .int .i64 W.sp] 60)).alloc (.cells #[.int .i64 0, .int .i64 0, .int .i64 0, .int .i64 0, .int .i64 0, .int .i64 0, .int .i64 0] 51)).cell? ⟨w.heap.size, 3, none⟩ = some (.int .i64 W.sp) := by simp [go_sem]
  have r0 : ((w.alloc (.cells #[.int .i64 W.x, .int .i64 W.y, .int .i64 W.co, .int .i64 W.sp] 60)).alloc (.cells #[.int .i64 0, .int .i64 0, .int .i64 0, .int .i64 0, .int .i64 0, .int .i64 0, .int .i64 0] 51)).cell? ⟨w.heap.size + 1, 0, none⟩ = some (.int .i64 0) := by simp [go_sem]
  have r1 : ((w.alloc (.cells #[.int .i64 W.x, .int .i64 W.y, .int .i64 W.co, .int .i64 W.sp] 60)).alloc (.cells #[.int .i64 0, .int .i64 0, .int .i64 0, .int .i64 0, .int .i64 0, .int .i64 0, .int .i64 0] 51)).cell? ⟨w.heap.size + 1, 1, none⟩ = some (.int .i64 0) := by simp [go_sem]
  have r2 : ((w.alloc (.cells #[.int .i64 W.x, .int .i64 W.y, .int .i64 W.co, .int .i64 W.sp] 60)).alloc (.cells #[.int .i64 0, .int .i64 0, .int .i64 0, .int .i64 0, .int .i64 0, .int .i64 0, .int .i64 0] 51)).cell? ⟨w.heap.size + 1, 2, none⟩ = some (.int .i64 0) := by simp [go_sem]
  have r3 : ((w.alloc (.cells #[.int .i64 W.x, .int .i64 W.y, .int .i64 W.co, .int .i64 W.sp] 60)).alloc (.cells #[.int .i64 0, .int .i64 0, .int .i64 0, .int .i64 0, .int .i64 0, .int .i64 0, .int .i64 0] 51)).cell? ⟨w.heap.size + 1, 3, none⟩ = some (.int .i64 0) := by simp [go_sem]
  have r4 : ((w.alloc (.cells #[.int .i64 W.x, .int .i64 W.y, .int .i64 W.co, .int .i64 W.sp] 60)).alloc (.cells #[.int .i64 0, .int .i64 0, .int .i64 0, .int .i64 0, .int .i64 0, .int .i64 0, .int .i64 0] 51)).cell? ⟨w.heap.size + 1, 4, none⟩ = some (.int .i64 0) := by simp [go_sem]
  have r5 : ((w.alloc (.cells #[.int .i64 W.x, .int .i64 W.y, .int .i64 W.co, .int .i64 W.sp] 60)).alloc (.cells #[.int .i64 0, .int .i64 0, .int .i64 0, .int .i64 0, .int .i64 0, .int .i64 0, .int .i64 0] 51)).cell? ⟨w.heap.size + 1, 5, none⟩ = some (.int .i64 0) := by simp [go_sem]
  have r6 : ((w.alloc (.cells #[.int .i64 W.x, .int .i64 W.y, .int .i64 W.co, .int .i64 W.sp] 60)).alloc (.cells #[.int .i64 0, .int .i64 0, .int .i64 0, .int .i64 0, .int .i64 0, .int .i64 0, .int .i64 0] 51)).cell? ⟨w.heap.size + 1, 6, none⟩ = some (.int .i64 0) := by simp [go_sem]
  have rf : ∀ j, ((w.alloc (.cells #[.int .i64 W.x, .int .i64 W.y, .int .i64 W.co, .int .i64 W.sp] 60)).alloc (.cells #[.int .i64 0, .int .i64 0, .int .i64 0, .int .i64 0, .int .i64 0, .int .i64 0, .int .i64 0] 51)).frozen? ⟨w.heap.size + 1, j, none⟩ = false := fun j => by simp [go_sem]
  go_enter Try.func32, Try.ntmps32
  go_upto_region 1 with fail
  generalize (w.alloc (.cells #[.int .i64 W.x, .int .i64 W.y, .int .i64 W.co, .int .i64 W.sp] 60)).alloc (.cells #[.int .i64 0, .int .i64 0, .int .i64 0, .int .i64 0, .int .i64 0, .int .i64 0, .int .i64 0] 51) = w1 at *
  obtain ⟨x, hx⟩ : ∃ x, w.heap.size + 1 = x := ⟨_, rfl⟩
  have hxg : w.heap.size ≤ x := by omega
  have hxy : w.heap.size ≠ x := by omega
  rw [hx] at r0 r1 r2 r3 r4 r5 r6 rf ⊢
  clear hx
  obtain ⟨y, hy⟩ : ∃ y, w.heap.size = y := ⟨_, rfl⟩
  rw [hy] at x0 x1 x2 x3 hxy ⊢
  clear hy
  have zS := And.intro x0 (And.intro x1 (And.intro x2 x3))
  by_cases h3 : g = 3
  · have HE := hide (show Ending.returned (.agg #[.int .i64 0, .int .i64 (qzP W.x 64), .int .i64 (qzP W.y 64), .int .i64 (qzP W.co 32), .int .i64 (qzP W.sp 4), .int .i64 0, .int .i64 0]) = .returned (.agg #[.int .i64 (lookP trk0 W g).num, .int .i64 (lookP trk0 W g).x, .int .i64 (lookP trk0 W g).y, .int .i64 (lookP trk0 W g).co, .int .i64 (lookP trk0 W g).sp, .int .i64 (lookP trk0 W g).st, .int .i64 (lookP trk0 W g).ag]) by subst h3; rfl)
    have g2 : (g == 2) = false := by simp [h3]
    have g3 : (g == 3) = true := by simp [h3]
    clear h3
    go_upto_region 6 with fail
    refine wp_region_held_drew (S := fun w' => w'.cell? ⟨y, 0, none⟩ = some (.int .i64 W.x) ∧ w'.cell? ⟨y, 1, none⟩ = some (.int .i64 W.y) ∧ w'.cell? ⟨y, 2, none⟩ = some (.int .i64 W.co) ∧ w'.cell? ⟨y, 3, none⟩ = some (.int .i64 W.sp)) (by kernel_rfl) zS (fun hHeld => ?_)
    refine wpAnyH_take (i := 0) (v := ?_) rfl (by kernel_rfl) (by kernel_rfl) (by kernel_rfl) (fun _ _ _ h => h) (Or.inl ⟨by rfl, ?_⟩) (by assumption) ?_
    rotate_left
    · (intro w hSw; (try dsimp only at hSw); go_simp; try (with_reducible rfl))
    try simp only [Act.put, List.getElem_toArray, List.getElem_cons_zero, List.getElem_cons_succ, List.setIfInBounds_toArray, List.set_cons_zero, List.set_cons_succ]
    refine wpAnyH_take (i := 1) (v := ?_) rfl (by kernel_rfl) (by kernel_rfl) (by kernel_rfl) (fun _ _ _ h => h) (Or.inl ⟨by rfl, ?_⟩) (by assumption) ?_
    rotate_left
    · (intro w hSw; (try dsimp only at hSw); go_simp; try (with_reducible rfl))
    try simp only [Act.put, List.getElem_toArray, List.getElem_cons_zero, List.getElem_cons_succ, List.setIfInBounds_toArray, List.set_cons_zero, List.set_cons_succ]
    refine wpAnyH_take (i := 2) (v := ?_) rfl (by kernel_rfl) (by kernel_rfl) (by kernel_rfl) (fun _ _ _ h => h) (Or.inl ⟨by rfl, ?_⟩) (by assumption) ?_
    rotate_left
    · (intro w hSw; (try dsimp only at hSw); go_simp; try (with_reducible rfl))
    try simp only [Act.put, List.getElem_toArray, List.getElem_cons_zero, List.getElem_cons_succ, List.setIfInBounds_toArray, List.set_cons_zero, List.set_cons_succ]
    refine wpAnyH_take (i := 4) (v := ?_) rfl (by kernel_rfl) (by kernel_rfl) (by kernel_rfl) (fun _ _ _ h => h) (Or.inl ⟨by rfl, ?_⟩) (by assumption) ?_
    rotate_left
    · (intro w hSw; (try dsimp only at hSw); go_simp; try (with_reducible rfl))
    try simp only [Act.put, List.getElem_toArray, List.getElem_cons_zero, List.getElem_cons_succ, List.setIfInBounds_toArray, List.set_cons_zero, List.set_cons_succ]
    refine wpAnyH_take (i := 5) (v := ?_) rfl (by kernel_rfl) (by kernel_rfl) (by kernel_rfl) (fun _ _ _ h => h) (Or.inl ⟨by rfl, ?_⟩) (by assumption) ?_
    rotate_left
    · (intro w hSw; (try dsimp only at hSw); go_simp; try (with_reducible rfl))
    try simp only [Act.put, List.getElem_toArray, List.getElem_cons_zero, List.getElem_cons_succ, List.setIfInBounds_toArray, List.set_cons_zero, List.set_cons_succ]
    refine wpAnyH_take (i := 6) (v := ?_) rfl (by kernel_rfl) (by kernel_rfl) (by kernel_rfl) (fun _ _ _ h => h) (Or.inl ⟨by rfl, ?_⟩) (by assumption) ?_
    rotate_left
    · (intro w hSw; (try dsimp only at hSw); go_simp; try (with_reducible rfl))
    try simp only [Act.put, List.getElem_toArray, List.getElem_cons_zero, List.getElem_cons_succ, List.setIfInBounds_toArray, List.set_cons_zero, List.set_cons_succ]
    refine wpAnyH_take (i := 8) (v := ?_) rfl (by kernel_rfl) (by kernel_rfl) (by kernel_rfl) (fun _ _ _ h => h) (Or.inl ⟨by rfl, ?_⟩) (by assumption) ?_
    rotate_left
    · (intro w hSw; (try dsimp only at hSw); go_simp; try (with_reducible rfl))
    try simp only [Act.put, List.getElem_toArray, List.getElem_cons_zero, List.getElem_cons_succ, List.setIfInBounds_toArray, List.set_cons_zero, List.set_cons_succ]
    refine wpAnyH_take (i := 9) (v := ?_) rfl (by kernel_rfl) (by kernel_rfl) (by kernel_rfl) (fun _ _ _ h => h) (Or.inl ⟨by rfl, ?_⟩) (by assumption) ?_
    rotate_left
    · (intro w hSw; (try dsimp only at hSw); go_simp; try (with_reducible rfl))
    try simp only [Act.put, List.getElem_toArray, List.getElem_cons_zero, List.getElem_cons_succ, List.setIfInBounds_toArray, List.set_cons_zero, List.set_cons_succ]
    refine wpAnyH_take (i := 10) (v := ?_) rfl (by kernel_rfl) (by kernel_rfl) (by kernel_rfl) (fun _ _ _ h => h) (Or.inl ⟨by rfl, ?_⟩) (by assumption) ?_
    rotate_left
    · (intro w hSw; (try dsimp only at hSw); go_simp; try (with_reducible rfl))
    try simp only [Act.put, List.getElem_toArray, List.getElem_cons_zero, List.getElem_cons_succ, List.setIfInBounds_toArray, List.set_cons_zero, List.set_cons_succ]
    refine wpAnyH_take (i := 12) (v := ?_) rfl (by kernel_rfl) (by kernel_rfl) (by kernel_rfl) (fun _ _ _ h => h) (Or.inl ⟨by rfl, ?_⟩) (by assumption) ?_
    rotate_left
    · (intro w hSw; (try dsimp only at hSw); go_simp; try (with_reducible rfl))
    try simp only [Act.put, List.getElem_toArray, List.getElem_cons_zero, List.getElem_cons_succ, List.setIfInBounds_toArray, List.set_cons_zero, List.set_cons_succ]
    refine wpAnyH_take (i := 13) (v := ?_) rfl (by kernel_rfl) (by kernel_rfl) (by kernel_rfl) (fun _ _ _ h => h) (Or.inl ⟨by rfl, ?_⟩) (by assumption) ?_
    rotate_left
    · (intro w hSw; (try dsimp only at hSw); go_simp; try (with_reducible rfl))
    try simp only [Act.put, List.getElem_toArray, List.getElem_cons_zero, List.getElem_cons_succ, List.setIfInBounds_toArray, List.set_cons_zero, List.set_cons_succ]
    refine wpAnyH_take (i := 14) (v := ?_) rfl (by kernel_rfl) (by kernel_rfl) (by kernel_rfl) (fun _ _ _ h => h) (Or.inl ⟨by rfl, ?_⟩) (by assumption) ?_
    rotate_left
    · (intro w hSw; (try dsimp only at hSw); go_simp; try (with_reducible rfl))
    try simp only [Act.put, List.getElem_toArray, List.getElem_cons_zero, List.getElem_cons_succ, List.setIfInBounds_toArray, List.set_cons_zero, List.set_cons_succ]
    refine wpAnyH_ready (rs := [3]) (by kernel_rfl) (by simp) ?_
    refine (AllReadyH.cons rfl (fun K hK => ?_) AllReadyH.nil)
    · refine step_call rfl 46 #[.int .i64 W.x, .int .i64 64] (by simp [go_sem]) (quant_any _ W.x 64 (by omega) (by omega) (by have := HW.out.x; omega) (by have := HW.out.x; omega)) ?_
      rintro e w2 ⟨rfl, rfl⟩
      refine ⟨_, rfl, ?_⟩
      refine hK.out _ _ ?_ (fun hHeld => ?_)
      · (first | with_reducible exact zS | (simp [zS, hxy, Ne.symm hxy, go_sem]; done))
      clear hK K
      try simp only [Act.put, List.getElem_toArray, List.getElem_cons_zero, List.getElem_cons_succ, List.setIfInBounds_toArray, List.set_cons_zero, List.set_cons_succ]
      refine wpAnyH_ready (rs := [7]) (by kernel_rfl) (by simp) ?_
      refine (AllReadyH.cons rfl (fun K hK => ?_) AllReadyH.nil)
      · refine step_call rfl 46 #[.int .i64 W.y, .int .i64 64] (by simp [go_sem]) (quant_any _ W.y 64 (by omega) (by omega) (by have := HW.out.y; omega) (by have := HW.out.y; omega)) ?_
        rintro e w2 ⟨rfl, rfl⟩
        refine ⟨_, rfl, ?_⟩
        refine hK.out _ _ ?_ (fun hHeld => ?_)
        · (first | with_reducible exact zS | (simp [zS, hxy, Ne.symm hxy, go_sem]; done))
        clear hK K
        try simp only [Act.put, List.getElem_toArray, List.getElem_cons_zero, List.getElem_cons_succ, List.setIfInBounds_toArray, List.set_cons_zero, List.set_cons_succ]
        refine wpAnyH_ready (rs := [11]) (by kernel_rfl) (by simp) ?_
        refine (AllReadyH.cons rfl (fun K hK => ?_) AllReadyH.nil)
        · refine step_call rfl 46 #[.int .i64 W.co, .int .i64 32] (by simp [go_sem]) (quant_any _ W.co 32 (by omega) (by omega) (by have := HW.out.co; omega) (by have := HW.out.co; omega)) ?_
          rintro e w2 ⟨rfl, rfl⟩
          refine ⟨_, rfl, ?_⟩
          refine hK.out _ _ ?_ (fun hHeld => ?_)
          · (first | with_reducible exact zS | (simp [zS, hxy, Ne.symm hxy, go_sem]; done))
          clear hK K
          try simp only [Act.put, List.getElem_toArray, List.getElem_cons_zero, List.getElem_cons_succ, List.setIfInBounds_toArray, List.set_cons_zero, List.set_cons_succ]
          refine wpAnyH_ready (rs := [15]) (by kernel_rfl) (by simp) ?_
          refine (AllReadyH.cons rfl (fun K hK => ?_) AllReadyH.nil)
          · refine step_call rfl 46 #[.int .i64 W.sp, .int .i64 4] (by simp [go_sem]) (quant_any _ W.sp 4 (by omega) (by omega) (by have := HW.out.sp; omega) (by have := HW.out.sp; omega)) ?_
            rintro e w2 ⟨rfl, rfl⟩
            refine ⟨_, rfl, ?_⟩
            refine hK.out _ _ ?_ (fun hHeld => ?_)
            · (first | with_reducible exact zS | (simp [zS, hxy, Ne.symm hxy, go_sem]; done))
            clear hK K
            try simp only [Act.put, List.getElem_toArray, List.getElem_cons_zero, List.getElem_cons_succ, List.setIfInBounds_toArray, List.set_cons_zero, List.set_cons_succ]
            refine wpAnyH_take (i := 16) (v := ?_) rfl (by kernel_rfl) (by kernel_rfl) (by kernel_rfl) (fun _ _ _ h => h) (Or.inl ⟨by rfl, ?_⟩) (by assumption) ?_
            rotate_left
            · (intro w hSw; (try dsimp only at hSw); go_simp; try (with_reducible rfl))
            try simp only [Act.put, List.getElem_toArray, List.getElem_cons_zero, List.getElem_cons_succ, List.setIfInBounds_toArray, List.set_cons_zero, List.set_cons_succ]
            refine wpAnyH_ready (rs := [17]) (by kernel_rfl) (by simp) ?_
            refine (AllReadyH.cons rfl (fun K hK => ?_) AllReadyH.nil)
            · go_simp
              refine hK.out _ _ ?_ (fun hHeld => ?_)
              · (first | with_reducible exact zS | (simp [zS, hxy, Ne.symm hxy, go_sem]; done))
              clear hK K
              try simp only [Act.put, List.getElem_toArray, List.getElem_cons_zero, List.getElem_cons_succ, List.setIfInBounds_toArray, List.set_cons_zero, List.set_cons_succ]
              refine wpAnyH_done (by kernel_rfl) ?_ _
              have HB2 := hide (fr5 HB.out hxg (qzP W.x 64) (qzP W.y 64) (qzP W.co 32) (qzP W.sp 4))
              clear x0 x1 x2 x3 HB
              go_wp2
              exact bodyPost_ret (v := .agg #[.int .i64 0, .int .i64 (qzP W.x 64), .int .i64 (qzP W.y 64), .int .i64 (qzP W.co 32), .int .i64 (qzP W.sp 4), .int .i64 0, .int .i64 0]) (by simp [results, Try.results32, go_sem, r0, r1, r2, r3, r4, r5, r6]) rfl ⟨HE.out, HB2.out⟩
  · have g3 : (g == 3) = false := by simp [h3]
    by_cases h2 : g = 2
    · have HE := hide (show Ending.returned (.agg #[.int .i64 0, .int .i64 (qzP W.x 512), .int .i64 (qzP W.y 512), .int .i64 (qzP W.co 128), .int .i64 (qzP W.sp 32), .int .i64 0, .int .i64 0]) = .returned (.agg #[.int .i64 (lookP trk0 W g).num, .int .i64 (lookP trk0 W g).x, .int .i64 (lookP trk0 W g).y, .int .i64 (lookP trk0 W g).co, .int .i64 (lookP trk0 W g).sp, .int .i64 (lookP trk0 W g).st, .int .i64 (lookP trk0 W g).ag]) by subst h2; rfl)
      have g2 : (g == 2) = true := by simp [h2]
      clear h3 h2
      go_upto_region 6 with fail
      refine wp_region_held_drew (S := fun w' => w'.cell? ⟨y, 0, none⟩ = some (.int .i64 W.x) ∧ w'.cell? ⟨y, 1, none⟩ = some (.int .i64 W.y) ∧ w'.cell? ⟨y, 2, none⟩ = some (.int .i64 W.co) ∧ w'.cell? ⟨y, 3, none⟩ = some (.int .i64 W.sp)) (by kernel_rfl) zS (fun hHeld => ?_)
      refine wpAnyH_take (i := 0) (v := ?_) rfl (by kernel_rfl) (by kernel_rfl) (by kernel_rfl) (fun _ _ _ h => h) (Or.inl ⟨by rfl, ?_⟩) (by assumption) ?_
      rotate_left
      · (intro w hSw; (try dsimp only at hSw); go_simp; try (with_reducible rfl))
      try simp only [Act.put, List.getElem_toArray, List.getElem_cons_zero, List.getElem_cons_succ, List.setIfInBounds_toArray, List.set_cons_zero, List.set_cons_succ]
      refine wpAnyH_take (i := 1) (v := ?_) rfl (by kernel_rfl) (by kernel_rfl) (by kernel_rfl) (fun _ _ _ h => h) (Or.inl ⟨by rfl, ?_⟩) (by assumption) ?_
      rotate_left
      · (intro w hSw; (try dsimp only at hSw); go_simp; try (with_reducible rfl))
      try simp only [Act.put, List.getElem_toArray, List.getElem_cons_zero, List.getElem_cons_succ, List.setIfInBounds_toArray, List.set_cons_zero, List.set_cons_succ]
      refine wpAnyH_take (i := 2) (v := ?_) rfl (by kernel_rfl) (by kernel_rfl) (by kernel_rfl) (fun _ _ _ h => h) (Or.inl ⟨by rfl, ?_⟩) (by assumption) ?_
      rotate_left
      · (intro w hSw; (try dsimp only at hSw); go_simp; try (with_reducible rfl))
      try simp only [Act.put, List.getElem_toArray, List.getElem_cons_zero, List.getElem_cons_succ, List.setIfInBounds_toArray, List.set_cons_zero, List.set_cons_succ]
      refine wpAnyH_take (i := 4) (v := ?_) rfl (by kernel_rfl) (by kernel_rfl) (by kernel_rfl) (fun _ _ _ h => h) (Or.inl ⟨by rfl, ?_⟩) (by assumption) ?_
      rotate_left
      · (intro w hSw; (try dsimp only at hSw); go_simp; try (with_reducible rfl))
      try simp only [Act.put, List.getElem_toArray, List.getElem_cons_zero, List.getElem_cons_succ, List.setIfInBounds_toArray, List.set_cons_zero, List.set_cons_succ]
      refine wpAnyH_take (i := 5) (v := ?_) rfl (by kernel_rfl) (by kernel_rfl) (by kernel_rfl) (fun _ _ _ h => h) (Or.inl ⟨by rfl, ?_⟩) (by assumption) ?_
      rotate_left
      · (intro w hSw; (try dsimp only at hSw); go_simp; try (with_reducible rfl))
      try simp only [Act.put, List.getElem_toArray, List.getElem_cons_zero, List.getElem_cons_succ, List.setIfInBounds_toArray, List.set_cons_zero, List.set_cons_succ]
      refine wpAnyH_take (i := 6) (v := ?_) rfl (by kernel_rfl) (by kernel_rfl) (by kernel_rfl) (fun _ _ _ h => h) (Or.inl ⟨by rfl, ?_⟩) (by assumption) ?_
      rotate_left
      · (intro w hSw; (try dsimp only at hSw); go_simp; try (with_reducible rfl))
      try simp only [Act.put, List.getElem_toArray, List.getElem_cons_zero, List.getElem_cons_succ, List.setIfInBounds_toArray, List.set_cons_zero, List.set_cons_succ]
      refine wpAnyH_take (i := 8) (v := ?_) rfl (by kernel_rfl) (by kernel_rfl) (by kernel_rfl) (fun _ _ _ h => h) (Or.inl ⟨by rfl, ?_⟩) (by assumption) ?_
      rotate_left
      · (intro w hSw; (try dsimp only at hSw); go_simp; try (with_reducible rfl))
      try simp only [Act.put, List.getElem_toArray, List.getElem_cons_zero, List.getElem_cons_succ, List.setIfInBounds_toArray, List.set_cons_zero, List.set_cons_succ]
      refine wpAnyH_take (i := 9) (v := ?_) rfl (by kernel_rfl) (by kernel_rfl) (by kernel_rfl) (fun _ _ _ h => h) (Or.inl ⟨by rfl, ?_⟩) (by assumption) ?_
      rotate_left
      · (intro w hSw; (try dsimp only at hSw); go_simp; try (with_reducible rfl))
      try simp only [Act.put, List.getElem_toArray, List.getElem_cons_zero, List.getElem_cons_succ, List.setIfInBounds_toArray, List.set_cons_zero, List.set_cons_succ]
      refine wpAnyH_take (i := 10) (v := ?_) rfl (by kernel_rfl) (by kernel_rfl) (by kernel_rfl) (fun _ _ _ h => h) (Or.inl ⟨by rfl, ?_⟩) (by assumption) ?_
      rotate_left
      · (intro w hSw; (try dsimp only at hSw); go_simp; try (with_reducible rfl))
      try simp only [Act.put, List.getElem_toArray, List.getElem_cons_zero, List.getElem_cons_succ, List.setIfInBounds_toArray, List.set_cons_zero, List.set_cons_succ]
      refine wpAnyH_take (i := 12) (v := ?_) rfl (by kernel_rfl) (by kernel_rfl) (by kernel_rfl) (fun _ _ _ h => h) (Or.inl ⟨by rfl, ?_⟩) (by assumption) ?_
      rotate_left
      · (intro w hSw; (try dsimp only at hSw); go_simp; try (with_reducible rfl))
      try simp only [Act.put, List.getElem_toArray, List.getElem_cons_zero, List.getElem_cons_succ, List.setIfInBounds_toArray, List.set_cons_zero, List.set_cons_succ]
      refine wpAnyH_take (i := 13) (v := ?_) rfl (by kernel_rfl) (by kernel_rfl) (by kernel_rfl) (fun _ _ _ h => h) (Or.inl ⟨by rfl, ?_⟩) (by assumption) ?_
      rotate_left
      · (intro w hSw; (try dsimp only at hSw); go_simp; try (with_reducible rfl))
      try simp only [Act.put, List.getElem_toArray, List.getElem_cons_zero, List.getElem_cons_succ, List.setIfInBounds_toArray, List.set_cons_zero, List.set_cons_succ]
      refine wpAnyH_take (i := 14) (v := ?_) rfl (by kernel_rfl) (by kernel_rfl) (by kernel_rfl) (fun _ _ _ h => h) (Or.inl ⟨by rfl, ?_⟩) (by assumption) ?_
      rotate_left
      · (intro w hSw; (try dsimp only at hSw); go_simp; try (with_reducible rfl))
      try simp only [Act.put, List.getElem_toArray, List.getElem_cons_zero, List.getElem_cons_succ, List.setIfInBounds_toArray, List.set_cons_zero, List.set_cons_succ]
      refine wpAnyH_ready (rs := [3]) (by kernel_rfl) (by simp) ?_
      refine (AllReadyH.cons rfl (fun K hK => ?_) AllReadyH.nil)
      · refine step_call rfl 46 #[.int .i64 W.x, .int .i64 512] (by simp [go_sem]) (quant_any _ W.x 512 (by omega) (by omega) (by have := HW.out.x; omega) (by have := HW.out.x; omega)) ?_
        rintro e w2 ⟨rfl, rfl⟩
        refine ⟨_, rfl, ?_⟩
        refine hK.out _ _ ?_ (fun hHeld => ?_)
        · (first | with_reducible exact zS | (simp [zS, hxy, Ne.symm hxy, go_sem]; done))
        clear hK K
        try simp only [Act.put, List.getElem_toArray, List.getElem_cons_zero, List.getElem_cons_succ, List.setIfInBounds_toArray, List.set_cons_zero, List.set_cons_succ]
        refine wpAnyH_ready (rs := [7]) (by kernel_rfl) (by simp) ?_
        refine (AllReadyH.cons rfl (fun K hK => ?_) AllReadyH.nil)
        · refine step_call rfl 46 #[.int .i64 W.y, .int .i64 512] (by simp [go_sem]) (quant_any _ W.y 512 (by omega) (by omega) (by have := HW.out.y; omega) (by have := HW.out.y; omega)) ?_
          rintro e w2 ⟨rfl, rfl⟩
          refine ⟨_, rfl, ?_⟩
          refine hK.out _ _ ?_ (fun hHeld => ?_)
          · (first | with_reducible exact zS | (simp [zS, hxy, Ne.symm hxy, go_sem]; done))
          clear hK K
          try simp only [Act.put, List.getElem_toArray, List.getElem_cons_zero, List.getElem_cons_succ, List.setIfInBounds_toArray, List.set_cons_zero, List.set_cons_succ]
          refine wpAnyH_ready (rs := [11]) (by kernel_rfl) (by simp) ?_
          refine (AllReadyH.cons rfl (fun K hK => ?_) AllReadyH.nil)
          · refine step_call rfl 46 #[.int .i64 W.co, .int .i64 128] (by simp [go_sem]) (quant_any _ W.co 128 (by omega) (by omega) (by have := HW.out.co; omega) (by have := HW.out.co; omega)) ?_
            rintro e w2 ⟨rfl, rfl⟩
            refine ⟨_, rfl, ?_⟩
            refine hK.out _ _ ?_ (fun hHeld => ?_)
            · (first | with_reducible exact zS | (simp [zS, hxy, Ne.symm hxy, go_sem]; done))
            clear hK K
            try simp only [Act.put, List.getElem_toArray, List.getElem_cons_zero, List.getElem_cons_succ, List.setIfInBounds_toArray, List.set_cons_zero, List.set_cons_succ]
            refine wpAnyH_ready (rs := [15]) (by kernel_rfl) (by simp) ?_
            refine (AllReadyH.cons rfl (fun K hK => ?_) AllReadyH.nil)
            · refine step_call rfl 46 #[.int .i64 W.sp, .int .i64 32] (by simp [go_sem]) (quant_any _ W.sp 32 (by omega) (by omega) (by have := HW.out.sp; omega) (by have := HW.out.sp; omega)) ?_
              rintro e w2 ⟨rfl, rfl⟩
              refine ⟨_, rfl, ?_⟩
              refine hK.out _ _ ?_ (fun hHeld => ?_)
              · (first | with_reducible exact zS | (simp [zS, hxy, Ne.symm hxy, go_sem]; done))
              clear hK K
              try simp only [Act.put, List.getElem_toArray, List.getElem_cons_zero, List.getElem_cons_succ, List.setIfInBounds_toArray, List.set_cons_zero, List.set_cons_succ]
              refine wpAnyH_take (i := 16) (v := ?_) rfl (by kernel_rfl) (by kernel_rfl) (by kernel_rfl) (fun _ _ _ h => h) (Or.inl ⟨by rfl, ?_⟩) (by assumption) ?_
              rotate_left
              · (intro w hSw; (try dsimp only at hSw); go_simp; try (with_reducible rfl))
              try simp only [Act.put, List.getElem_toArray, List.getElem_cons_zero, List.getElem_cons_succ, List.setIfInBounds_toArray, List.set_cons_zero, List.set_cons_succ]
              refine wpAnyH_ready (rs := [17]) (by kernel_rfl) (by simp) ?_
              refine (AllReadyH.cons rfl (fun K hK => ?_) AllReadyH.nil)
              · go_simp
                refine hK.out _ _ ?_ (fun hHeld => ?_)
                · (first | with_reducible exact zS | (simp [zS, hxy, Ne.symm hxy, go_sem]; done))
                clear hK K
                try simp only [Act.put, List.getElem_toArray, List.getElem_cons_zero, List.getElem_cons_succ, List.setIfInBounds_toArray, List.set_cons_zero, List.set_cons_succ]
                refine wpAnyH_done (by kernel_rfl) ?_ _
                have HB2 := hide (fr5 HB.out hxg (qzP W.x 512) (qzP W.y 512) (qzP W.co 128) (qzP W.sp 32))
                clear x0 x1 x2 x3 HB
                go_wp2
                exact bodyPost_ret (v := .agg #[.int .i64 0, .int .i64 (qzP W.x 512), .int .i64 (qzP W.y 512), .int .i64 (qzP W.co 128), .int .i64 (qzP W.sp 32), .int .i64 0, .int .i64 0]) (by simp [results, Try.results32, go_sem, r0, r1, r2, r3, r4, r5, r6]) rfl ⟨HE.out, HB2.out⟩
    · have HE := hide (show Ending.returned (.agg #[.int .i64 0, .int .i64 (qzP W.x 4096), .int .i64 (qzP W.y 4096), .int .i64 (qzP W.co 512), .int .i64 (qzP W.sp 256), .int .i64 0, .int .i64 0]) = .returned (.agg #[.int .i64 (lookP trk0 W g).num, .int .i64 (lookP trk0 W g).x, .int .i64 (lookP trk0 W g).y, .int .i64 (lookP trk0 W g).co, .int .i64 (lookP trk0 W g).sp, .int .i64 (lookP trk0 W g).st, .int .i64 (lookP trk0 W g).ag]) by unfold lookP pgP cgP sgP; rw [if_neg h3, if_neg h2, if_neg h3, if_neg h2, if_neg h3, if_neg h2]; rfl)
      have g2 : (g == 2) = false := by simp [h2]
      clear h3 h2
      go_upto_region 6 with fail
      refine wp_region_held_drew (S := fun w' => w'.cell? ⟨y, 0, none⟩ = some (.int .i64 W.x) ∧ w'.cell? ⟨y, 1, none⟩ = some (.int .i64 W.y) ∧ w'.cell? ⟨y, 2, none⟩ = some (.int .i64 W.co) ∧ w'.cell? ⟨y, 3, none⟩ = some (.int .i64 W.sp)) (by kernel_rfl) zS (fun hHeld => ?_)
      refine wpAnyH_take (i := 0) (v := ?_) rfl (by kernel_rfl) (by kernel_rfl) (by kernel_rfl) (fun _ _ _ h => h) (Or.inl ⟨by rfl, ?_⟩) (by assumption) ?_
      rotate_left
      · (intro w hSw; (try dsimp only at hSw); go_simp; try (with_reducible rfl))
      try simp only [Act.put, List.getElem_toArray, List.getElem_cons_zero, List.getElem_cons_succ, List.setIfInBounds_toArray, List.set_cons_zero, List.set_cons_succ]
      refine wpAnyH_take (i := 1) (v := ?_) rfl (by kernel_rfl) (by kernel_rfl) (by kernel_rfl) (fun _ _ _ h => h) (Or.inl ⟨by rfl, ?_⟩) (by assumption) ?_
      rotate_left
      · (intro w hSw; (try dsimp only at hSw); go_simp; try (with_reducible rfl))
      try simp only [Act.put, List.getElem_toArray, List.getElem_cons_zero, List.getElem_cons_succ, List.setIfInBounds_toArray, List.set_cons_zero, List.set_cons_succ]
      refine wpAnyH_take (i := 2) (v := ?_) rfl (by kernel_rfl) (by kernel_rfl) (by kernel_rfl) (fun _ _ _ h => h) (Or.inl ⟨by rfl, ?_⟩) (by assumption) ?_
      rotate_left
      · (intro w hSw; (try dsimp only at hSw); go_simp; try (with_reducible rfl))
      try simp only [Act.put, List.getElem_toArray, List.getElem_cons_zero, List.getElem_cons_succ, List.setIfInBounds_toArray, List.set_cons_zero, List.set_cons_succ]
      refine wpAnyH_take (i := 4) (v := ?_) rfl (by kernel_rfl) (by kernel_rfl) (by kernel_rfl) (fun _ _ _ h => h) (Or.inl ⟨by rfl, ?_⟩) (by assumption) ?_
      rotate_left
      · (intro w hSw; (try dsimp only at hSw); go_simp; try (with_reducible rfl))
      try simp only [Act.put, List.getElem_toArray, List.getElem_cons_zero, List.getElem_cons_succ, List.setIfInBounds_toArray, List.set_cons_zero, List.set_cons_succ]
      refine wpAnyH_take (i := 5) (v := ?_) rfl (by kernel_rfl) (by kernel_rfl) (by kernel_rfl) (fun _ _ _ h => h) (Or.inl ⟨by rfl, ?_⟩) (by assumption) ?_
      rotate_left
      · (intro w hSw; (try dsimp only at hSw); go_simp; try (with_reducible rfl))
      try simp only [Act.put, List.getElem_toArray, List.getElem_cons_zero, List.getElem_cons_succ, List.setIfInBounds_toArray, List.set_cons_zero, List.set_cons_succ]
      refine wpAnyH_take (i := 6) (v := ?_) rfl (by kernel_rfl) (by kernel_rfl) (by kernel_rfl) (fun _ _ _ h => h) (Or.inl ⟨by rfl, ?_⟩) (by assumption) ?_
      rotate_left
      · (intro w hSw; (try dsimp only at hSw); go_simp; try (with_reducible rfl))
      try simp only [Act.put, List.getElem_toArray, List.getElem_cons_zero, List.getElem_cons_succ, List.setIfInBounds_toArray, List.set_cons_zero, List.set_cons_succ]
      refine wpAnyH_take (i := 8) (v := ?_) rfl (by kernel_rfl) (by kernel_rfl) (by kernel_rfl) (fun _ _ _ h => h) (Or.inl ⟨by rfl, ?_⟩) (by assumption) ?_
      rotate_left
      · (intro w hSw; (try dsimp only at hSw); go_simp; try (with_reducible rfl))
      try simp only [Act.put, List.getElem_toArray, List.getElem_cons_zero, List.getElem_cons_succ, List.setIfInBounds_toArray, List.set_cons_zero, List.set_cons_succ]
      refine wpAnyH_take (i := 9) (v := ?_) rfl (by kernel_rfl) (by kernel_rfl) (by kernel_rfl) (fun _ _ _ h => h) (Or.inl ⟨by rfl, ?_⟩) (by assumption) ?_
      rotate_left
      · (intro w hSw; (try dsimp only at hSw); go_simp; try (with_reducible rfl))
      try simp only [Act.put, List.getElem_toArray, List.getElem_cons_zero, List.getElem_cons_succ, List.setIfInBounds_toArray, List.set_cons_zero, List.set_cons_succ]
      refine wpAnyH_take (i := 10) (v := ?_) rfl (by kernel_rfl) (by kernel_rfl) (by kernel_rfl) (fun _ _ _ h => h) (Or.inl ⟨by rfl, ?_⟩) (by assumption) ?_
      rotate_left
      · (intro w hSw; (try dsimp only at hSw); go_simp; try (with_reducible rfl))
      try simp only [Act.put, List.getElem_toArray, List.getElem_cons_zero, List.getElem_cons_succ, List.setIfInBounds_toArray, List.set_cons_zero, List.set_cons_succ]
      refine wpAnyH_take (i := 12) (v := ?_) rfl (by kernel_rfl) (by kernel_rfl) (by kernel_rfl) (fun _ _ _ h => h) (Or.inl ⟨by rfl, ?_⟩) (by assumption) ?_
      rotate_left
      · (intro w hSw; (try dsimp only at hSw); go_simp; try (with_reducible rfl))
      try simp only [Act.put, List.getElem_toArray, List.getElem_cons_zero, List.getElem_cons_succ, List.setIfInBounds_toArray, List.set_cons_zero, List.set_cons_succ]
      refine wpAnyH_take (i := 13) (v := ?_) rfl (by kernel_rfl) (by kernel_rfl) (by kernel_rfl) (fun _ _ _ h => h) (Or.inl ⟨by rfl, ?_⟩) (by assumption) ?_
      rotate_left
      · (intro w hSw; (try dsimp only at hSw); go_simp; try (with_reducible rfl))
      try simp only [Act.put, List.getElem_toArray, List.getElem_cons_zero, List.getElem_cons_succ, List.setIfInBounds_toArray, List.set_cons_zero, List.set_cons_succ]
      refine wpAnyH_take (i := 14) (v := ?_) rfl (by kernel_rfl) (by kernel_rfl) (by kernel_rfl) (fun _ _ _ h => h) (Or.inl ⟨by rfl, ?_⟩) (by assumption) ?_
      rotate_left
      · (intro w hSw; (try dsimp only at hSw); go_simp; try (with_reducible rfl))
      try simp only [Act.put, List.getElem_toArray, List.getElem_cons_zero, List.getElem_cons_succ, List.setIfInBounds_toArray, List.set_cons_zero, List.set_cons_succ]
      refine wpAnyH_ready (rs := [3]) (by kernel_rfl) (by simp) ?_
      refine (AllReadyH.cons rfl (fun K hK => ?_) AllReadyH.nil)
      · refine step_call rfl 46 #[.int .i64 W.x, .int .i64 4096] (by simp [go_sem]) (quant_any _ W.x 4096 (by omega) (by omega) (by have := HW.out.x; omega) (by have := HW.out.x; omega)) ?_
        rintro e w2 ⟨rfl, rfl⟩
        refine ⟨_, rfl, ?_⟩
        refine hK.out _ _ ?_ (fun hHeld => ?_)
        · (first | with_reducible exact zS | (simp [zS, hxy, Ne.symm hxy, go_sem]; done))
        clear hK K
        try simp only [Act.put, List.getElem_toArray, List.getElem_cons_zero, List.getElem_cons_succ, List.setIfInBounds_toArray, List.set_cons_zero, List.set_cons_succ]
        refine wpAnyH_ready (rs := [7]) (by kernel_rfl) (by simp) ?_
        refine (AllReadyH.cons rfl (fun K hK => ?_) AllReadyH.nil)
        · refine step_call rfl 46 #[.int .i64 W.y, .int .i64 4096] (by simp [go_sem]) (quant_any _ W.y 4096 (by omega) (by omega) (by have := HW.out.y; omega) (by have := HW.out.y; omega)) ?_
          rintro e w2 ⟨rfl, rfl⟩
          refine ⟨_, rfl, ?_⟩
          refine hK.out _ _ ?_ (fun hHeld => ?_)
          · (first | with_reducible exact zS | (simp [zS, hxy, Ne.symm hxy, go_sem]; done))
          clear hK K
          try simp only [Act.put, List.getElem_toArray, List.getElem_cons_zero, List.getElem_cons_succ, List.setIfInBounds_toArray, List.set_cons_zero, List.set_cons_succ]
          refine wpAnyH_ready (rs := [11]) (by kernel_rfl) (by simp) ?_
          refine (AllReadyH.cons rfl (fun K hK => ?_) AllReadyH.nil)
          · refine step_call rfl 46 #[.int .i64 W.co, .int .i64 512] (by simp [go_sem]) (quant_any _ W.co 512 (by omega) (by omega) (by have := HW.out.co; omega) (by have := HW.out.co; omega)) ?_
            rintro e w2 ⟨rfl, rfl⟩
            refine ⟨_, rfl, ?_⟩
            refine hK.out _ _ ?_ (fun hHeld => ?_)
            · (first | with_reducible exact zS | (simp [zS, hxy, Ne.symm hxy, go_sem]; done))
            clear hK K
            try simp only [Act.put, List.getElem_toArray, List.getElem_cons_zero, List.getElem_cons_succ, List.setIfInBounds_toArray, List.set_cons_zero, List.set_cons_succ]
            refine wpAnyH_ready (rs := [15]) (by kernel_rfl) (by simp) ?_
            refine (AllReadyH.cons rfl (fun K hK => ?_) AllReadyH.nil)
            · refine step_call rfl 46 #[.int .i64 W.sp, .int .i64 256] (by simp [go_sem]) (quant_any _ W.sp 256 (by omega) (by omega) (by have := HW.out.sp; omega) (by have := HW.out.sp; omega)) ?_
              rintro e w2 ⟨rfl, rfl⟩
              refine ⟨_, rfl, ?_⟩
              refine hK.out _ _ ?_ (fun hHeld => ?_)
              · (first | with_reducible exact zS | (simp [zS, hxy, Ne.symm hxy, go_sem]; done))
              clear hK K
              try simp only [Act.put, List.getElem_toArray, List.getElem_cons_zero, List.getElem_cons_succ, List.setIfInBounds_toArray, List.set_cons_zero, List.set_cons_succ]
              refine wpAnyH_take (i := 16) (v := ?_) rfl (by kernel_rfl) (by kernel_rfl) (by kernel_rfl) (fun _ _ _ h => h) (Or.inl ⟨by rfl, ?_⟩) (by assumption) ?_
              rotate_left
              · (intro w hSw; (try dsimp only at hSw); go_simp; try (with_reducible rfl))
              try simp only [Act.put, List.getElem_toArray, List.getElem_cons_zero, List.getElem_cons_succ, List.setIfInBounds_toArray, List.set_cons_zero, List.set_cons_succ]
              refine wpAnyH_ready (rs := [17]) (by kernel_rfl) (by simp) ?_
              refine (AllReadyH.cons rfl (fun K hK => ?_) AllReadyH.nil)
              · go_simp
                refine hK.out _ _ ?_ (fun hHeld => ?_)
                · (first | with_reducible exact zS | (simp [zS, hxy, Ne.symm hxy, go_sem]; done))
                clear hK K
                try simp only [Act.put, List.getElem_toArray, List.getElem_cons_zero, List.getElem_cons_succ, List.setIfInBounds_toArray, List.set_cons_zero, List.set_cons_succ]
                refine wpAnyH_done (by kernel_rfl) ?_ _
                have HB2 := hide (fr5 HB.out hxg (qzP W.x 4096) (qzP W.y 4096) (qzP W.co 512) (qzP W.sp 256))
                clear x0 x1 x2 x3 HB
                go_wp2
                exact bodyPost_ret (v := .agg #[.int .i64 0, .int .i64 (qzP W.x 4096), .int .i64 (qzP W.y 4096), .int .i64 (qzP W.co 512), .int .i64 (qzP W.sp 256), .int .i64 0, .int .i64 0]) (by simp [results, Try.results32, go_sem, r0, r1, r2, r3, r4, r5, r6]) rfl ⟨HE.out, HB2.out⟩
end Go.Proofs.Qxb6500777a
