import Derived.Test.Qxb6500777aFsd
namespace Go.Proofs.Qxb6500777a
open Go.RowKit

/-- What a team observes is the same. -/
def SameObs (D1 D2 : List Det) (W1 W2 : Nat → Tgt) (tm : Int) : Prop := ∀ t, t < 112 → fuseP D1 tm t = fuseP D2 tm t ∧ (0 < fuseP D1 tm t → lookP trk0 (W1 t) (fuseP D1 tm t) = lookP trk0 (W2 t) (fuseP D1 tm t))
def ObPost (w : World) (R : Prop) (e : Ending) (w' : World) : Prop := ∃ r : Bool, e = .returned (.bool r) ∧ (r = true → R) ∧ Below w.heap.size w w'
theorem ob_false {w w' : World} {R : Prop} (h : Below w.heap.size w w') : ObPost w R (.returned (.bool false)) w' := ⟨false, rfl, (fun z => by cases z), h⟩
theorem wcells {w : World} {p1 p2 : Nat} {W1 W2 : Nat → Tgt} (h1 : WA w p1 W1) (h2 : WA w p2 W2) {t : Nat} (ht : t < 112) : w.cell? ⟨p1, t * 4, none⟩ = some (.int .i64 (W1 t).x) ∧ w.cell? ⟨p1, t * 4 + 1, none⟩ = some (.int .i64 (W1 t).y) ∧ w.cell? ⟨p1, t * 4 + 2, none⟩ = some (.int .i64 (W1 t).co) ∧ w.cell? ⟨p1, t * 4 + 3, none⟩ = some (.int .i64 (W1 t).sp) ∧ w.cell? ⟨p2, t * 4, none⟩ = some (.int .i64 (W2 t).x) ∧ w.cell? ⟨p2, t * 4 + 1, none⟩ = some (.int .i64 (W2 t).y) ∧ w.cell? ⟨p2, t * 4 + 2, none⟩ = some (.int .i64 (W2 t).co) ∧ w.cell? ⟨p2, t * 4 + 3, none⟩ = some (.int .i64 (W2 t).sp) :=
  ⟨h1 t ht 0 _ rfl, h1 t ht 1 _ rfl, h1 t ht 2 _ rfl, h1 t ht 3 _ rfl, h2 t ht 0 _ rfl, h2 t ht 1 _ rfl, h2 t ht 2 _ rfl, h2 t ht 3 _ rfl⟩
theorem look_ext {A B : Trk} (n : A.num = B.num) (x : A.x = B.x) (y : A.y = B.y) (c : A.co = B.co) (s : A.sp = B.sp) (t : A.st = B.st) (g : A.ag = B.ag) : A = B := by
  cases A; cases B
  simp at *
  exact ⟨n, x, y, c, s, t, g⟩
theorem trk_ne {A B : Trk} (h : A ≠ B) (n : A.num = B.num) (t : A.st = B.st) (g : A.ag = B.ag) : ¬ A.x = B.x ∨ (A.x = B.x ∧ ¬ A.y = B.y) ∨ (A.x = B.x ∧ A.y = B.y ∧ ¬ A.co = B.co) ∨ (A.x = B.x ∧ A.y = B.y ∧ A.co = B.co ∧ ¬ A.sp = B.sp) := by
  by_cases h1 : A.x = B.x
  · by_cases h2 : A.y = B.y
    · by_cases h3 : A.co = B.co
      · by_cases h4 : A.sp = B.sp
        · exact absurd (look_ext n h1 h2 h3 h4 t g) h
        · exact .inr (.inr (.inr ⟨h1, h2, h3, h4⟩))
      · exact .inr (.inr (.inl ⟨h1, h2, h3⟩))
    · exact .inr (.inl ⟨h1, h2⟩)
  · exact .inl h1
set_option linter.unusedSimpArgs false in
set_option maxRecDepth 100000 in
set_option maxHeartbeats 8000000 in
/-- trackslaw.observed -/
theorem observed_any (w : World) (tm : Int) (a1 a2 : Option Addr) (n1 n2 c1 c2 p1 p2 : Nat) (D1 D2 : List Det) (W1 W2 : Nat → Tgt) (h1 : DA w a1 D1) (h2 : DA w a2 D2) (hn1 : n1 = D1.length) (hn2 : n2 = D2.length) (hl1 : n1 ≤ 1000000) (hl2 : n2 ≤ 1000000) (hW1 : WA w p1 W1) (hW2 : WA w p2 W2) (ho1 : ∀ t, t < 112 → TgtOk (W1 t)) (ho2 : ∀ t, t < 112 → TgtOk (W2 t)) :
    Calls Try.prog 37 #[.int .i64 tm, .slice a1 n1 c1, .slice a2 n2 c2, .pointer (some ⟨p1, 0, none⟩), .pointer (some ⟨p2, 0, none⟩)] w (ObPost w (SameObs D1 D2 W1 W2 tm)) := by
  have HD1 := hide h1
  have HD2 := hide h2
  have HN1 := hide hn1
  have HN2 := hide hn2
  have HW1 := hide hW1
  have HW2 := hide hW2
  have HO1 := hide ho1
  have HO2 := hide ho2
  clear h1 h2 hn1 hn2 hW1 hW2 ho1 ho2
  go_enter Try.func37, Try.ntmps37
  go_wp2
  go_loopw [11, 12] (fun s11 _ wx => ∃ t : Nat, t ≤ 112 ∧ s11 = .int .i64 t ∧ Hid (∀ i, i < t → fuseP D1 tm i = fuseP D2 tm i ∧ (0 < fuseP D1 tm i → lookP trk0 (W1 i) (fuseP D1 tm i) = lookP trk0 (W2 i) (fuseP D1 tm i))) ∧ Below w.heap.size w wx) (fun s11 _ _ => 112 - (intOf s11).toNat)
  case atStart => exact ⟨0, by omega, rfl, hide fun i hi => by omega, Below.refl _ _⟩
  case round =>
    obtain ⟨t, ht, rfl, HS, hb⟩ := hrel
    have HB := hide hb
    clear hb
    by_cases ht112 : t < 112
    · have ht112i : (t : Int) < 112 := by omega
      go_wp2_with fail
      refine (fused_any _ a1 n1 c1 D1 (HD1.out.below HB.out) HN1.out hl1 tm t ht112).mono ?_
      rintro e w2 ⟨rfl, rfl⟩
      obtain ⟨g, hg⟩ : ∃ g, fuseP D1 tm t = g := ⟨_, rfl⟩
      rw [hg]
      have HG := hide hg
      clear hg
      go_wp2_with fail
      refine (fused_any _ a2 n2 c2 D2 (HD2.out.below HB.out) HN2.out hl2 tm t ht112).mono ?_
      rintro e w2 ⟨rfl, rfl⟩
      by_cases he : g = fuseP D2 tm t
      · have heb : (g != fuseP D2 tm t) = false := by simp [he]
        have HE := hide he
        clear he
        by_cases hg0 : 0 < g
        · have zS := wcells (HW1.out.below HB.out) (HW2.out.below HB.out) ht112
          have cs1 := fun w => hide (seen_any w (W1 t) (HO1.out t ht112) g)
          have cs2 := fun w => hide (seen_any w (W2 t) (HO2.out t ht112) g)
          obtain ⟨A, hA⟩ : ∃ A, lookP trk0 (W1 t) g = A := ⟨_, rfl⟩
          obtain ⟨B, hB⟩ : ∃ B, lookP trk0 (W2 t) g = B := ⟨_, rfl⟩
          rw [hA] at cs1
          rw [hB] at cs2
          have HAB := hide (And.intro hA hB)
          clear hA hB
          by_cases hAB : A = B
          · subst hAB
            go_upto_region 7 with fail
            refine wp_region_held_drew (S := fun w' => w'.cell? ⟨p1, t * 4, none⟩ = some (.int .i64 (W1 t).x) ∧ w'.cell? ⟨p1, t * 4 + 1, none⟩ = some (.int .i64 (W1 t).y) ∧ w'.cell? ⟨p1, t * 4 + 2, none⟩ = some (.int .i64 (W1 t).co) ∧ w'.cell? ⟨p1, t * 4 + 3, none⟩ = some (.int .i64 (W1 t).sp) ∧ w'.cell? ⟨p2, t * 4, none⟩ = some (.int .i64 (W2 t).x) ∧ w'.cell? ⟨p2, t * 4 + 1, none⟩ = some (.int .i64 (W2 t).y) ∧ w'.cell? ⟨p2, t * 4 + 2, none⟩ = some (.int .i64 (W2 t).co) ∧ w'.cell? ⟨p2, t * 4 + 3, none⟩ = some (.int .i64 (W2 t).sp)) (by kernel_rfl) zS (fun hHeld => ?_)
            refine wpAnyH_take (i := 0) (v := ?_) rfl (by kernel_rfl) (by kernel_rfl) (by kernel_rfl) (fun _ _ _ h => h) (Or.inl ⟨by rfl, ?_⟩) (by assumption) ?_
            rotate_left
            · (intro w hSw; (try dsimp only at hSw); go_simp; try (with_reducible rfl))
            try simp only [Act.put, List.getElem_toArray, List.getElem_cons_zero, List.getElem_cons_succ, List.setIfInBounds_toArray, List.set_cons_zero, List.set_cons_succ]
            refine wpAnyH_take (i := 1) (v := ?_) rfl (by kernel_rfl) (by kernel_rfl) (by kernel_rfl) (fun _ _ _ h => h) (Or.inl ⟨by rfl, ?_⟩) (by assumption) ?_
            rotate_left
            · (intro w hSw; (try dsimp only at hSw); go_simp; try (with_reducible rfl))
            try simp only [Act.put, List.getElem_toArray, List.getElem_cons_zero, List.getElem_cons_succ, List.setIfInBounds_toArray, List.set_cons_zero, List.set_cons_succ]
            refine wpAnyH_take (i := 2) (v := ?_) rfl (by kernel_rfl) (by kernel_rfl) (by kernel_rfl) (fun _ _ _ h => h) (Or.inl ⟨by rfl, ?_⟩) (by assumption) ?_
            rotate_left
            · (intro w hSw; (try dsimp only at hSw); go_simp; try (with_reducible rfl))
            try simp only [Act.put, List.getElem_toArray, List.getElem_cons_zero, List.getElem_cons_succ, List.setIfInBounds_toArray, List.set_cons_zero, List.set_cons_succ]
            refine wpAnyH_take (i := 3) (v := ?_) rfl (by kernel_rfl) (by kernel_rfl) (by kernel_rfl) (fun _ _ _ h => h) (Or.inl ⟨by rfl, ?_⟩) (by assumption) ?_
            rotate_left
            · (intro w hSw; (try dsimp only at hSw); go_simp; try (with_reducible rfl))
            try simp only [Act.put, List.getElem_toArray, List.getElem_cons_zero, List.getElem_cons_succ, List.setIfInBounds_toArray, List.set_cons_zero, List.set_cons_succ]
            refine wpAnyH_take (i := 4) (v := ?_) rfl (by kernel_rfl) (by kernel_rfl) (by kernel_rfl) (fun _ _ _ h => h) (Or.inl ⟨by rfl, ?_⟩) (by assumption) ?_
            rotate_left
            · (intro w hSw; (try dsimp only at hSw); go_simp; try (with_reducible rfl))
            try simp only [Act.put, List.getElem_toArray, List.getElem_cons_zero, List.getElem_cons_succ, List.setIfInBounds_toArray, List.set_cons_zero, List.set_cons_succ]
            refine wpAnyH_take (i := 5) (v := ?_) rfl (by kernel_rfl) (by kernel_rfl) (by kernel_rfl) (fun _ _ _ h => h) (Or.inl ⟨by rfl, ?_⟩) (by assumption) ?_
            rotate_left
            · (intro w hSw; (try dsimp only at hSw); go_simp; try (with_reducible rfl))
            try simp only [Act.put, List.getElem_toArray, List.getElem_cons_zero, List.getElem_cons_succ, List.setIfInBounds_toArray, List.set_cons_zero, List.set_cons_succ]
            refine wpAnyH_take (i := 6) (v := ?_) rfl (by kernel_rfl) (by kernel_rfl) (by kernel_rfl) (fun _ _ _ h => h) (Or.inl ⟨by rfl, ?_⟩) (by assumption) ?_
            rotate_left
            · (intro w hSw; (try dsimp only at hSw); go_simp; try (with_reducible rfl))
            try simp only [Act.put, List.getElem_toArray, List.getElem_cons_zero, List.getElem_cons_succ, List.setIfInBounds_toArray, List.set_cons_zero, List.set_cons_succ]
            refine wpAnyH_take (i := 7) (v := ?_) rfl (by kernel_rfl) (by kernel_rfl) (by kernel_rfl) (fun _ _ _ h => h) (Or.inl ⟨by rfl, ?_⟩) (by assumption) ?_
            rotate_left
            · (intro w hSw; (try dsimp only at hSw); go_simp; try (with_reducible rfl))
            try simp only [Act.put, List.getElem_toArray, List.getElem_cons_zero, List.getElem_cons_succ, List.setIfInBounds_toArray, List.set_cons_zero, List.set_cons_succ]
            refine wpAnyH_take (i := 8) (v := ?_) rfl (by kernel_rfl) (by kernel_rfl) (by kernel_rfl) (fun _ _ _ h => h) (Or.inl ⟨by rfl, ?_⟩) (by assumption) ?_
            rotate_left
            · (intro w hSw; (try dsimp only at hSw); go_simp; try (with_reducible rfl))
            try simp only [Act.put, List.getElem_toArray, List.getElem_cons_zero, List.getElem_cons_succ, List.setIfInBounds_toArray, List.set_cons_zero, List.set_cons_succ]
            refine wpAnyH_take (i := 9) (v := ?_) rfl (by kernel_rfl) (by kernel_rfl) (by kernel_rfl) (fun _ _ _ h => h) (Or.inl ⟨by rfl, ?_⟩) (by assumption) ?_
            rotate_left
            · (intro w hSw; (try dsimp only at hSw); go_simp; try (with_reducible rfl))
            try simp only [Act.put, List.getElem_toArray, List.getElem_cons_zero, List.getElem_cons_succ, List.setIfInBounds_toArray, List.set_cons_zero, List.set_cons_succ]
            refine wpAnyH_take (i := 11) (v := ?_) rfl (by kernel_rfl) (by kernel_rfl) (by kernel_rfl) (fun _ _ _ h => h) (Or.inl ⟨by rfl, ?_⟩) (by assumption) ?_
            rotate_left
            · (intro w hSw; (try dsimp only at hSw); go_simp; try (with_reducible rfl))
            try simp only [Act.put, List.getElem_toArray, List.getElem_cons_zero, List.getElem_cons_succ, List.setIfInBounds_toArray, List.set_cons_zero, List.set_cons_succ]
            refine wpAnyH_take (i := 12) (v := ?_) rfl (by kernel_rfl) (by kernel_rfl) (by kernel_rfl) (fun _ _ _ h => h) (Or.inl ⟨by rfl, ?_⟩) (by assumption) ?_
            rotate_left
            · (intro w hSw; (try dsimp only at hSw); go_simp; try (with_reducible rfl))
            try simp only [Act.put, List.getElem_toArray, List.getElem_cons_zero, List.getElem_cons_succ, List.setIfInBounds_toArray, List.set_cons_zero, List.set_cons_succ]
            refine wpAnyH_take (i := 13) (v := ?_) rfl (by kernel_rfl) (by kernel_rfl) (by kernel_rfl) (fun _ _ _ h => h) (Or.inl ⟨by rfl, ?_⟩) (by assumption) ?_
            rotate_left
            · (intro w hSw; (try dsimp only at hSw); go_simp; try (with_reducible rfl))
            try simp only [Act.put, List.getElem_toArray, List.getElem_cons_zero, List.getElem_cons_succ, List.setIfInBounds_toArray, List.set_cons_zero, List.set_cons_succ]
            refine wpAnyH_take (i := 14) (v := ?_) rfl (by kernel_rfl) (by kernel_rfl) (by kernel_rfl) (fun _ _ _ h => h) (Or.inl ⟨by rfl, ?_⟩) (by assumption) ?_
            rotate_left
            · (intro w hSw; (try dsimp only at hSw); go_simp; try (with_reducible rfl))
            try simp only [Act.put, List.getElem_toArray, List.getElem_cons_zero, List.getElem_cons_succ, List.setIfInBounds_toArray, List.set_cons_zero, List.set_cons_succ]
            refine wpAnyH_take (i := 15) (v := ?_) rfl (by kernel_rfl) (by kernel_rfl) (by kernel_rfl) (fun _ _ _ h => h) (Or.inl ⟨by rfl, ?_⟩) (by assumption) ?_
            rotate_left
            · (intro w hSw; (try dsimp only at hSw); go_simp; try (with_reducible rfl))
            try simp only [Act.put, List.getElem_toArray, List.getElem_cons_zero, List.getElem_cons_succ, List.setIfInBounds_toArray, List.set_cons_zero, List.set_cons_succ]
            refine wpAnyH_take (i := 16) (v := ?_) rfl (by kernel_rfl) (by kernel_rfl) (by kernel_rfl) (fun _ _ _ h => h) (Or.inl ⟨by rfl, ?_⟩) (by assumption) ?_
            rotate_left
            · (intro w hSw; (try dsimp only at hSw); go_simp; try (with_reducible rfl))
            try simp only [Act.put, List.getElem_toArray, List.getElem_cons_zero, List.getElem_cons_succ, List.setIfInBounds_toArray, List.set_cons_zero, List.set_cons_succ]
            refine wpAnyH_take (i := 17) (v := ?_) rfl (by kernel_rfl) (by kernel_rfl) (by kernel_rfl) (fun _ _ _ h => h) (Or.inl ⟨by rfl, ?_⟩) (by assumption) ?_
            rotate_left
            · (intro w hSw; (try dsimp only at hSw); go_simp; try (with_reducible rfl))
            try simp only [Act.put, List.getElem_toArray, List.getElem_cons_zero, List.getElem_cons_succ, List.setIfInBounds_toArray, List.set_cons_zero, List.set_cons_succ]
            refine wpAnyH_ready (rs := [10]) (by kernel_rfl) (by simp) ?_
            refine (AllReadyH.cons rfl (fun K hK => ?_) AllReadyH.nil)
            · refine step_call_g (by rfl) 32 #[.agg #[.int .i64 (W1 t).x, .int .i64 (W1 t).y, .int .i64 (W1 t).co, .int .i64 (W1 t).sp], .int .i64 g] (by simp [go_sem]) (cs1 _).out ?_
              rintro e w3 ⟨rfl, q3⟩
              replace q3 := of_drew q3
              have HB3 := hide (lec HB.out q3)
              have z3 := wcells (HW1.out.below HB3.out) (HW2.out.below HB3.out) ht112
              clear q3
              refine ⟨_, rfl, ?_⟩
              refine hK.out _ _ ?_ (fun hHeld => ?_)
              · (first | with_reducible exact zS | with_reducible exact z3 | with_reducible exact z4)
              clear hK K
              try simp only [Act.put, List.getElem_toArray, List.getElem_cons_zero, List.getElem_cons_succ, List.setIfInBounds_toArray, List.set_cons_zero, List.set_cons_succ]
              refine wpAnyH_ready (rs := [18]) (by kernel_rfl) (by simp) ?_
              refine (AllReadyH.cons rfl (fun K hK => ?_) AllReadyH.nil)
              · refine step_call_g (by rfl) 32 #[.agg #[.int .i64 (W2 t).x, .int .i64 (W2 t).y, .int .i64 (W2 t).co, .int .i64 (W2 t).sp], .int .i64 g] (by simp [go_sem]) (cs2 _).out ?_
                rintro e w4 ⟨rfl, q4⟩
                have HB4 := hide (lec HB3.out q4)
                have z4 := wcells (HW1.out.below HB4.out) (HW2.out.below HB4.out) ht112
                clear q4
                refine ⟨_, rfl, ?_⟩
                refine hK.out _ _ ?_ (fun hHeld => ?_)
                · (first | with_reducible exact zS | with_reducible exact z3 | with_reducible exact z4)
                clear hK K
                try simp only [Act.put, List.getElem_toArray, List.getElem_cons_zero, List.getElem_cons_succ, List.setIfInBounds_toArray, List.set_cons_zero, List.set_cons_succ]
                refine wpAnyH_take (i := 19) (v := ?_) rfl (by kernel_rfl) (by kernel_rfl) (by kernel_rfl) (fun _ _ _ h => h) (Or.inl ⟨by rfl, ?_⟩) (by assumption) ?_
                rotate_left
                · (intro w hSw; (try dsimp only at hSw); go_simp; try (with_reducible rfl))
                try simp only [Act.put, List.getElem_toArray, List.getElem_cons_zero, List.getElem_cons_succ, List.setIfInBounds_toArray, List.set_cons_zero, List.set_cons_succ]
                refine wpAnyH_take (i := 20) (v := ?_) rfl (by kernel_rfl) (by kernel_rfl) (by kernel_rfl) (fun _ _ _ h => h) (Or.inl ⟨by rfl, ?_⟩) (by assumption) ?_
                rotate_left
                · (intro w hSw; (try dsimp only at hSw); go_simp; try (with_reducible rfl))
                try simp only [Act.put, List.getElem_toArray, List.getElem_cons_zero, List.getElem_cons_succ, List.setIfInBounds_toArray, List.set_cons_zero, List.set_cons_succ]
                refine wpAnyH_done (by kernel_rfl) ?_ _
                clear zS z3 z4 cs1 cs2 HB HB3
                go_wp2
                go_roundw
                case rel => exact ⟨t + 1, by omega, by simp, hide fun i hi => by rcases (by omega : i < t ∨ i = t) with z | rfl; exact HS.out i z; exact ⟨by rw [HG.out]; exact HE.out, fun z => by rw [HG.out, HAB.out.1, HAB.out.2]⟩, HB4.out⟩
                case measure => simp [intOf]; omega
          · have hnm : A.num = B.num ∧ A.st = B.st ∧ A.ag = B.ag := by rw [← HAB.out.1, ← HAB.out.2]; exact ⟨rfl, rfl, rfl⟩
            obtain ⟨hnm, hsm, hgm⟩ := hnm
            rcases trk_ne hAB hnm hsm hgm with h | ⟨h1, h⟩ | ⟨h1, h2, h⟩ | ⟨h1, h2, h3, h⟩
            all_goals
              clear hAB
              go_upto_region 7 with fail
              refine wp_region_held_drew (S := fun w' => w'.cell? ⟨p1, t * 4, none⟩ = some (.int .i64 (W1 t).x) ∧ w'.cell? ⟨p1, t * 4 + 1, none⟩ = some (.int .i64 (W1 t).y) ∧ w'.cell? ⟨p1, t * 4 + 2, none⟩ = some (.int .i64 (W1 t).co) ∧ w'.cell? ⟨p1, t * 4 + 3, none⟩ = some (.int .i64 (W1 t).sp) ∧ w'.cell? ⟨p2, t * 4, none⟩ = some (.int .i64 (W2 t).x) ∧ w'.cell? ⟨p2, t * 4 + 1, none⟩ = some (.int .i64 (W2 t).y) ∧ w'.cell? ⟨p2, t * 4 + 2, none⟩ = some (.int .i64 (W2 t).co) ∧ w'.cell? ⟨p2, t * 4 + 3, none⟩ = some (.int .i64 (W2 t).sp)) (by kernel_rfl) zS (fun hHeld => ?_)
              refine wpAnyH_take (i := 0) (v := ?_) rfl (by kernel_rfl) (by kernel_rfl) (by kernel_rfl) (fun _ _ _ h => h) (Or.inl ⟨by rfl, ?_⟩) (by assumption) ?_
              rotate_left
              · (intro w hSw; (try dsimp only at hSw); go_simp; try (with_reducible rfl))
              try simp only [Act.put, List.getElem_toArray, List.getElem_cons_zero, List.getElem_cons_succ, List.setIfInBounds_toArray, List.set_cons_zero, List.set_cons_succ]
              refine wpAnyH_take (i := 1) (v := ?_) rfl (by kernel_rfl) (by kernel_rfl) (by kernel_rfl) (fun _ _ _ h => h) (Or.inl ⟨by rfl, ?_⟩) (by assumption) ?_
              rotate_left
              · (intro w hSw; (try dsimp only at hSw); go_simp; try (with_reducible rfl))
              try simp only [Act.put, List.getElem_toArray, List.getElem_cons_zero, List.getElem_cons_succ, List.setIfInBounds_toArray, List.set_cons_zero, List.set_cons_succ]
              refine wpAnyH_take (i := 2) (v := ?_) rfl (by kernel_rfl) (by kernel_rfl) (by kernel_rfl) (fun _ _ _ h => h) (Or.inl ⟨by rfl, ?_⟩) (by assumption) ?_
              rotate_left
              · (intro w hSw; (try dsimp only at hSw); go_simp; try (with_reducible rfl))
              try simp only [Act.put, List.getElem_toArray, List.getElem_cons_zero, List.getElem_cons_succ, List.setIfInBounds_toArray, List.set_cons_zero, List.set_cons_succ]
              refine wpAnyH_take (i := 3) (v := ?_) rfl (by kernel_rfl) (by kernel_rfl) (by kernel_rfl) (fun _ _ _ h => h) (Or.inl ⟨by rfl, ?_⟩) (by assumption) ?_
              rotate_left
              · (intro w hSw; (try dsimp only at hSw); go_simp; try (with_reducible rfl))
              try simp only [Act.put, List.getElem_toArray, List.getElem_cons_zero, List.getElem_cons_succ, List.setIfInBounds_toArray, List.set_cons_zero, List.set_cons_succ]
              refine wpAnyH_take (i := 4) (v := ?_) rfl (by kernel_rfl) (by kernel_rfl) (by kernel_rfl) (fun _ _ _ h => h) (Or.inl ⟨by rfl, ?_⟩) (by assumption) ?_
              rotate_left
              · (intro w hSw; (try dsimp only at hSw); go_simp; try (with_reducible rfl))
              try simp only [Act.put, List.getElem_toArray, List.getElem_cons_zero, List.getElem_cons_succ, List.setIfInBounds_toArray, List.set_cons_zero, List.set_cons_succ]
              refine wpAnyH_take (i := 5) (v := ?_) rfl (by kernel_rfl) (by kernel_rfl) (by kernel_rfl) (fun _ _ _ h => h) (Or.inl ⟨by rfl, ?_⟩) (by assumption) ?_
              rotate_left
              · (intro w hSw; (try dsimp only at hSw); go_simp; try (with_reducible rfl))
              try simp only [Act.put, List.getElem_toArray, List.getElem_cons_zero, List.getElem_cons_succ, List.setIfInBounds_toArray, List.set_cons_zero, List.set_cons_succ]
              refine wpAnyH_take (i := 6) (v := ?_) rfl (by kernel_rfl) (by kernel_rfl) (by kernel_rfl) (fun _ _ _ h => h) (Or.inl ⟨by rfl, ?_⟩) (by assumption) ?_
              rotate_left
              · (intro w hSw; (try dsimp only at hSw); go_simp; try (with_reducible rfl))
              try simp only [Act.put, List.getElem_toArray, List.getElem_cons_zero, List.getElem_cons_succ, List.setIfInBounds_toArray, List.set_cons_zero, List.set_cons_succ]
              refine wpAnyH_take (i := 7) (v := ?_) rfl (by kernel_rfl) (by kernel_rfl) (by kernel_rfl) (fun _ _ _ h => h) (Or.inl ⟨by rfl, ?_⟩) (by assumption) ?_
              rotate_left
              · (intro w hSw; (try dsimp only at hSw); go_simp; try (with_reducible rfl))
              try simp only [Act.put, List.getElem_toArray, List.getElem_cons_zero, List.getElem_cons_succ, List.setIfInBounds_toArray, List.set_cons_zero, List.set_cons_succ]
              refine wpAnyH_take (i := 8) (v := ?_) rfl (by kernel_rfl) (by kernel_rfl) (by kernel_rfl) (fun _ _ _ h => h) (Or.inl ⟨by rfl, ?_⟩) (by assumption) ?_
              rotate_left
              · (intro w hSw; (try dsimp only at hSw); go_simp; try (with_reducible rfl))
              try simp only [Act.put, List.getElem_toArray, List.getElem_cons_zero, List.getElem_cons_succ, List.setIfInBounds_toArray, List.set_cons_zero, List.set_cons_succ]
              refine wpAnyH_take (i := 9) (v := ?_) rfl (by kernel_rfl) (by kernel_rfl) (by kernel_rfl) (fun _ _ _ h => h) (Or.inl ⟨by rfl, ?_⟩) (by assumption) ?_
              rotate_left
              · (intro w hSw; (try dsimp only at hSw); go_simp; try (with_reducible rfl))
              try simp only [Act.put, List.getElem_toArray, List.getElem_cons_zero, List.getElem_cons_succ, List.setIfInBounds_toArray, List.set_cons_zero, List.set_cons_succ]
              refine wpAnyH_take (i := 11) (v := ?_) rfl (by kernel_rfl) (by kernel_rfl) (by kernel_rfl) (fun _ _ _ h => h) (Or.inl ⟨by rfl, ?_⟩) (by assumption) ?_
              rotate_left
              · (intro w hSw; (try dsimp only at hSw); go_simp; try (with_reducible rfl))
              try simp only [Act.put, List.getElem_toArray, List.getElem_cons_zero, List.getElem_cons_succ, List.setIfInBounds_toArray, List.set_cons_zero, List.set_cons_succ]
              refine wpAnyH_take (i := 12) (v := ?_) rfl (by kernel_rfl) (by kernel_rfl) (by kernel_rfl) (fun _ _ _ h => h) (Or.inl ⟨by rfl, ?_⟩) (by assumption) ?_
              rotate_left
              · (intro w hSw; (try dsimp only at hSw); go_simp; try (with_reducible rfl))
              try simp only [Act.put, List.getElem_toArray, List.getElem_cons_zero, List.getElem_cons_succ, List.setIfInBounds_toArray, List.set_cons_zero, List.set_cons_succ]
              refine wpAnyH_take (i := 13) (v := ?_) rfl (by kernel_rfl) (by kernel_rfl) (by kernel_rfl) (fun _ _ _ h => h) (Or.inl ⟨by rfl, ?_⟩) (by assumption) ?_
              rotate_left
              · (intro w hSw; (try dsimp only at hSw); go_simp; try (with_reducible rfl))
              try simp only [Act.put, List.getElem_toArray, List.getElem_cons_zero, List.getElem_cons_succ, List.setIfInBounds_toArray, List.set_cons_zero, List.set_cons_succ]
              refine wpAnyH_take (i := 14) (v := ?_) rfl (by kernel_rfl) (by kernel_rfl) (by kernel_rfl) (fun _ _ _ h => h) (Or.inl ⟨by rfl, ?_⟩) (by assumption) ?_
              rotate_left
              · (intro w hSw; (try dsimp only at hSw); go_simp; try (with_reducible rfl))
              try simp only [Act.put, List.getElem_toArray, List.getElem_cons_zero, List.getElem_cons_succ, List.setIfInBounds_toArray, List.set_cons_zero, List.set_cons_succ]
              refine wpAnyH_take (i := 15) (v := ?_) rfl (by kernel_rfl) (by kernel_rfl) (by kernel_rfl) (fun _ _ _ h => h) (Or.inl ⟨by rfl, ?_⟩) (by assumption) ?_
              rotate_left
              · (intro w hSw; (try dsimp only at hSw); go_simp; try (with_reducible rfl))
              try simp only [Act.put, List.getElem_toArray, List.getElem_cons_zero, List.getElem_cons_succ, List.setIfInBounds_toArray, List.set_cons_zero, List.set_cons_succ]
              refine wpAnyH_take (i := 16) (v := ?_) rfl (by kernel_rfl) (by kernel_rfl) (by kernel_rfl) (fun _ _ _ h => h) (Or.inl ⟨by rfl, ?_⟩) (by assumption) ?_
              rotate_left
              · (intro w hSw; (try dsimp only at hSw); go_simp; try (with_reducible rfl))
              try simp only [Act.put, List.getElem_toArray, List.getElem_cons_zero, List.getElem_cons_succ, List.setIfInBounds_toArray, List.set_cons_zero, List.set_cons_succ]
              refine wpAnyH_take (i := 17) (v := ?_) rfl (by kernel_rfl) (by kernel_rfl) (by kernel_rfl) (fun _ _ _ h => h) (Or.inl ⟨by rfl, ?_⟩) (by assumption) ?_
              rotate_left
              · (intro w hSw; (try dsimp only at hSw); go_simp; try (with_reducible rfl))
              try simp only [Act.put, List.getElem_toArray, List.getElem_cons_zero, List.getElem_cons_succ, List.setIfInBounds_toArray, List.set_cons_zero, List.set_cons_succ]
              refine wpAnyH_ready (rs := [10]) (by kernel_rfl) (by simp) ?_
              refine (AllReadyH.cons rfl (fun K hK => ?_) AllReadyH.nil)
              · refine step_call_g (by rfl) 32 #[.agg #[.int .i64 (W1 t).x, .int .i64 (W1 t).y, .int .i64 (W1 t).co, .int .i64 (W1 t).sp], .int .i64 g] (by simp [go_sem]) (cs1 _).out ?_
                rintro e w3 ⟨rfl, q3⟩
                replace q3 := of_drew q3
                have HB3 := hide (lec HB.out q3)
                have z3 := wcells (HW1.out.below HB3.out) (HW2.out.below HB3.out) ht112
                clear q3
                refine ⟨_, rfl, ?_⟩
                refine hK.out _ _ ?_ (fun hHeld => ?_)
                · (first | with_reducible exact zS | with_reducible exact z3 | with_reducible exact z4)
                clear hK K
                try simp only [Act.put, List.getElem_toArray, List.getElem_cons_zero, List.getElem_cons_succ, List.setIfInBounds_toArray, List.set_cons_zero, List.set_cons_succ]
                refine wpAnyH_ready (rs := [18]) (by kernel_rfl) (by simp) ?_
                refine (AllReadyH.cons rfl (fun K hK => ?_) AllReadyH.nil)
                · refine step_call_g (by rfl) 32 #[.agg #[.int .i64 (W2 t).x, .int .i64 (W2 t).y, .int .i64 (W2 t).co, .int .i64 (W2 t).sp], .int .i64 g] (by simp [go_sem]) (cs2 _).out ?_
                  rintro e w4 ⟨rfl, q4⟩
                  have HB4 := hide (lec HB3.out q4)
                  have z4 := wcells (HW1.out.below HB4.out) (HW2.out.below HB4.out) ht112
                  clear q4
                  refine ⟨_, rfl, ?_⟩
                  refine hK.out _ _ ?_ (fun hHeld => ?_)
                  · (first | with_reducible exact zS | with_reducible exact z3 | with_reducible exact z4)
                  clear hK K
                  try simp only [Act.put, List.getElem_toArray, List.getElem_cons_zero, List.getElem_cons_succ, List.setIfInBounds_toArray, List.set_cons_zero, List.set_cons_succ]
                  refine wpAnyH_take (i := 19) (v := ?_) rfl (by kernel_rfl) (by kernel_rfl) (by kernel_rfl) (fun _ _ _ h => h) (Or.inl ⟨by rfl, ?_⟩) (by assumption) ?_
                  rotate_left
                  · (intro w hSw; (try dsimp only at hSw); go_simp; try (with_reducible rfl))
                  try simp only [Act.put, List.getElem_toArray, List.getElem_cons_zero, List.getElem_cons_succ, List.setIfInBounds_toArray, List.set_cons_zero, List.set_cons_succ]
                  refine wpAnyH_take (i := 20) (v := ?_) rfl (by kernel_rfl) (by kernel_rfl) (by kernel_rfl) (fun _ _ _ h => h) (Or.inl ⟨by rfl, ?_⟩) (by assumption) ?_
                  rotate_left
                  · (intro w hSw; (try dsimp only at hSw); go_simp; try (with_reducible rfl))
                  try simp only [Act.put, List.getElem_toArray, List.getElem_cons_zero, List.getElem_cons_succ, List.setIfInBounds_toArray, List.set_cons_zero, List.set_cons_succ]
                  refine wpAnyH_done (by kernel_rfl) ?_ _
                  clear zS z3 z4 cs1 cs2 HB HB3
                  go_wp2
                  go_ret
                  exact ob_false HB4.out
        · have hgd : decide (0 < g) = false := by simp; omega
          go_upto_region 7 with fail
          go_quiet (fail)
          rename_i nq
          have HB2 := hide (lec HB.out (belN _ nq))
          go_wp2
          go_roundw
          case rel => exact ⟨t + 1, by omega, by simp, hide fun i hi => by rcases (by omega : i < t ∨ i = t) with z | rfl; exact HS.out i z; exact ⟨by rw [HG.out]; exact HE.out, fun z => by rw [HG.out] at z; omega⟩, HB2.out⟩
          case measure => simp [intOf]; omega
      · have heb : (g != fuseP D2 tm t) = true := by simp [he]
        clear he
        go_wp2
        go_ret
        exact ob_false HB.out
    · obtain rfl : t = 112 := by omega
      rw [show ((112 : Nat) : Int) = 112 from rfl]
      go_wp2
      go_ret
      exact (show ObPost w _ _ _ from ⟨true, rfl, fun _ => HS.out, HB.out⟩)
end Go.Proofs.Qxb6500777a
