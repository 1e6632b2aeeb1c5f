import Derived.Test.Qxb6500784aSk
namespace Go.Proofs.Qxb6500784a
open Go.RowKit

theorem Try.sz45 : (Try.prog.info? 45).map (·.size) = some 256 := by kernel_rfl
theorem Try.sz46 : (Try.prog.info? 46).map (·.size) = some 64 := by kernel_rfl
theorem LA.bals {w : World} {b o : Nat} {l : Led0} {sv : List Led0} {B : List Nat} (h : LA w b o l sv B) : w.rangeAt b (o + 1) (u64s l.bal) ∧ w.rangeAt b (o + 257) (u64s l.non) := by
  have hk := h.ok
  refine ⟨fun j v hv => ?_, fun j v hv => ?_⟩
  · rw [u64s_at] at hv
    cases hj : l.bal[j]? with
    | none => rw [hj] at hv; cases hv
    | some x =>
      rw [hj] at hv
      injection hv with hv
      rw [show o + 1 + j = o + (1 + j) by omega, ← hv]
      exact h.cell (fun m s => Led0.atB m s hj)
  · rw [u64s_at] at hv
    cases hj : l.non[j]? with
    | none => rw [hj] at hv; cases hv
    | some x =>
      rw [hj] at hv
      injection hv with hv
      rw [show o + 257 + j = o + (257 + j) by omega, ← hv]
      exact h.cell (fun m s => Led0.atN hk m s hj)
attribute [-simp] Try.isAgg45 Try.sizeOf45 Try.typeInfo45 Try.isAgg46 Try.sizeOf46 Try.typeInfo46
set_option linter.unusedSimpArgs false in
set_option maxRecDepth 100000 in
set_option maxHeartbeats 8000000 in
theorem sameL_gen (w : World) (b1 o1 b2 o2 : Nat) (l : Led0) (sv : List Led0) (B1 B2 : List Nat) (h1 : LA w b1 o1 l sv B1) (h2 : LA w b2 o2 l sv B2) (hsm : l.mks.length ≤ 1000000000000) (hsv : ∀ x, x ∈ sv → x.mks.length ≤ 1000000000000) (hsl : sv.length ≤ 1000)
    (hrec : sv ≠ [] → ∀ (w : World) (b1 o1 b2 o2 : Nat) (l : Led0) (B1 B2 : List Nat), LA w b1 o1 l [] B1 → LA w b2 o2 l [] B2 → l.mks.length ≤ 1000000000000 → Calls Try.prog 55 #[.pointer (some ⟨b1, o1, none⟩), .pointer (some ⟨b2, o2, none⟩)] w fun e w' => e = .returned (.bool true) ∧ Below w.heap.size w w') :
    Calls Try.prog 55 #[.pointer (some ⟨b1, o1, none⟩), .pointer (some ⟨b2, o2, none⟩)] w fun e w' => e = .returned (.bool true) ∧ Below w.heap.size w w' := by
  have HREC := hide hrec
  have HSV := hide hsv
  clear hrec hsv
  have H1 := hide h1
  have H2 := hide h2
  have he45 : ∀ w, (Op.equalIn 10000 45 (.agg (u64s l.bal).toArray) (.agg (u64s l.bal).toArray)).run Try.prog w = .ok true w := fun w => eq45 w h1.ok 9998
  have he46 : ∀ w, (Op.equalIn 10000 46 (.agg (u64s l.non).toArray) (.agg (u64s l.non).toArray)).run Try.prog w = .ok true w := fun w => eq46 w h1.ok 9998
  have HVb : Hid ((u64s l.bal).length = 256) := by simp [Hid, u64s, h1.ok.bl]
  have HVn : Hid ((u64s l.non).length = 64) := by simp [Hid, u64s, h1.ok.nl]
  have HS : Hid (w.drew.cell? ⟨b1, o1, none⟩ = some (.int .u8 l.ch) ∧ w.drew.cell? ⟨b2, o2, none⟩ = some (.int .u8 l.ch) ∧ w.drew.rangeAt b1 (o1 + 1) (u64s l.bal) ∧ w.drew.rangeAt b2 (o2 + 1) (u64s l.bal) ∧ w.drew.rangeAt b1 (o1 + 257) (u64s l.non) ∧ w.drew.rangeAt b2 (o2 + 257) (u64s l.non)) :=
    ⟨h1.cell (j := 0) (fun m s => l.at0 m s), h2.cell (j := 0) (fun m s => l.at0 m s), h1.bals.1, h2.bals.1, h1.bals.2, h2.bals.2⟩
  clear h1 h2
  generalize u64s l.bal = Vb at *
  generalize u64s l.non = Vn at *
  obtain ⟨ch, hch⟩ : ∃ c, l.ch = c := ⟨_, rfl⟩
  rw [hch] at HS
  clear hch
  go_enter Try.func55, Try.ntmps55
  go_upto_region 1 with fail
  have hz45 := Try.sizeOf45
  have hz46 := Try.sizeOf46
  refine wp_region_held_drew (S := fun w' => w'.cell? ⟨b1, o1, none⟩ = some (.int .u8 ch) ∧ w'.cell? ⟨b2, o2, none⟩ = some (.int .u8 ch) ∧ w'.rangeAt b1 (o1 + 1) Vb ∧ w'.rangeAt b2 (o2 + 1) Vb ∧ w'.rangeAt b1 (o1 + 257) Vn ∧ w'.rangeAt b2 (o2 + 257) Vn) (by kernel_rfl) HS.out (fun hHeld => ?_)
  refine wpAnyH_take (i := 0) (v := ?_) rfl (by kernel_rfl) (by kernel_rfl) (by kernel_rfl) (fun _ _ _ h => h) (Or.inl ⟨by rfl, ?_⟩) (by assumption) ?_
  rotate_left
  · (intro w hSw; (try dsimp only at hSw); go_simp; try (with_reducible rfl))
  try simp only [Act.put, List.getElem_toArray, List.getElem_cons_zero, List.getElem_cons_succ, List.setIfInBounds_toArray, List.set_cons_zero, List.set_cons_succ]
  refine wpAnyH_take (i := 1) (v := ?_) rfl (by kernel_rfl) (by kernel_rfl) (by kernel_rfl) (fun _ _ _ h => h) (Or.inl ⟨by rfl, ?_⟩) (by assumption) ?_
  rotate_left
  · (intro w hSw; (try dsimp only at hSw); go_simp; try (with_reducible rfl))
  try simp only [Act.put, List.getElem_toArray, List.getElem_cons_zero, List.getElem_cons_succ, List.setIfInBounds_toArray, List.set_cons_zero, List.set_cons_succ]
  refine wpAnyH_take (i := 2) (v := ?_) rfl (by kernel_rfl) (by kernel_rfl) (by kernel_rfl) (fun _ _ _ h => h) (Or.inl ⟨by rfl, ?_⟩) (by assumption) ?_
  rotate_left
  · (intro w hSw; (try dsimp only at hSw); go_simp; try (with_reducible rfl))
  try simp only [Act.put, List.getElem_toArray, List.getElem_cons_zero, List.getElem_cons_succ, List.setIfInBounds_toArray, List.set_cons_zero, List.set_cons_succ]
  refine wpAnyH_take (i := 3) (v := ?_) rfl (by kernel_rfl) (by kernel_rfl) (by kernel_rfl) (fun _ _ _ h => h) (Or.inl ⟨by rfl, ?_⟩) (by assumption) ?_
  rotate_left
  · (intro w hSw; (try dsimp only at hSw); go_simp; try (with_reducible rfl))
  try simp only [Act.put, List.getElem_toArray, List.getElem_cons_zero, List.getElem_cons_succ, List.setIfInBounds_toArray, List.set_cons_zero, List.set_cons_succ]
  refine wpAnyH_take (i := 4) (v := ?_) rfl (by kernel_rfl) (by kernel_rfl) (by kernel_rfl) (fun _ _ _ h => h) (Or.inl ⟨by rfl, ?_⟩) (by assumption) ?_
  rotate_left
  · (intro w hSw; (try dsimp only at hSw); go_simp; try (with_reducible rfl))
  try simp only [Act.put, List.getElem_toArray, List.getElem_cons_zero, List.getElem_cons_succ, List.setIfInBounds_toArray, List.set_cons_zero, List.set_cons_succ]
  refine wpAnyH_take (i := 5) (v := ?_) rfl (by kernel_rfl) (by kernel_rfl) (by kernel_rfl) (fun _ _ _ h => h) (Or.inl ⟨by rfl, ?_⟩) (by assumption) ?_
  rotate_left
  · (intro w hSw; (try dsimp only at hSw); go_simp; try (with_reducible rfl))
  try simp only [Act.put, List.getElem_toArray, List.getElem_cons_zero, List.getElem_cons_succ, List.setIfInBounds_toArray, List.set_cons_zero, List.set_cons_succ]
  refine wpAnyH_take (i := 6) (v := ?_) rfl (by kernel_rfl) (by kernel_rfl) (by kernel_rfl) (fun _ _ _ h => h) (Or.inl ⟨by rfl, ?_⟩) (by assumption) ?_
  rotate_left
  · (intro w hSw; (try dsimp only at hSw); go_simp; try (with_reducible rfl))
  try simp only [Act.put, List.getElem_toArray, List.getElem_cons_zero, List.getElem_cons_succ, List.setIfInBounds_toArray, List.set_cons_zero, List.set_cons_succ]
  refine wpAnyH_take (i := 7) (v := ?_) rfl (by kernel_rfl) (by kernel_rfl) (by kernel_rfl) (fun _ _ _ h => h) (Or.inl ⟨by rfl, ?_⟩) (by assumption) ?_
  rotate_left
  · (intro w hSw; (try dsimp only at hSw); go_simp; try (with_reducible rfl))
  try simp only [Act.put, List.getElem_toArray, List.getElem_cons_zero, List.getElem_cons_succ, List.setIfInBounds_toArray, List.set_cons_zero, List.set_cons_succ]
  refine wpAnyH_take (i := 8) (v := ?_) rfl (by kernel_rfl) (by kernel_rfl) (by kernel_rfl) (fun _ _ _ h => h) (Or.inl ⟨by rfl, ?_⟩) (by assumption) ?_
  rotate_left
  · (intro w hSw; (try dsimp only at hSw); go_simp; try (with_reducible rfl))
  try simp only [Act.put, List.getElem_toArray, List.getElem_cons_zero, List.getElem_cons_succ, List.setIfInBounds_toArray, List.set_cons_zero, List.set_cons_succ]
  refine wpAnyH_take (i := 9) (v := ?_) rfl (by kernel_rfl) (by kernel_rfl) (by kernel_rfl) (fun _ _ _ h => h) (Or.inl ⟨by rfl, ?_⟩) (by assumption) ?_
  rotate_left
  · (intro w hSw; (try dsimp only at hSw); go_simp; try (with_reducible rfl))
  try simp only [Act.put, List.getElem_toArray, List.getElem_cons_zero, List.getElem_cons_succ, List.setIfInBounds_toArray, List.set_cons_zero, List.set_cons_succ]
  refine wpAnyH_take (i := 10) (v := ?_) rfl (by kernel_rfl) (by kernel_rfl) (by kernel_rfl) (fun _ _ _ h => h) (Or.inl ⟨by rfl, ?_⟩) (by assumption) ?_
  rotate_left
  · (intro w hSw; (try dsimp only at hSw); go_simp; try (with_reducible rfl))
  try simp only [Act.put, List.getElem_toArray, List.getElem_cons_zero, List.getElem_cons_succ, List.setIfInBounds_toArray, List.set_cons_zero, List.set_cons_succ]
  refine wpAnyH_take (i := 11) (v := ?_) rfl (by kernel_rfl) (by kernel_rfl) (by kernel_rfl) (fun _ _ _ h => h) (Or.inl ⟨by rfl, ?_⟩) (by assumption) ?_
  rotate_left
  · (intro w hSw; (try dsimp only at hSw); go_simp; try (with_reducible rfl))
  try simp only [Act.put, List.getElem_toArray, List.getElem_cons_zero, List.getElem_cons_succ, List.setIfInBounds_toArray, List.set_cons_zero, List.set_cons_succ]
  refine wpAnyH_take (i := 12) (v := ?_) rfl (by kernel_rfl) (by kernel_rfl) (by kernel_rfl) (fun _ _ _ h => h) (Or.inl ⟨by rfl, ?_⟩) (by assumption) ?_
  rotate_left
  · (intro w hSw; (try dsimp only at hSw); go_simp; try (with_reducible rfl))
  try simp only [Act.put, List.getElem_toArray, List.getElem_cons_zero, List.getElem_cons_succ, List.setIfInBounds_toArray, List.set_cons_zero, List.set_cons_succ]
  refine wpAnyH_take (i := 13) rfl (by kernel_rfl) (by kernel_rfl) (by kernel_rfl) (fun _ _ _ h => h) (yieldsIf_load_mid (by rfl) 45 (.tmp 19) rfl b1 (o1 + 1) rfl Vb _ (fun w h => h.2.2.1) Try.underlying45 rfl (by rw [HVb.out]; exact Try.sz45)) (by assumption) ?_
  try simp only [Act.put, List.getElem_toArray, List.getElem_cons_zero, List.getElem_cons_succ, List.setIfInBounds_toArray, List.set_cons_zero, List.set_cons_succ]
  refine wpAnyH_take (i := 14) (v := ?_) rfl (by kernel_rfl) (by kernel_rfl) (by kernel_rfl) (fun _ _ _ h => h) (Or.inl ⟨by rfl, ?_⟩) (by assumption) ?_
  rotate_left
  · (intro w hSw; (try dsimp only at hSw); go_simp; try (with_reducible rfl))
  try simp only [Act.put, List.getElem_toArray, List.getElem_cons_zero, List.getElem_cons_succ, List.setIfInBounds_toArray, List.set_cons_zero, List.set_cons_succ]
  refine wpAnyH_take (i := 15) (v := ?_) rfl (by kernel_rfl) (by kernel_rfl) (by kernel_rfl) (fun _ _ _ h => h) (Or.inl ⟨by rfl, ?_⟩) (by assumption) ?_
  rotate_left
  · (intro w hSw; (try dsimp only at hSw); go_simp; try (with_reducible rfl))
  try simp only [Act.put, List.getElem_toArray, List.getElem_cons_zero, List.getElem_cons_succ, List.setIfInBounds_toArray, List.set_cons_zero, List.set_cons_succ]
  refine wpAnyH_take (i := 16) (v := ?_) rfl (by kernel_rfl) (by kernel_rfl) (by kernel_rfl) (fun _ _ _ h => h) (Or.inl ⟨by rfl, ?_⟩) (by assumption) ?_
  rotate_left
  · (intro w hSw; (try dsimp only at hSw); go_simp; try (with_reducible rfl))
  try simp only [Act.put, List.getElem_toArray, List.getElem_cons_zero, List.getElem_cons_succ, List.setIfInBounds_toArray, List.set_cons_zero, List.set_cons_succ]
  refine wpAnyH_take (i := 17) rfl (by kernel_rfl) (by kernel_rfl) (by kernel_rfl) (fun _ _ _ h => h) (yieldsIf_load_mid (by rfl) 45 (.tmp 23) rfl b2 (o2 + 1) rfl Vb _ (fun w h => h.2.2.2.1) Try.underlying45 rfl (by rw [HVb.out]; exact Try.sz45)) (by assumption) ?_
  try simp only [Act.put, List.getElem_toArray, List.getElem_cons_zero, List.getElem_cons_succ, List.setIfInBounds_toArray, List.set_cons_zero, List.set_cons_succ]
  refine wpAnyH_take (i := 18) (v := ?_) rfl (by kernel_rfl) (by kernel_rfl) (by kernel_rfl) (fun _ _ _ h => h) (Or.inl ⟨by rfl, ?_⟩) (by assumption) ?_
  rotate_left
  · (intro w hSw; (try dsimp only at hSw); go_simp; try (with_reducible rfl))
  try simp only [Act.put, List.getElem_toArray, List.getElem_cons_zero, List.getElem_cons_succ, List.setIfInBounds_toArray, List.set_cons_zero, List.set_cons_succ]
  refine wpAnyH_take (i := 19) (v := ?_) rfl (by kernel_rfl) (by kernel_rfl) (by kernel_rfl) (fun _ _ _ h => h) (Or.inl ⟨by rfl, ?_⟩) (by assumption) ?_
  rotate_left
  · (intro w hSw; (try dsimp only at hSw); go_simp; try (with_reducible rfl))
  try simp only [Act.put, List.getElem_toArray, List.getElem_cons_zero, List.getElem_cons_succ, List.setIfInBounds_toArray, List.set_cons_zero, List.set_cons_succ]
  refine wpAnyH_take (i := 20) (v := ?_) rfl (by kernel_rfl) (by kernel_rfl) (by kernel_rfl) (fun _ _ _ h => h) (Or.inl ⟨by rfl, ?_⟩) (by assumption) ?_
  rotate_left
  · (intro w hSw; (try dsimp only at hSw); go_simp; try (with_reducible rfl))
  try simp only [Act.put, List.getElem_toArray, List.getElem_cons_zero, List.getElem_cons_succ, List.setIfInBounds_toArray, List.set_cons_zero, List.set_cons_succ]
  refine wpAnyH_take (i := 21) (v := ?_) rfl (by kernel_rfl) (by kernel_rfl) (by kernel_rfl) (fun _ _ _ h => h) (Or.inl ⟨by rfl, ?_⟩) (by assumption) ?_
  rotate_left
  · (intro w hSw; (try dsimp only at hSw); go_simp; try (with_reducible rfl))
  try simp only [Act.put, List.getElem_toArray, List.getElem_cons_zero, List.getElem_cons_succ, List.setIfInBounds_toArray, List.set_cons_zero, List.set_cons_succ]
  refine wpAnyH_take (i := 22) (v := ?_) rfl (by kernel_rfl) (by kernel_rfl) (by kernel_rfl) (fun _ _ _ h => h) (Or.inl ⟨by rfl, ?_⟩) (by assumption) ?_
  rotate_left
  · (intro w hSw; (try dsimp only at hSw); go_simp; try (with_reducible rfl))
  try simp only [Act.put, List.getElem_toArray, List.getElem_cons_zero, List.getElem_cons_succ, List.setIfInBounds_toArray, List.set_cons_zero, List.set_cons_succ]
  refine wpAnyH_take (i := 23) (v := ?_) rfl (by kernel_rfl) (by kernel_rfl) (by kernel_rfl) (fun _ _ _ h => h) (Or.inl ⟨by rfl, ?_⟩) (by assumption) ?_
  rotate_left
  · (intro w hSw; (try dsimp only at hSw); go_simp; try (with_reducible rfl))
  try simp only [Act.put, List.getElem_toArray, List.getElem_cons_zero, List.getElem_cons_succ, List.setIfInBounds_toArray, List.set_cons_zero, List.set_cons_succ]
  refine wpAnyH_take (i := 24) rfl (by kernel_rfl) (by kernel_rfl) (by kernel_rfl) (fun _ _ _ h => h) (yieldsIf_load_mid (by rfl) 46 (.tmp 30) rfl b1 (o1 + 257) rfl Vn _ (fun w h => h.2.2.2.2.1) Try.underlying46 rfl (by rw [HVn.out]; exact Try.sz46)) (by assumption) ?_
  try simp only [Act.put, List.getElem_toArray, List.getElem_cons_zero, List.getElem_cons_succ, List.setIfInBounds_toArray, List.set_cons_zero, List.set_cons_succ]
  refine wpAnyH_take (i := 25) (v := ?_) rfl (by kernel_rfl) (by kernel_rfl) (by kernel_rfl) (fun _ _ _ h => h) (Or.inl ⟨by rfl, ?_⟩) (by assumption) ?_
  rotate_left
  · (intro w hSw; (try dsimp only at hSw); go_simp; try (with_reducible rfl))
  try simp only [Act.put, List.getElem_toArray, List.getElem_cons_zero, List.getElem_cons_succ, List.setIfInBounds_toArray, List.set_cons_zero, List.set_cons_succ]
  refine wpAnyH_take (i := 26) (v := ?_) rfl (by kernel_rfl) (by kernel_rfl) (by kernel_rfl) (fun _ _ _ h => h) (Or.inl ⟨by rfl, ?_⟩) (by assumption) ?_
  rotate_left
  · (intro w hSw; (try dsimp only at hSw); go_simp; try (with_reducible rfl))
  try simp only [Act.put, List.getElem_toArray, List.getElem_cons_zero, List.getElem_cons_succ, List.setIfInBounds_toArray, List.set_cons_zero, List.set_cons_succ]
  refine wpAnyH_take (i := 27) (v := ?_) rfl (by kernel_rfl) (by kernel_rfl) (by kernel_rfl) (fun _ _ _ h => h) (Or.inl ⟨by rfl, ?_⟩) (by assumption) ?_
  rotate_left
  · (intro w hSw; (try dsimp only at hSw); go_simp; try (with_reducible rfl))
  try simp only [Act.put, List.getElem_toArray, List.getElem_cons_zero, List.getElem_cons_succ, List.setIfInBounds_toArray, List.set_cons_zero, List.set_cons_succ]
  refine wpAnyH_take (i := 28) rfl (by kernel_rfl) (by kernel_rfl) (by kernel_rfl) (fun _ _ _ h => h) (yieldsIf_load_mid (by rfl) 46 (.tmp 34) rfl b2 (o2 + 257) rfl Vn _ (fun w h => h.2.2.2.2.2) Try.underlying46 rfl (by rw [HVn.out]; exact Try.sz46)) (by assumption) ?_
  try simp only [Act.put, List.getElem_toArray, List.getElem_cons_zero, List.getElem_cons_succ, List.setIfInBounds_toArray, List.set_cons_zero, List.set_cons_succ]
  refine wpAnyH_take (i := 29) (v := ?_) rfl (by kernel_rfl) (by kernel_rfl) (by kernel_rfl) (fun _ _ _ h => h) (Or.inl ⟨by rfl, ?_⟩) (by assumption) ?_
  rotate_left
  · (intro w hSw; (try dsimp only at hSw); go_simp; try (with_reducible rfl))
  try simp only [Act.put, List.getElem_toArray, List.getElem_cons_zero, List.getElem_cons_succ, List.setIfInBounds_toArray, List.set_cons_zero, List.set_cons_succ]
  refine wpAnyH_take (i := 30) (v := ?_) rfl (by kernel_rfl) (by kernel_rfl) (by kernel_rfl) (fun _ _ _ h => h) (Or.inl ⟨by rfl, ?_⟩) (by assumption) ?_
  rotate_left
  · (intro w hSw; (try dsimp only at hSw); go_simp; try (with_reducible rfl))
  try simp only [Act.put, List.getElem_toArray, List.getElem_cons_zero, List.getElem_cons_succ, List.setIfInBounds_toArray, List.set_cons_zero, List.set_cons_succ]
  refine wpAnyH_done (by kernel_rfl) ?_ _
  have HD := hide ((Below.refl w.heap.size w).drew)
  have HA1 := hide (H1.out.below HD.out)
  have HA2 := hide (H2.out.below HD.out)
  generalize w.drew = x1 at *
  have a2 := HA1.out.cell (fun m s => Led0.at322 HA1.out.ok m s)
  have a3 := HA1.out.cell (fun m s => Led0.at323 HA1.out.ok m s)
  have a4 := HA1.out.cell (fun m s => Led0.at324 HA1.out.ok m s)
  have b2' := HA2.out.cell (fun m s => Led0.at322 HA2.out.ok m s)
  have b3' := HA2.out.cell (fun m s => Led0.at323 HA2.out.ok m s)
  have b4' := HA2.out.cell (fun m s => Led0.at324 HA2.out.ok m s)
  clear hHeld HS hz45 hz46 he45 he46
  go_upto_region 3 with fail
  go_quiet (fail)
  have HD2 := hide (lec HD.out (below_dn x1 nq))
  have HA3 := hide (HA1.out.below (below_dn x1 nq))
  have HA4 := hide (HA2.out.below (below_dn x1 nq))
  generalize x1.drewN nq = x2 at *
  clear a2 a3 a4 b2' b3' b4' HA1 HA2
  obtain ⟨m1, c1, r1, -⟩ := HA3.out.mrk
  obtain ⟨m2, c2, r2, -⟩ := HA4.out.mrk
  obtain ⟨ma, mca, e1⟩ := own_form r1
  obtain ⟨mb, mcb, e2⟩ := own_form r2
  subst e1 e2
  obtain ⟨sa, sca, c3⟩ := HA3.out.sav
  obtain ⟨sb, scb, c4⟩ := HA4.out.sav
  have HR1 := hide r1
  have HR2 := hide r2
  clear r1 r2
  go_upto_region 5 with fail
  go_quiet (fail)
  have HD3 := hide (lec HD2.out (below_dn x2 nq))
  have HA5 := hide (HA3.out.below (below_dn x2 nq))
  have HA6 := hide (HA4.out.below (below_dn x2 nq))
  have HM1 := hide (own_kept HR1.out (Ex.of (S := fun _ => False) (below_dn x2 nq)) (fun _ _ e => e))
  have HM2 := hide (own_kept HR2.out (Ex.of (S := fun _ => False) (below_dn x2 nq)) (fun _ _ e => e))
  replace c1 : (x2.drewN nq).cell? ⟨b1, o1 + 321, none⟩ = some (.slice ma l.mks.length mca) := c1
  replace c2 : (x2.drewN nq).cell? ⟨b2, o2 + 321, none⟩ = some (.slice mb l.mks.length mcb) := c2
  replace c3 : (x2.drewN nq).cell? ⟨b1, o1 + 325, none⟩ = some (.slice sa sv.length sca) := c3
  replace c4 : (x2.drewN nq).cell? ⟨b2, o2 + 325, none⟩ = some (.slice sb sv.length scb) := c4
  clear HA3 HA4 HR1 HR2
  generalize x2.drewN nq = x3 at *
  go_upto_block 0 with fail
  go_cut [4] (fun _ wx => Below x3.heap.size x3 wx)
  case first =>
    go_wp2
    go_loopw [98] (fun s98 wr => ∃ i : Nat, i ≤ l.mks.length ∧ s98 = .int .i64 i ∧ Below x3.heap.size x3 wr) (fun s98 _ => l.mks.length - (intOf s98).toNat)
    case atStart => exact ⟨0, Nat.zero_le _, rfl, Below.refl _ _⟩
    case round =>
      obtain ⟨i, hi, rfl, hb⟩ := hrel
      have HB := hide hb
      clear hb
      have d1' := cellKeep HB.out c1
      have d2' := cellKeep HB.out c2
      by_cases hlt : i < l.mks.length
      · have e1 : decide ((i : Int) < (l.mks.length : Int)) = true := by simp; omega
        have hii : (i : Int) < (l.mks.length : Int) := by omega
        obtain ⟨⟨p1, p2⟩, hp⟩ : ∃ p, l.mks[i]? = some p := ⟨_, List.getElem?_eq_getElem hlt⟩
        obtain ⟨g1, _, hg1⟩ := own_some HM1.out (by omega)
        obtain ⟨g2, _, hg2⟩ := own_some HM2.out (by omega)
        cases hg1
        cases hg2
        have q1 := range_flat (f := markV) (k := 2) (fun _ _ => rfl) (own_range HM1.out) hp
        have q2 := range_flat (f := markV) (k := 2) (fun _ _ => rfl) (own_range HM2.out) hp
        have q3 := range_below q1 (World.block_lt_of_cell? _ _ (q1 0 _ rfl)) HB.out
        have q4 := range_below q2 (World.block_lt_of_cell? _ _ (q2 0 _ rfl)) HB.out
        have k0 : wr.cell? ⟨g1, i * 2, none⟩ = some (.int .u8 p1) := q3 0 _ rfl
        have k1 : wr.cell? ⟨g1, i * 2 + 1, none⟩ = some (.int .u64 p2) := q3 1 _ rfl
        have k2 : wr.cell? ⟨g2, i * 2, none⟩ = some (.int .u8 p1) := q4 0 _ rfl
        have k3 : wr.cell? ⟨g2, i * 2 + 1, none⟩ = some (.int .u64 p2) := q4 1 _ rfl
        clear q1 q2 q3 q4 hp
        go_upto_region 10 with fail
        go_quiet (fail)
        have HB2 := hide (lec HB.out (below_dn wr nq))
        go_wp2
        go_roundw
        case rel => exact ⟨i + 1, by omega, by go_num, HB2.out⟩
        case measure => simp [intOf]; omega
      · obtain rfl : i = l.mks.length := by omega
        have e1 : decide ((l.mks.length : Int) < (l.mks.length : Int)) = false := by simp
        go_wp2
        go_meet
        exact HB.out
  
  have HC := hide hcut
  clear hcut
  have d1 := cellKeep HC.out c3
  have d2 := cellKeep HC.out c4
  go_wp2
  go_loopw [122] (fun s122 wr => ∃ i : Nat, i ≤ sv.length ∧ s122 = .int .i64 i ∧ Below x3.heap.size x3 wr) (fun s122 _ => sv.length - (intOf s122).toNat)
  case atStart => exact ⟨0, Nat.zero_le _, rfl, HC.out⟩
  case round =>
    clear d1 d2
    obtain ⟨i, hi, rfl, hb⟩ := hrel
    have HB := hide hb
    clear hb
    by_cases hlt : i < sv.length
    · have e1 : decide ((i : Int) < (sv.length : Int)) = true := by simp; omega
      have hii : (i : Int) < (sv.length : Int) := by omega
      obtain ⟨x, hx⟩ : ∃ x, sv[i]? = some x := ⟨_, List.getElem?_eq_getElem hlt⟩
      obtain ⟨g1, k1, Bx1, f1, L1⟩ := HA5.out.ck hx
      obtain ⟨g2, k2, Bx2, f2, L2⟩ := HA6.out.ck hx
      rw [c3] at f1
      rw [c4] at f2
      cases f1
      cases f2
      have HK : Hid (∀ y, Below x3.heap.size x3 y → Calls Try.prog 55 #[.pointer (some ⟨g1, i * 326, none⟩), .pointer (some ⟨g2, i * 326, none⟩)] y fun e w' => e = .returned (.bool true) ∧ Below y.heap.size y w') := fun y hy => HREC.out (by rintro rfl; cases hx) y g1 _ g2 _ x Bx1 Bx2 (L1.below hy) (L2.below hy) (HSV.out x (List.mem_of_getElem? hx))
      clear L1 L2 hx HREC HSV HM1 HM2 HA5 HA6 HC HD HD2
      go_upto_region 16 with fail
      refine wp_region_held_drew (S := fun w' => w'.cell? ⟨b1, o1 + 325, none⟩ = some (.slice (some ⟨g1, 0, none⟩) sv.length sca) ∧ w'.cell? ⟨b2, o2 + 325, none⟩ = some (.slice (some ⟨g2, 0, none⟩) sv.length scb) ∧ Below x3.heap.size x3 w') (by kernel_rfl) ⟨cellKeep HB.out.drew c3, cellKeep HB.out.drew c4, HB.out.drew⟩ (fun hHeld => ?_)
      refine wpAnyH_take (i := 0) (v := ?_) rfl (by kernel_rfl) (by kernel_rfl) (by kernel_rfl) (fun _ _ _ h => h) (Or.inl ⟨by rfl, ?_⟩) (by assumption) ?_
      rotate_left
      · (intro w hSw; (try dsimp only at hSw); go_simp; try (with_reducible rfl))
      try simp only [Act.put, List.getElem_toArray, List.getElem_cons_zero, List.getElem_cons_succ, List.setIfInBounds_toArray, List.set_cons_zero, List.set_cons_succ]
      refine wpAnyH_take (i := 1) (v := ?_) rfl (by kernel_rfl) (by kernel_rfl) (by kernel_rfl) (fun _ _ _ h => h) (Or.inl ⟨by rfl, ?_⟩) (by assumption) ?_
      rotate_left
      · (intro w hSw; (try dsimp only at hSw); go_simp; try (with_reducible rfl))
      try simp only [Act.put, List.getElem_toArray, List.getElem_cons_zero, List.getElem_cons_succ, List.setIfInBounds_toArray, List.set_cons_zero, List.set_cons_succ]
      refine wpAnyH_take (i := 2) (v := ?_) rfl (by kernel_rfl) (by kernel_rfl) (by kernel_rfl) (fun _ _ _ h => h) (Or.inl ⟨by rfl, ?_⟩) (by assumption) ?_
      rotate_left
      · (intro w hSw; (try dsimp only at hSw); go_simp; try (with_reducible rfl))
      try simp only [Act.put, List.getElem_toArray, List.getElem_cons_zero, List.getElem_cons_succ, List.setIfInBounds_toArray, List.set_cons_zero, List.set_cons_succ]
      refine wpAnyH_take (i := 3) (v := ?_) rfl (by kernel_rfl) (by kernel_rfl) (by kernel_rfl) (fun _ _ _ h => h) (Or.inl ⟨by rfl, ?_⟩) (by assumption) ?_
      rotate_left
      · (intro w hSw; (try dsimp only at hSw); go_simp; try (with_reducible rfl))
      try simp only [Act.put, List.getElem_toArray, List.getElem_cons_zero, List.getElem_cons_succ, List.setIfInBounds_toArray, List.set_cons_zero, List.set_cons_succ]
      refine wpAnyH_take (i := 4) (v := ?_) rfl (by kernel_rfl) (by kernel_rfl) (by kernel_rfl) (fun _ _ _ h => h) (Or.inl ⟨by rfl, ?_⟩) (by assumption) ?_
      rotate_left
      · (intro w hSw; (try dsimp only at hSw); go_simp; try (with_reducible rfl))
      try simp only [Act.put, List.getElem_toArray, List.getElem_cons_zero, List.getElem_cons_succ, List.setIfInBounds_toArray, List.set_cons_zero, List.set_cons_succ]
      refine wpAnyH_take (i := 5) (v := ?_) rfl (by kernel_rfl) (by kernel_rfl) (by kernel_rfl) (fun _ _ _ h => h) (Or.inl ⟨by rfl, ?_⟩) (by assumption) ?_
      rotate_left
      · (intro w hSw; (try dsimp only at hSw); go_simp; try (with_reducible rfl))
      try simp only [Act.put, List.getElem_toArray, List.getElem_cons_zero, List.getElem_cons_succ, List.setIfInBounds_toArray, List.set_cons_zero, List.set_cons_succ]
      refine wpAnyH_take (i := 6) (v := ?_) rfl (by kernel_rfl) (by kernel_rfl) (by kernel_rfl) (fun _ _ _ h => h) (Or.inl ⟨by rfl, ?_⟩) (by assumption) ?_
      rotate_left
      · (intro w hSw; (try dsimp only at hSw); go_simp; try (with_reducible rfl))
      try simp only [Act.put, List.getElem_toArray, List.getElem_cons_zero, List.getElem_cons_succ, List.setIfInBounds_toArray, List.set_cons_zero, List.set_cons_succ]
      refine wpAnyH_take (i := 7) (v := ?_) rfl (by kernel_rfl) (by kernel_rfl) (by kernel_rfl) (fun _ _ _ h => h) (Or.inl ⟨by rfl, ?_⟩) (by assumption) ?_
      rotate_left
      · (intro w hSw; (try dsimp only at hSw); go_simp; try (with_reducible rfl))
      try simp only [Act.put, List.getElem_toArray, List.getElem_cons_zero, List.getElem_cons_succ, List.setIfInBounds_toArray, List.set_cons_zero, List.set_cons_succ]
      refine wpAnyH_take (i := 8) (v := ?_) rfl (by kernel_rfl) (by kernel_rfl) (by kernel_rfl) (fun _ _ _ h => h) (Or.inl ⟨by rfl, ?_⟩) (by assumption) ?_
      rotate_left
      · (intro w hSw; (try dsimp only at hSw); go_simp; try (with_reducible rfl))
      try simp only [Act.put, List.getElem_toArray, List.getElem_cons_zero, List.getElem_cons_succ, List.setIfInBounds_toArray, List.set_cons_zero, List.set_cons_succ]
      refine wpAnyH_take (i := 9) (v := ?_) rfl (by kernel_rfl) (by kernel_rfl) (by kernel_rfl) (fun _ _ _ h => h) (Or.inl ⟨by rfl, ?_⟩) (by assumption) ?_
      rotate_left
      · (intro w hSw; (try dsimp only at hSw); go_simp; try (with_reducible rfl))
      try simp only [Act.put, List.getElem_toArray, List.getElem_cons_zero, List.getElem_cons_succ, List.setIfInBounds_toArray, List.set_cons_zero, List.set_cons_succ]
      refine wpAnyH_take (i := 10) (v := ?_) rfl (by kernel_rfl) (by kernel_rfl) (by kernel_rfl) (fun _ _ _ h => h) (Or.inl ⟨by rfl, ?_⟩) (by assumption) ?_
      rotate_left
      · (intro w hSw; (try dsimp only at hSw); go_simp; try (with_reducible rfl))
      try simp only [Act.put, List.getElem_toArray, List.getElem_cons_zero, List.getElem_cons_succ, List.setIfInBounds_toArray, List.set_cons_zero, List.set_cons_succ]
      refine wpAnyH_take (i := 11) (v := ?_) rfl (by kernel_rfl) (by kernel_rfl) (by kernel_rfl) (fun _ _ _ h => h) (Or.inl ⟨by rfl, ?_⟩) (by assumption) ?_
      rotate_left
      · (intro w hSw; (try dsimp only at hSw); go_simp; try (with_reducible rfl))
      try simp only [Act.put, List.getElem_toArray, List.getElem_cons_zero, List.getElem_cons_succ, List.setIfInBounds_toArray, List.set_cons_zero, List.set_cons_succ]
      refine wpAnyH_ready (rs := [12]) (by kernel_rfl) (by simp) ?_
      refine (AllReadyH.cons rfl (fun K hK => ?_) AllReadyH.nil)
      refine step_call rfl 55 #[.pointer (some ⟨g1, i * 326, none⟩), .pointer (some ⟨g2, i * 326, none⟩)] (by simp [go_sem]) (HK.out _ hHeld.2.2) ?_
      rintro e wq ⟨rfl, hbq⟩
      have HBQ := hide (lec hHeld.2.2 hbq)
      clear hbq
      refine ⟨_, rfl, ?_⟩
      refine hK.out _ _ ?_ (fun hHeld => ?_)
      · exact ⟨cellKeep HBQ.out c3, cellKeep HBQ.out c4, HBQ.out⟩
      clear hK K
      try simp only [Act.put, List.getElem_toArray, List.getElem_cons_zero, List.getElem_cons_succ, List.setIfInBounds_toArray, List.set_cons_zero, List.set_cons_succ]
      refine wpAnyH_take (i := 13) (v := ?_) rfl (by kernel_rfl) (by kernel_rfl) (by kernel_rfl) (fun _ _ _ h => h) (Or.inl ⟨by rfl, ?_⟩) (by assumption) ?_
      rotate_left
      · (intro w hSw; (try dsimp only at hSw); go_simp; try (with_reducible rfl))
      try simp only [Act.put, List.getElem_toArray, List.getElem_cons_zero, List.getElem_cons_succ, List.setIfInBounds_toArray, List.set_cons_zero, List.set_cons_succ]
      refine wpAnyH_done (by kernel_rfl) ?_ _
      have HB2 := hide hHeld.2.2
      clear hHeld
      go_wp2
      go_roundw
      case rel => exact ⟨i + 1, by omega, by go_num, HB2.out⟩
      case measure => simp [intOf]; omega
    · obtain rfl : i = sv.length := by omega
      have e1 : decide ((sv.length : Int) < (sv.length : Int)) = false := by simp
      have HF := hide (lec HD3.out HB.out)
      go_wp2
      go_ret
      exact ⟨rfl, HF.out⟩
theorem sameL_flat (w : World) (b1 o1 b2 o2 : Nat) (l : Led0) (B1 B2 : List Nat) (h1 : LA w b1 o1 l [] B1) (h2 : LA w b2 o2 l [] B2) (hsm : l.mks.length ≤ 1000000000000) :
    Calls Try.prog 55 #[.pointer (some ⟨b1, o1, none⟩), .pointer (some ⟨b2, o2, none⟩)] w fun e w' => e = .returned (.bool true) ∧ Below w.heap.size w w' :=
  sameL_gen w b1 o1 b2 o2 l [] B1 B2 h1 h2 hsm (fun x hx => by cases hx) (by simp) (fun h => absurd rfl h)
/-- ledgerm.Same of equal ledgers -/
theorem sameL_any (w : World) (b1 o1 b2 o2 : Nat) (l : Led0) (sv : List Led0) (B1 B2 : List Nat) (h1 : LA w b1 o1 l sv B1) (h2 : LA w b2 o2 l sv B2) (hsm : l.mks.length ≤ 1000000000000) (hsv : ∀ x, x ∈ sv → x.mks.length ≤ 1000000000000) (hsl : sv.length ≤ 1000) :
    Calls Try.prog 55 #[.pointer (some ⟨b1, o1, none⟩), .pointer (some ⟨b2, o2, none⟩)] w fun e w' => e = .returned (.bool true) ∧ Below w.heap.size w w' :=
  sameL_gen w b1 o1 b2 o2 l sv B1 B2 h1 h2 hsm hsv hsl (fun _ => sameL_flat)
end Go.Proofs.Qxb6500784a
