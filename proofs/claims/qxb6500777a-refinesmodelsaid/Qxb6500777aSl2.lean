import Derived.Test.Qxb6500777aSl
namespace Go.Proofs.Qxb6500777a
open Go.RowKit

theorem RA.tr {w : World} {b o : Nat} {s : Slt} (h : RA w b o s.vals) : RA w b (o + 3) s.tr.vals :=
  ⟨fun j v hv => by rw [Nat.add_assoc]; exact h.c (3 + j) v (by rw [Nat.add_comm 3 j]; exact hv), h.f⟩
theorem RA.ofTr {w w' : World} {b o : Nat} {s : Slt} {t : Trk} (h : RA w b o s.vals) (k : Fr b (o + 3) 7 w w') (ht : RA w' b (o + 3) t.vals) : RA w' b o { s with tr := t }.vals := by
  refine ⟨fun j v hv => ?_, fun j => by rw [k.fr]; exact h.f j⟩
  have hj : j < 10 := (List.getElem?_eq_some_iff.1 hv).1
  by_cases h3 : j < 3
  · rw [k.cell _ (by omega)]
    refine h.c j v ?_
    rcases (by omega : j = 0 ∨ j = 1 ∨ j = 2) with rfl | rfl | rfl <;> exact hv
  · obtain ⟨i, rfl⟩ : ∃ i, j = i + 3 := ⟨j - 3, by omega⟩
    have := ht.c i v hv
    rw [show o + (i + 3) = o + 3 + i by omega]
    exact this
set_option linter.unusedSimpArgs false in
set_option maxHeartbeats 2000000 in
/-- tracks.refresh -/
theorem refresh_any (w : World) (b o : Nat) (s : Slt) (h : RA w b o s.vals) (hs : SltOk s) (W : Tgt) (hW : TgtOk W) (g : Int) :
    Calls Try.prog 57 #[.pointer (some ⟨b, o, none⟩), .agg #[.int .i64 W.x, .int .i64 W.y, .int .i64 W.co, .int .i64 W.sp], .int .i64 g] w (SP w b o (refreshP s W g)) := by
  have hl := h.lt (by simp [Slt.vals])
  have HF := hide (show Fr b o 10 w (w.alloc (.cells #[.int .i64 W.x, .int .i64 W.y, .int .i64 W.co, .int .i64 W.sp] 60)) from (Fr.refl _ _ _ _).alloc hl _)
  have HR := hide (h.below hl (be1 w (.cells #[.int .i64 W.x, .int .i64 W.y, .int .i64 W.co, .int .i64 W.sp] 60)))
  have hne : b ≠ w.heap.size := by omega
  have zS : (w.alloc (.cells #[.int .i64 W.x, .int .i64 W.y, .int .i64 W.co, .int .i64 W.sp] 60)).cell? ⟨w.heap.size, 0, none⟩ = some (.int .i64 W.x) ∧ (w.alloc (.cells #[.int .i64 W.x, .int .i64 W.y, .int .i64 W.co, .int .i64 W.sp] 60)).cell? ⟨w.heap.size, 1, none⟩ = some (.int .i64 W.y) ∧ (w.alloc (.cells #[.int .i64 W.x, .int .i64 W.y, .int .i64 W.co, .int .i64 W.sp] 60)).cell? ⟨w.heap.size, 2, none⟩ = some (.int .i64 W.co) ∧ (w.alloc (.cells #[.int .i64 W.x, .int .i64 W.y, .int .i64 W.co, .int .i64 W.sp] 60)).cell? ⟨w.heap.size, 3, none⟩ = some (.int .i64 W.sp) := by refine ⟨?_, ?_, ?_, ?_⟩ <;> simp [go_sem]
  have HW := hide hW
  have HSO := hide hs
  clear h hl hW hs
  go_enter Try.func57, Try.ntmps57
  go_upto_region 1 with fail
  generalize w.alloc (.cells #[.int .i64 W.x, .int .i64 W.y, .int .i64 W.co, .int .i64 W.sp] 60) = w1 at *
  obtain ⟨q, hq⟩ : ∃ q, w.heap.size = q := ⟨_, rfl⟩
  rw [hq] at hne zS ⊢
  clear hq
  refine wp_region_held_drew (S := fun w' => w'.cell? ⟨q, 0, none⟩ = some (.int .i64 W.x) ∧ w'.cell? ⟨q, 1, none⟩ = some (.int .i64 W.y) ∧ w'.cell? ⟨q, 2, none⟩ = some (.int .i64 W.co) ∧ w'.cell? ⟨q, 3, none⟩ = some (.int .i64 W.sp)) (by kernel_rfl) zS (fun hHeld => ?_)
  refine wpAnyH_take (i := 0) (v := ?_) rfl (by kernel_rfl) (by kernel_rfl) (by kernel_rfl) (fun _ _ _ h => h) (Or.inl ⟨by rfl, ?_⟩) (by assumption) ?_
  rotate_left
  · (intro w hSw; (try dsimp only at hSw); go_simp; try (with_reducible rfl))
  try simp only [Act.put, List.getElem_toArray, List.getElem_cons_zero, List.getElem_cons_succ, List.setIfInBounds_toArray, List.set_cons_zero, List.set_cons_succ]
  refine wpAnyH_take (i := 1) (v := ?_) rfl (by kernel_rfl) (by kernel_rfl) (by kernel_rfl) (fun _ _ _ h => h) (Or.inl ⟨by rfl, ?_⟩) (by assumption) ?_
  rotate_left
  · (intro w hSw; (try dsimp only at hSw); go_simp; try (with_reducible rfl))
  try simp only [Act.put, List.getElem_toArray, List.getElem_cons_zero, List.getElem_cons_succ, List.setIfInBounds_toArray, List.set_cons_zero, List.set_cons_succ]
  refine wpAnyH_take (i := 2) (v := ?_) rfl (by kernel_rfl) (by kernel_rfl) (by kernel_rfl) (fun _ _ _ h => h) (Or.inl ⟨by rfl, ?_⟩) (by assumption) ?_
  rotate_left
  · (intro w hSw; (try dsimp only at hSw); go_simp; try (with_reducible rfl))
  try simp only [Act.put, List.getElem_toArray, List.getElem_cons_zero, List.getElem_cons_succ, List.setIfInBounds_toArray, List.set_cons_zero, List.set_cons_succ]
  refine wpAnyH_take (i := 3) (v := ?_) rfl (by kernel_rfl) (by kernel_rfl) (by kernel_rfl) (fun _ _ _ h => h) (Or.inl ⟨by rfl, ?_⟩) (by assumption) ?_
  rotate_left
  · (intro w hSw; (try dsimp only at hSw); go_simp; try (with_reducible rfl))
  try simp only [Act.put, List.getElem_toArray, List.getElem_cons_zero, List.getElem_cons_succ, List.setIfInBounds_toArray, List.set_cons_zero, List.set_cons_succ]
  refine wpAnyH_take (i := 4) (v := ?_) rfl (by kernel_rfl) (by kernel_rfl) (by kernel_rfl) (fun _ _ _ h => h) (Or.inl ⟨by rfl, ?_⟩) (by assumption) ?_
  rotate_left
  · (intro w hSw; (try dsimp only at hSw); go_simp; try (with_reducible rfl))
  try simp only [Act.put, List.getElem_toArray, List.getElem_cons_zero, List.getElem_cons_succ, List.setIfInBounds_toArray, List.set_cons_zero, List.set_cons_succ]
  refine wpAnyH_ready (rs := [5]) (by kernel_rfl) (by simp) ?_
  refine (AllReadyH.cons rfl (fun K hK => ?_) AllReadyH.nil)
  · refine step_call rfl 61 #[.pointer (some ⟨b, o + 3, none⟩), .agg #[.int .i64 W.x, .int .i64 W.y, .int .i64 W.co, .int .i64 W.sp], .int .i64 g] (by simp [go_sem]) (look_any _ b (o + 3) s.tr HR.out.tr.drew W HW.out g) ?_
    rintro e w2 ⟨rfl, hr2, fr2⟩
    replace fr2 := fr2.of_drew
    have zS2 : w2.cell? ⟨q, 0, none⟩ = some (.int .i64 W.x) ∧ w2.cell? ⟨q, 1, none⟩ = some (.int .i64 W.y) ∧ w2.cell? ⟨q, 2, none⟩ = some (.int .i64 W.co) ∧ w2.cell? ⟨q, 3, none⟩ = some (.int .i64 W.sp) := ⟨fr2.ex.cell (fun e => hne e.symm) zS.1, fr2.ex.cell (fun e => hne e.symm) zS.2.1, fr2.ex.cell (fun e => hne e.symm) zS.2.2.1, fr2.ex.cell (fun e => hne e.symm) zS.2.2.2⟩
    have HR2 := hide (HR.out.ofTr fr2 hr2)
    have HF2 := hide (HF.out.trans (fr2.mono (by omega) (by omega)))
    clear hr2 fr2
    refine ⟨_, rfl, ?_⟩
    refine hK.out _ _ ?_ (fun hHeld => ?_)
    · (first | with_reducible exact zS | with_reducible exact zS2)
    clear hK K
    try simp only [Act.put, List.getElem_toArray, List.getElem_cons_zero, List.getElem_cons_succ, List.setIfInBounds_toArray, List.set_cons_zero, List.set_cons_succ]
    refine wpAnyH_done (by kernel_rfl) ?_ _
    clear zS2
    obtain ⟨c0, c1, c2, c3, c4, c5, c6, c7, c8, c9⟩ := HR2.out.sl
    have f9 := HR2.out.f (o + 9)
    have HR3 := hide (HR2.out.put (k := 9) (.int .i64 0) (by rw [Slt.len]; omega))
    have HF3 := hide (HF2.out.set (j := o + 9) (by omega) (by omega) (.int .i64 0))
    go_upto_region 3 with fail
    clear c0 c1 c2 c3 c4 c5 c6 c7 c8 c9 f9
    generalize hw3 : w2.setCell _ _ = w3
    have HR4 := hide (show RA w3 b o (Slt.vals { s with tr := { lookP s.tr W g with ag := 0 } }) by rw [← hw3]; exact HR3.out)
    have HF4 := hide (show Fr b o 10 w w3 by rw [← hw3]; exact HF3.out)
    clear hw3
    go_wp2_with fail
    refine (credit_any _ b o { s with tr := { lookP s.tr W g with ag := 0 } } HR4.out (by
      have := look_ok (t := s.tr) (g := g) HW.out HSO.out.tr.num HSO.out.tr.st HSO.out.tr.ag
      exact ⟨HSO.out.tg, HSO.out.sk, ⟨this.num, this.x, this.y, this.co, this.sp, this.st, by dsimp only; omega⟩⟩) g).mono ?_
    rintro e w5 ⟨rfl, hr5, fr5⟩
    have HF5 := hide (HF4.out.trans fr5)
    have HR5 := hide hr5
    clear hr5 fr5
    go_wp2
    exact bodyPost_ret (v := .tuple #[]) (by simp [results, Try.results57, go_sem]) rfl ⟨rfl, HR5.out, HF5.out⟩
/-- The bearing table in block m. -/
structure MT (w : World) (m : Nat) (X Y : Nat → Int) : Prop where
  x : ∀ c, c < 4096 → w.cell? ⟨m, c, none⟩ = some (.int .i64 (X c))
  y : ∀ c, c < 4096 → w.cell? ⟨m, 4096 + c, none⟩ = some (.int .i64 (Y c))
  bx : ∀ c, c < 4096 → -1073741824 ≤ X c ∧ X c ≤ 1073741824
  by' : ∀ c, c < 4096 → -1073741824 ≤ Y c ∧ Y c ≤ 1073741824
theorem MT.lt {w : World} {m : Nat} {X Y : Nat → Int} (h : MT w m X Y) : m < w.heap.size := World.block_lt_of_cell? _ _ (h.x 0 (by omega))
theorem MT.keep {w w' : World} {m : Nat} {X Y : Nat → Int} (h : MT w m X Y) {S : Nat → Prop} (e : Ex S w w') (hs : ¬ S m) : MT w' m X Y :=
  ⟨fun c hc => e.cell hs (h.x c hc), fun c hc => e.cell hs (h.y c hc), h.bx, h.by'⟩
theorem MT.below {w w' : World} {m : Nat} {X Y : Nat → Int} (h : MT w m X Y) (hb : Below w.heap.size w w') : MT w' m X Y := h.keep (Ex.of (S := fun _ => False) hb) (fun e => e)
theorem MT.drew {w : World} {m : Nat} {X Y : Nat → Int} (h : MT w m X Y) : MT w.drew m X Y := ⟨h.x, h.y, h.bx, h.by'⟩
theorem mul_bd {d v : Int} (d0 : 0 ≤ d) (d1 : d ≤ 2000) (v0 : -1073741824 ≤ v) (v1 : v ≤ 1073741824) : -2147483648000 ≤ d * v ∧ d * v ≤ 2147483648000 := by
  have h1 : d * v ≤ d * 1073741824 := Int.mul_le_mul_of_nonneg_left v1 d0
  have h2 : d * (-1073741824) ≤ d * v := Int.mul_le_mul_of_nonneg_left v0 d0
  omega
set_option maxRecDepth 100000 in
set_option linter.unusedSimpArgs false in
set_option maxHeartbeats 2000000 in
/-- fixmathm.Table.Advance -/
theorem adv_any (w : World) (m : Nat) (X Y : Nat → Int) (h : MT w m X Y) (x y d : Int) (c : Nat) (hc : c < 4096) (x0 : -1048576 ≤ x) (x1 : x ≤ 1048576) (y0 : -1048576 ≤ y) (y1 : y ≤ 1048576) (d0 : 0 ≤ d) (d1 : d ≤ 2000) :
    Calls Try.prog 33 #[.pointer (some ⟨m, 0, none⟩), .int .i64 x, .int .i64 y, .int .i64 c, .int .i64 d] w fun e w' => e = .returned (.tuple #[.int .i64 (mapP (x + d * X c / 1073741824)), .int .i64 (mapP (y + d * Y c / 1073741824))]) ∧ ∃ n, w' = w.drewN n := by
  have cx := h.x c hc
  have cy := h.y c hc
  have bx := h.bx c hc
  have by' := h.by' c hc
  have px := mul_bd d0 d1 bx.1 bx.2
  have py := mul_bd d0 d1 by'.1 by'.2
  have hci : (c : Int) < 4096 := by omega
  generalize X c = xc at *
  generalize Y c = yc at *
  obtain ⟨bx0, bx1⟩ := bx
  obtain ⟨by0, by1⟩ := by'
  obtain ⟨p, hp⟩ : ∃ p, d * xc = p := ⟨_, rfl⟩
  obtain ⟨r, hr⟩ : ∃ p, d * yc = p := ⟨_, rfl⟩
  rw [hp] at px ⊢
  rw [hr] at py ⊢
  obtain ⟨px0, px1⟩ := px
  obtain ⟨py0, py1⟩ := py
  have fp := fun w => hide (fdiv_any w p 1073741824 (by omega) (by omega) (by omega) (by omega))
  have fr := fun w => hide (fdiv_any w r 1073741824 (by omega) (by omega) (by omega) (by omega))
  obtain ⟨u, hu⟩ : ∃ u, p / 1073741824 = u := ⟨_, rfl⟩
  obtain ⟨v, hv⟩ : ∃ u, r / 1073741824 = u := ⟨_, rfl⟩
  have u0 : -3000 ≤ u := by omega
  have u1 : u ≤ 3000 := by omega
  have v0 : -3000 ≤ v := by omega
  have v1 : v ≤ 3000 := by omega
  rw [hu] at fp ⊢
  rw [hv] at fr ⊢
  have tx := fun w => hide (toMap_any w (x + u))
  have ty := fun w => hide (toMap_any w (y + v))
  have wpp : IntKind.i64.wrap p = p := by rw [IntKind.wrap_i64]; omega
  have wpr : IntKind.i64.wrap r = r := by rw [IntKind.wrap_i64]; omega
  have wpx : IntKind.i64.wrap (x + u) = x + u := by rw [IntKind.wrap_i64]; omega
  have wpy : IntKind.i64.wrap (y + v) = y + v := by rw [IntKind.wrap_i64]; omega
  clear hu hv h
  go_enter Try.func33, Try.ntmps33
  go_upto_region 1 with fail
  go_quiet ((first
    | (go_at_call 48; (try rw [wpp]); (try rw [wpr]); first | (with_reducible exact Calls.quiet_of_same (fp _).out) | (with_reducible exact Calls.quiet_of_same (fr _).out))
    | (go_at_call 47; (try rw [wpx]); (try rw [wpy]); first | (with_reducible exact Calls.quiet_of_same (tx _).out) | (with_reducible exact Calls.quiet_of_same (ty _).out))))
  go_wp2
  exact bodyPost_ret (v := .tuple #[.int .i64 (mapP (x + u)), .int .i64 (mapP (y + v))]) (by simp [results, Try.results33, go_sem]) rfl ⟨rfl, _, rfl⟩
end Go.Proofs.Qxb6500777a
