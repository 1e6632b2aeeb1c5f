import Derived.Test.Qxb6500784aEq
namespace Go.Proofs.Qxb6500784a
open Go.RowKit

theorem BA.outs {w : World} {b o : Nat} {x : Box0} {sv : List Box0} {B : List Nat} (h : BA w b o x sv B) : ∃ a c, w.cell? ⟨b, o + 1, none⟩ = some (.slice a x.out.length c) ∧ w.ownsRow 0 68 41 (.slice a x.out.length c) x.out.length (x.out.flatMap msv) := by
  obtain ⟨sw, u, v, s, h1, h2, h3, h4, h5, h6⟩ := h
  have hu : w.ownsRow 0 68 41 u x.out.length (x.out.flatMap msv) := h2.cv.fl.2 0 _ u rfl rfl
  obtain ⟨a, c, rfl⟩ := own_form hu
  exact ⟨a, c, h2.rg 1 _ rfl, hu⟩
theorem BA.inbs {w : World} {b o : Nat} {x : Box0} {sv : List Box0} {B : List Nat} (h : BA w b o x sv B) : ∃ a c, w.cell? ⟨b, o + 2, none⟩ = some (.slice a x.inb.length c) ∧ w.ownsRow 0 68 41 (.slice a x.inb.length c) x.inb.length (x.inb.flatMap msv) := by
  obtain ⟨sw, u, v, s, h1, h2, h3, h4, h5, h6⟩ := h
  have hu : w.ownsRow 0 68 41 v x.inb.length (x.inb.flatMap msv) := h2.cv.fl.2 1 _ v rfl rfl
  obtain ⟨a, c, rfl⟩ := own_form hu
  exact ⟨a, c, h2.rg 2 _ rfl, hu⟩
/-- A message of a row. -/
theorem msg_at {w : World} {g n n' c : Nat} {L : List Msg} (h : w.ownsRow 0 68 41 (.slice (some ⟨g, 0, none⟩) n' c) n (L.flatMap msv)) (ho : ∀ m, m ∈ L → MsgOk m) {k : Nat} {m : Msg} (hk : L[k]? = some m) : w.rangeAt g (k * 41) (msv m) :=
  range_flat (fun m hm => msv_len (ho m hm)) (own_range h) hk
attribute [-simp] Try.isAgg68 Try.sizeOf68 Try.typeInfo68

set_option linter.unusedSimpArgs false in
set_option maxRecDepth 100000 in
set_option maxHeartbeats 4000000 in
theorem consume_1 (w : World) (b o : Nat) (x : Box0) (sv : List Box0) (B : List Nat) (b2 o2 : Nat) (y : Box0) (tv : List Box0) (B2 : List Nat) (m : Msg) (hx : BA w b o x sv B) (hy : BA w b2 o2 y tv B2) (hm : MsgOk m) (hl : y.out.length ≤ 1000000000000) (hc : fld m 2 ≠ x.ch) :
    Calls Try.prog 61 #[.pointer (some ⟨b, o, none⟩), .pointer (some ⟨b2, o2, none⟩), .agg (msv m).toArray] w fun e w' => e = .returned (.int .i64 51) ∧ Below w.heap.size w w' := by
  have HM := hide hm
  have HX := hide hx
  have HY := hide hy
  have cX : w.cell? ⟨b, o, none⟩ = some (.int .u8 x.ch) := hx.cell (j := 0) (fun _ _ _ => rfl)
  have cY : w.cell? ⟨b2, o2, none⟩ = some (.int .u8 y.ch) := hy.cell (j := 0) (fun _ _ _ => rfl)
  obtain ⟨V, hV⟩ : ∃ V, msv m = V := ⟨_, rfl⟩
  have v1 : V[1]? = some (.int .u8 (fld m 1)) := by rw [← hV]; exact fld_at HM.out (by omega)
  have v2 : V[2]? = some (.int .u8 (fld m 2)) := by rw [← hV]; exact fld_at HM.out (by omega)
  have v5 : V[5]? = some (.int .u64 (fld m 5)) := by rw [← hV]; exact fld_at HM.out (by omega)
  obtain ⟨k, hk⟩ : ∃ k : Nat, fld m 5 = (k : Int) := ⟨(fld m 5).toNat, by have := (fld_r HM.out (j := 5) (by omega)).1; omega⟩
  rw [hk] at v5
  have HK := hide hk
  have HVl : Hid (V.length = 41) := by rw [← hV]; exact msv_len HM.out
  obtain ⟨ya, yc, cO, hyo⟩ := hy.outs
  have HYO := hide hyo
  have HVe := hide hV
  rw [hV]
  clear hV hk hyo hx hy hm
  generalize fld m 1 = mf at *
  generalize fld m 2 = mt at *
  obtain ⟨yn, hyn⟩ : ∃ yn, y.out.length = yn := ⟨_, rfl⟩
  rw [hyn] at hl cO
  have HYN := hide hyn
  clear hyn
  have hwy : IntKind.u64.wrap (yn : Int) = yn := by rw [IntKind.wrap_u64]; omega
  obtain ⟨xc, hxc⟩ : ∃ c, x.ch = c := ⟨_, rfl⟩
  obtain ⟨yc0, hyc⟩ : ∃ c, y.ch = c := ⟨_, rfl⟩
  rw [hxc] at cX
  rw [hyc] at cY
  have e1 : (mt != xc) = true := by rw [← hxc]; simpa using hc
  clear hc hxc hyc
  go_enter Try.func61, Try.ntmps61
  go_upto_region 1 with fail
  obtain ⟨A, hA⟩ : ∃ A, w.heap.size = A := ⟨_, rfl⟩
  have HA := hide hA
  have R1 := hide (newR w V 68)
  have B1 := hide (be1 w (.cells V.toArray 68))
  rw [hA] at R1 ⊢
  have E1 : Hid ((w.alloc (.cells V.toArray 68)).heap.size = A + 1) := by simp [Hid, hA]
  generalize w.alloc (.cells V.toArray 68) = w1 at *
  clear hA
  have zX := cellKeep B1.out cX
  have zY := cellKeep B1.out cY
  have zO := cellKeep B1.out cO
  have z1 : w1.cell? ⟨A, 1, none⟩ = some (.int .u8 mf) := by have := R1.out 1 _ v1; simpa using this
  have z2 : w1.cell? ⟨A, 2, none⟩ = some (.int .u8 mt) := by have := R1.out 2 _ v2; simpa using this
  have z5 : w1.cell? ⟨A, 5, none⟩ = some (.int .u64 (k : Int)) := by have := R1.out 5 _ v5; simpa using this
  clear cX cY cO v1 v2 v5
  have HBD := hide (B1.out.drew)
  refine wp_region_held_drew (S := fun w' => w'.rangeAt A 0 V ∧ w'.cell? ⟨A, 2, none⟩ = some (.int .u8 mt) ∧ w'.cell? ⟨A, 1, none⟩ = some (.int .u8 mf) ∧ w'.cell? ⟨A, 5, none⟩ = some (.int .u64 (k : Int)) ∧ w'.cell? ⟨b, o, none⟩ = some (.int .u8 xc) ∧ w'.cell? ⟨b2, o2, none⟩ = some (.int .u8 yc0) ∧ w'.cell? ⟨b2, o2 + 1, none⟩ = some (.slice ya yn yc)) (by kernel_rfl) ⟨R1.out, z2, z1, z5, zX, zY, zO⟩ (fun hHeld => ?_)
  refine wpAnyH_take (i := 0) (v := ?_) rfl (by kernel_rfl) (by kernel_rfl) (by kernel_rfl) (fun _ _ _ h => h) (Or.inl ⟨by rfl, ?_⟩) (by assumption) ?_
  rotate_left
  · (intro w hSw; (try dsimp only at hSw); go_simp; try (with_reducible rfl))
  try simp only [Act.put, List.getElem_toArray, List.getElem_cons_zero, List.getElem_cons_succ, List.setIfInBounds_toArray, List.set_cons_zero, List.set_cons_succ]
  refine wpAnyH_take (i := 1) (v := ?_) rfl (by kernel_rfl) (by kernel_rfl) (by kernel_rfl) (fun _ _ _ h => h) (Or.inl ⟨by rfl, ?_⟩) (by assumption) ?_
  rotate_left
  · (intro w hSw; (try dsimp only at hSw); go_simp; try (with_reducible rfl))
  try simp only [Act.put, List.getElem_toArray, List.getElem_cons_zero, List.getElem_cons_succ, List.setIfInBounds_toArray, List.set_cons_zero, List.set_cons_succ]
  refine wpAnyH_take (i := 2) (v := ?_) rfl (by kernel_rfl) (by kernel_rfl) (by kernel_rfl) (fun _ _ _ h => h) (Or.inl ⟨by rfl, ?_⟩) (by assumption) ?_
  rotate_left
  · (intro w hSw; (try dsimp only at hSw); go_simp; try (with_reducible rfl))
  try simp only [Act.put, List.getElem_toArray, List.getElem_cons_zero, List.getElem_cons_succ, List.setIfInBounds_toArray, List.set_cons_zero, List.set_cons_succ]
  refine wpAnyH_take (i := 3) (v := ?_) rfl (by kernel_rfl) (by kernel_rfl) (by kernel_rfl) (fun _ _ _ h => h) (Or.inl ⟨by rfl, ?_⟩) (by assumption) ?_
  rotate_left
  · (intro w hSw; (try dsimp only at hSw); go_simp; try (with_reducible rfl))
  try simp only [Act.put, List.getElem_toArray, List.getElem_cons_zero, List.getElem_cons_succ, List.setIfInBounds_toArray, List.set_cons_zero, List.set_cons_succ]
  refine wpAnyH_take (i := 4) (v := ?_) rfl (by kernel_rfl) (by kernel_rfl) (by kernel_rfl) (fun _ _ _ h => h) (Or.inl ⟨by rfl, ?_⟩) (by assumption) ?_
  rotate_left
  · (intro w hSw; (try dsimp only at hSw); go_simp; try (with_reducible rfl))
  try simp only [Act.put, List.getElem_toArray, List.getElem_cons_zero, List.getElem_cons_succ, List.setIfInBounds_toArray, List.set_cons_zero, List.set_cons_succ]
  refine wpAnyH_take (i := 5) (v := ?_) rfl (by kernel_rfl) (by kernel_rfl) (by kernel_rfl) (fun _ _ _ h => h) (Or.inl ⟨by rfl, ?_⟩) (by assumption) ?_
  rotate_left
  · (intro w hSw; (try dsimp only at hSw); go_simp; try (with_reducible rfl))
  try simp only [Act.put, List.getElem_toArray, List.getElem_cons_zero, List.getElem_cons_succ, List.setIfInBounds_toArray, List.set_cons_zero, List.set_cons_succ]
  refine wpAnyH_take (i := 6) (v := ?_) rfl (by kernel_rfl) (by kernel_rfl) (by kernel_rfl) (fun _ _ _ h => h) (Or.inl ⟨by rfl, ?_⟩) (by assumption) ?_
  rotate_left
  · (intro w hSw; (try dsimp only at hSw); go_simp; try (with_reducible rfl))
  try simp only [Act.put, List.getElem_toArray, List.getElem_cons_zero, List.getElem_cons_succ, List.setIfInBounds_toArray, List.set_cons_zero, List.set_cons_succ]
  refine wpAnyH_take (i := 7) (v := ?_) rfl (by kernel_rfl) (by kernel_rfl) (by kernel_rfl) (fun _ _ _ h => h) (Or.inl ⟨by rfl, ?_⟩) (by assumption) ?_
  rotate_left
  · (intro w hSw; (try dsimp only at hSw); go_simp; try (with_reducible rfl))
  try simp only [Act.put, List.getElem_toArray, List.getElem_cons_zero, List.getElem_cons_succ, List.setIfInBounds_toArray, List.set_cons_zero, List.set_cons_succ]
  refine wpAnyH_take (i := 8) (v := undef) rfl (by kernel_rfl) (by kernel_rfl) (by kernel_rfl) (fun _ _ _ h => h) (Or.inr ⟨by rfl, rfl⟩) (by assumption) ?_
  try simp only [Act.put, List.getElem_toArray, List.getElem_cons_zero, List.getElem_cons_succ, List.setIfInBounds_toArray, List.set_cons_zero, List.set_cons_succ]
  refine wpAnyH_take (i := 9) (v := undef) rfl (by kernel_rfl) (by kernel_rfl) (by kernel_rfl) (fun _ _ _ h => h) (Or.inr ⟨by rfl, rfl⟩) (by assumption) ?_
  try simp only [Act.put, List.getElem_toArray, List.getElem_cons_zero, List.getElem_cons_succ, List.setIfInBounds_toArray, List.set_cons_zero, List.set_cons_succ]
  refine wpAnyH_take (i := 10) (v := undef) rfl (by kernel_rfl) (by kernel_rfl) (by kernel_rfl) (fun _ _ _ h => h) (Or.inr ⟨by rfl, rfl⟩) (by assumption) ?_
  try simp only [Act.put, List.getElem_toArray, List.getElem_cons_zero, List.getElem_cons_succ, List.setIfInBounds_toArray, List.set_cons_zero, List.set_cons_succ]
  refine wpAnyH_take (i := 11) (v := undef) rfl (by kernel_rfl) (by kernel_rfl) (by kernel_rfl) (fun _ _ _ h => h) (Or.inr ⟨by rfl, rfl⟩) (by assumption) ?_
  try simp only [Act.put, List.getElem_toArray, List.getElem_cons_zero, List.getElem_cons_succ, List.setIfInBounds_toArray, List.set_cons_zero, List.set_cons_succ]
  refine wpAnyH_take (i := 12) (v := undef) rfl (by kernel_rfl) (by kernel_rfl) (by kernel_rfl) (fun _ _ _ h => h) (Or.inr ⟨by rfl, rfl⟩) (by assumption) ?_
  try simp only [Act.put, List.getElem_toArray, List.getElem_cons_zero, List.getElem_cons_succ, List.setIfInBounds_toArray, List.set_cons_zero, List.set_cons_succ]
  refine wpAnyH_take (i := 13) (v := undef) rfl (by kernel_rfl) (by kernel_rfl) (by kernel_rfl) (fun _ _ _ h => h) (Or.inr ⟨by rfl, rfl⟩) (by assumption) ?_
  try simp only [Act.put, List.getElem_toArray, List.getElem_cons_zero, List.getElem_cons_succ, List.setIfInBounds_toArray, List.set_cons_zero, List.set_cons_succ]
  refine wpAnyH_take (i := 14) (v := undef) rfl (by kernel_rfl) (by kernel_rfl) (by kernel_rfl) (fun _ _ _ h => h) (Or.inr ⟨by rfl, rfl⟩) (by assumption) ?_
  try simp only [Act.put, List.getElem_toArray, List.getElem_cons_zero, List.getElem_cons_succ, List.setIfInBounds_toArray, List.set_cons_zero, List.set_cons_succ]
  refine wpAnyH_take (i := 15) (v := ?_) rfl (by kernel_rfl) (by kernel_rfl) (by kernel_rfl) (fun _ _ _ h => h) (Or.inl ⟨by rfl, ?_⟩) (by assumption) ?_
  rotate_left
  · (intro w hSw; (try dsimp only at hSw); go_simp; try (with_reducible rfl))
  try simp only [Act.put, List.getElem_toArray, List.getElem_cons_zero, List.getElem_cons_succ, List.setIfInBounds_toArray, List.set_cons_zero, List.set_cons_succ]
  refine wpAnyH_take (i := 16) (v := ?_) rfl (by kernel_rfl) (by kernel_rfl) (by kernel_rfl) (fun _ _ _ h => h) (Or.inl ⟨by rfl, ?_⟩) (by assumption) ?_
  rotate_left
  · (intro w hSw; (try dsimp only at hSw); go_simp; try (with_reducible rfl))
  try simp only [Act.put, List.getElem_toArray, List.getElem_cons_zero, List.getElem_cons_succ, List.setIfInBounds_toArray, List.set_cons_zero, List.set_cons_succ]
  refine wpAnyH_take (i := 17) (v := undef) rfl (by kernel_rfl) (by kernel_rfl) (by kernel_rfl) (fun _ _ _ h => h) (Or.inr ⟨by rfl, rfl⟩) (by assumption) ?_
  try simp only [Act.put, List.getElem_toArray, List.getElem_cons_zero, List.getElem_cons_succ, List.setIfInBounds_toArray, List.set_cons_zero, List.set_cons_succ]
  refine wpAnyH_take (i := 18) (v := undef) rfl (by kernel_rfl) (by kernel_rfl) (by kernel_rfl) (fun _ _ _ h => h) (Or.inr ⟨by rfl, rfl⟩) (by assumption) ?_
  try simp only [Act.put, List.getElem_toArray, List.getElem_cons_zero, List.getElem_cons_succ, List.setIfInBounds_toArray, List.set_cons_zero, List.set_cons_succ]
  refine wpAnyH_take (i := 19) (v := undef) rfl (by kernel_rfl) (by kernel_rfl) (by kernel_rfl) (fun _ _ _ h => h) (Or.inr ⟨by rfl, rfl⟩) (by assumption) ?_
  try simp only [Act.put, List.getElem_toArray, List.getElem_cons_zero, List.getElem_cons_succ, List.setIfInBounds_toArray, List.set_cons_zero, List.set_cons_succ]
  refine wpAnyH_take (i := 20) (v := undef) rfl (by kernel_rfl) (by kernel_rfl) (by kernel_rfl) (fun _ _ _ h => h) (Or.inr ⟨by rfl, rfl⟩) (by assumption) ?_
  try simp only [Act.put, List.getElem_toArray, List.getElem_cons_zero, List.getElem_cons_succ, List.setIfInBounds_toArray, List.set_cons_zero, List.set_cons_succ]
  refine wpAnyH_take (i := 21) (v := undef) rfl (by kernel_rfl) (by kernel_rfl) (by kernel_rfl) (fun _ _ _ h => h) (Or.inr ⟨by rfl, rfl⟩) (by assumption) ?_
  try simp only [Act.put, List.getElem_toArray, List.getElem_cons_zero, List.getElem_cons_succ, List.setIfInBounds_toArray, List.set_cons_zero, List.set_cons_succ]
  refine wpAnyH_take (i := 22) (v := undef) rfl (by kernel_rfl) (by kernel_rfl) (by kernel_rfl) (fun _ _ _ h => h) (Or.inr ⟨by rfl, rfl⟩) (by assumption) ?_
  try simp only [Act.put, List.getElem_toArray, List.getElem_cons_zero, List.getElem_cons_succ, List.setIfInBounds_toArray, List.set_cons_zero, List.set_cons_succ]
  refine wpAnyH_take (i := 23) (v := undef) rfl (by kernel_rfl) (by kernel_rfl) (by kernel_rfl) (fun _ _ _ h => h) (Or.inr ⟨by rfl, rfl⟩) (by assumption) ?_
  try simp only [Act.put, List.getElem_toArray, List.getElem_cons_zero, List.getElem_cons_succ, List.setIfInBounds_toArray, List.set_cons_zero, List.set_cons_succ]
  refine wpAnyH_take (i := 24) (v := undef) rfl (by kernel_rfl) (by kernel_rfl) (by kernel_rfl) (fun _ _ _ h => h) (Or.inr ⟨by rfl, rfl⟩) (by assumption) ?_
  try simp only [Act.put, List.getElem_toArray, List.getElem_cons_zero, List.getElem_cons_succ, List.setIfInBounds_toArray, List.set_cons_zero, List.set_cons_succ]
  refine wpAnyH_take (i := 25) (v := undef) rfl (by kernel_rfl) (by kernel_rfl) (by kernel_rfl) (fun _ _ _ h => h) (Or.inr ⟨by rfl, rfl⟩) (by assumption) ?_
  try simp only [Act.put, List.getElem_toArray, List.getElem_cons_zero, List.getElem_cons_succ, List.setIfInBounds_toArray, List.set_cons_zero, List.set_cons_succ]
  refine wpAnyH_take (i := 26) (v := ?_) rfl (by kernel_rfl) (by kernel_rfl) (by kernel_rfl) (fun _ _ _ h => h) (Or.inl ⟨by rfl, ?_⟩) (by assumption) ?_
  rotate_left
  · (intro w hSw; (try dsimp only at hSw); go_simp; try (with_reducible rfl))
  try simp only [Act.put, List.getElem_toArray, List.getElem_cons_zero, List.getElem_cons_succ, List.setIfInBounds_toArray, List.set_cons_zero, List.set_cons_succ]
  refine wpAnyH_take (i := 27) (v := ?_) rfl (by kernel_rfl) (by kernel_rfl) (by kernel_rfl) (fun _ _ _ h => h) (Or.inl ⟨by rfl, ?_⟩) (by assumption) ?_
  rotate_left
  · (intro w hSw; (try dsimp only at hSw); go_simp; try (with_reducible rfl))
  try simp only [Act.put, List.getElem_toArray, List.getElem_cons_zero, List.getElem_cons_succ, List.setIfInBounds_toArray, List.set_cons_zero, List.set_cons_succ]
  refine wpAnyH_take (i := 28) (v := undef) rfl (by kernel_rfl) (by kernel_rfl) (by kernel_rfl) (fun _ _ _ h => h) (Or.inr ⟨by rfl, rfl⟩) (by assumption) ?_
  try simp only [Act.put, List.getElem_toArray, List.getElem_cons_zero, List.getElem_cons_succ, List.setIfInBounds_toArray, List.set_cons_zero, List.set_cons_succ]
  refine wpAnyH_take (i := 29) (v := undef) rfl (by kernel_rfl) (by kernel_rfl) (by kernel_rfl) (fun _ _ _ h => h) (Or.inr ⟨by rfl, rfl⟩) (by assumption) ?_
  try simp only [Act.put, List.getElem_toArray, List.getElem_cons_zero, List.getElem_cons_succ, List.setIfInBounds_toArray, List.set_cons_zero, List.set_cons_succ]
  refine wpAnyH_take (i := 30) (v := undef) rfl (by kernel_rfl) (by kernel_rfl) (by kernel_rfl) (fun _ _ _ h => h) (Or.inr ⟨by rfl, rfl⟩) (by assumption) ?_
  try simp only [Act.put, List.getElem_toArray, List.getElem_cons_zero, List.getElem_cons_succ, List.setIfInBounds_toArray, List.set_cons_zero, List.set_cons_succ]
  refine wpAnyH_take (i := 31) (v := undef) rfl (by kernel_rfl) (by kernel_rfl) (by kernel_rfl) (fun _ _ _ h => h) (Or.inr ⟨by rfl, rfl⟩) (by assumption) ?_
  try simp only [Act.put, List.getElem_toArray, List.getElem_cons_zero, List.getElem_cons_succ, List.setIfInBounds_toArray, List.set_cons_zero, List.set_cons_succ]
  refine wpAnyH_take (i := 32) (v := undef) rfl (by kernel_rfl) (by kernel_rfl) (by kernel_rfl) (fun _ _ _ h => h) (Or.inr ⟨by rfl, rfl⟩) (by assumption) ?_
  try simp only [Act.put, List.getElem_toArray, List.getElem_cons_zero, List.getElem_cons_succ, List.setIfInBounds_toArray, List.set_cons_zero, List.set_cons_succ]
  refine wpAnyH_take (i := 33) (v := undef) rfl (by kernel_rfl) (by kernel_rfl) (by kernel_rfl) (fun _ _ _ h => h) (Or.inr ⟨by rfl, rfl⟩) (by assumption) ?_
  try simp only [Act.put, List.getElem_toArray, List.getElem_cons_zero, List.getElem_cons_succ, List.setIfInBounds_toArray, List.set_cons_zero, List.set_cons_succ]
  refine wpAnyH_take (i := 34) (v := undef) rfl (by kernel_rfl) (by kernel_rfl) (by kernel_rfl) (fun _ _ _ h => h) (Or.inr ⟨by rfl, rfl⟩) (by assumption) ?_
  try simp only [Act.put, List.getElem_toArray, List.getElem_cons_zero, List.getElem_cons_succ, List.setIfInBounds_toArray, List.set_cons_zero, List.set_cons_succ]
  refine wpAnyH_take (i := 35) (v := undef) rfl (by kernel_rfl) (by kernel_rfl) (by kernel_rfl) (fun _ _ _ h => h) (Or.inr ⟨by rfl, rfl⟩) (by assumption) ?_
  try simp only [Act.put, List.getElem_toArray, List.getElem_cons_zero, List.getElem_cons_succ, List.setIfInBounds_toArray, List.set_cons_zero, List.set_cons_succ]
  refine wpAnyH_take (i := 36) (v := undef) rfl (by kernel_rfl) (by kernel_rfl) (by kernel_rfl) (fun _ _ _ h => h) (Or.inr ⟨by rfl, rfl⟩) (by assumption) ?_
  try simp only [Act.put, List.getElem_toArray, List.getElem_cons_zero, List.getElem_cons_succ, List.setIfInBounds_toArray, List.set_cons_zero, List.set_cons_succ]
  refine wpAnyH_take (i := 37) (v := undef) rfl (by kernel_rfl) (by kernel_rfl) (by kernel_rfl) (fun _ _ _ h => h) (Or.inr ⟨by rfl, rfl⟩) (by assumption) ?_
  try simp only [Act.put, List.getElem_toArray, List.getElem_cons_zero, List.getElem_cons_succ, List.setIfInBounds_toArray, List.set_cons_zero, List.set_cons_succ]
  refine wpAnyH_take (i := 38) (v := ?_) rfl (by kernel_rfl) (by kernel_rfl) (by kernel_rfl) (fun _ _ _ h => h) (Or.inl ⟨by rfl, ?_⟩) (by assumption) ?_
  rotate_left
  · (intro w hSw; (try dsimp only at hSw); go_simp; try (with_reducible rfl))
  try simp only [Act.put, List.getElem_toArray, List.getElem_cons_zero, List.getElem_cons_succ, List.setIfInBounds_toArray, List.set_cons_zero, List.set_cons_succ]
  refine wpAnyH_done (by kernel_rfl) ?_ _
  generalize World.drew w1 = w9 at *
  go_wp2
  go_ret
  exact ⟨rfl, HBD.out⟩

set_option linter.unusedSimpArgs false in
set_option maxRecDepth 100000 in
set_option maxHeartbeats 4000000 in
theorem consume_2 (w : World) (b o : Nat) (x : Box0) (sv : List Box0) (B : List Nat) (b2 o2 : Nat) (y : Box0) (tv : List Box0) (B2 : List Nat) (m : Msg) (hx : BA w b o x sv B) (hy : BA w b2 o2 y tv B2) (hm : MsgOk m) (hl : y.out.length ≤ 1000000000000) (hc : fld m 2 = x.ch) (hd : fld m 1 ≠ y.ch) :
    Calls Try.prog 61 #[.pointer (some ⟨b, o, none⟩), .pointer (some ⟨b2, o2, none⟩), .agg (msv m).toArray] w fun e w' => e = .returned (.int .i64 51) ∧ Below w.heap.size w w' := by
  have HM := hide hm
  have HX := hide hx
  have HY := hide hy
  have cX : w.cell? ⟨b, o, none⟩ = some (.int .u8 x.ch) := hx.cell (j := 0) (fun _ _ _ => rfl)
  have cY : w.cell? ⟨b2, o2, none⟩ = some (.int .u8 y.ch) := hy.cell (j := 0) (fun _ _ _ => rfl)
  obtain ⟨V, hV⟩ : ∃ V, msv m = V := ⟨_, rfl⟩
  have v1 : V[1]? = some (.int .u8 (fld m 1)) := by rw [← hV]; exact fld_at HM.out (by omega)
  have v2 : V[2]? = some (.int .u8 (fld m 2)) := by rw [← hV]; exact fld_at HM.out (by omega)
  have v5 : V[5]? = some (.int .u64 (fld m 5)) := by rw [← hV]; exact fld_at HM.out (by omega)
  obtain ⟨k, hk⟩ : ∃ k : Nat, fld m 5 = (k : Int) := ⟨(fld m 5).toNat, by have := (fld_r HM.out (j := 5) (by omega)).1; omega⟩
  rw [hk] at v5
  have HK := hide hk
  have HVl : Hid (V.length = 41) := by rw [← hV]; exact msv_len HM.out
  obtain ⟨ya, yc, cO, hyo⟩ := hy.outs
  have HYO := hide hyo
  have HVe := hide hV
  rw [hV]
  clear hV hk hyo hx hy hm
  generalize fld m 1 = mf at *
  generalize fld m 2 = mt at *
  obtain ⟨yn, hyn⟩ : ∃ yn, y.out.length = yn := ⟨_, rfl⟩
  rw [hyn] at hl cO
  have HYN := hide hyn
  clear hyn
  have hwy : IntKind.u64.wrap (yn : Int) = yn := by rw [IntKind.wrap_u64]; omega
  obtain ⟨xc, hxc⟩ : ∃ c, x.ch = c := ⟨_, rfl⟩
  obtain ⟨yc0, hyc⟩ : ∃ c, y.ch = c := ⟨_, rfl⟩
  rw [hxc] at cX
  rw [hyc] at cY
  have e1 : (mt != xc) = false := by rw [← hxc]; simpa using hc
  have e2 : (mf != yc0) = true := by rw [← hyc]; simpa using hd
  clear hc hd hxc hyc
  go_enter Try.func61, Try.ntmps61
  go_upto_region 1 with fail
  obtain ⟨A, hA⟩ : ∃ A, w.heap.size = A := ⟨_, rfl⟩
  have HA := hide hA
  have R1 := hide (newR w V 68)
  have B1 := hide (be1 w (.cells V.toArray 68))
  rw [hA] at R1 ⊢
  have E1 : Hid ((w.alloc (.cells V.toArray 68)).heap.size = A + 1) := by simp [Hid, hA]
  generalize w.alloc (.cells V.toArray 68) = w1 at *
  clear hA
  have zX := cellKeep B1.out cX
  have zY := cellKeep B1.out cY
  have zO := cellKeep B1.out cO
  have z1 : w1.cell? ⟨A, 1, none⟩ = some (.int .u8 mf) := by have := R1.out 1 _ v1; simpa using this
  have z2 : w1.cell? ⟨A, 2, none⟩ = some (.int .u8 mt) := by have := R1.out 2 _ v2; simpa using this
  have z5 : w1.cell? ⟨A, 5, none⟩ = some (.int .u64 (k : Int)) := by have := R1.out 5 _ v5; simpa using this
  clear cX cY cO v1 v2 v5
  have HBD := hide (B1.out.drew)
  refine wp_region_held_drew (S := fun w' => w'.rangeAt A 0 V ∧ w'.cell? ⟨A, 2, none⟩ = some (.int .u8 mt) ∧ w'.cell? ⟨A, 1, none⟩ = some (.int .u8 mf) ∧ w'.cell? ⟨A, 5, none⟩ = some (.int .u64 (k : Int)) ∧ w'.cell? ⟨b, o, none⟩ = some (.int .u8 xc) ∧ w'.cell? ⟨b2, o2, none⟩ = some (.int .u8 yc0) ∧ w'.cell? ⟨b2, o2 + 1, none⟩ = some (.slice ya yn yc)) (by kernel_rfl) ⟨R1.out, z2, z1, z5, zX, zY, zO⟩ (fun hHeld => ?_)
  refine wpAnyH_take (i := 0) (v := ?_) rfl (by kernel_rfl) (by kernel_rfl) (by kernel_rfl) (fun _ _ _ h => h) (Or.inl ⟨by rfl, ?_⟩) (by assumption) ?_
  rotate_left
  · (intro w hSw; (try dsimp only at hSw); go_simp; try (with_reducible rfl))
  try simp only [Act.put, List.getElem_toArray, List.getElem_cons_zero, List.getElem_cons_succ, List.setIfInBounds_toArray, List.set_cons_zero, List.set_cons_succ]
  refine wpAnyH_take (i := 1) (v := ?_) rfl (by kernel_rfl) (by kernel_rfl) (by kernel_rfl) (fun _ _ _ h => h) (Or.inl ⟨by rfl, ?_⟩) (by assumption) ?_
  rotate_left
  · (intro w hSw; (try dsimp only at hSw); go_simp; try (with_reducible rfl))
  try simp only [Act.put, List.getElem_toArray, List.getElem_cons_zero, List.getElem_cons_succ, List.setIfInBounds_toArray, List.set_cons_zero, List.set_cons_succ]
  refine wpAnyH_take (i := 2) (v := ?_) rfl (by kernel_rfl) (by kernel_rfl) (by kernel_rfl) (fun _ _ _ h => h) (Or.inl ⟨by rfl, ?_⟩) (by assumption) ?_
  rotate_left
  · (intro w hSw; (try dsimp only at hSw); go_simp; try (with_reducible rfl))
  try simp only [Act.put, List.getElem_toArray, List.getElem_cons_zero, List.getElem_cons_succ, List.setIfInBounds_toArray, List.set_cons_zero, List.set_cons_succ]
  refine wpAnyH_take (i := 3) (v := ?_) rfl (by kernel_rfl) (by kernel_rfl) (by kernel_rfl) (fun _ _ _ h => h) (Or.inl ⟨by rfl, ?_⟩) (by assumption) ?_
  rotate_left
  · (intro w hSw; (try dsimp only at hSw); go_simp; try (with_reducible rfl))
  try simp only [Act.put, List.getElem_toArray, List.getElem_cons_zero, List.getElem_cons_succ, List.setIfInBounds_toArray, List.set_cons_zero, List.set_cons_succ]
  refine wpAnyH_take (i := 4) (v := ?_) rfl (by kernel_rfl) (by kernel_rfl) (by kernel_rfl) (fun _ _ _ h => h) (Or.inl ⟨by rfl, ?_⟩) (by assumption) ?_
  rotate_left
  · (intro w hSw; (try dsimp only at hSw); go_simp; try (with_reducible rfl))
  try simp only [Act.put, List.getElem_toArray, List.getElem_cons_zero, List.getElem_cons_succ, List.setIfInBounds_toArray, List.set_cons_zero, List.set_cons_succ]
  refine wpAnyH_take (i := 5) (v := ?_) rfl (by kernel_rfl) (by kernel_rfl) (by kernel_rfl) (fun _ _ _ h => h) (Or.inl ⟨by rfl, ?_⟩) (by assumption) ?_
  rotate_left
  · (intro w hSw; (try dsimp only at hSw); go_simp; try (with_reducible rfl))
  try simp only [Act.put, List.getElem_toArray, List.getElem_cons_zero, List.getElem_cons_succ, List.setIfInBounds_toArray, List.set_cons_zero, List.set_cons_succ]
  refine wpAnyH_take (i := 6) (v := ?_) rfl (by kernel_rfl) (by kernel_rfl) (by kernel_rfl) (fun _ _ _ h => h) (Or.inl ⟨by rfl, ?_⟩) (by assumption) ?_
  rotate_left
  · (intro w hSw; (try dsimp only at hSw); go_simp; try (with_reducible rfl))
  try simp only [Act.put, List.getElem_toArray, List.getElem_cons_zero, List.getElem_cons_succ, List.setIfInBounds_toArray, List.set_cons_zero, List.set_cons_succ]
  refine wpAnyH_take (i := 7) (v := ?_) rfl (by kernel_rfl) (by kernel_rfl) (by kernel_rfl) (fun _ _ _ h => h) (Or.inl ⟨by rfl, ?_⟩) (by assumption) ?_
  rotate_left
  · (intro w hSw; (try dsimp only at hSw); go_simp; try (with_reducible rfl))
  try simp only [Act.put, List.getElem_toArray, List.getElem_cons_zero, List.getElem_cons_succ, List.setIfInBounds_toArray, List.set_cons_zero, List.set_cons_succ]
  refine wpAnyH_take (i := 8) (v := ?_) rfl (by kernel_rfl) (by kernel_rfl) (by kernel_rfl) (fun _ _ _ h => h) (Or.inl ⟨by rfl, ?_⟩) (by assumption) ?_
  rotate_left
  · (intro w hSw; (try dsimp only at hSw); go_simp; try (with_reducible rfl))
  try simp only [Act.put, List.getElem_toArray, List.getElem_cons_zero, List.getElem_cons_succ, List.setIfInBounds_toArray, List.set_cons_zero, List.set_cons_succ]
  refine wpAnyH_take (i := 9) (v := ?_) rfl (by kernel_rfl) (by kernel_rfl) (by kernel_rfl) (fun _ _ _ h => h) (Or.inl ⟨by rfl, ?_⟩) (by assumption) ?_
  rotate_left
  · (intro w hSw; (try dsimp only at hSw); go_simp; try (with_reducible rfl))
  try simp only [Act.put, List.getElem_toArray, List.getElem_cons_zero, List.getElem_cons_succ, List.setIfInBounds_toArray, List.set_cons_zero, List.set_cons_succ]
  refine wpAnyH_take (i := 10) (v := ?_) rfl (by kernel_rfl) (by kernel_rfl) (by kernel_rfl) (fun _ _ _ h => h) (Or.inl ⟨by rfl, ?_⟩) (by assumption) ?_
  rotate_left
  · (intro w hSw; (try dsimp only at hSw); go_simp; try (with_reducible rfl))
  try simp only [Act.put, List.getElem_toArray, List.getElem_cons_zero, List.getElem_cons_succ, List.setIfInBounds_toArray, List.set_cons_zero, List.set_cons_succ]
  refine wpAnyH_take (i := 11) (v := ?_) rfl (by kernel_rfl) (by kernel_rfl) (by kernel_rfl) (fun _ _ _ h => h) (Or.inl ⟨by rfl, ?_⟩) (by assumption) ?_
  rotate_left
  · (intro w hSw; (try dsimp only at hSw); go_simp; try (with_reducible rfl))
  try simp only [Act.put, List.getElem_toArray, List.getElem_cons_zero, List.getElem_cons_succ, List.setIfInBounds_toArray, List.set_cons_zero, List.set_cons_succ]
  refine wpAnyH_take (i := 12) (v := ?_) rfl (by kernel_rfl) (by kernel_rfl) (by kernel_rfl) (fun _ _ _ h => h) (Or.inl ⟨by rfl, ?_⟩) (by assumption) ?_
  rotate_left
  · (intro w hSw; (try dsimp only at hSw); go_simp; try (with_reducible rfl))
  try simp only [Act.put, List.getElem_toArray, List.getElem_cons_zero, List.getElem_cons_succ, List.setIfInBounds_toArray, List.set_cons_zero, List.set_cons_succ]
  refine wpAnyH_take (i := 13) (v := ?_) rfl (by kernel_rfl) (by kernel_rfl) (by kernel_rfl) (fun _ _ _ h => h) (Or.inl ⟨by rfl, ?_⟩) (by assumption) ?_
  rotate_left
  · (intro w hSw; (try dsimp only at hSw); go_simp; try (with_reducible rfl))
  try simp only [Act.put, List.getElem_toArray, List.getElem_cons_zero, List.getElem_cons_succ, List.setIfInBounds_toArray, List.set_cons_zero, List.set_cons_succ]
  refine wpAnyH_take (i := 14) (v := ?_) rfl (by kernel_rfl) (by kernel_rfl) (by kernel_rfl) (fun _ _ _ h => h) (Or.inl ⟨by rfl, ?_⟩) (by assumption) ?_
  rotate_left
  · (intro w hSw; (try dsimp only at hSw); go_simp; try (with_reducible rfl))
  try simp only [Act.put, List.getElem_toArray, List.getElem_cons_zero, List.getElem_cons_succ, List.setIfInBounds_toArray, List.set_cons_zero, List.set_cons_succ]
  refine wpAnyH_take (i := 15) (v := ?_) rfl (by kernel_rfl) (by kernel_rfl) (by kernel_rfl) (fun _ _ _ h => h) (Or.inl ⟨by rfl, ?_⟩) (by assumption) ?_
  rotate_left
  · (intro w hSw; (try dsimp only at hSw); go_simp; try (with_reducible rfl))
  try simp only [Act.put, List.getElem_toArray, List.getElem_cons_zero, List.getElem_cons_succ, List.setIfInBounds_toArray, List.set_cons_zero, List.set_cons_succ]
  refine wpAnyH_take (i := 16) (v := ?_) rfl (by kernel_rfl) (by kernel_rfl) (by kernel_rfl) (fun _ _ _ h => h) (Or.inl ⟨by rfl, ?_⟩) (by assumption) ?_
  rotate_left
  · (intro w hSw; (try dsimp only at hSw); go_simp; try (with_reducible rfl))
  try simp only [Act.put, List.getElem_toArray, List.getElem_cons_zero, List.getElem_cons_succ, List.setIfInBounds_toArray, List.set_cons_zero, List.set_cons_succ]
  refine wpAnyH_take (i := 17) (v := undef) rfl (by kernel_rfl) (by kernel_rfl) (by kernel_rfl) (fun _ _ _ h => h) (Or.inr ⟨by rfl, rfl⟩) (by assumption) ?_
  try simp only [Act.put, List.getElem_toArray, List.getElem_cons_zero, List.getElem_cons_succ, List.setIfInBounds_toArray, List.set_cons_zero, List.set_cons_succ]
  refine wpAnyH_take (i := 18) (v := undef) rfl (by kernel_rfl) (by kernel_rfl) (by kernel_rfl) (fun _ _ _ h => h) (Or.inr ⟨by rfl, rfl⟩) (by assumption) ?_
  try simp only [Act.put, List.getElem_toArray, List.getElem_cons_zero, List.getElem_cons_succ, List.setIfInBounds_toArray, List.set_cons_zero, List.set_cons_succ]
  refine wpAnyH_take (i := 19) (v := undef) rfl (by kernel_rfl) (by kernel_rfl) (by kernel_rfl) (fun _ _ _ h => h) (Or.inr ⟨by rfl, rfl⟩) (by assumption) ?_
  try simp only [Act.put, List.getElem_toArray, List.getElem_cons_zero, List.getElem_cons_succ, List.setIfInBounds_toArray, List.set_cons_zero, List.set_cons_succ]
  refine wpAnyH_take (i := 20) (v := undef) rfl (by kernel_rfl) (by kernel_rfl) (by kernel_rfl) (fun _ _ _ h => h) (Or.inr ⟨by rfl, rfl⟩) (by assumption) ?_
  try simp only [Act.put, List.getElem_toArray, List.getElem_cons_zero, List.getElem_cons_succ, List.setIfInBounds_toArray, List.set_cons_zero, List.set_cons_succ]
  refine wpAnyH_take (i := 21) (v := undef) rfl (by kernel_rfl) (by kernel_rfl) (by kernel_rfl) (fun _ _ _ h => h) (Or.inr ⟨by rfl, rfl⟩) (by assumption) ?_
  try simp only [Act.put, List.getElem_toArray, List.getElem_cons_zero, List.getElem_cons_succ, List.setIfInBounds_toArray, List.set_cons_zero, List.set_cons_succ]
  refine wpAnyH_take (i := 22) (v := undef) rfl (by kernel_rfl) (by kernel_rfl) (by kernel_rfl) (fun _ _ _ h => h) (Or.inr ⟨by rfl, rfl⟩) (by assumption) ?_
  try simp only [Act.put, List.getElem_toArray, List.getElem_cons_zero, List.getElem_cons_succ, List.setIfInBounds_toArray, List.set_cons_zero, List.set_cons_succ]
  refine wpAnyH_take (i := 23) (v := undef) rfl (by kernel_rfl) (by kernel_rfl) (by kernel_rfl) (fun _ _ _ h => h) (Or.inr ⟨by rfl, rfl⟩) (by assumption) ?_
  try simp only [Act.put, List.getElem_toArray, List.getElem_cons_zero, List.getElem_cons_succ, List.setIfInBounds_toArray, List.set_cons_zero, List.set_cons_succ]
  refine wpAnyH_take (i := 24) (v := undef) rfl (by kernel_rfl) (by kernel_rfl) (by kernel_rfl) (fun _ _ _ h => h) (Or.inr ⟨by rfl, rfl⟩) (by assumption) ?_
  try simp only [Act.put, List.getElem_toArray, List.getElem_cons_zero, List.getElem_cons_succ, List.setIfInBounds_toArray, List.set_cons_zero, List.set_cons_succ]
  refine wpAnyH_take (i := 25) (v := undef) rfl (by kernel_rfl) (by kernel_rfl) (by kernel_rfl) (fun _ _ _ h => h) (Or.inr ⟨by rfl, rfl⟩) (by assumption) ?_
  try simp only [Act.put, List.getElem_toArray, List.getElem_cons_zero, List.getElem_cons_succ, List.setIfInBounds_toArray, List.set_cons_zero, List.set_cons_succ]
  refine wpAnyH_take (i := 26) (v := ?_) rfl (by kernel_rfl) (by kernel_rfl) (by kernel_rfl) (fun _ _ _ h => h) (Or.inl ⟨by rfl, ?_⟩) (by assumption) ?_
  rotate_left
  · (intro w hSw; (try dsimp only at hSw); go_simp; try (with_reducible rfl))
  try simp only [Act.put, List.getElem_toArray, List.getElem_cons_zero, List.getElem_cons_succ, List.setIfInBounds_toArray, List.set_cons_zero, List.set_cons_succ]
  refine wpAnyH_take (i := 27) (v := ?_) rfl (by kernel_rfl) (by kernel_rfl) (by kernel_rfl) (fun _ _ _ h => h) (Or.inl ⟨by rfl, ?_⟩) (by assumption) ?_
  rotate_left
  · (intro w hSw; (try dsimp only at hSw); go_simp; try (with_reducible rfl))
  try simp only [Act.put, List.getElem_toArray, List.getElem_cons_zero, List.getElem_cons_succ, List.setIfInBounds_toArray, List.set_cons_zero, List.set_cons_succ]
  refine wpAnyH_take (i := 28) (v := undef) rfl (by kernel_rfl) (by kernel_rfl) (by kernel_rfl) (fun _ _ _ h => h) (Or.inr ⟨by rfl, rfl⟩) (by assumption) ?_
  try simp only [Act.put, List.getElem_toArray, List.getElem_cons_zero, List.getElem_cons_succ, List.setIfInBounds_toArray, List.set_cons_zero, List.set_cons_succ]
  refine wpAnyH_take (i := 29) (v := undef) rfl (by kernel_rfl) (by kernel_rfl) (by kernel_rfl) (fun _ _ _ h => h) (Or.inr ⟨by rfl, rfl⟩) (by assumption) ?_
  try simp only [Act.put, List.getElem_toArray, List.getElem_cons_zero, List.getElem_cons_succ, List.setIfInBounds_toArray, List.set_cons_zero, List.set_cons_succ]
  refine wpAnyH_take (i := 30) (v := undef) rfl (by kernel_rfl) (by kernel_rfl) (by kernel_rfl) (fun _ _ _ h => h) (Or.inr ⟨by rfl, rfl⟩) (by assumption) ?_
  try simp only [Act.put, List.getElem_toArray, List.getElem_cons_zero, List.getElem_cons_succ, List.setIfInBounds_toArray, List.set_cons_zero, List.set_cons_succ]
  refine wpAnyH_take (i := 31) (v := undef) rfl (by kernel_rfl) (by kernel_rfl) (by kernel_rfl) (fun _ _ _ h => h) (Or.inr ⟨by rfl, rfl⟩) (by assumption) ?_
  try simp only [Act.put, List.getElem_toArray, List.getElem_cons_zero, List.getElem_cons_succ, List.setIfInBounds_toArray, List.set_cons_zero, List.set_cons_succ]
  refine wpAnyH_take (i := 32) (v := undef) rfl (by kernel_rfl) (by kernel_rfl) (by kernel_rfl) (fun _ _ _ h => h) (Or.inr ⟨by rfl, rfl⟩) (by assumption) ?_
  try simp only [Act.put, List.getElem_toArray, List.getElem_cons_zero, List.getElem_cons_succ, List.setIfInBounds_toArray, List.set_cons_zero, List.set_cons_succ]
  refine wpAnyH_take (i := 33) (v := undef) rfl (by kernel_rfl) (by kernel_rfl) (by kernel_rfl) (fun _ _ _ h => h) (Or.inr ⟨by rfl, rfl⟩) (by assumption) ?_
  try simp only [Act.put, List.getElem_toArray, List.getElem_cons_zero, List.getElem_cons_succ, List.setIfInBounds_toArray, List.set_cons_zero, List.set_cons_succ]
  refine wpAnyH_take (i := 34) (v := undef) rfl (by kernel_rfl) (by kernel_rfl) (by kernel_rfl) (fun _ _ _ h => h) (Or.inr ⟨by rfl, rfl⟩) (by assumption) ?_
  try simp only [Act.put, List.getElem_toArray, List.getElem_cons_zero, List.getElem_cons_succ, List.setIfInBounds_toArray, List.set_cons_zero, List.set_cons_succ]
  refine wpAnyH_take (i := 35) (v := undef) rfl (by kernel_rfl) (by kernel_rfl) (by kernel_rfl) (fun _ _ _ h => h) (Or.inr ⟨by rfl, rfl⟩) (by assumption) ?_
  try simp only [Act.put, List.getElem_toArray, List.getElem_cons_zero, List.getElem_cons_succ, List.setIfInBounds_toArray, List.set_cons_zero, List.set_cons_succ]
  refine wpAnyH_take (i := 36) (v := undef) rfl (by kernel_rfl) (by kernel_rfl) (by kernel_rfl) (fun _ _ _ h => h) (Or.inr ⟨by rfl, rfl⟩) (by assumption) ?_
  try simp only [Act.put, List.getElem_toArray, List.getElem_cons_zero, List.getElem_cons_succ, List.setIfInBounds_toArray, List.set_cons_zero, List.set_cons_succ]
  refine wpAnyH_take (i := 37) (v := undef) rfl (by kernel_rfl) (by kernel_rfl) (by kernel_rfl) (fun _ _ _ h => h) (Or.inr ⟨by rfl, rfl⟩) (by assumption) ?_
  try simp only [Act.put, List.getElem_toArray, List.getElem_cons_zero, List.getElem_cons_succ, List.setIfInBounds_toArray, List.set_cons_zero, List.set_cons_succ]
  refine wpAnyH_take (i := 38) (v := ?_) rfl (by kernel_rfl) (by kernel_rfl) (by kernel_rfl) (fun _ _ _ h => h) (Or.inl ⟨by rfl, ?_⟩) (by assumption) ?_
  rotate_left
  · (intro w hSw; (try dsimp only at hSw); go_simp; try (with_reducible rfl))
  try simp only [Act.put, List.getElem_toArray, List.getElem_cons_zero, List.getElem_cons_succ, List.setIfInBounds_toArray, List.set_cons_zero, List.set_cons_succ]
  refine wpAnyH_done (by kernel_rfl) ?_ _
  generalize World.drew w1 = w9 at *
  go_wp2
  go_ret
  exact ⟨rfl, HBD.out⟩

set_option linter.unusedSimpArgs false in
set_option maxRecDepth 100000 in
set_option maxHeartbeats 4000000 in
theorem consume_3 (w : World) (b o : Nat) (x : Box0) (sv : List Box0) (B : List Nat) (b2 o2 : Nat) (y : Box0) (tv : List Box0) (B2 : List Nat) (m : Msg) (hx : BA w b o x sv B) (hy : BA w b2 o2 y tv B2) (hm : MsgOk m) (hl : y.out.length ≤ 1000000000000) (hc : fld m 2 = x.ch) (hd : fld m 1 = y.ch) (hg : (y.out.length : Int) ≤ fld m 5) :
    Calls Try.prog 61 #[.pointer (some ⟨b, o, none⟩), .pointer (some ⟨b2, o2, none⟩), .agg (msv m).toArray] w fun e w' => e = .returned (.int .i64 51) ∧ Below w.heap.size w w' := by
  have HM := hide hm
  have HX := hide hx
  have HY := hide hy
  have cX : w.cell? ⟨b, o, none⟩ = some (.int .u8 x.ch) := hx.cell (j := 0) (fun _ _ _ => rfl)
  have cY : w.cell? ⟨b2, o2, none⟩ = some (.int .u8 y.ch) := hy.cell (j := 0) (fun _ _ _ => rfl)
  obtain ⟨V, hV⟩ : ∃ V, msv m = V := ⟨_, rfl⟩
  have v1 : V[1]? = some (.int .u8 (fld m 1)) := by rw [← hV]; exact fld_at HM.out (by omega)
  have v2 : V[2]? = some (.int .u8 (fld m 2)) := by rw [← hV]; exact fld_at HM.out (by omega)
  have v5 : V[5]? = some (.int .u64 (fld m 5)) := by rw [← hV]; exact fld_at HM.out (by omega)
  obtain ⟨k, hk⟩ : ∃ k : Nat, fld m 5 = (k : Int) := ⟨(fld m 5).toNat, by have := (fld_r HM.out (j := 5) (by omega)).1; omega⟩
  rw [hk] at v5
  have HK := hide hk
  have HVl : Hid (V.length = 41) := by rw [← hV]; exact msv_len HM.out
  obtain ⟨ya, yc, cO, hyo⟩ := hy.outs
  have HYO := hide hyo
  have HVe := hide hV
  rw [hV]
  clear hV hk hyo hx hy hm
  generalize fld m 1 = mf at *
  generalize fld m 2 = mt at *
  obtain ⟨yn, hyn⟩ : ∃ yn, y.out.length = yn := ⟨_, rfl⟩
  rw [hyn] at hl cO
  have HYN := hide hyn
  clear hyn
  have hwy : IntKind.u64.wrap (yn : Int) = yn := by rw [IntKind.wrap_u64]; omega
  obtain ⟨xc, hxc⟩ : ∃ c, x.ch = c := ⟨_, rfl⟩
  obtain ⟨yc0, hyc⟩ : ∃ c, y.ch = c := ⟨_, rfl⟩
  rw [hxc] at cX
  rw [hyc] at cY
  have e1 : (mt != xc) = false := by rw [← hxc]; simpa using hc
  have e2 : (mf != yc0) = false := by rw [← hyc]; simpa using hd
  rw [HYN.out, HK.out] at hg
  have hg1 : yn ≤ k := by omega
  have e3 : decide ((yn : Int) ≤ (k : Int)) = true := by simpa using hg1
  clear hc hd hxc hyc hg
  go_enter Try.func61, Try.ntmps61
  go_upto_region 1 with fail
  obtain ⟨A, hA⟩ : ∃ A, w.heap.size = A := ⟨_, rfl⟩
  have HA := hide hA
  have R1 := hide (newR w V 68)
  have B1 := hide (be1 w (.cells V.toArray 68))
  rw [hA] at R1 ⊢
  have E1 : Hid ((w.alloc (.cells V.toArray 68)).heap.size = A + 1) := by simp [Hid, hA]
  generalize w.alloc (.cells V.toArray 68) = w1 at *
  clear hA
  have zX := cellKeep B1.out cX
  have zY := cellKeep B1.out cY
  have zO := cellKeep B1.out cO
  have z1 : w1.cell? ⟨A, 1, none⟩ = some (.int .u8 mf) := by have := R1.out 1 _ v1; simpa using this
  have z2 : w1.cell? ⟨A, 2, none⟩ = some (.int .u8 mt) := by have := R1.out 2 _ v2; simpa using this
  have z5 : w1.cell? ⟨A, 5, none⟩ = some (.int .u64 (k : Int)) := by have := R1.out 5 _ v5; simpa using this
  clear cX cY cO v1 v2 v5
  have HBD := hide (B1.out.drew)
  refine wp_region_held_drew (S := fun w' => w'.rangeAt A 0 V ∧ w'.cell? ⟨A, 2, none⟩ = some (.int .u8 mt) ∧ w'.cell? ⟨A, 1, none⟩ = some (.int .u8 mf) ∧ w'.cell? ⟨A, 5, none⟩ = some (.int .u64 (k : Int)) ∧ w'.cell? ⟨b, o, none⟩ = some (.int .u8 xc) ∧ w'.cell? ⟨b2, o2, none⟩ = some (.int .u8 yc0) ∧ w'.cell? ⟨b2, o2 + 1, none⟩ = some (.slice ya yn yc)) (by kernel_rfl) ⟨R1.out, z2, z1, z5, zX, zY, zO⟩ (fun hHeld => ?_)
  refine wpAnyH_take (i := 0) (v := ?_) rfl (by kernel_rfl) (by kernel_rfl) (by kernel_rfl) (fun _ _ _ h => h) (Or.inl ⟨by rfl, ?_⟩) (by assumption) ?_
  rotate_left
  · (intro w hSw; (try dsimp only at hSw); go_simp; try (with_reducible rfl))
  try simp only [Act.put, List.getElem_toArray, List.getElem_cons_zero, List.getElem_cons_succ, List.setIfInBounds_toArray, List.set_cons_zero, List.set_cons_succ]
  refine wpAnyH_take (i := 1) (v := ?_) rfl (by kernel_rfl) (by kernel_rfl) (by kernel_rfl) (fun _ _ _ h => h) (Or.inl ⟨by rfl, ?_⟩) (by assumption) ?_
  rotate_left
  · (intro w hSw; (try dsimp only at hSw); go_simp; try (with_reducible rfl))
  try simp only [Act.put, List.getElem_toArray, List.getElem_cons_zero, List.getElem_cons_succ, List.setIfInBounds_toArray, List.set_cons_zero, List.set_cons_succ]
  refine wpAnyH_take (i := 2) (v := ?_) rfl (by kernel_rfl) (by kernel_rfl) (by kernel_rfl) (fun _ _ _ h => h) (Or.inl ⟨by rfl, ?_⟩) (by assumption) ?_
  rotate_left
  · (intro w hSw; (try dsimp only at hSw); go_simp; try (with_reducible rfl))
  try simp only [Act.put, List.getElem_toArray, List.getElem_cons_zero, List.getElem_cons_succ, List.setIfInBounds_toArray, List.set_cons_zero, List.set_cons_succ]
  refine wpAnyH_take (i := 3) (v := ?_) rfl (by kernel_rfl) (by kernel_rfl) (by kernel_rfl) (fun _ _ _ h => h) (Or.inl ⟨by rfl, ?_⟩) (by assumption) ?_
  rotate_left
  · (intro w hSw; (try dsimp only at hSw); go_simp; try (with_reducible rfl))
  try simp only [Act.put, List.getElem_toArray, List.getElem_cons_zero, List.getElem_cons_succ, List.setIfInBounds_toArray, List.set_cons_zero, List.set_cons_succ]
  refine wpAnyH_take (i := 4) (v := ?_) rfl (by kernel_rfl) (by kernel_rfl) (by kernel_rfl) (fun _ _ _ h => h) (Or.inl ⟨by rfl, ?_⟩) (by assumption) ?_
  rotate_left
  · (intro w hSw; (try dsimp only at hSw); go_simp; try (with_reducible rfl))
  try simp only [Act.put, List.getElem_toArray, List.getElem_cons_zero, List.getElem_cons_succ, List.setIfInBounds_toArray, List.set_cons_zero, List.set_cons_succ]
  refine wpAnyH_take (i := 5) (v := ?_) rfl (by kernel_rfl) (by kernel_rfl) (by kernel_rfl) (fun _ _ _ h => h) (Or.inl ⟨by rfl, ?_⟩) (by assumption) ?_
  rotate_left
  · (intro w hSw; (try dsimp only at hSw); go_simp; try (with_reducible rfl))
  try simp only [Act.put, List.getElem_toArray, List.getElem_cons_zero, List.getElem_cons_succ, List.setIfInBounds_toArray, List.set_cons_zero, List.set_cons_succ]
  refine wpAnyH_take (i := 6) (v := ?_) rfl (by kernel_rfl) (by kernel_rfl) (by kernel_rfl) (fun _ _ _ h => h) (Or.inl ⟨by rfl, ?_⟩) (by assumption) ?_
  rotate_left
  · (intro w hSw; (try dsimp only at hSw); go_simp; try (with_reducible rfl))
  try simp only [Act.put, List.getElem_toArray, List.getElem_cons_zero, List.getElem_cons_succ, List.setIfInBounds_toArray, List.set_cons_zero, List.set_cons_succ]
  refine wpAnyH_take (i := 7) (v := ?_) rfl (by kernel_rfl) (by kernel_rfl) (by kernel_rfl) (fun _ _ _ h => h) (Or.inl ⟨by rfl, ?_⟩) (by assumption) ?_
  rotate_left
  · (intro w hSw; (try dsimp only at hSw); go_simp; try (with_reducible rfl))
  try simp only [Act.put, List.getElem_toArray, List.getElem_cons_zero, List.getElem_cons_succ, List.setIfInBounds_toArray, List.set_cons_zero, List.set_cons_succ]
  refine wpAnyH_take (i := 8) (v := ?_) rfl (by kernel_rfl) (by kernel_rfl) (by kernel_rfl) (fun _ _ _ h => h) (Or.inl ⟨by rfl, ?_⟩) (by assumption) ?_
  rotate_left
  · (intro w hSw; (try dsimp only at hSw); go_simp; try (with_reducible rfl))
  try simp only [Act.put, List.getElem_toArray, List.getElem_cons_zero, List.getElem_cons_succ, List.setIfInBounds_toArray, List.set_cons_zero, List.set_cons_succ]
  refine wpAnyH_take (i := 9) (v := ?_) rfl (by kernel_rfl) (by kernel_rfl) (by kernel_rfl) (fun _ _ _ h => h) (Or.inl ⟨by rfl, ?_⟩) (by assumption) ?_
  rotate_left
  · (intro w hSw; (try dsimp only at hSw); go_simp; try (with_reducible rfl))
  try simp only [Act.put, List.getElem_toArray, List.getElem_cons_zero, List.getElem_cons_succ, List.setIfInBounds_toArray, List.set_cons_zero, List.set_cons_succ]
  refine wpAnyH_take (i := 10) (v := ?_) rfl (by kernel_rfl) (by kernel_rfl) (by kernel_rfl) (fun _ _ _ h => h) (Or.inl ⟨by rfl, ?_⟩) (by assumption) ?_
  rotate_left
  · (intro w hSw; (try dsimp only at hSw); go_simp; try (with_reducible rfl))
  try simp only [Act.put, List.getElem_toArray, List.getElem_cons_zero, List.getElem_cons_succ, List.setIfInBounds_toArray, List.set_cons_zero, List.set_cons_succ]
  refine wpAnyH_take (i := 11) (v := ?_) rfl (by kernel_rfl) (by kernel_rfl) (by kernel_rfl) (fun _ _ _ h => h) (Or.inl ⟨by rfl, ?_⟩) (by assumption) ?_
  rotate_left
  · (intro w hSw; (try dsimp only at hSw); go_simp; try (with_reducible rfl))
  try simp only [Act.put, List.getElem_toArray, List.getElem_cons_zero, List.getElem_cons_succ, List.setIfInBounds_toArray, List.set_cons_zero, List.set_cons_succ]
  refine wpAnyH_take (i := 12) (v := ?_) rfl (by kernel_rfl) (by kernel_rfl) (by kernel_rfl) (fun _ _ _ h => h) (Or.inl ⟨by rfl, ?_⟩) (by assumption) ?_
  rotate_left
  · (intro w hSw; (try dsimp only at hSw); go_simp; try (with_reducible rfl))
  try simp only [Act.put, List.getElem_toArray, List.getElem_cons_zero, List.getElem_cons_succ, List.setIfInBounds_toArray, List.set_cons_zero, List.set_cons_succ]
  refine wpAnyH_take (i := 13) (v := ?_) rfl (by kernel_rfl) (by kernel_rfl) (by kernel_rfl) (fun _ _ _ h => h) (Or.inl ⟨by rfl, ?_⟩) (by assumption) ?_
  rotate_left
  · (intro w hSw; (try dsimp only at hSw); go_simp; try (with_reducible rfl))
  try simp only [Act.put, List.getElem_toArray, List.getElem_cons_zero, List.getElem_cons_succ, List.setIfInBounds_toArray, List.set_cons_zero, List.set_cons_succ]
  refine wpAnyH_take (i := 14) (v := ?_) rfl (by kernel_rfl) (by kernel_rfl) (by kernel_rfl) (fun _ _ _ h => h) (Or.inl ⟨by rfl, ?_⟩) (by assumption) ?_
  rotate_left
  · (intro w hSw; (try dsimp only at hSw); go_simp; try (with_reducible rfl))
  try simp only [Act.put, List.getElem_toArray, List.getElem_cons_zero, List.getElem_cons_succ, List.setIfInBounds_toArray, List.set_cons_zero, List.set_cons_succ]
  refine wpAnyH_take (i := 15) (v := ?_) rfl (by kernel_rfl) (by kernel_rfl) (by kernel_rfl) (fun _ _ _ h => h) (Or.inl ⟨by rfl, ?_⟩) (by assumption) ?_
  rotate_left
  · (intro w hSw; (try dsimp only at hSw); go_simp; try (with_reducible rfl))
  try simp only [Act.put, List.getElem_toArray, List.getElem_cons_zero, List.getElem_cons_succ, List.setIfInBounds_toArray, List.set_cons_zero, List.set_cons_succ]
  refine wpAnyH_take (i := 16) (v := ?_) rfl (by kernel_rfl) (by kernel_rfl) (by kernel_rfl) (fun _ _ _ h => h) (Or.inl ⟨by rfl, ?_⟩) (by assumption) ?_
  rotate_left
  · (intro w hSw; (try dsimp only at hSw); go_simp; try (with_reducible rfl))
  try simp only [Act.put, List.getElem_toArray, List.getElem_cons_zero, List.getElem_cons_succ, List.setIfInBounds_toArray, List.set_cons_zero, List.set_cons_succ]
  refine wpAnyH_take (i := 17) (v := ?_) rfl (by kernel_rfl) (by kernel_rfl) (by kernel_rfl) (fun _ _ _ h => h) (Or.inl ⟨by rfl, ?_⟩) (by assumption) ?_
  rotate_left
  · (intro w hSw; (try dsimp only at hSw); go_simp; try (with_reducible rfl))
  try simp only [Act.put, List.getElem_toArray, List.getElem_cons_zero, List.getElem_cons_succ, List.setIfInBounds_toArray, List.set_cons_zero, List.set_cons_succ]
  refine wpAnyH_take (i := 18) (v := ?_) rfl (by kernel_rfl) (by kernel_rfl) (by kernel_rfl) (fun _ _ _ h => h) (Or.inl ⟨by rfl, ?_⟩) (by assumption) ?_
  rotate_left
  · (intro w hSw; (try dsimp only at hSw); go_simp; try (with_reducible rfl))
  try simp only [Act.put, List.getElem_toArray, List.getElem_cons_zero, List.getElem_cons_succ, List.setIfInBounds_toArray, List.set_cons_zero, List.set_cons_succ]
  refine wpAnyH_take (i := 19) (v := ?_) rfl (by kernel_rfl) (by kernel_rfl) (by kernel_rfl) (fun _ _ _ h => h) (Or.inl ⟨by rfl, ?_⟩) (by assumption) ?_
  rotate_left
  · (intro w hSw; (try dsimp only at hSw); go_simp; try (with_reducible rfl))
  try simp only [Act.put, List.getElem_toArray, List.getElem_cons_zero, List.getElem_cons_succ, List.setIfInBounds_toArray, List.set_cons_zero, List.set_cons_succ]
  refine wpAnyH_take (i := 20) (v := ?_) rfl (by kernel_rfl) (by kernel_rfl) (by kernel_rfl) (fun _ _ _ h => h) (Or.inl ⟨by rfl, ?_⟩) (by assumption) ?_
  rotate_left
  · (intro w hSw; (try dsimp only at hSw); go_simp; try (with_reducible rfl))
  try simp only [Act.put, List.getElem_toArray, List.getElem_cons_zero, List.getElem_cons_succ, List.setIfInBounds_toArray, List.set_cons_zero, List.set_cons_succ]
  refine wpAnyH_take (i := 21) (v := ?_) rfl (by kernel_rfl) (by kernel_rfl) (by kernel_rfl) (fun _ _ _ h => h) (Or.inl ⟨by rfl, ?_⟩) (by assumption) ?_
  rotate_left
  · (intro w hSw; (try dsimp only at hSw); go_simp; try (with_reducible rfl))
  try simp only [Act.put, List.getElem_toArray, List.getElem_cons_zero, List.getElem_cons_succ, List.setIfInBounds_toArray, List.set_cons_zero, List.set_cons_succ]
  refine wpAnyH_take (i := 22) (v := ?_) rfl (by kernel_rfl) (by kernel_rfl) (by kernel_rfl) (fun _ _ _ h => h) (Or.inl ⟨by rfl, ?_⟩) (by assumption) ?_
  rotate_left
  · (intro w hSw; (try dsimp only at hSw); go_simp; try (with_reducible rfl))
  try simp only [Act.put, List.getElem_toArray, List.getElem_cons_zero, List.getElem_cons_succ, List.setIfInBounds_toArray, List.set_cons_zero, List.set_cons_succ]
  refine wpAnyH_take (i := 23) (v := ?_) rfl (by kernel_rfl) (by kernel_rfl) (by kernel_rfl) (fun _ _ _ h => h) (Or.inl ⟨by rfl, ?_⟩) (by assumption) ?_
  rotate_left
  · (intro w hSw; (try dsimp only at hSw); go_simp; try (with_reducible rfl))
  try simp only [Act.put, List.getElem_toArray, List.getElem_cons_zero, List.getElem_cons_succ, List.setIfInBounds_toArray, List.set_cons_zero, List.set_cons_succ]
  refine wpAnyH_take (i := 24) (v := ?_) rfl (by kernel_rfl) (by kernel_rfl) (by kernel_rfl) (fun _ _ _ h => h) (Or.inl ⟨by rfl, ?_⟩) (by assumption) ?_
  rotate_left
  · (intro w hSw; (try dsimp only at hSw); go_simp; try (with_reducible rfl))
  try simp only [Act.put, List.getElem_toArray, List.getElem_cons_zero, List.getElem_cons_succ, List.setIfInBounds_toArray, List.set_cons_zero, List.set_cons_succ]
  refine wpAnyH_take (i := 25) (v := ?_) rfl (by kernel_rfl) (by kernel_rfl) (by kernel_rfl) (fun _ _ _ h => h) (Or.inl ⟨by rfl, ?_⟩) (by assumption) ?_
  rotate_left
  · (intro w hSw; (try dsimp only at hSw); go_simp; try (with_reducible rfl))
  try simp only [Act.put, List.getElem_toArray, List.getElem_cons_zero, List.getElem_cons_succ, List.setIfInBounds_toArray, List.set_cons_zero, List.set_cons_succ]
  refine wpAnyH_take (i := 26) (v := ?_) rfl (by kernel_rfl) (by kernel_rfl) (by kernel_rfl) (fun _ _ _ h => h) (Or.inl ⟨by rfl, ?_⟩) (by assumption) ?_
  rotate_left
  · (intro w hSw; (try dsimp only at hSw); go_simp; try (with_reducible rfl))
  try simp only [Act.put, List.getElem_toArray, List.getElem_cons_zero, List.getElem_cons_succ, List.setIfInBounds_toArray, List.set_cons_zero, List.set_cons_succ]
  refine wpAnyH_take (i := 27) (v := ?_) rfl (by kernel_rfl) (by kernel_rfl) (by kernel_rfl) (fun _ _ _ h => h) (Or.inl ⟨by rfl, ?_⟩) (by assumption) ?_
  rotate_left
  · (intro w hSw; (try dsimp only at hSw); go_simp; try (with_reducible rfl))
  try simp only [Act.put, List.getElem_toArray, List.getElem_cons_zero, List.getElem_cons_succ, List.setIfInBounds_toArray, List.set_cons_zero, List.set_cons_succ]
  refine wpAnyH_take (i := 28) (v := undef) rfl (by kernel_rfl) (by kernel_rfl) (by kernel_rfl) (fun _ _ _ h => h) (Or.inr ⟨by rfl, rfl⟩) (by assumption) ?_
  try simp only [Act.put, List.getElem_toArray, List.getElem_cons_zero, List.getElem_cons_succ, List.setIfInBounds_toArray, List.set_cons_zero, List.set_cons_succ]
  refine wpAnyH_take (i := 29) (v := undef) rfl (by kernel_rfl) (by kernel_rfl) (by kernel_rfl) (fun _ _ _ h => h) (Or.inr ⟨by rfl, rfl⟩) (by assumption) ?_
  try simp only [Act.put, List.getElem_toArray, List.getElem_cons_zero, List.getElem_cons_succ, List.setIfInBounds_toArray, List.set_cons_zero, List.set_cons_succ]
  refine wpAnyH_take (i := 30) (v := undef) rfl (by kernel_rfl) (by kernel_rfl) (by kernel_rfl) (fun _ _ _ h => h) (Or.inr ⟨by rfl, rfl⟩) (by assumption) ?_
  try simp only [Act.put, List.getElem_toArray, List.getElem_cons_zero, List.getElem_cons_succ, List.setIfInBounds_toArray, List.set_cons_zero, List.set_cons_succ]
  refine wpAnyH_take (i := 31) (v := undef) rfl (by kernel_rfl) (by kernel_rfl) (by kernel_rfl) (fun _ _ _ h => h) (Or.inr ⟨by rfl, rfl⟩) (by assumption) ?_
  try simp only [Act.put, List.getElem_toArray, List.getElem_cons_zero, List.getElem_cons_succ, List.setIfInBounds_toArray, List.set_cons_zero, List.set_cons_succ]
  refine wpAnyH_take (i := 32) (v := undef) rfl (by kernel_rfl) (by kernel_rfl) (by kernel_rfl) (fun _ _ _ h => h) (Or.inr ⟨by rfl, rfl⟩) (by assumption) ?_
  try simp only [Act.put, List.getElem_toArray, List.getElem_cons_zero, List.getElem_cons_succ, List.setIfInBounds_toArray, List.set_cons_zero, List.set_cons_succ]
  refine wpAnyH_take (i := 33) (v := undef) rfl (by kernel_rfl) (by kernel_rfl) (by kernel_rfl) (fun _ _ _ h => h) (Or.inr ⟨by rfl, rfl⟩) (by assumption) ?_
  try simp only [Act.put, List.getElem_toArray, List.getElem_cons_zero, List.getElem_cons_succ, List.setIfInBounds_toArray, List.set_cons_zero, List.set_cons_succ]
  refine wpAnyH_take (i := 34) (v := undef) rfl (by kernel_rfl) (by kernel_rfl) (by kernel_rfl) (fun _ _ _ h => h) (Or.inr ⟨by rfl, rfl⟩) (by assumption) ?_
  try simp only [Act.put, List.getElem_toArray, List.getElem_cons_zero, List.getElem_cons_succ, List.setIfInBounds_toArray, List.set_cons_zero, List.set_cons_succ]
  refine wpAnyH_take (i := 35) (v := undef) rfl (by kernel_rfl) (by kernel_rfl) (by kernel_rfl) (fun _ _ _ h => h) (Or.inr ⟨by rfl, rfl⟩) (by assumption) ?_
  try simp only [Act.put, List.getElem_toArray, List.getElem_cons_zero, List.getElem_cons_succ, List.setIfInBounds_toArray, List.set_cons_zero, List.set_cons_succ]
  refine wpAnyH_take (i := 36) (v := undef) rfl (by kernel_rfl) (by kernel_rfl) (by kernel_rfl) (fun _ _ _ h => h) (Or.inr ⟨by rfl, rfl⟩) (by assumption) ?_
  try simp only [Act.put, List.getElem_toArray, List.getElem_cons_zero, List.getElem_cons_succ, List.setIfInBounds_toArray, List.set_cons_zero, List.set_cons_succ]
  refine wpAnyH_take (i := 37) (v := undef) rfl (by kernel_rfl) (by kernel_rfl) (by kernel_rfl) (fun _ _ _ h => h) (Or.inr ⟨by rfl, rfl⟩) (by assumption) ?_
  try simp only [Act.put, List.getElem_toArray, List.getElem_cons_zero, List.getElem_cons_succ, List.setIfInBounds_toArray, List.set_cons_zero, List.set_cons_succ]
  refine wpAnyH_take (i := 38) (v := ?_) rfl (by kernel_rfl) (by kernel_rfl) (by kernel_rfl) (fun _ _ _ h => h) (Or.inl ⟨by rfl, ?_⟩) (by assumption) ?_
  rotate_left
  · (intro w hSw; (try dsimp only at hSw); go_simp; try (with_reducible rfl))
  try simp only [Act.put, List.getElem_toArray, List.getElem_cons_zero, List.getElem_cons_succ, List.setIfInBounds_toArray, List.set_cons_zero, List.set_cons_succ]
  refine wpAnyH_done (by kernel_rfl) ?_ _
  generalize World.drew w1 = w9 at *
  go_wp2
  go_ret
  exact ⟨rfl, HBD.out⟩

set_option linter.unusedSimpArgs false in
set_option maxRecDepth 100000 in
set_option maxHeartbeats 4000000 in
theorem consume_4 (w : World) (b o : Nat) (x : Box0) (sv : List Box0) (B : List Nat) (b2 o2 : Nat) (y : Box0) (tv : List Box0) (B2 : List Nat) (m : Msg) (hx : BA w b o x sv B) (hy : BA w b2 o2 y tv B2) (hm : MsgOk m) (hl : y.out.length ≤ 1000000000000) (hc : fld m 2 = x.ch) (hd : fld m 1 = y.ch) (q : Msg) (hq : y.out[(fld m 5).toNat]? = some q) (hne : q ≠ m) :
    Calls Try.prog 61 #[.pointer (some ⟨b, o, none⟩), .pointer (some ⟨b2, o2, none⟩), .agg (msv m).toArray] w fun e w' => e = .returned (.int .i64 51) ∧ Below w.heap.size w w' := by
  have HM := hide hm
  have HX := hide hx
  have HY := hide hy
  have cX : w.cell? ⟨b, o, none⟩ = some (.int .u8 x.ch) := hx.cell (j := 0) (fun _ _ _ => rfl)
  have cY : w.cell? ⟨b2, o2, none⟩ = some (.int .u8 y.ch) := hy.cell (j := 0) (fun _ _ _ => rfl)
  obtain ⟨V, hV⟩ : ∃ V, msv m = V := ⟨_, rfl⟩
  have v1 : V[1]? = some (.int .u8 (fld m 1)) := by rw [← hV]; exact fld_at HM.out (by omega)
  have v2 : V[2]? = some (.int .u8 (fld m 2)) := by rw [← hV]; exact fld_at HM.out (by omega)
  have v5 : V[5]? = some (.int .u64 (fld m 5)) := by rw [← hV]; exact fld_at HM.out (by omega)
  obtain ⟨k, hk⟩ : ∃ k : Nat, fld m 5 = (k : Int) := ⟨(fld m 5).toNat, by have := (fld_r HM.out (j := 5) (by omega)).1; omega⟩
  rw [hk] at v5
  have HK := hide hk
  have HVl : Hid (V.length = 41) := by rw [← hV]; exact msv_len HM.out
  obtain ⟨ya, yc, cO, hyo⟩ := hy.outs
  have HYO := hide hyo
  have HVe := hide hV
  rw [hV]
  clear hV hk hyo hx hy hm
  generalize fld m 1 = mf at *
  generalize fld m 2 = mt at *
  obtain ⟨yn, hyn⟩ : ∃ yn, y.out.length = yn := ⟨_, rfl⟩
  rw [hyn] at hl cO
  have HYN := hide hyn
  clear hyn
  have hwy : IntKind.u64.wrap (yn : Int) = yn := by rw [IntKind.wrap_u64]; omega
  obtain ⟨xc, hxc⟩ : ∃ c, x.ch = c := ⟨_, rfl⟩
  obtain ⟨yc0, hyc⟩ : ∃ c, y.ch = c := ⟨_, rfl⟩
  rw [hxc] at cX
  rw [hyc] at cY
  have e1 : (mt != xc) = false := by rw [← hxc]; simpa using hc
  have e2 : (mf != yc0) = false := by rw [← hyc]; simpa using hd
  rw [HK.out, Int.toNat_natCast] at hq
  have HQ := hide hq
  have hg1 : k < yn := by rw [← HYN.out]; exact (List.getElem?_eq_some_iff.1 hq).1
  have e3 : decide (yn ≤ k) = false := decide_eq_false (by omega)
  clear hc hd hxc hyc hq
  obtain ⟨g, c', hgs⟩ := own_some HYO.out (by rw [HYN.out]; omega)
  have hga : ya = some ⟨g, 0, none⟩ := by injection hgs
  subst hga
  clear hgs
  obtain ⟨W, hW⟩ : ∃ W, msv q = W := ⟨_, rfl⟩
  have HWl : Hid (W.length = 41) := by rw [← hW]; exact msv_len (HY.out.ok.o q (List.mem_of_getElem? HQ.out))
  have HW0 : Hid (w.rangeAt g (k * 41) W) := by rw [← hW]; exact msg_at HYO.out (fun m hm => HY.out.ok.o m hm) HQ.out
  have he : ∀ w, (Op.equalIn 10000 68 (.agg W.toArray) (.agg V.toArray)).run Try.prog w = .ok (decide (q = m)) w := fun w => by rw [← hW, ← HVe.out]; exact eq68 w (HY.out.ok.o q (List.mem_of_getElem? HQ.out)) HM.out 9996
  clear hW
  rw [decide_eq_false hne] at he
  clear hne
  go_enter Try.func61, Try.ntmps61
  go_upto_region 1 with fail
  obtain ⟨A, hA⟩ : ∃ A, w.heap.size = A := ⟨_, rfl⟩
  have HA := hide hA
  have R1 := hide (newR w V 68)
  have B1 := hide (be1 w (.cells V.toArray 68))
  rw [hA] at R1 ⊢
  have E1 : Hid ((w.alloc (.cells V.toArray 68)).heap.size = A + 1) := by simp [Hid, hA]
  generalize w.alloc (.cells V.toArray 68) = w1 at *
  clear hA
  have zX := cellKeep B1.out cX
  have zY := cellKeep B1.out cY
  have zO := cellKeep B1.out cO
  have z1 : w1.cell? ⟨A, 1, none⟩ = some (.int .u8 mf) := by have := R1.out 1 _ v1; simpa using this
  have z2 : w1.cell? ⟨A, 2, none⟩ = some (.int .u8 mt) := by have := R1.out 2 _ v2; simpa using this
  have z5 : w1.cell? ⟨A, 5, none⟩ = some (.int .u64 (k : Int)) := by have := R1.out 5 _ v5; simpa using this
  clear cX cY cO v1 v2 v5
  have HWR : Hid (w1.rangeAt g (k * 41) W) := range_below HW0.out (World.block_lt_of_cell? _ _ (HW0.out 0 _ (List.getElem?_eq_getElem (by rw [HWl.out]; omega)))) B1.out
  have HBD := hide (B1.out.drew)
  refine wp_region_held_drew (S := fun w' => w'.rangeAt A 0 V ∧ w'.cell? ⟨A, 2, none⟩ = some (.int .u8 mt) ∧ w'.cell? ⟨A, 1, none⟩ = some (.int .u8 mf) ∧ w'.cell? ⟨A, 5, none⟩ = some (.int .u64 (k : Int)) ∧ w'.cell? ⟨b, o, none⟩ = some (.int .u8 xc) ∧ w'.cell? ⟨b2, o2, none⟩ = some (.int .u8 yc0) ∧ w'.cell? ⟨b2, o2 + 1, none⟩ = some (.slice (some ⟨g, 0, none⟩) yn yc) ∧ w'.rangeAt g (k * 41) W) (by kernel_rfl) ⟨R1.out, z2, z1, z5, zX, zY, zO, HWR.out⟩ (fun hHeld => ?_)
  refine wpAnyH_take (i := 0) (v := ?_) rfl (by kernel_rfl) (by kernel_rfl) (by kernel_rfl) (fun _ _ _ h => h) (Or.inl ⟨by rfl, ?_⟩) (by assumption) ?_
  rotate_left
  · (intro w hSw; (try dsimp only at hSw); go_simp; try (with_reducible rfl))
  try simp only [Act.put, List.getElem_toArray, List.getElem_cons_zero, List.getElem_cons_succ, List.setIfInBounds_toArray, List.set_cons_zero, List.set_cons_succ]
  refine wpAnyH_take (i := 1) (v := ?_) rfl (by kernel_rfl) (by kernel_rfl) (by kernel_rfl) (fun _ _ _ h => h) (Or.inl ⟨by rfl, ?_⟩) (by assumption) ?_
  rotate_left
  · (intro w hSw; (try dsimp only at hSw); go_simp; try (with_reducible rfl))
  try simp only [Act.put, List.getElem_toArray, List.getElem_cons_zero, List.getElem_cons_succ, List.setIfInBounds_toArray, List.set_cons_zero, List.set_cons_succ]
  refine wpAnyH_take (i := 2) (v := ?_) rfl (by kernel_rfl) (by kernel_rfl) (by kernel_rfl) (fun _ _ _ h => h) (Or.inl ⟨by rfl, ?_⟩) (by assumption) ?_
  rotate_left
  · (intro w hSw; (try dsimp only at hSw); go_simp; try (with_reducible rfl))
  try simp only [Act.put, List.getElem_toArray, List.getElem_cons_zero, List.getElem_cons_succ, List.setIfInBounds_toArray, List.set_cons_zero, List.set_cons_succ]
  refine wpAnyH_take (i := 3) (v := ?_) rfl (by kernel_rfl) (by kernel_rfl) (by kernel_rfl) (fun _ _ _ h => h) (Or.inl ⟨by rfl, ?_⟩) (by assumption) ?_
  rotate_left
  · (intro w hSw; (try dsimp only at hSw); go_simp; try (with_reducible rfl))
  try simp only [Act.put, List.getElem_toArray, List.getElem_cons_zero, List.getElem_cons_succ, List.setIfInBounds_toArray, List.set_cons_zero, List.set_cons_succ]
  refine wpAnyH_take (i := 4) (v := ?_) rfl (by kernel_rfl) (by kernel_rfl) (by kernel_rfl) (fun _ _ _ h => h) (Or.inl ⟨by rfl, ?_⟩) (by assumption) ?_
  rotate_left
  · (intro w hSw; (try dsimp only at hSw); go_simp; try (with_reducible rfl))
  try simp only [Act.put, List.getElem_toArray, List.getElem_cons_zero, List.getElem_cons_succ, List.setIfInBounds_toArray, List.set_cons_zero, List.set_cons_succ]
  refine wpAnyH_take (i := 5) (v := ?_) rfl (by kernel_rfl) (by kernel_rfl) (by kernel_rfl) (fun _ _ _ h => h) (Or.inl ⟨by rfl, ?_⟩) (by assumption) ?_
  rotate_left
  · (intro w hSw; (try dsimp only at hSw); go_simp; try (with_reducible rfl))
  try simp only [Act.put, List.getElem_toArray, List.getElem_cons_zero, List.getElem_cons_succ, List.setIfInBounds_toArray, List.set_cons_zero, List.set_cons_succ]
  refine wpAnyH_take (i := 6) (v := ?_) rfl (by kernel_rfl) (by kernel_rfl) (by kernel_rfl) (fun _ _ _ h => h) (Or.inl ⟨by rfl, ?_⟩) (by assumption) ?_
  rotate_left
  · (intro w hSw; (try dsimp only at hSw); go_simp; try (with_reducible rfl))
  try simp only [Act.put, List.getElem_toArray, List.getElem_cons_zero, List.getElem_cons_succ, List.setIfInBounds_toArray, List.set_cons_zero, List.set_cons_succ]
  refine wpAnyH_take (i := 7) (v := ?_) rfl (by kernel_rfl) (by kernel_rfl) (by kernel_rfl) (fun _ _ _ h => h) (Or.inl ⟨by rfl, ?_⟩) (by assumption) ?_
  rotate_left
  · (intro w hSw; (try dsimp only at hSw); go_simp; try (with_reducible rfl))
  try simp only [Act.put, List.getElem_toArray, List.getElem_cons_zero, List.getElem_cons_succ, List.setIfInBounds_toArray, List.set_cons_zero, List.set_cons_succ]
  refine wpAnyH_take (i := 8) (v := ?_) rfl (by kernel_rfl) (by kernel_rfl) (by kernel_rfl) (fun _ _ _ h => h) (Or.inl ⟨by rfl, ?_⟩) (by assumption) ?_
  rotate_left
  · (intro w hSw; (try dsimp only at hSw); go_simp; try (with_reducible rfl))
  try simp only [Act.put, List.getElem_toArray, List.getElem_cons_zero, List.getElem_cons_succ, List.setIfInBounds_toArray, List.set_cons_zero, List.set_cons_succ]
  refine wpAnyH_take (i := 9) (v := ?_) rfl (by kernel_rfl) (by kernel_rfl) (by kernel_rfl) (fun _ _ _ h => h) (Or.inl ⟨by rfl, ?_⟩) (by assumption) ?_
  rotate_left
  · (intro w hSw; (try dsimp only at hSw); go_simp; try (with_reducible rfl))
  try simp only [Act.put, List.getElem_toArray, List.getElem_cons_zero, List.getElem_cons_succ, List.setIfInBounds_toArray, List.set_cons_zero, List.set_cons_succ]
  refine wpAnyH_take (i := 10) (v := ?_) rfl (by kernel_rfl) (by kernel_rfl) (by kernel_rfl) (fun _ _ _ h => h) (Or.inl ⟨by rfl, ?_⟩) (by assumption) ?_
  rotate_left
  · (intro w hSw; (try dsimp only at hSw); go_simp; try (with_reducible rfl))
  try simp only [Act.put, List.getElem_toArray, List.getElem_cons_zero, List.getElem_cons_succ, List.setIfInBounds_toArray, List.set_cons_zero, List.set_cons_succ]
  refine wpAnyH_take (i := 11) (v := ?_) rfl (by kernel_rfl) (by kernel_rfl) (by kernel_rfl) (fun _ _ _ h => h) (Or.inl ⟨by rfl, ?_⟩) (by assumption) ?_
  rotate_left
  · (intro w hSw; (try dsimp only at hSw); go_simp; try (with_reducible rfl))
  try simp only [Act.put, List.getElem_toArray, List.getElem_cons_zero, List.getElem_cons_succ, List.setIfInBounds_toArray, List.set_cons_zero, List.set_cons_succ]
  refine wpAnyH_take (i := 12) (v := ?_) rfl (by kernel_rfl) (by kernel_rfl) (by kernel_rfl) (fun _ _ _ h => h) (Or.inl ⟨by rfl, ?_⟩) (by assumption) ?_
  rotate_left
  · (intro w hSw; (try dsimp only at hSw); go_simp; try (with_reducible rfl))
  try simp only [Act.put, List.getElem_toArray, List.getElem_cons_zero, List.getElem_cons_succ, List.setIfInBounds_toArray, List.set_cons_zero, List.set_cons_succ]
  refine wpAnyH_take (i := 13) (v := ?_) rfl (by kernel_rfl) (by kernel_rfl) (by kernel_rfl) (fun _ _ _ h => h) (Or.inl ⟨by rfl, ?_⟩) (by assumption) ?_
  rotate_left
  · (intro w hSw; (try dsimp only at hSw); go_simp; try (with_reducible rfl))
  try simp only [Act.put, List.getElem_toArray, List.getElem_cons_zero, List.getElem_cons_succ, List.setIfInBounds_toArray, List.set_cons_zero, List.set_cons_succ]
  refine wpAnyH_take (i := 14) (v := ?_) rfl (by kernel_rfl) (by kernel_rfl) (by kernel_rfl) (fun _ _ _ h => h) (Or.inl ⟨by rfl, ?_⟩) (by assumption) ?_
  rotate_left
  · (intro w hSw; (try dsimp only at hSw); go_simp; try (with_reducible rfl))
  try simp only [Act.put, List.getElem_toArray, List.getElem_cons_zero, List.getElem_cons_succ, List.setIfInBounds_toArray, List.set_cons_zero, List.set_cons_succ]
  refine wpAnyH_take (i := 15) (v := ?_) rfl (by kernel_rfl) (by kernel_rfl) (by kernel_rfl) (fun _ _ _ h => h) (Or.inl ⟨by rfl, ?_⟩) (by assumption) ?_
  rotate_left
  · (intro w hSw; (try dsimp only at hSw); go_simp; try (with_reducible rfl))
  try simp only [Act.put, List.getElem_toArray, List.getElem_cons_zero, List.getElem_cons_succ, List.setIfInBounds_toArray, List.set_cons_zero, List.set_cons_succ]
  refine wpAnyH_take (i := 16) (v := ?_) rfl (by kernel_rfl) (by kernel_rfl) (by kernel_rfl) (fun _ _ _ h => h) (Or.inl ⟨by rfl, ?_⟩) (by assumption) ?_
  rotate_left
  · (intro w hSw; (try dsimp only at hSw); go_simp; try (with_reducible rfl))
  try simp only [Act.put, List.getElem_toArray, List.getElem_cons_zero, List.getElem_cons_succ, List.setIfInBounds_toArray, List.set_cons_zero, List.set_cons_succ]
  refine wpAnyH_take (i := 17) (v := ?_) rfl (by kernel_rfl) (by kernel_rfl) (by kernel_rfl) (fun _ _ _ h => h) (Or.inl ⟨by rfl, ?_⟩) (by assumption) ?_
  rotate_left
  · (intro w hSw; (try dsimp only at hSw); go_simp; try (with_reducible rfl))
  try simp only [Act.put, List.getElem_toArray, List.getElem_cons_zero, List.getElem_cons_succ, List.setIfInBounds_toArray, List.set_cons_zero, List.set_cons_succ]
  refine wpAnyH_take (i := 18) (v := ?_) rfl (by kernel_rfl) (by kernel_rfl) (by kernel_rfl) (fun _ _ _ h => h) (Or.inl ⟨by rfl, ?_⟩) (by assumption) ?_
  rotate_left
  · (intro w hSw; (try dsimp only at hSw); go_simp; try (with_reducible rfl))
  try simp only [Act.put, List.getElem_toArray, List.getElem_cons_zero, List.getElem_cons_succ, List.setIfInBounds_toArray, List.set_cons_zero, List.set_cons_succ]
  refine wpAnyH_take (i := 19) (v := ?_) rfl (by kernel_rfl) (by kernel_rfl) (by kernel_rfl) (fun _ _ _ h => h) (Or.inl ⟨by rfl, ?_⟩) (by assumption) ?_
  rotate_left
  · (intro w hSw; (try dsimp only at hSw); go_simp; try (with_reducible rfl))
  try simp only [Act.put, List.getElem_toArray, List.getElem_cons_zero, List.getElem_cons_succ, List.setIfInBounds_toArray, List.set_cons_zero, List.set_cons_succ]
  refine wpAnyH_take (i := 20) (v := ?_) rfl (by kernel_rfl) (by kernel_rfl) (by kernel_rfl) (fun _ _ _ h => h) (Or.inl ⟨by rfl, ?_⟩) (by assumption) ?_
  rotate_left
  · (intro w hSw; (try dsimp only at hSw); go_simp; try (with_reducible rfl))
  try simp only [Act.put, List.getElem_toArray, List.getElem_cons_zero, List.getElem_cons_succ, List.setIfInBounds_toArray, List.set_cons_zero, List.set_cons_succ]
  refine wpAnyH_take (i := 21) (v := ?_) rfl (by kernel_rfl) (by kernel_rfl) (by kernel_rfl) (fun _ _ _ h => h) (Or.inl ⟨by rfl, ?_⟩) (by assumption) ?_
  rotate_left
  · (intro w hSw; (try dsimp only at hSw); go_simp; try (with_reducible rfl))
  try simp only [Act.put, List.getElem_toArray, List.getElem_cons_zero, List.getElem_cons_succ, List.setIfInBounds_toArray, List.set_cons_zero, List.set_cons_succ]
  refine wpAnyH_take (i := 22) (v := ?_) rfl (by kernel_rfl) (by kernel_rfl) (by kernel_rfl) (fun _ _ _ h => h) (Or.inl ⟨by rfl, ?_⟩) (by assumption) ?_
  rotate_left
  · (intro w hSw; (try dsimp only at hSw); go_simp; try (with_reducible rfl))
  try simp only [Act.put, List.getElem_toArray, List.getElem_cons_zero, List.getElem_cons_succ, List.setIfInBounds_toArray, List.set_cons_zero, List.set_cons_succ]
  refine wpAnyH_take (i := 23) (v := ?_) rfl (by kernel_rfl) (by kernel_rfl) (by kernel_rfl) (fun _ _ _ h => h) (Or.inl ⟨by rfl, ?_⟩) (by assumption) ?_
  rotate_left
  · (intro w hSw; (try dsimp only at hSw); go_simp; try (with_reducible rfl))
  try simp only [Act.put, List.getElem_toArray, List.getElem_cons_zero, List.getElem_cons_succ, List.setIfInBounds_toArray, List.set_cons_zero, List.set_cons_succ]
  refine wpAnyH_take (i := 24) (v := ?_) rfl (by kernel_rfl) (by kernel_rfl) (by kernel_rfl) (fun _ _ _ h => h) (Or.inl ⟨by rfl, ?_⟩) (by assumption) ?_
  rotate_left
  · (intro w hSw; (try dsimp only at hSw); go_simp; try (with_reducible rfl))
  try simp only [Act.put, List.getElem_toArray, List.getElem_cons_zero, List.getElem_cons_succ, List.setIfInBounds_toArray, List.set_cons_zero, List.set_cons_succ]
  refine wpAnyH_take (i := 25) (v := ?_) rfl (by kernel_rfl) (by kernel_rfl) (by kernel_rfl) (fun _ _ _ h => h) (Or.inl ⟨by rfl, ?_⟩) (by assumption) ?_
  rotate_left
  · (intro w hSw; (try dsimp only at hSw); go_simp; try (with_reducible rfl))
  try simp only [Act.put, List.getElem_toArray, List.getElem_cons_zero, List.getElem_cons_succ, List.setIfInBounds_toArray, List.set_cons_zero, List.set_cons_succ]
  refine wpAnyH_take (i := 26) (v := ?_) rfl (by kernel_rfl) (by kernel_rfl) (by kernel_rfl) (fun _ _ _ h => h) (Or.inl ⟨by rfl, ?_⟩) (by assumption) ?_
  rotate_left
  · (intro w hSw; (try dsimp only at hSw); go_simp; try (with_reducible rfl))
  try simp only [Act.put, List.getElem_toArray, List.getElem_cons_zero, List.getElem_cons_succ, List.setIfInBounds_toArray, List.set_cons_zero, List.set_cons_succ]
  refine wpAnyH_take (i := 27) (v := ?_) rfl (by kernel_rfl) (by kernel_rfl) (by kernel_rfl) (fun _ _ _ h => h) (Or.inl ⟨by rfl, ?_⟩) (by assumption) ?_
  rotate_left
  · (intro w hSw; (try dsimp only at hSw); go_simp; try (with_reducible rfl))
  try simp only [Act.put, List.getElem_toArray, List.getElem_cons_zero, List.getElem_cons_succ, List.setIfInBounds_toArray, List.set_cons_zero, List.set_cons_succ]
  refine wpAnyH_take (i := 28) (v := ?_) rfl (by kernel_rfl) (by kernel_rfl) (by kernel_rfl) (fun _ _ _ h => h) (Or.inl ⟨by rfl, ?_⟩) (by assumption) ?_
  rotate_left
  · (intro w hSw; (try dsimp only at hSw); go_simp; try (with_reducible rfl))
  try simp only [Act.put, List.getElem_toArray, List.getElem_cons_zero, List.getElem_cons_succ, List.setIfInBounds_toArray, List.set_cons_zero, List.set_cons_succ]
  refine wpAnyH_take (i := 29) (v := ?_) rfl (by kernel_rfl) (by kernel_rfl) (by kernel_rfl) (fun _ _ _ h => h) (Or.inl ⟨by rfl, ?_⟩) (by assumption) ?_
  rotate_left
  · (intro w hSw; (try dsimp only at hSw); go_simp; try (with_reducible rfl))
  try simp only [Act.put, List.getElem_toArray, List.getElem_cons_zero, List.getElem_cons_succ, List.setIfInBounds_toArray, List.set_cons_zero, List.set_cons_succ]
  refine wpAnyH_take (i := 30) (v := ?_) rfl (by kernel_rfl) (by kernel_rfl) (by kernel_rfl) (fun _ _ _ h => h) (Or.inl ⟨by rfl, ?_⟩) (by assumption) ?_
  rotate_left
  · (intro w hSw; (try dsimp only at hSw); go_simp; try (with_reducible rfl))
  try simp only [Act.put, List.getElem_toArray, List.getElem_cons_zero, List.getElem_cons_succ, List.setIfInBounds_toArray, List.set_cons_zero, List.set_cons_succ]
  refine wpAnyH_take (i := 31) (v := ?_) rfl (by kernel_rfl) (by kernel_rfl) (by kernel_rfl) (fun _ _ _ h => h) (Or.inl ⟨by rfl, ?_⟩) (by assumption) ?_
  rotate_left
  · (intro w hSw; (try dsimp only at hSw); go_simp; try (with_reducible rfl))
  try simp only [Act.put, List.getElem_toArray, List.getElem_cons_zero, List.getElem_cons_succ, List.setIfInBounds_toArray, List.set_cons_zero, List.set_cons_succ]
  refine wpAnyH_take (i := 32) (v := ?_) rfl (by kernel_rfl) (by kernel_rfl) (by kernel_rfl) (fun _ _ _ h => h) (Or.inl ⟨by rfl, ?_⟩) (by assumption) ?_
  rotate_left
  · (intro w hSw; (try dsimp only at hSw); go_simp; try (with_reducible rfl))
  try simp only [Act.put, List.getElem_toArray, List.getElem_cons_zero, List.getElem_cons_succ, List.setIfInBounds_toArray, List.set_cons_zero, List.set_cons_succ]
  refine wpAnyH_take (i := 33) (v := ?_) rfl (by kernel_rfl) (by kernel_rfl) (by kernel_rfl) (fun _ _ _ h => h) (Or.inl ⟨by rfl, ?_⟩) (by assumption) ?_
  rotate_left
  · (intro w hSw; (try dsimp only at hSw); go_simp; try (with_reducible rfl))
  try simp only [Act.put, List.getElem_toArray, List.getElem_cons_zero, List.getElem_cons_succ, List.setIfInBounds_toArray, List.set_cons_zero, List.set_cons_succ]
  refine wpAnyH_take (i := 34) (v := ?_) rfl (by kernel_rfl) (by kernel_rfl) (by kernel_rfl) (fun _ _ _ h => h) (Or.inl ⟨by rfl, ?_⟩) (by assumption) ?_
  rotate_left
  · (intro w hSw; (try dsimp only at hSw); have hz := Try.sizeOf68; go_simp; try (with_reducible rfl))
  try simp only [Act.put, List.getElem_toArray, List.getElem_cons_zero, List.getElem_cons_succ, List.setIfInBounds_toArray, List.set_cons_zero, List.set_cons_succ]
  refine wpAnyH_take (i := 35) rfl (by kernel_rfl) (by kernel_rfl) (by kernel_rfl) (fun _ _ _ h => h) (yieldsIf_load_mid (by rfl) 68 (.tmp 43) rfl g (k * 41) rfl W _ (fun w hSw => hSw.2.2.2.2.2.2.2) Try.underlying68 rfl (by rw [HWl.out]; exact Try.sz68)) (by assumption) ?_
  try simp only [Act.put, List.getElem_toArray, List.getElem_cons_zero, List.getElem_cons_succ, List.setIfInBounds_toArray, List.set_cons_zero, List.set_cons_succ]
  refine wpAnyH_take (i := 36) rfl (by kernel_rfl) (by kernel_rfl) (by kernel_rfl) (fun _ _ _ h => h) (yieldsIf_load_mid (by rfl) 68 (.tmp 5) rfl A 0 rfl V _ (fun w hSw => hSw.1) Try.underlying68 rfl (by rw [HVl.out]; exact Try.sz68)) (by assumption) ?_
  try simp only [Act.put, List.getElem_toArray, List.getElem_cons_zero, List.getElem_cons_succ, List.setIfInBounds_toArray, List.set_cons_zero, List.set_cons_succ]
  refine wpAnyH_take (i := 37) (v := ?_) rfl (by kernel_rfl) (by kernel_rfl) (by kernel_rfl) (fun _ _ _ h => h) (Or.inl ⟨by rfl, ?_⟩) (by assumption) ?_
  rotate_left
  · (intro w hSw; (try dsimp only at hSw); go_simp; try (with_reducible rfl))
  try simp only [Act.put, List.getElem_toArray, List.getElem_cons_zero, List.getElem_cons_succ, List.setIfInBounds_toArray, List.set_cons_zero, List.set_cons_succ]
  refine wpAnyH_take (i := 38) (v := ?_) rfl (by kernel_rfl) (by kernel_rfl) (by kernel_rfl) (fun _ _ _ h => h) (Or.inl ⟨by rfl, ?_⟩) (by assumption) ?_
  rotate_left
  · (intro w hSw; (try dsimp only at hSw); go_simp; try (with_reducible rfl))
  try simp only [Act.put, List.getElem_toArray, List.getElem_cons_zero, List.getElem_cons_succ, List.setIfInBounds_toArray, List.set_cons_zero, List.set_cons_succ]
  refine wpAnyH_done (by kernel_rfl) ?_ _
  generalize World.drew w1 = w9 at *
  go_wp2
  go_ret
  exact ⟨rfl, HBD.out⟩

set_option linter.unusedSimpArgs false in
set_option maxRecDepth 100000 in
set_option maxHeartbeats 4000000 in
theorem consume_taken (w : World) (b o : Nat) (x : Box0) (sv : List Box0) (B : List Nat) (b2 o2 : Nat) (y : Box0) (tv : List Box0) (B2 : List Nat) (m : Msg) (hx : BA w b o x sv B) (hy : BA w b2 o2 y tv B2) (hm : MsgOk m) (hl : y.out.length ≤ 1000000000000) (hli : x.inb.length ≤ 900000000000) (hc : fld m 2 = x.ch) (hd : fld m 1 = y.ch) (hq : y.out[(fld m 5).toNat]? = some m) (hin : m ∈ x.inb) :
    Calls Try.prog 61 #[.pointer (some ⟨b, o, none⟩), .pointer (some ⟨b2, o2, none⟩), .agg (msv m).toArray] w fun e w' => e = .returned (.int .i64 52) ∧ Below w.heap.size w w' := by
  have HIN0 := hide hin
  clear hin
  have HM := hide hm
  have HX := hide hx
  have HY := hide hy
  have cX : w.cell? ⟨b, o, none⟩ = some (.int .u8 x.ch) := hx.cell (j := 0) (fun _ _ _ => rfl)
  have cY : w.cell? ⟨b2, o2, none⟩ = some (.int .u8 y.ch) := hy.cell (j := 0) (fun _ _ _ => rfl)
  obtain ⟨V, hV⟩ : ∃ V, msv m = V := ⟨_, rfl⟩
  have v1 : V[1]? = some (.int .u8 (fld m 1)) := by rw [← hV]; exact fld_at HM.out (by omega)
  have v2 : V[2]? = some (.int .u8 (fld m 2)) := by rw [← hV]; exact fld_at HM.out (by omega)
  have v5 : V[5]? = some (.int .u64 (fld m 5)) := by rw [← hV]; exact fld_at HM.out (by omega)
  obtain ⟨k, hk⟩ : ∃ k : Nat, fld m 5 = (k : Int) := ⟨(fld m 5).toNat, by have := (fld_r HM.out (j := 5) (by omega)).1; omega⟩
  rw [hk] at v5
  have HK := hide hk
  have HVl : Hid (V.length = 41) := by rw [← hV]; exact msv_len HM.out
  obtain ⟨ya, yc, cO, hyo⟩ := hy.outs
  have HYO := hide hyo
  have HVe := hide hV
  rw [hV]
  clear hV hk hyo hx hy hm
  generalize fld m 1 = mf at *
  generalize fld m 2 = mt at *
  obtain ⟨yn, hyn⟩ : ∃ yn, y.out.length = yn := ⟨_, rfl⟩
  rw [hyn] at hl cO
  have HYN := hide hyn
  clear hyn
  have hwy : IntKind.u64.wrap (yn : Int) = yn := by rw [IntKind.wrap_u64]; omega
  obtain ⟨xc, hxc⟩ : ∃ c, x.ch = c := ⟨_, rfl⟩
  obtain ⟨yc0, hyc⟩ : ∃ c, y.ch = c := ⟨_, rfl⟩
  rw [hxc] at cX
  rw [hyc] at cY
  have e1 : (mt != xc) = false := by rw [← hxc]; simpa using hc
  have e2 : (mf != yc0) = false := by rw [← hyc]; simpa using hd
  rw [HK.out, Int.toNat_natCast] at hq
  have HQ := hide hq
  have hg1 : k < yn := by rw [← HYN.out]; exact (List.getElem?_eq_some_iff.1 hq).1
  have e3 : decide (yn ≤ k) = false := decide_eq_false (by omega)
  clear hc hd hxc hyc hq
  obtain ⟨g, c', hgs⟩ := own_some HYO.out (by rw [HYN.out]; omega)
  have hga : ya = some ⟨g, 0, none⟩ := by injection hgs
  subst hga
  clear hgs
  obtain ⟨W, hW⟩ : ∃ W, msv m = W := ⟨_, rfl⟩
  have HWl : Hid (W.length = 41) := by rw [← hW]; exact msv_len HM.out
  have HW0 : Hid (w.rangeAt g (k * 41) W) := by rw [← hW]; exact msg_at HYO.out (fun m hm => HY.out.ok.o m hm) HQ.out
  have he : ∀ w, (Op.equalIn 10000 68 (.agg W.toArray) (.agg V.toArray)).run Try.prog w = .ok (decide (m = m)) w := fun w => by rw [← hW, ← HVe.out]; exact eq68 w HM.out HM.out 9996
  clear hW
  rw [decide_eq_true rfl] at he
  obtain ⟨ia, ic, cI, hio⟩ := HX.out.inbs
  obtain ⟨n, hn⟩ : ∃ n, x.inb.length = n := ⟨_, rfl⟩
  rw [hn] at cI hio hli
  have HIO := hide hio
  have HN := hide hn
  clear hn hio
  have HV1 : Hid (∀ z ∈ V, z.oneCell' = true) := by rw [← HVe.out]; exact kvs_one _ _
  go_enter Try.func61, Try.ntmps61
  go_upto_region 1 with fail
  obtain ⟨A, hA⟩ : ∃ A, w.heap.size = A := ⟨_, rfl⟩
  have HA := hide hA
  have R1 := hide (newR w V 68)
  have B1 := hide (be1 w (.cells V.toArray 68))
  rw [hA] at R1 ⊢
  have E1 : Hid ((w.alloc (.cells V.toArray 68)).heap.size = A + 1) := by simp [Hid, hA]
  generalize w.alloc (.cells V.toArray 68) = w1 at *
  clear hA
  have zX := cellKeep B1.out cX
  have zY := cellKeep B1.out cY
  have zO := cellKeep B1.out cO
  have z1 : w1.cell? ⟨A, 1, none⟩ = some (.int .u8 mf) := by have := R1.out 1 _ v1; simpa using this
  have z2 : w1.cell? ⟨A, 2, none⟩ = some (.int .u8 mt) := by have := R1.out 2 _ v2; simpa using this
  have z5 : w1.cell? ⟨A, 5, none⟩ = some (.int .u64 (k : Int)) := by have := R1.out 5 _ v5; simpa using this
  clear cX cY cO v1 v2 v5
  have HWR : Hid (w1.rangeAt g (k * 41) W) := range_below HW0.out (World.block_lt_of_cell? _ _ (HW0.out 0 _ (List.getElem?_eq_getElem (by rw [HWl.out]; omega)))) B1.out
  have zI : w1.drew.cell? ⟨b, o + 2, none⟩ = some (.slice ia n ic) := cellKeep B1.out.drew cI
  clear cI
  have HR1 : Hid (w1.drew.rangeAt A 0 V) := R1.out
  have HBD := hide (B1.out.drew)
  have E9 : Hid (w1.drew.heap.size = A + 1) := E1.out
  refine wp_region_held_drew (S := fun w' => w'.rangeAt A 0 V ∧ w'.cell? ⟨A, 2, none⟩ = some (.int .u8 mt) ∧ w'.cell? ⟨A, 1, none⟩ = some (.int .u8 mf) ∧ w'.cell? ⟨A, 5, none⟩ = some (.int .u64 (k : Int)) ∧ w'.cell? ⟨b, o, none⟩ = some (.int .u8 xc) ∧ w'.cell? ⟨b2, o2, none⟩ = some (.int .u8 yc0) ∧ w'.cell? ⟨b2, o2 + 1, none⟩ = some (.slice (some ⟨g, 0, none⟩) yn yc) ∧ w'.rangeAt g (k * 41) W) (by kernel_rfl) ⟨R1.out, z2, z1, z5, zX, zY, zO, HWR.out⟩ (fun hHeld => ?_)
  refine wpAnyH_take (i := 0) (v := ?_) rfl (by kernel_rfl) (by kernel_rfl) (by kernel_rfl) (fun _ _ _ h => h) (Or.inl ⟨by rfl, ?_⟩) (by assumption) ?_
  rotate_left
  · (intro w hSw; (try dsimp only at hSw); go_simp; try (with_reducible rfl))
  try simp only [Act.put, List.getElem_toArray, List.getElem_cons_zero, List.getElem_cons_succ, List.setIfInBounds_toArray, List.set_cons_zero, List.set_cons_succ]
  refine wpAnyH_take (i := 1) (v := ?_) rfl (by kernel_rfl) (by kernel_rfl) (by kernel_rfl) (fun _ _ _ h => h) (Or.inl ⟨by rfl, ?_⟩) (by assumption) ?_
  rotate_left
  · (intro w hSw; (try dsimp only at hSw); go_simp; try (with_reducible rfl))
  try simp only [Act.put, List.getElem_toArray, List.getElem_cons_zero, List.getElem_cons_succ, List.setIfInBounds_toArray, List.set_cons_zero, List.set_cons_succ]
  refine wpAnyH_take (i := 2) (v := ?_) rfl (by kernel_rfl) (by kernel_rfl) (by kernel_rfl) (fun _ _ _ h => h) (Or.inl ⟨by rfl, ?_⟩) (by assumption) ?_
  rotate_left
  · (intro w hSw; (try dsimp only at hSw); go_simp; try (with_reducible rfl))
  try simp only [Act.put, List.getElem_toArray, List.getElem_cons_zero, List.getElem_cons_succ, List.setIfInBounds_toArray, List.set_cons_zero, List.set_cons_succ]
  refine wpAnyH_take (i := 3) (v := ?_) rfl (by kernel_rfl) (by kernel_rfl) (by kernel_rfl) (fun _ _ _ h => h) (Or.inl ⟨by rfl, ?_⟩) (by assumption) ?_
  rotate_left
  · (intro w hSw; (try dsimp only at hSw); go_simp; try (with_reducible rfl))
  try simp only [Act.put, List.getElem_toArray, List.getElem_cons_zero, List.getElem_cons_succ, List.setIfInBounds_toArray, List.set_cons_zero, List.set_cons_succ]
  refine wpAnyH_take (i := 4) (v := ?_) rfl (by kernel_rfl) (by kernel_rfl) (by kernel_rfl) (fun _ _ _ h => h) (Or.inl ⟨by rfl, ?_⟩) (by assumption) ?_
  rotate_left
  · (intro w hSw; (try dsimp only at hSw); go_simp; try (with_reducible rfl))
  try simp only [Act.put, List.getElem_toArray, List.getElem_cons_zero, List.getElem_cons_succ, List.setIfInBounds_toArray, List.set_cons_zero, List.set_cons_succ]
  refine wpAnyH_take (i := 5) (v := ?_) rfl (by kernel_rfl) (by kernel_rfl) (by kernel_rfl) (fun _ _ _ h => h) (Or.inl ⟨by rfl, ?_⟩) (by assumption) ?_
  rotate_left
  · (intro w hSw; (try dsimp only at hSw); go_simp; try (with_reducible rfl))
  try simp only [Act.put, List.getElem_toArray, List.getElem_cons_zero, List.getElem_cons_succ, List.setIfInBounds_toArray, List.set_cons_zero, List.set_cons_succ]
  refine wpAnyH_take (i := 6) (v := ?_) rfl (by kernel_rfl) (by kernel_rfl) (by kernel_rfl) (fun _ _ _ h => h) (Or.inl ⟨by rfl, ?_⟩) (by assumption) ?_
  rotate_left
  · (intro w hSw; (try dsimp only at hSw); go_simp; try (with_reducible rfl))
  try simp only [Act.put, List.getElem_toArray, List.getElem_cons_zero, List.getElem_cons_succ, List.setIfInBounds_toArray, List.set_cons_zero, List.set_cons_succ]
  refine wpAnyH_take (i := 7) (v := ?_) rfl (by kernel_rfl) (by kernel_rfl) (by kernel_rfl) (fun _ _ _ h => h) (Or.inl ⟨by rfl, ?_⟩) (by assumption) ?_
  rotate_left
  · (intro w hSw; (try dsimp only at hSw); go_simp; try (with_reducible rfl))
  try simp only [Act.put, List.getElem_toArray, List.getElem_cons_zero, List.getElem_cons_succ, List.setIfInBounds_toArray, List.set_cons_zero, List.set_cons_succ]
  refine wpAnyH_take (i := 8) (v := ?_) rfl (by kernel_rfl) (by kernel_rfl) (by kernel_rfl) (fun _ _ _ h => h) (Or.inl ⟨by rfl, ?_⟩) (by assumption) ?_
  rotate_left
  · (intro w hSw; (try dsimp only at hSw); go_simp; try (with_reducible rfl))
  try simp only [Act.put, List.getElem_toArray, List.getElem_cons_zero, List.getElem_cons_succ, List.setIfInBounds_toArray, List.set_cons_zero, List.set_cons_succ]
  refine wpAnyH_take (i := 9) (v := ?_) rfl (by kernel_rfl) (by kernel_rfl) (by kernel_rfl) (fun _ _ _ h => h) (Or.inl ⟨by rfl, ?_⟩) (by assumption) ?_
  rotate_left
  · (intro w hSw; (try dsimp only at hSw); go_simp; try (with_reducible rfl))
  try simp only [Act.put, List.getElem_toArray, List.getElem_cons_zero, List.getElem_cons_succ, List.setIfInBounds_toArray, List.set_cons_zero, List.set_cons_succ]
  refine wpAnyH_take (i := 10) (v := ?_) rfl (by kernel_rfl) (by kernel_rfl) (by kernel_rfl) (fun _ _ _ h => h) (Or.inl ⟨by rfl, ?_⟩) (by assumption) ?_
  rotate_left
  · (intro w hSw; (try dsimp only at hSw); go_simp; try (with_reducible rfl))
  try simp only [Act.put, List.getElem_toArray, List.getElem_cons_zero, List.getElem_cons_succ, List.setIfInBounds_toArray, List.set_cons_zero, List.set_cons_succ]
  refine wpAnyH_take (i := 11) (v := ?_) rfl (by kernel_rfl) (by kernel_rfl) (by kernel_rfl) (fun _ _ _ h => h) (Or.inl ⟨by rfl, ?_⟩) (by assumption) ?_
  rotate_left
  · (intro w hSw; (try dsimp only at hSw); go_simp; try (with_reducible rfl))
  try simp only [Act.put, List.getElem_toArray, List.getElem_cons_zero, List.getElem_cons_succ, List.setIfInBounds_toArray, List.set_cons_zero, List.set_cons_succ]
  refine wpAnyH_take (i := 12) (v := ?_) rfl (by kernel_rfl) (by kernel_rfl) (by kernel_rfl) (fun _ _ _ h => h) (Or.inl ⟨by rfl, ?_⟩) (by assumption) ?_
  rotate_left
  · (intro w hSw; (try dsimp only at hSw); go_simp; try (with_reducible rfl))
  try simp only [Act.put, List.getElem_toArray, List.getElem_cons_zero, List.getElem_cons_succ, List.setIfInBounds_toArray, List.set_cons_zero, List.set_cons_succ]
  refine wpAnyH_take (i := 13) (v := ?_) rfl (by kernel_rfl) (by kernel_rfl) (by kernel_rfl) (fun _ _ _ h => h) (Or.inl ⟨by rfl, ?_⟩) (by assumption) ?_
  rotate_left
  · (intro w hSw; (try dsimp only at hSw); go_simp; try (with_reducible rfl))
  try simp only [Act.put, List.getElem_toArray, List.getElem_cons_zero, List.getElem_cons_succ, List.setIfInBounds_toArray, List.set_cons_zero, List.set_cons_succ]
  refine wpAnyH_take (i := 14) (v := ?_) rfl (by kernel_rfl) (by kernel_rfl) (by kernel_rfl) (fun _ _ _ h => h) (Or.inl ⟨by rfl, ?_⟩) (by assumption) ?_
  rotate_left
  · (intro w hSw; (try dsimp only at hSw); go_simp; try (with_reducible rfl))
  try simp only [Act.put, List.getElem_toArray, List.getElem_cons_zero, List.getElem_cons_succ, List.setIfInBounds_toArray, List.set_cons_zero, List.set_cons_succ]
  refine wpAnyH_take (i := 15) (v := ?_) rfl (by kernel_rfl) (by kernel_rfl) (by kernel_rfl) (fun _ _ _ h => h) (Or.inl ⟨by rfl, ?_⟩) (by assumption) ?_
  rotate_left
  · (intro w hSw; (try dsimp only at hSw); go_simp; try (with_reducible rfl))
  try simp only [Act.put, List.getElem_toArray, List.getElem_cons_zero, List.getElem_cons_succ, List.setIfInBounds_toArray, List.set_cons_zero, List.set_cons_succ]
  refine wpAnyH_take (i := 16) (v := ?_) rfl (by kernel_rfl) (by kernel_rfl) (by kernel_rfl) (fun _ _ _ h => h) (Or.inl ⟨by rfl, ?_⟩) (by assumption) ?_
  rotate_left
  · (intro w hSw; (try dsimp only at hSw); go_simp; try (with_reducible rfl))
  try simp only [Act.put, List.getElem_toArray, List.getElem_cons_zero, List.getElem_cons_succ, List.setIfInBounds_toArray, List.set_cons_zero, List.set_cons_succ]
  refine wpAnyH_take (i := 17) (v := ?_) rfl (by kernel_rfl) (by kernel_rfl) (by kernel_rfl) (fun _ _ _ h => h) (Or.inl ⟨by rfl, ?_⟩) (by assumption) ?_
  rotate_left
  · (intro w hSw; (try dsimp only at hSw); go_simp; try (with_reducible rfl))
  try simp only [Act.put, List.getElem_toArray, List.getElem_cons_zero, List.getElem_cons_succ, List.setIfInBounds_toArray, List.set_cons_zero, List.set_cons_succ]
  refine wpAnyH_take (i := 18) (v := ?_) rfl (by kernel_rfl) (by kernel_rfl) (by kernel_rfl) (fun _ _ _ h => h) (Or.inl ⟨by rfl, ?_⟩) (by assumption) ?_
  rotate_left
  · (intro w hSw; (try dsimp only at hSw); go_simp; try (with_reducible rfl))
  try simp only [Act.put, List.getElem_toArray, List.getElem_cons_zero, List.getElem_cons_succ, List.setIfInBounds_toArray, List.set_cons_zero, List.set_cons_succ]
  refine wpAnyH_take (i := 19) (v := ?_) rfl (by kernel_rfl) (by kernel_rfl) (by kernel_rfl) (fun _ _ _ h => h) (Or.inl ⟨by rfl, ?_⟩) (by assumption) ?_
  rotate_left
  · (intro w hSw; (try dsimp only at hSw); go_simp; try (with_reducible rfl))
  try simp only [Act.put, List.getElem_toArray, List.getElem_cons_zero, List.getElem_cons_succ, List.setIfInBounds_toArray, List.set_cons_zero, List.set_cons_succ]
  refine wpAnyH_take (i := 20) (v := ?_) rfl (by kernel_rfl) (by kernel_rfl) (by kernel_rfl) (fun _ _ _ h => h) (Or.inl ⟨by rfl, ?_⟩) (by assumption) ?_
  rotate_left
  · (intro w hSw; (try dsimp only at hSw); go_simp; try (with_reducible rfl))
  try simp only [Act.put, List.getElem_toArray, List.getElem_cons_zero, List.getElem_cons_succ, List.setIfInBounds_toArray, List.set_cons_zero, List.set_cons_succ]
  refine wpAnyH_take (i := 21) (v := ?_) rfl (by kernel_rfl) (by kernel_rfl) (by kernel_rfl) (fun _ _ _ h => h) (Or.inl ⟨by rfl, ?_⟩) (by assumption) ?_
  rotate_left
  · (intro w hSw; (try dsimp only at hSw); go_simp; try (with_reducible rfl))
  try simp only [Act.put, List.getElem_toArray, List.getElem_cons_zero, List.getElem_cons_succ, List.setIfInBounds_toArray, List.set_cons_zero, List.set_cons_succ]
  refine wpAnyH_take (i := 22) (v := ?_) rfl (by kernel_rfl) (by kernel_rfl) (by kernel_rfl) (fun _ _ _ h => h) (Or.inl ⟨by rfl, ?_⟩) (by assumption) ?_
  rotate_left
  · (intro w hSw; (try dsimp only at hSw); go_simp; try (with_reducible rfl))
  try simp only [Act.put, List.getElem_toArray, List.getElem_cons_zero, List.getElem_cons_succ, List.setIfInBounds_toArray, List.set_cons_zero, List.set_cons_succ]
  refine wpAnyH_take (i := 23) (v := ?_) rfl (by kernel_rfl) (by kernel_rfl) (by kernel_rfl) (fun _ _ _ h => h) (Or.inl ⟨by rfl, ?_⟩) (by assumption) ?_
  rotate_left
  · (intro w hSw; (try dsimp only at hSw); go_simp; try (with_reducible rfl))
  try simp only [Act.put, List.getElem_toArray, List.getElem_cons_zero, List.getElem_cons_succ, List.setIfInBounds_toArray, List.set_cons_zero, List.set_cons_succ]
  refine wpAnyH_take (i := 24) (v := ?_) rfl (by kernel_rfl) (by kernel_rfl) (by kernel_rfl) (fun _ _ _ h => h) (Or.inl ⟨by rfl, ?_⟩) (by assumption) ?_
  rotate_left
  · (intro w hSw; (try dsimp only at hSw); go_simp; try (with_reducible rfl))
  try simp only [Act.put, List.getElem_toArray, List.getElem_cons_zero, List.getElem_cons_succ, List.setIfInBounds_toArray, List.set_cons_zero, List.set_cons_succ]
  refine wpAnyH_take (i := 25) (v := ?_) rfl (by kernel_rfl) (by kernel_rfl) (by kernel_rfl) (fun _ _ _ h => h) (Or.inl ⟨by rfl, ?_⟩) (by assumption) ?_
  rotate_left
  · (intro w hSw; (try dsimp only at hSw); go_simp; try (with_reducible rfl))
  try simp only [Act.put, List.getElem_toArray, List.getElem_cons_zero, List.getElem_cons_succ, List.setIfInBounds_toArray, List.set_cons_zero, List.set_cons_succ]
  refine wpAnyH_take (i := 26) (v := ?_) rfl (by kernel_rfl) (by kernel_rfl) (by kernel_rfl) (fun _ _ _ h => h) (Or.inl ⟨by rfl, ?_⟩) (by assumption) ?_
  rotate_left
  · (intro w hSw; (try dsimp only at hSw); go_simp; try (with_reducible rfl))
  try simp only [Act.put, List.getElem_toArray, List.getElem_cons_zero, List.getElem_cons_succ, List.setIfInBounds_toArray, List.set_cons_zero, List.set_cons_succ]
  refine wpAnyH_take (i := 27) (v := ?_) rfl (by kernel_rfl) (by kernel_rfl) (by kernel_rfl) (fun _ _ _ h => h) (Or.inl ⟨by rfl, ?_⟩) (by assumption) ?_
  rotate_left
  · (intro w hSw; (try dsimp only at hSw); go_simp; try (with_reducible rfl))
  try simp only [Act.put, List.getElem_toArray, List.getElem_cons_zero, List.getElem_cons_succ, List.setIfInBounds_toArray, List.set_cons_zero, List.set_cons_succ]
  refine wpAnyH_take (i := 28) (v := ?_) rfl (by kernel_rfl) (by kernel_rfl) (by kernel_rfl) (fun _ _ _ h => h) (Or.inl ⟨by rfl, ?_⟩) (by assumption) ?_
  rotate_left
  · (intro w hSw; (try dsimp only at hSw); go_simp; try (with_reducible rfl))
  try simp only [Act.put, List.getElem_toArray, List.getElem_cons_zero, List.getElem_cons_succ, List.setIfInBounds_toArray, List.set_cons_zero, List.set_cons_succ]
  refine wpAnyH_take (i := 29) (v := ?_) rfl (by kernel_rfl) (by kernel_rfl) (by kernel_rfl) (fun _ _ _ h => h) (Or.inl ⟨by rfl, ?_⟩) (by assumption) ?_
  rotate_left
  · (intro w hSw; (try dsimp only at hSw); go_simp; try (with_reducible rfl))
  try simp only [Act.put, List.getElem_toArray, List.getElem_cons_zero, List.getElem_cons_succ, List.setIfInBounds_toArray, List.set_cons_zero, List.set_cons_succ]
  refine wpAnyH_take (i := 30) (v := ?_) rfl (by kernel_rfl) (by kernel_rfl) (by kernel_rfl) (fun _ _ _ h => h) (Or.inl ⟨by rfl, ?_⟩) (by assumption) ?_
  rotate_left
  · (intro w hSw; (try dsimp only at hSw); go_simp; try (with_reducible rfl))
  try simp only [Act.put, List.getElem_toArray, List.getElem_cons_zero, List.getElem_cons_succ, List.setIfInBounds_toArray, List.set_cons_zero, List.set_cons_succ]
  refine wpAnyH_take (i := 31) (v := ?_) rfl (by kernel_rfl) (by kernel_rfl) (by kernel_rfl) (fun _ _ _ h => h) (Or.inl ⟨by rfl, ?_⟩) (by assumption) ?_
  rotate_left
  · (intro w hSw; (try dsimp only at hSw); go_simp; try (with_reducible rfl))
  try simp only [Act.put, List.getElem_toArray, List.getElem_cons_zero, List.getElem_cons_succ, List.setIfInBounds_toArray, List.set_cons_zero, List.set_cons_succ]
  refine wpAnyH_take (i := 32) (v := ?_) rfl (by kernel_rfl) (by kernel_rfl) (by kernel_rfl) (fun _ _ _ h => h) (Or.inl ⟨by rfl, ?_⟩) (by assumption) ?_
  rotate_left
  · (intro w hSw; (try dsimp only at hSw); go_simp; try (with_reducible rfl))
  try simp only [Act.put, List.getElem_toArray, List.getElem_cons_zero, List.getElem_cons_succ, List.setIfInBounds_toArray, List.set_cons_zero, List.set_cons_succ]
  refine wpAnyH_take (i := 33) (v := ?_) rfl (by kernel_rfl) (by kernel_rfl) (by kernel_rfl) (fun _ _ _ h => h) (Or.inl ⟨by rfl, ?_⟩) (by assumption) ?_
  rotate_left
  · (intro w hSw; (try dsimp only at hSw); go_simp; try (with_reducible rfl))
  try simp only [Act.put, List.getElem_toArray, List.getElem_cons_zero, List.getElem_cons_succ, List.setIfInBounds_toArray, List.set_cons_zero, List.set_cons_succ]
  refine wpAnyH_take (i := 34) (v := ?_) rfl (by kernel_rfl) (by kernel_rfl) (by kernel_rfl) (fun _ _ _ h => h) (Or.inl ⟨by rfl, ?_⟩) (by assumption) ?_
  rotate_left
  · (intro w hSw; (try dsimp only at hSw); have hz := Try.sizeOf68; go_simp; try (with_reducible rfl))
  try simp only [Act.put, List.getElem_toArray, List.getElem_cons_zero, List.getElem_cons_succ, List.setIfInBounds_toArray, List.set_cons_zero, List.set_cons_succ]
  refine wpAnyH_take (i := 35) rfl (by kernel_rfl) (by kernel_rfl) (by kernel_rfl) (fun _ _ _ h => h) (yieldsIf_load_mid (by rfl) 68 (.tmp 43) rfl g (k * 41) rfl W _ (fun w hSw => hSw.2.2.2.2.2.2.2) Try.underlying68 rfl (by rw [HWl.out]; exact Try.sz68)) (by assumption) ?_
  try simp only [Act.put, List.getElem_toArray, List.getElem_cons_zero, List.getElem_cons_succ, List.setIfInBounds_toArray, List.set_cons_zero, List.set_cons_succ]
  refine wpAnyH_take (i := 36) rfl (by kernel_rfl) (by kernel_rfl) (by kernel_rfl) (fun _ _ _ h => h) (yieldsIf_load_mid (by rfl) 68 (.tmp 5) rfl A 0 rfl V _ (fun w hSw => hSw.1) Try.underlying68 rfl (by rw [HVl.out]; exact Try.sz68)) (by assumption) ?_
  try simp only [Act.put, List.getElem_toArray, List.getElem_cons_zero, List.getElem_cons_succ, List.setIfInBounds_toArray, List.set_cons_zero, List.set_cons_succ]
  refine wpAnyH_take (i := 37) (v := ?_) rfl (by kernel_rfl) (by kernel_rfl) (by kernel_rfl) (fun _ _ _ h => h) (Or.inl ⟨by rfl, ?_⟩) (by assumption) ?_
  rotate_left
  · (intro w hSw; (try dsimp only at hSw); go_simp; try (with_reducible rfl))
  try simp only [Act.put, List.getElem_toArray, List.getElem_cons_zero, List.getElem_cons_succ, List.setIfInBounds_toArray, List.set_cons_zero, List.set_cons_succ]
  refine wpAnyH_take (i := 38) (v := ?_) rfl (by kernel_rfl) (by kernel_rfl) (by kernel_rfl) (fun _ _ _ h => h) (Or.inl ⟨by rfl, ?_⟩) (by assumption) ?_
  rotate_left
  · (intro w hSw; (try dsimp only at hSw); go_simp; try (with_reducible rfl))
  try simp only [Act.put, List.getElem_toArray, List.getElem_cons_zero, List.getElem_cons_succ, List.setIfInBounds_toArray, List.set_cons_zero, List.set_cons_succ]
  refine wpAnyH_done (by kernel_rfl) ?_ _
  generalize World.drew w1 = w9 at *
  clear zX zY zO z1 z2 z5 hHeld he HWR
  go_wp2
  clear zI
  go_loopw [53] (fun s wr => ∃ i : Nat, i ≤ n ∧ s = .int .i64 i ∧ Below (A + 1) w9 wr ∧ ∀ j q, j < i → x.inb[j]? = some q → q ≠ m) (fun s _ => n - (intOf s).toNat)
  case atStart => exact ⟨0, Nat.zero_le _, rfl, Below.refl _ _, fun j q hj => by omega⟩
  case round =>
    obtain ⟨i, hi, rfl, hb, hno⟩ := hrel
    have HB := hide hb
    have HNO := hide hno
    clear hb hno
    have HBw : Hid (Below w.heap.size w wr) := HBD.out.trans (HB.out.mono (by have := HA.out; omega))
    have HRr : Hid (wr.rangeAt A 0 V) := rangeAt_keep HR1.out fun j _ => World.cell?_of_block (HB.out.block A (by omega))
    by_cases hlt : i < n
    · obtain ⟨q, hq⟩ : ∃ q, x.inb[i]? = some q := ⟨_, List.getElem?_eq_getElem (by have := HN.out; omega)⟩
      obtain ⟨gi, ci, hgs⟩ := own_some HIO.out (by omega)
      have hga : ia = some ⟨gi, 0, none⟩ := by injection hgs
      subst hga
      clear hgs
      have HQ := hide hq
      have HQO : Hid (MsgOk q) := HX.out.ok.i q (List.mem_of_getElem? hq)
      obtain ⟨U, hU⟩ : ∃ U, msv q = U := ⟨_, rfl⟩
      have HUl : Hid (U.length = 41) := by rw [← hU]; exact msv_len HQO.out
      have HU1 : Hid (∀ z ∈ U, z.oneCell' = true) := by rw [← hU]; exact kvs_one _ _
      have HUR : Hid (wr.rangeAt gi (i * 41) U) := by
        rw [← hU]
        have h0 := msg_at HIO.out (fun m hm => HX.out.ok.i m hm) hq
        exact range_below h0 (World.block_lt_of_cell? _ _ (h0 0 _ (List.getElem?_eq_getElem (by rw [msv_len HQO.out]; omega)))) HBw.out
      have he : ∀ w, (Op.equalIn 10000 68 (.agg U.toArray) (.agg V.toArray)).run Try.prog w = .ok (decide (q = m)) w := fun w => by rw [← hU, ← HVe.out]; exact eq68 w HQO.out HM.out 9996
      clear hU hq
      go_wp2_with fail
      simp only [Try.sizeOf68, Result.andThen]
      rw [Oper.upon_value]
      go_wp2_with fail
      simp only [Try.isAgg68, Try.sizeOf68, Result.andThen, ↓reduceIte, ldC wr gi (i * 41) U 41 HUl.out HUR.out]
      rw [Oper.upon_value]
      go_wp2_with fail
      simp only [Try.sizeOf68, Result.andThen, HUl.out, ↓reduceIte, stNew wr 68 #[.int .u8 0, .int .u8 0, .int .u8 0, .int .u8 0, .int .u8 0, .int .u64 0, .int .u8 0, .int .u64 0, .int .u8 0, .int .u8 0, .int .u8 0, .int .u8 0, .int .u8 0, .int .u8 0, .int .u8 0, .int .u8 0, .int .u8 0, .int .u8 0, .int .u8 0, .int .u8 0, .int .u8 0, .int .u8 0, .int .u8 0, .int .u8 0, .int .u8 0, .int .u8 0, .int .u8 0, .int .u8 0, .int .u8 0, .int .u8 0, .int .u8 0, .int .u8 0, .int .u8 0, .int .u8 0, .int .u8 0, .int .u8 0, .int .u8 0, .int .u8 0, .int .u8 0, .int .u8 0, .int .u8 0] U 41 Try.sz68 rfl HUl.out HU1.out]
      rw [Oper.upon_skip]
      go_upto_region 6 with fail
      have RY := hide (newR wr U 68)
      have bq := be1 wr (.cells U.toArray 68)
      have HRr2 := hide (World.rangeAt_alloc HRr.out (.cells U.toArray 68))
      have HBw2 := hide (lec HBw.out bq)
      have HB2 : Hid (Below (A + 1) w9 (wr.alloc (.cells U.toArray 68))) := HB.out.alloc (by have h1 := HB.out.size; have h2 := E9.out; omega) _
      generalize wr.alloc (.cells U.toArray 68) = w4 at *
      clear bq
      go_wp2_with fail
      simp only [Try.isAgg68, Try.sizeOf68, Result.andThen, ↓reduceIte, ldC w4 wr.heap.size 0 U 41 HUl.out RY.out]
      rw [Oper.upon_value]
      go_wp2_with fail
      simp only [Try.isAgg68, Try.sizeOf68, Result.andThen, ↓reduceIte, ldC w4 A 0 V 41 HVl.out HRr2.out]
      rw [Oper.upon_value]
      by_cases hqm : q = m
      · rw [decide_eq_true hqm] at he
        have HIN : Hid (m ∈ x.inb) := hqm ▸ List.mem_of_getElem? HQ.out
        clear hqm
        go_wp2
        go_ret
        exact ⟨rfl, HBw2.out⟩
      · rw [decide_eq_false hqm] at he
        have HNE := hide hqm
        clear hqm
        go_wp2
        go_roundw
        case rel => exact ⟨i + 1, by omega, by go_num, HB2.out, fun j r hj hr => by
          rcases Nat.lt_or_ge j i with z | z
          · exact HNO.out j r z hr
          · obtain rfl : j = i := by omega
            rw [HQ.out] at hr
            cases hr
            exact HNE.out⟩
        case measure => simp [intOf]; omega
    · have HNI : Hid (m ∉ x.inb) := fun hmem => by
        obtain ⟨j, hj⟩ := List.mem_iff_getElem?.1 hmem
        have h1 := (List.getElem?_eq_some_iff.1 hj).1
        have h2 := HN.out
        exact HNO.out j m (by omega) hj rfl
      exact absurd HIN0.out HNI.out

def tookB (x : Box0) (m : Msg) : Box0 := { x with inb := x.inb ++ [m] }
set_option linter.unusedSimpArgs false in
set_option maxRecDepth 100000 in
set_option maxHeartbeats 4000000 in
theorem consume_ok (w : World) (b o : Nat) (x : Box0) (sv : List Box0) (B : List Nat) (b2 o2 : Nat) (y : Box0) (tv : List Box0) (B2 : List Nat) (m : Msg) (hx : BA w b o x sv B) (hy : BA w b2 o2 y tv B2) (hm : MsgOk m) (hl : y.out.length ≤ 1000000000000) (hli : x.inb.length ≤ 900000000000) (hc : fld m 2 = x.ch) (hd : fld m 1 = y.ch) (hq : y.out[(fld m 5).toNat]? = some m) (hin : m ∉ x.inb) :
    Calls Try.prog 61 #[.pointer (some ⟨b, o, none⟩), .pointer (some ⟨b2, o2, none⟩), .agg (msv m).toArray] w (BStep w b o B (.int .i64 0) (tookB x m) sv) := by
  have HIN0 := hide hin
  clear hin
  have HM := hide hm
  have HX := hide hx
  have HY := hide hy
  have cX : w.cell? ⟨b, o, none⟩ = some (.int .u8 x.ch) := hx.cell (j := 0) (fun _ _ _ => rfl)
  have cY : w.cell? ⟨b2, o2, none⟩ = some (.int .u8 y.ch) := hy.cell (j := 0) (fun _ _ _ => rfl)
  obtain ⟨V, hV⟩ : ∃ V, msv m = V := ⟨_, rfl⟩
  have v1 : V[1]? = some (.int .u8 (fld m 1)) := by rw [← hV]; exact fld_at HM.out (by omega)
  have v2 : V[2]? = some (.int .u8 (fld m 2)) := by rw [← hV]; exact fld_at HM.out (by omega)
  have v5 : V[5]? = some (.int .u64 (fld m 5)) := by rw [← hV]; exact fld_at HM.out (by omega)
  obtain ⟨k, hk⟩ : ∃ k : Nat, fld m 5 = (k : Int) := ⟨(fld m 5).toNat, by have := (fld_r HM.out (j := 5) (by omega)).1; omega⟩
  rw [hk] at v5
  have HK := hide hk
  have HVl : Hid (V.length = 41) := by rw [← hV]; exact msv_len HM.out
  obtain ⟨ya, yc, cO, hyo⟩ := hy.outs
  have HYO := hide hyo
  have HVe := hide hV
  rw [hV]
  clear hV hk hyo hx hy hm
  generalize fld m 1 = mf at *
  generalize fld m 2 = mt at *
  obtain ⟨yn, hyn⟩ : ∃ yn, y.out.length = yn := ⟨_, rfl⟩
  rw [hyn] at hl cO
  have HYN := hide hyn
  clear hyn
  have hwy : IntKind.u64.wrap (yn : Int) = yn := by rw [IntKind.wrap_u64]; omega
  obtain ⟨xc, hxc⟩ : ∃ c, x.ch = c := ⟨_, rfl⟩
  obtain ⟨yc0, hyc⟩ : ∃ c, y.ch = c := ⟨_, rfl⟩
  rw [hxc] at cX
  rw [hyc] at cY
  have e1 : (mt != xc) = false := by rw [← hxc]; simpa using hc
  have e2 : (mf != yc0) = false := by rw [← hyc]; simpa using hd
  rw [HK.out, Int.toNat_natCast] at hq
  have HQ := hide hq
  have hg1 : k < yn := by rw [← HYN.out]; exact (List.getElem?_eq_some_iff.1 hq).1
  have e3 : decide (yn ≤ k) = false := decide_eq_false (by omega)
  clear hc hd hxc hyc hq
  obtain ⟨g, c', hgs⟩ := own_some HYO.out (by rw [HYN.out]; omega)
  have hga : ya = some ⟨g, 0, none⟩ := by injection hgs
  subst hga
  clear hgs
  obtain ⟨W, hW⟩ : ∃ W, msv m = W := ⟨_, rfl⟩
  have HWl : Hid (W.length = 41) := by rw [← hW]; exact msv_len HM.out
  have HW0 : Hid (w.rangeAt g (k * 41) W) := by rw [← hW]; exact msg_at HYO.out (fun m hm => HY.out.ok.o m hm) HQ.out
  have he : ∀ w, (Op.equalIn 10000 68 (.agg W.toArray) (.agg V.toArray)).run Try.prog w = .ok (decide (m = m)) w := fun w => by rw [← hW, ← HVe.out]; exact eq68 w HM.out HM.out 9996
  clear hW
  rw [decide_eq_true rfl] at he
  obtain ⟨ia, ic, cI, hio⟩ := HX.out.inbs
  obtain ⟨n, hn⟩ : ∃ n, x.inb.length = n := ⟨_, rfl⟩
  rw [hn] at cI hio hli
  have HIO := hide hio
  have HN := hide hn
  clear hn hio
  have HV1 : Hid (∀ z ∈ V, z.oneCell' = true) := by rw [← HVe.out]; exact kvs_one _ _
  have HCX : Hid (∃ sw u s, sw.map (·.1) = sv ∧ CA w 54 5 b o x.fl (boxW sw) [u, .slice ia n ic] s B ∧ (∀ y, y ∈ sv → y.Ok) ∧ b < w.heap.size ∧ b ∉ B) := by
    obtain ⟨sw, u, v, s, h1, h2, h3, h4, h5, h6⟩ := HX.out
    have e : v = .slice ia n ic := by have := h2.rg 2 v rfl; rw [cI] at this; exact (Option.some.inj this).symm
    exact ⟨sw, u, s, h1, e ▸ h2, h4, h5, h6⟩
  obtain ⟨R, hR⟩ : ∃ R, BStep w b o B (.int .i64 0) (tookB x m) sv = R := ⟨_, rfl⟩
  rw [hR]
  have HR := hide hR
  clear hR
  go_enter Try.func61, Try.ntmps61
  go_upto_region 1 with fail
  obtain ⟨A, hA⟩ : ∃ A, w.heap.size = A := ⟨_, rfl⟩
  have HA := hide hA
  have R1 := hide (newR w V 68)
  have B1 := hide (be1 w (.cells V.toArray 68))
  rw [hA] at R1 ⊢
  have E1 : Hid ((w.alloc (.cells V.toArray 68)).heap.size = A + 1) := by simp [Hid, hA]
  generalize w.alloc (.cells V.toArray 68) = w1 at *
  clear hA
  have zX := cellKeep B1.out cX
  have zY := cellKeep B1.out cY
  have zO := cellKeep B1.out cO
  have z1 : w1.cell? ⟨A, 1, none⟩ = some (.int .u8 mf) := by have := R1.out 1 _ v1; simpa using this
  have z2 : w1.cell? ⟨A, 2, none⟩ = some (.int .u8 mt) := by have := R1.out 2 _ v2; simpa using this
  have z5 : w1.cell? ⟨A, 5, none⟩ = some (.int .u64 (k : Int)) := by have := R1.out 5 _ v5; simpa using this
  clear cX cY cO v1 v2 v5
  have HWR : Hid (w1.rangeAt g (k * 41) W) := range_below HW0.out (World.block_lt_of_cell? _ _ (HW0.out 0 _ (List.getElem?_eq_getElem (by rw [HWl.out]; omega)))) B1.out
  have zI : w1.drew.cell? ⟨b, o + 2, none⟩ = some (.slice ia n ic) := cellKeep B1.out.drew cI
  clear cI
  have HR1 : Hid (w1.drew.rangeAt A 0 V) := R1.out
  have HBD := hide (B1.out.drew)
  have E9 : Hid (w1.drew.heap.size = A + 1) := E1.out
  refine wp_region_held_drew (S := fun w' => w'.rangeAt A 0 V ∧ w'.cell? ⟨A, 2, none⟩ = some (.int .u8 mt) ∧ w'.cell? ⟨A, 1, none⟩ = some (.int .u8 mf) ∧ w'.cell? ⟨A, 5, none⟩ = some (.int .u64 (k : Int)) ∧ w'.cell? ⟨b, o, none⟩ = some (.int .u8 xc) ∧ w'.cell? ⟨b2, o2, none⟩ = some (.int .u8 yc0) ∧ w'.cell? ⟨b2, o2 + 1, none⟩ = some (.slice (some ⟨g, 0, none⟩) yn yc) ∧ w'.rangeAt g (k * 41) W) (by kernel_rfl) ⟨R1.out, z2, z1, z5, zX, zY, zO, HWR.out⟩ (fun hHeld => ?_)
  refine wpAnyH_take (i := 0) (v := ?_) rfl (by kernel_rfl) (by kernel_rfl) (by kernel_rfl) (fun _ _ _ h => h) (Or.inl ⟨by rfl, ?_⟩) (by assumption) ?_
  rotate_left
  · (intro w hSw; (try dsimp only at hSw); go_simp; try (with_reducible rfl))
  try simp only [Act.put, List.getElem_toArray, List.getElem_cons_zero, List.getElem_cons_succ, List.setIfInBounds_toArray, List.set_cons_zero, List.set_cons_succ]
  refine wpAnyH_take (i := 1) (v := ?_) rfl (by kernel_rfl) (by kernel_rfl) (by kernel_rfl) (fun _ _ _ h => h) (Or.inl ⟨by rfl, ?_⟩) (by assumption) ?_
  rotate_left
  · (intro w hSw; (try dsimp only at hSw); go_simp; try (with_reducible rfl))
  try simp only [Act.put, List.getElem_toArray, List.getElem_cons_zero, List.getElem_cons_succ, List.setIfInBounds_toArray, List.set_cons_zero, List.set_cons_succ]
  refine wpAnyH_take (i := 2) (v := ?_) rfl (by kernel_rfl) (by kernel_rfl) (by kernel_rfl) (fun _ _ _ h => h) (Or.inl ⟨by rfl, ?_⟩) (by assumption) ?_
  rotate_left
  · (intro w hSw; (try dsimp only at hSw); go_simp; try (with_reducible rfl))
  try simp only [Act.put, List.getElem_toArray, List.getElem_cons_zero, List.getElem_cons_succ, List.setIfInBounds_toArray, List.set_cons_zero, List.set_cons_succ]
  refine wpAnyH_take (i := 3) (v := ?_) rfl (by kernel_rfl) (by kernel_rfl) (by kernel_rfl) (fun _ _ _ h => h) (Or.inl ⟨by rfl, ?_⟩) (by assumption) ?_
  rotate_left
  · (intro w hSw; (try dsimp only at hSw); go_simp; try (with_reducible rfl))
  try simp only [Act.put, List.getElem_toArray, List.getElem_cons_zero, List.getElem_cons_succ, List.setIfInBounds_toArray, List.set_cons_zero, List.set_cons_succ]
  refine wpAnyH_take (i := 4) (v := ?_) rfl (by kernel_rfl) (by kernel_rfl) (by kernel_rfl) (fun _ _ _ h => h) (Or.inl ⟨by rfl, ?_⟩) (by assumption) ?_
  rotate_left
  · (intro w hSw; (try dsimp only at hSw); go_simp; try (with_reducible rfl))
  try simp only [Act.put, List.getElem_toArray, List.getElem_cons_zero, List.getElem_cons_succ, List.setIfInBounds_toArray, List.set_cons_zero, List.set_cons_succ]
  refine wpAnyH_take (i := 5) (v := ?_) rfl (by kernel_rfl) (by kernel_rfl) (by kernel_rfl) (fun _ _ _ h => h) (Or.inl ⟨by rfl, ?_⟩) (by assumption) ?_
  rotate_left
  · (intro w hSw; (try dsimp only at hSw); go_simp; try (with_reducible rfl))
  try simp only [Act.put, List.getElem_toArray, List.getElem_cons_zero, List.getElem_cons_succ, List.setIfInBounds_toArray, List.set_cons_zero, List.set_cons_succ]
  refine wpAnyH_take (i := 6) (v := ?_) rfl (by kernel_rfl) (by kernel_rfl) (by kernel_rfl) (fun _ _ _ h => h) (Or.inl ⟨by rfl, ?_⟩) (by assumption) ?_
  rotate_left
  · (intro w hSw; (try dsimp only at hSw); go_simp; try (with_reducible rfl))
  try simp only [Act.put, List.getElem_toArray, List.getElem_cons_zero, List.getElem_cons_succ, List.setIfInBounds_toArray, List.set_cons_zero, List.set_cons_succ]
  refine wpAnyH_take (i := 7) (v := ?_) rfl (by kernel_rfl) (by kernel_rfl) (by kernel_rfl) (fun _ _ _ h => h) (Or.inl ⟨by rfl, ?_⟩) (by assumption) ?_
  rotate_left
  · (intro w hSw; (try dsimp only at hSw); go_simp; try (with_reducible rfl))
  try simp only [Act.put, List.getElem_toArray, List.getElem_cons_zero, List.getElem_cons_succ, List.setIfInBounds_toArray, List.set_cons_zero, List.set_cons_succ]
  refine wpAnyH_take (i := 8) (v := ?_) rfl (by kernel_rfl) (by kernel_rfl) (by kernel_rfl) (fun _ _ _ h => h) (Or.inl ⟨by rfl, ?_⟩) (by assumption) ?_
  rotate_left
  · (intro w hSw; (try dsimp only at hSw); go_simp; try (with_reducible rfl))
  try simp only [Act.put, List.getElem_toArray, List.getElem_cons_zero, List.getElem_cons_succ, List.setIfInBounds_toArray, List.set_cons_zero, List.set_cons_succ]
  refine wpAnyH_take (i := 9) (v := ?_) rfl (by kernel_rfl) (by kernel_rfl) (by kernel_rfl) (fun _ _ _ h => h) (Or.inl ⟨by rfl, ?_⟩) (by assumption) ?_
  rotate_left
  · (intro w hSw; (try dsimp only at hSw); go_simp; try (with_reducible rfl))
  try simp only [Act.put, List.getElem_toArray, List.getElem_cons_zero, List.getElem_cons_succ, List.setIfInBounds_toArray, List.set_cons_zero, List.set_cons_succ]
  refine wpAnyH_take (i := 10) (v := ?_) rfl (by kernel_rfl) (by kernel_rfl) (by kernel_rfl) (fun _ _ _ h => h) (Or.inl ⟨by rfl, ?_⟩) (by assumption) ?_
  rotate_left
  · (intro w hSw; (try dsimp only at hSw); go_simp; try (with_reducible rfl))
  try simp only [Act.put, List.getElem_toArray, List.getElem_cons_zero, List.getElem_cons_succ, List.setIfInBounds_toArray, List.set_cons_zero, List.set_cons_succ]
  refine wpAnyH_take (i := 11) (v := ?_) rfl (by kernel_rfl) (by kernel_rfl) (by kernel_rfl) (fun _ _ _ h => h) (Or.inl ⟨by rfl, ?_⟩) (by assumption) ?_
  rotate_left
  · (intro w hSw; (try dsimp only at hSw); go_simp; try (with_reducible rfl))
  try simp only [Act.put, List.getElem_toArray, List.getElem_cons_zero, List.getElem_cons_succ, List.setIfInBounds_toArray, List.set_cons_zero, List.set_cons_succ]
  refine wpAnyH_take (i := 12) (v := ?_) rfl (by kernel_rfl) (by kernel_rfl) (by kernel_rfl) (fun _ _ _ h => h) (Or.inl ⟨by rfl, ?_⟩) (by assumption) ?_
  rotate_left
  · (intro w hSw; (try dsimp only at hSw); go_simp; try (with_reducible rfl))
  try simp only [Act.put, List.getElem_toArray, List.getElem_cons_zero, List.getElem_cons_succ, List.setIfInBounds_toArray, List.set_cons_zero, List.set_cons_succ]
  refine wpAnyH_take (i := 13) (v := ?_) rfl (by kernel_rfl) (by kernel_rfl) (by kernel_rfl) (fun _ _ _ h => h) (Or.inl ⟨by rfl, ?_⟩) (by assumption) ?_
  rotate_left
  · (intro w hSw; (try dsimp only at hSw); go_simp; try (with_reducible rfl))
  try simp only [Act.put, List.getElem_toArray, List.getElem_cons_zero, List.getElem_cons_succ, List.setIfInBounds_toArray, List.set_cons_zero, List.set_cons_succ]
  refine wpAnyH_take (i := 14) (v := ?_) rfl (by kernel_rfl) (by kernel_rfl) (by kernel_rfl) (fun _ _ _ h => h) (Or.inl ⟨by rfl, ?_⟩) (by assumption) ?_
  rotate_left
  · (intro w hSw; (try dsimp only at hSw); go_simp; try (with_reducible rfl))
  try simp only [Act.put, List.getElem_toArray, List.getElem_cons_zero, List.getElem_cons_succ, List.setIfInBounds_toArray, List.set_cons_zero, List.set_cons_succ]
  refine wpAnyH_take (i := 15) (v := ?_) rfl (by kernel_rfl) (by kernel_rfl) (by kernel_rfl) (fun _ _ _ h => h) (Or.inl ⟨by rfl, ?_⟩) (by assumption) ?_
  rotate_left
  · (intro w hSw; (try dsimp only at hSw); go_simp; try (with_reducible rfl))
  try simp only [Act.put, List.getElem_toArray, List.getElem_cons_zero, List.getElem_cons_succ, List.setIfInBounds_toArray, List.set_cons_zero, List.set_cons_succ]
  refine wpAnyH_take (i := 16) (v := ?_) rfl (by kernel_rfl) (by kernel_rfl) (by kernel_rfl) (fun _ _ _ h => h) (Or.inl ⟨by rfl, ?_⟩) (by assumption) ?_
  rotate_left
  · (intro w hSw; (try dsimp only at hSw); go_simp; try (with_reducible rfl))
  try simp only [Act.put, List.getElem_toArray, List.getElem_cons_zero, List.getElem_cons_succ, List.setIfInBounds_toArray, List.set_cons_zero, List.set_cons_succ]
  refine wpAnyH_take (i := 17) (v := ?_) rfl (by kernel_rfl) (by kernel_rfl) (by kernel_rfl) (fun _ _ _ h => h) (Or.inl ⟨by rfl, ?_⟩) (by assumption) ?_
  rotate_left
  · (intro w hSw; (try dsimp only at hSw); go_simp; try (with_reducible rfl))
  try simp only [Act.put, List.getElem_toArray, List.getElem_cons_zero, List.getElem_cons_succ, List.setIfInBounds_toArray, List.set_cons_zero, List.set_cons_succ]
  refine wpAnyH_take (i := 18) (v := ?_) rfl (by kernel_rfl) (by kernel_rfl) (by kernel_rfl) (fun _ _ _ h => h) (Or.inl ⟨by rfl, ?_⟩) (by assumption) ?_
  rotate_left
  · (intro w hSw; (try dsimp only at hSw); go_simp; try (with_reducible rfl))
  try simp only [Act.put, List.getElem_toArray, List.getElem_cons_zero, List.getElem_cons_succ, List.setIfInBounds_toArray, List.set_cons_zero, List.set_cons_succ]
  refine wpAnyH_take (i := 19) (v := ?_) rfl (by kernel_rfl) (by kernel_rfl) (by kernel_rfl) (fun _ _ _ h => h) (Or.inl ⟨by rfl, ?_⟩) (by assumption) ?_
  rotate_left
  · (intro w hSw; (try dsimp only at hSw); go_simp; try (with_reducible rfl))
  try simp only [Act.put, List.getElem_toArray, List.getElem_cons_zero, List.getElem_cons_succ, List.setIfInBounds_toArray, List.set_cons_zero, List.set_cons_succ]
  refine wpAnyH_take (i := 20) (v := ?_) rfl (by kernel_rfl) (by kernel_rfl) (by kernel_rfl) (fun _ _ _ h => h) (Or.inl ⟨by rfl, ?_⟩) (by assumption) ?_
  rotate_left
  · (intro w hSw; (try dsimp only at hSw); go_simp; try (with_reducible rfl))
  try simp only [Act.put, List.getElem_toArray, List.getElem_cons_zero, List.getElem_cons_succ, List.setIfInBounds_toArray, List.set_cons_zero, List.set_cons_succ]
  refine wpAnyH_take (i := 21) (v := ?_) rfl (by kernel_rfl) (by kernel_rfl) (by kernel_rfl) (fun _ _ _ h => h) (Or.inl ⟨by rfl, ?_⟩) (by assumption) ?_
  rotate_left
  · (intro w hSw; (try dsimp only at hSw); go_simp; try (with_reducible rfl))
  try simp only [Act.put, List.getElem_toArray, List.getElem_cons_zero, List.getElem_cons_succ, List.setIfInBounds_toArray, List.set_cons_zero, List.set_cons_succ]
  refine wpAnyH_take (i := 22) (v := ?_) rfl (by kernel_rfl) (by kernel_rfl) (by kernel_rfl) (fun _ _ _ h => h) (Or.inl ⟨by rfl, ?_⟩) (by assumption) ?_
  rotate_left
  · (intro w hSw; (try dsimp only at hSw); go_simp; try (with_reducible rfl))
  try simp only [Act.put, List.getElem_toArray, List.getElem_cons_zero, List.getElem_cons_succ, List.setIfInBounds_toArray, List.set_cons_zero, List.set_cons_succ]
  refine wpAnyH_take (i := 23) (v := ?_) rfl (by kernel_rfl) (by kernel_rfl) (by kernel_rfl) (fun _ _ _ h => h) (Or.inl ⟨by rfl, ?_⟩) (by assumption) ?_
  rotate_left
  · (intro w hSw; (try dsimp only at hSw); go_simp; try (with_reducible rfl))
  try simp only [Act.put, List.getElem_toArray, List.getElem_cons_zero, List.getElem_cons_succ, List.setIfInBounds_toArray, List.set_cons_zero, List.set_cons_succ]
  refine wpAnyH_take (i := 24) (v := ?_) rfl (by kernel_rfl) (by kernel_rfl) (by kernel_rfl) (fun _ _ _ h => h) (Or.inl ⟨by rfl, ?_⟩) (by assumption) ?_
  rotate_left
  · (intro w hSw; (try dsimp only at hSw); go_simp; try (with_reducible rfl))
  try simp only [Act.put, List.getElem_toArray, List.getElem_cons_zero, List.getElem_cons_succ, List.setIfInBounds_toArray, List.set_cons_zero, List.set_cons_succ]
  refine wpAnyH_take (i := 25) (v := ?_) rfl (by kernel_rfl) (by kernel_rfl) (by kernel_rfl) (fun _ _ _ h => h) (Or.inl ⟨by rfl, ?_⟩) (by assumption) ?_
  rotate_left
  · (intro w hSw; (try dsimp only at hSw); go_simp; try (with_reducible rfl))
  try simp only [Act.put, List.getElem_toArray, List.getElem_cons_zero, List.getElem_cons_succ, List.setIfInBounds_toArray, List.set_cons_zero, List.set_cons_succ]
  refine wpAnyH_take (i := 26) (v := ?_) rfl (by kernel_rfl) (by kernel_rfl) (by kernel_rfl) (fun _ _ _ h => h) (Or.inl ⟨by rfl, ?_⟩) (by assumption) ?_
  rotate_left
  · (intro w hSw; (try dsimp only at hSw); go_simp; try (with_reducible rfl))
  try simp only [Act.put, List.getElem_toArray, List.getElem_cons_zero, List.getElem_cons_succ, List.setIfInBounds_toArray, List.set_cons_zero, List.set_cons_succ]
  refine wpAnyH_take (i := 27) (v := ?_) rfl (by kernel_rfl) (by kernel_rfl) (by kernel_rfl) (fun _ _ _ h => h) (Or.inl ⟨by rfl, ?_⟩) (by assumption) ?_
  rotate_left
  · (intro w hSw; (try dsimp only at hSw); go_simp; try (with_reducible rfl))
  try simp only [Act.put, List.getElem_toArray, List.getElem_cons_zero, List.getElem_cons_succ, List.setIfInBounds_toArray, List.set_cons_zero, List.set_cons_succ]
  refine wpAnyH_take (i := 28) (v := ?_) rfl (by kernel_rfl) (by kernel_rfl) (by kernel_rfl) (fun _ _ _ h => h) (Or.inl ⟨by rfl, ?_⟩) (by assumption) ?_
  rotate_left
  · (intro w hSw; (try dsimp only at hSw); go_simp; try (with_reducible rfl))
  try simp only [Act.put, List.getElem_toArray, List.getElem_cons_zero, List.getElem_cons_succ, List.setIfInBounds_toArray, List.set_cons_zero, List.set_cons_succ]
  refine wpAnyH_take (i := 29) (v := ?_) rfl (by kernel_rfl) (by kernel_rfl) (by kernel_rfl) (fun _ _ _ h => h) (Or.inl ⟨by rfl, ?_⟩) (by assumption) ?_
  rotate_left
  · (intro w hSw; (try dsimp only at hSw); go_simp; try (with_reducible rfl))
  try simp only [Act.put, List.getElem_toArray, List.getElem_cons_zero, List.getElem_cons_succ, List.setIfInBounds_toArray, List.set_cons_zero, List.set_cons_succ]
  refine wpAnyH_take (i := 30) (v := ?_) rfl (by kernel_rfl) (by kernel_rfl) (by kernel_rfl) (fun _ _ _ h => h) (Or.inl ⟨by rfl, ?_⟩) (by assumption) ?_
  rotate_left
  · (intro w hSw; (try dsimp only at hSw); go_simp; try (with_reducible rfl))
  try simp only [Act.put, List.getElem_toArray, List.getElem_cons_zero, List.getElem_cons_succ, List.setIfInBounds_toArray, List.set_cons_zero, List.set_cons_succ]
  refine wpAnyH_take (i := 31) (v := ?_) rfl (by kernel_rfl) (by kernel_rfl) (by kernel_rfl) (fun _ _ _ h => h) (Or.inl ⟨by rfl, ?_⟩) (by assumption) ?_
  rotate_left
  · (intro w hSw; (try dsimp only at hSw); go_simp; try (with_reducible rfl))
  try simp only [Act.put, List.getElem_toArray, List.getElem_cons_zero, List.getElem_cons_succ, List.setIfInBounds_toArray, List.set_cons_zero, List.set_cons_succ]
  refine wpAnyH_take (i := 32) (v := ?_) rfl (by kernel_rfl) (by kernel_rfl) (by kernel_rfl) (fun _ _ _ h => h) (Or.inl ⟨by rfl, ?_⟩) (by assumption) ?_
  rotate_left
  · (intro w hSw; (try dsimp only at hSw); go_simp; try (with_reducible rfl))
  try simp only [Act.put, List.getElem_toArray, List.getElem_cons_zero, List.getElem_cons_succ, List.setIfInBounds_toArray, List.set_cons_zero, List.set_cons_succ]
  refine wpAnyH_take (i := 33) (v := ?_) rfl (by kernel_rfl) (by kernel_rfl) (by kernel_rfl) (fun _ _ _ h => h) (Or.inl ⟨by rfl, ?_⟩) (by assumption) ?_
  rotate_left
  · (intro w hSw; (try dsimp only at hSw); go_simp; try (with_reducible rfl))
  try simp only [Act.put, List.getElem_toArray, List.getElem_cons_zero, List.getElem_cons_succ, List.setIfInBounds_toArray, List.set_cons_zero, List.set_cons_succ]
  refine wpAnyH_take (i := 34) (v := ?_) rfl (by kernel_rfl) (by kernel_rfl) (by kernel_rfl) (fun _ _ _ h => h) (Or.inl ⟨by rfl, ?_⟩) (by assumption) ?_
  rotate_left
  · (intro w hSw; (try dsimp only at hSw); have hz := Try.sizeOf68; go_simp; try (with_reducible rfl))
  try simp only [Act.put, List.getElem_toArray, List.getElem_cons_zero, List.getElem_cons_succ, List.setIfInBounds_toArray, List.set_cons_zero, List.set_cons_succ]
  refine wpAnyH_take (i := 35) rfl (by kernel_rfl) (by kernel_rfl) (by kernel_rfl) (fun _ _ _ h => h) (yieldsIf_load_mid (by rfl) 68 (.tmp 43) rfl g (k * 41) rfl W _ (fun w hSw => hSw.2.2.2.2.2.2.2) Try.underlying68 rfl (by rw [HWl.out]; exact Try.sz68)) (by assumption) ?_
  try simp only [Act.put, List.getElem_toArray, List.getElem_cons_zero, List.getElem_cons_succ, List.setIfInBounds_toArray, List.set_cons_zero, List.set_cons_succ]
  refine wpAnyH_take (i := 36) rfl (by kernel_rfl) (by kernel_rfl) (by kernel_rfl) (fun _ _ _ h => h) (yieldsIf_load_mid (by rfl) 68 (.tmp 5) rfl A 0 rfl V _ (fun w hSw => hSw.1) Try.underlying68 rfl (by rw [HVl.out]; exact Try.sz68)) (by assumption) ?_
  try simp only [Act.put, List.getElem_toArray, List.getElem_cons_zero, List.getElem_cons_succ, List.setIfInBounds_toArray, List.set_cons_zero, List.set_cons_succ]
  refine wpAnyH_take (i := 37) (v := ?_) rfl (by kernel_rfl) (by kernel_rfl) (by kernel_rfl) (fun _ _ _ h => h) (Or.inl ⟨by rfl, ?_⟩) (by assumption) ?_
  rotate_left
  · (intro w hSw; (try dsimp only at hSw); go_simp; try (with_reducible rfl))
  try simp only [Act.put, List.getElem_toArray, List.getElem_cons_zero, List.getElem_cons_succ, List.setIfInBounds_toArray, List.set_cons_zero, List.set_cons_succ]
  refine wpAnyH_take (i := 38) (v := ?_) rfl (by kernel_rfl) (by kernel_rfl) (by kernel_rfl) (fun _ _ _ h => h) (Or.inl ⟨by rfl, ?_⟩) (by assumption) ?_
  rotate_left
  · (intro w hSw; (try dsimp only at hSw); go_simp; try (with_reducible rfl))
  try simp only [Act.put, List.getElem_toArray, List.getElem_cons_zero, List.getElem_cons_succ, List.setIfInBounds_toArray, List.set_cons_zero, List.set_cons_succ]
  refine wpAnyH_done (by kernel_rfl) ?_ _
  generalize World.drew w1 = w9 at *
  clear zX zY zO z1 z2 z5 hHeld he HWR
  go_wp2
  clear zI
  go_loopw [53] (fun s wr => ∃ i : Nat, i ≤ n ∧ s = .int .i64 i ∧ Below (A + 1) w9 wr ∧ ∀ j q, j < i → x.inb[j]? = some q → q ≠ m) (fun s _ => n - (intOf s).toNat)
  case atStart => exact ⟨0, Nat.zero_le _, rfl, Below.refl _ _, fun j q hj => by omega⟩
  case round =>
    obtain ⟨i, hi, rfl, hb, hno⟩ := hrel
    have HB := hide hb
    have HNO := hide hno
    clear hb hno
    have HBw : Hid (Below w.heap.size w wr) := HBD.out.trans (HB.out.mono (by have := HA.out; omega))
    have HRr : Hid (wr.rangeAt A 0 V) := rangeAt_keep HR1.out fun j _ => World.cell?_of_block (HB.out.block A (by omega))
    by_cases hlt : i < n
    · obtain ⟨q, hq⟩ : ∃ q, x.inb[i]? = some q := ⟨_, List.getElem?_eq_getElem (by have := HN.out; omega)⟩
      obtain ⟨gi, ci, hgs⟩ := own_some HIO.out (by omega)
      have hga : ia = some ⟨gi, 0, none⟩ := by injection hgs
      subst hga
      clear hgs
      have HQ := hide hq
      have HQO : Hid (MsgOk q) := HX.out.ok.i q (List.mem_of_getElem? hq)
      obtain ⟨U, hU⟩ : ∃ U, msv q = U := ⟨_, rfl⟩
      have HUl : Hid (U.length = 41) := by rw [← hU]; exact msv_len HQO.out
      have HU1 : Hid (∀ z ∈ U, z.oneCell' = true) := by rw [← hU]; exact kvs_one _ _
      have HUR : Hid (wr.rangeAt gi (i * 41) U) := by
        rw [← hU]
        have h0 := msg_at HIO.out (fun m hm => HX.out.ok.i m hm) hq
        exact range_below h0 (World.block_lt_of_cell? _ _ (h0 0 _ (List.getElem?_eq_getElem (by rw [msv_len HQO.out]; omega)))) HBw.out
      have he : ∀ w, (Op.equalIn 10000 68 (.agg U.toArray) (.agg V.toArray)).run Try.prog w = .ok (decide (q = m)) w := fun w => by rw [← hU, ← HVe.out]; exact eq68 w HQO.out HM.out 9996
      clear hU hq
      go_wp2_with fail
      simp only [Try.sizeOf68, Result.andThen]
      rw [Oper.upon_value]
      go_wp2_with fail
      simp only [Try.isAgg68, Try.sizeOf68, Result.andThen, ↓reduceIte, ldC wr gi (i * 41) U 41 HUl.out HUR.out]
      rw [Oper.upon_value]
      go_wp2_with fail
      simp only [Try.sizeOf68, Result.andThen, HUl.out, ↓reduceIte, stNew wr 68 #[.int .u8 0, .int .u8 0, .int .u8 0, .int .u8 0, .int .u8 0, .int .u64 0, .int .u8 0, .int .u64 0, .int .u8 0, .int .u8 0, .int .u8 0, .int .u8 0, .int .u8 0, .int .u8 0, .int .u8 0, .int .u8 0, .int .u8 0, .int .u8 0, .int .u8 0, .int .u8 0, .int .u8 0, .int .u8 0, .int .u8 0, .int .u8 0, .int .u8 0, .int .u8 0, .int .u8 0, .int .u8 0, .int .u8 0, .int .u8 0, .int .u8 0, .int .u8 0, .int .u8 0, .int .u8 0, .int .u8 0, .int .u8 0, .int .u8 0, .int .u8 0, .int .u8 0, .int .u8 0, .int .u8 0] U 41 Try.sz68 rfl HUl.out HU1.out]
      rw [Oper.upon_skip]
      go_upto_region 6 with fail
      have RY := hide (newR wr U 68)
      have bq := be1 wr (.cells U.toArray 68)
      have HRr2 := hide (World.rangeAt_alloc HRr.out (.cells U.toArray 68))
      have HBw2 := hide (lec HBw.out bq)
      have HB2 : Hid (Below (A + 1) w9 (wr.alloc (.cells U.toArray 68))) := HB.out.alloc (by have h1 := HB.out.size; have h2 := E9.out; omega) _
      generalize wr.alloc (.cells U.toArray 68) = w4 at *
      clear bq
      go_wp2_with fail
      simp only [Try.isAgg68, Try.sizeOf68, Result.andThen, ↓reduceIte, ldC w4 wr.heap.size 0 U 41 HUl.out RY.out]
      rw [Oper.upon_value]
      go_wp2_with fail
      simp only [Try.isAgg68, Try.sizeOf68, Result.andThen, ↓reduceIte, ldC w4 A 0 V 41 HVl.out HRr2.out]
      rw [Oper.upon_value]
      by_cases hqm : q = m
      · rw [decide_eq_true hqm] at he
        have HIN : Hid (m ∈ x.inb) := hqm ▸ List.mem_of_getElem? HQ.out
        clear hqm
        exact absurd HIN.out HIN0.out
      · rw [decide_eq_false hqm] at he
        have HNE := hide hqm
        clear hqm
        go_wp2
        go_roundw
        case rel => exact ⟨i + 1, by omega, by go_num, HB2.out, fun j r hj hr => by
          rcases Nat.lt_or_ge j i with z | z
          · exact HNO.out j r z hr
          · obtain rfl : j = i := by omega
            rw [HQ.out] at hr
            cases hr
            exact HNE.out⟩
        case measure => simp [intOf]; omega
    · have HNI : Hid (m ∉ x.inb) := fun hmem => by
        obtain ⟨j, hj⟩ := List.mem_iff_getElem?.1 hmem
        have h1 := (List.getElem?_eq_some_iff.1 hj).1
        have h2 := HN.out
        exact HNO.out j m (by omega) hj rfl
      obtain ⟨sw, u, s, h1, h2, h4, h5, h6⟩ := HCX.out
      have HSW := hide h1
      have HCA := hide h2
      have HSO := hide h4
      have HBL := hide h5
      have HBB := hide h6
      clear h1 h2 h4 h5 h6
      obtain ⟨i1, hi1, hz1, hy1, hb1⟩ := info_parts Try.inf68
      have HI1 := hide (show Try.prog.info? 68 = some i1 ∧ i1.zero = some (.agg (msv (List.replicate 41 0)).toArray) ∧ i1.size = 41 ∧ i1.bytes = 72 from ⟨hi1, hz1, hy1, hb1⟩)
      clear hi1 hz1 hy1 hb1
      have HC2 := hide (HCA.out.below HBL.out HBw.out)
      have c1 : wr.cell? ⟨b, o + 2, none⟩ = some (.slice ia n ic) := HC2.out.rg 2 _ rfl
      have HAb : Hid (A ≠ b) := by have h1 := HBL.out; have h2 := HA.out; intro e; omega
      have E2 : Hid (A + 1 ≤ wr.heap.size) := by have h1 := HB.out.size; have h2 := E9.out; show A + 1 ≤ _; omega
      go_upto_region 9 with fail
      refine wp_region_held_drew (S := fun w' => w'.rangeAt A 0 V) (by kernel_rfl) HRr.out (fun hHeld => ?_)
      refine wpAnyH_take (i := 0) (v := ?_) rfl (by kernel_rfl) (by kernel_rfl) (by kernel_rfl) (fun _ _ _ h => h) (Or.inl ⟨by rfl, ?_⟩) (by assumption) ?_
      rotate_left
      · (intro w hSw; (try dsimp only at hSw); go_simp; try (with_reducible rfl))
      try simp only [Act.put, List.getElem_toArray, List.getElem_cons_zero, List.getElem_cons_succ, List.setIfInBounds_toArray, List.set_cons_zero, List.set_cons_succ]
      refine wpAnyH_take (i := 1) (v := ?_) rfl (by kernel_rfl) (by kernel_rfl) (by kernel_rfl) (fun _ _ _ h => h) (Or.inl ⟨by rfl, ?_⟩) (by assumption) ?_
      rotate_left
      · (intro w hSw; (try dsimp only at hSw); go_simp; try (with_reducible rfl))
      try simp only [Act.put, List.getElem_toArray, List.getElem_cons_zero, List.getElem_cons_succ, List.setIfInBounds_toArray, List.set_cons_zero, List.set_cons_succ]
      refine wpAnyH_take (i := 2) (v := ?_) rfl (by kernel_rfl) (by kernel_rfl) (by kernel_rfl) (fun _ _ _ h => h) (Or.inl ⟨by rfl, ?_⟩) (by assumption) ?_
      rotate_left
      · (intro w hSw; (try dsimp only at hSw); go_simp; try (with_reducible rfl))
      try simp only [Act.put, List.getElem_toArray, List.getElem_cons_zero, List.getElem_cons_succ, List.setIfInBounds_toArray, List.set_cons_zero, List.set_cons_succ]
      refine wpAnyH_take (i := 3) (v := ?_) rfl (by kernel_rfl) (by kernel_rfl) (by kernel_rfl) (fun _ _ _ h => h) (Or.inl ⟨by rfl, ?_⟩) (by assumption) ?_
      rotate_left
      · (intro w hSw; (try dsimp only at hSw); go_simp; try (with_reducible rfl))
      try simp only [Act.put, List.getElem_toArray, List.getElem_cons_zero, List.getElem_cons_succ, List.setIfInBounds_toArray, List.set_cons_zero, List.set_cons_succ]
      refine wpAnyH_take (i := 5) rfl (by kernel_rfl) (by kernel_rfl) (by kernel_rfl) (fun _ _ _ h => h) (yieldsIf_load_mid (by rfl) 68 (.tmp 5) rfl A 0 rfl V _ (fun w hSw => hSw) Try.underlying68 rfl (by rw [HVl.out]; exact Try.sz68)) (by assumption) ?_
      try simp only [Act.put, List.getElem_toArray, List.getElem_cons_zero, List.getElem_cons_succ, List.setIfInBounds_toArray, List.set_cons_zero, List.set_cons_succ]
      refine wpAnyH_ready (rs := [4, 6]) (by kernel_rfl) (by simp) ?_
      refine (AllReadyH.cons rfl (fun K hK => ?_) (AllReadyH.cons rfl (fun K hK => ?_) AllReadyH.nil))
      · go_simp
        refine hK.out _ _ ?_ (fun hHeld => ?_)
        · first | exact HRr.out | exact range_below HRr.out (Nat.lt_of_lt_of_le (by omega : A < A + 1) E2.out) HB4.out
        clear hK K
        try simp only [Act.put, List.getElem_toArray, List.getElem_cons_zero, List.getElem_cons_succ, List.setIfInBounds_toArray, List.set_cons_zero, List.set_cons_succ]
        refine wpAnyH_ready (rs := [6]) (by kernel_rfl) (by simp) ?_
        refine (AllReadyH.cons rfl (fun K hK => ?_) AllReadyH.nil)
        refine step_buildS rfl 51 68 (.tmp 66) rfl V rfl i1 _ 41 72 Try.underlying51 HI1.out.1 HI1.out.2.1 HI1.out.2.2.1 HI1.out.2.2.2 HVl.out (by decide) (by decide) ?_
        have b4 := (Below.trans (B := wr.heap.size) ((Below.refl wr.heap.size wr).drew) (be1 wr.drew (.cells V.toArray 68)))
        have HB4 := hide b4
        have HC4 := hide (HC2.out.below (Nat.lt_of_lt_of_le HBL.out HBw.out.size) b4)
        have HZ4 := hide (newR wr.drew V 68)
        have c4 : (wr.drew.alloc (.cells V.toArray 68)).cell? ⟨b, o + 2, none⟩ = some (.slice ia n ic) := HC4.out.rg 2 _ rfl
        clear b4
        refine hK.out _ _ ?_ (fun hHeld => ?_)
        · exact range_below HRr.out (Nat.lt_of_lt_of_le (by omega : A < A + 1) E2.out) HB4.out
        clear hK K
        try simp only [Act.put, List.getElem_toArray, List.getElem_cons_zero, List.getElem_cons_succ, List.setIfInBounds_toArray, List.set_cons_zero, List.set_cons_succ]
        generalize wr.drew.alloc (.cells V.toArray 68) = w4 at *
        refine wpAnyH_ready (rs := [7]) (by kernel_rfl) (by simp) ?_
        refine (AllReadyH.cons rfl (fun K hK => ?_) AllReadyH.nil)
        refine step_append_lies _ rfl (.tmp 65) (.tmp 67) 51 rfl 0 68 i1 _ 41 72 Try.underlying51 HI1.out.1 HI1.out.2.1 HI1.out.2.2.1 HI1.out.2.2.2 (by simp [Value.cells, msv, kvs_len]) (by decide) (.slice ia n ic) n (x.inb.flatMap msv) rfl (by have := HC4.out.cv.fl.2 1 _ _ rfl rfl; rw [← HN.out]; rw [HN.out] at this ⊢; exact this) ⟨wr.drew.heap.size, 0, none⟩ 1 1 V rfl (by rw [HVl.out]) (fun j u hj => by rw [Addr.add_mid]; exact HZ4.out j u hj) HV1.out (by decide) (by unfold maxLen; omega) (by omega) (Nat.zero_le _) _ rfl ?_
        intro g2 cap2 w5 hown hgrow hat hlt2
        have hat2 : ∀ j, (Value.slice (some ⟨g2, 0, none⟩) (n + 1) cap2).ownBlock = some j → (Value.slice ia n ic).ownBlock = some j ∨ w4.heap.size ≤ j := fun j hj => by
          have e : g2 = j := by simpa [Value.ownBlock] using hj
          subst e
          exact hat.imp id fun z => by rw [z]; exact Nat.le_refl _
        have HC5 : Hid (CV w5 54 5 (tookB x m).fl (boxW sw) [u, .slice (some ⟨g2, 0, none⟩) (n + 1) cap2] s) := by
          refine CV.grow (p := [u]) (q := []) (rp := [⟨68, 41, x.out.length, x.out.flatMap msv⟩]) (r := ⟨68, 41, x.inb.length, x.inb.flatMap msv⟩) (rq := []) (r' := ⟨68, 41, (x.inb ++ [m]).length, (x.inb ++ [m]).flatMap msv⟩) HC4.out.cv rfl rfl rfl hgrow ?_ hat2
          rw [List.length_append, List.flatMap_append, HN.out, show [m].flatMap msv = msv m by simp, HVe.out]
          exact hown
        have hub : (Value.slice ia n ic).ownBlock ≠ some b := fun e => HBB.out (HCA.out.bl ▸ mem_blks.2 ⟨_, by simp, e⟩)
        have huB : ∀ j, (Value.slice ia n ic).ownBlock = some j → j ∈ B := fun j e => HCA.out.bl ▸ mem_blks.2 ⟨_, by simp, e⟩
        have huA : ∀ j, (Value.slice ia n ic).ownBlock = some j → j < A := fun j e => by have := HCA.out.lt (huB j e); have := HA.out; omega
        have exg := Ex.ofGrown (S := fun k => (Value.slice ia n ic).ownBlock = some k) hgrow (fun k e => e.symm)
        have HS4 : Hid (A + 1 ≤ w4.heap.size) := Nat.le_trans E2.out HB4.out.size
        have HRA5 : Hid (w5.rangeAt A 0 V) := range_ex (range_below HRr.out (by have := E2.out; omega) HB4.out) (by have := HS4.out; omega) exg (fun e => by have := huA _ e; omega)
        have HCg5 := hide ((Cg.below (o := o) (n := 5) (B := B) (lec HBw.out HB4.out) HBL.out).grown hgrow (fun j hj => .inl (huB j hj)) HBL.out hub)
        have hb4 : b < w4.heap.size := World.block_lt_of_cell? _ _ c4
        have HTH5 : Hid (w5.there b o 5) := there_ex HC4.out.th hb4 exg hub
        have HRG5 : Hid (w5.rangeAt b o (x.vals u (.slice ia n ic) s)) := range_ex HC4.out.rg hb4 exg hub
        have HSUB : Hid (∀ j, j ∈ blks ([u, Value.slice (some ⟨g2, 0, none⟩) (n + 1) cap2] ++ s :: (boxW sw).flatMap (·.2)) → j ∈ B ∨ A + 1 ≤ j) := fun j hj => by
          rcases grow_sub (w := w4) (p := [u]) (q := []) hat2 hj with z | z
          · exact .inl (HCA.out.bl ▸ z)
          · right; have := HS4.out; omega
        have c5 : w5.cell? ⟨b, o + 2, none⟩ = some (.slice ia n ic) := HRG5.out 2 _ rfl
        have f5 : w5.frozen? ⟨b, o + 2, none⟩ = false := (HTH5.out 2 (by omega)).2
        clear hown hgrow hat hlt2 hat2 exg c4 hub huB huA hb4
        refine hK.out _ _ ?_ (fun hHeld => ?_)
        · exact HRA5.out
        clear hK K
        try simp only [Act.put, List.getElem_toArray, List.getElem_cons_zero, List.getElem_cons_succ, List.setIfInBounds_toArray, List.set_cons_zero, List.set_cons_succ]
        refine wpAnyH_take (i := 8) (v := ?_) rfl (by kernel_rfl) (by kernel_rfl) (by kernel_rfl) (fun _ _ _ h => h) (Or.inl ⟨by rfl, ?_⟩) (by assumption) ?_
        rotate_left
        · (intro w hSw; (try dsimp only at hSw); go_simp; try (with_reducible rfl))
        try simp only [Act.put, List.getElem_toArray, List.getElem_cons_zero, List.getElem_cons_succ, List.setIfInBounds_toArray, List.set_cons_zero, List.set_cons_succ]
        refine wpAnyH_take (i := 9) (v := ?_) rfl (by kernel_rfl) (by kernel_rfl) (by kernel_rfl) (fun _ _ _ h => h) (Or.inl ⟨by rfl, ?_⟩) (by assumption) ?_
        rotate_left
        · (intro w hSw; (try dsimp only at hSw); go_simp; try (with_reducible rfl))
        try simp only [Act.put, List.getElem_toArray, List.getElem_cons_zero, List.getElem_cons_succ, List.setIfInBounds_toArray, List.set_cons_zero, List.set_cons_succ]
        refine wpAnyH_ready (rs := [10]) (by kernel_rfl) (by simp) ?_
        refine (AllReadyH.cons rfl (fun K hK => ?_) AllReadyH.nil)
        go_simp
        refine hK.out _ _ ?_ (fun hHeld => ?_)
        · exact range_set_ne HRA5.out HAb.out _ _
        clear hK K
        try simp only [Act.put, List.getElem_toArray, List.getElem_cons_zero, List.getElem_cons_succ, List.setIfInBounds_toArray, List.set_cons_zero, List.set_cons_succ]
        refine wpAnyH_done (by kernel_rfl) ?_ _
        have HRR : Hid (R (.returned (.int .i64 0)) (w5.setCell ⟨b, o + 2, none⟩ (.slice (some ⟨g2, 0, none⟩) (n + 1) cap2))) := by
          rw [← HR.out]
          have hnb : b ∉ blks ([u, Value.slice (some ⟨g2, 0, none⟩) (n + 1) cap2] ++ s :: (boxW sw).flatMap (·.2)) := fun hj => by
            rcases HSUB.out b hj with z | z
            · exact HBB.out z
            · have := HBL.out; have := HA.out; omega
          refine ⟨rfl, HCg5.out.set (j := 2) (by omega) _, _, ⟨sw, u, .slice (some ⟨g2, 0, none⟩) (n + 1) cap2, s, HSW.out, ⟨HC5.out.keep (S := fun k => k = b) ((Ex.refl (fun k => k = b) _).set rfl _) (fun j hj e => hnb (e ▸ hj)), range_set HRG5.out 2 (.slice (some ⟨g2, 0, none⟩) (n + 1) cap2), there_set HTH5.out _ _, rfl⟩, ?_, HSO.out, ?_, hnb⟩, fun j hj => ?_⟩
          · have ok := HX.out.ok
            refine ⟨ok.c, ok.s, ok.o, fun z hz => ?_⟩
            rcases List.mem_append.1 hz with hz | hz
            · exact ok.i z hz
            · have e : z = m := by simpa using hz
              rw [e]; exact HM.out
          · exact Nat.lt_of_lt_of_le HBL.out (HCg5.out.set (j := 2) (by omega) (.slice (some ⟨g2, 0, none⟩) (n + 1) cap2)).ex.size
          · rcases HSUB.out j hj with z | z
            · exact .inl z
            · right; have := HA.out; omega
        generalize w5.setCell ⟨b, o + 2, none⟩ (.slice (some ⟨g2, 0, none⟩) (n + 1) cap2) = w6 at *
        go_wp2
        exact HRR.out
      · refine step_buildS rfl 51 68 (.tmp 66) rfl V rfl i1 _ 41 72 Try.underlying51 HI1.out.1 HI1.out.2.1 HI1.out.2.2.1 HI1.out.2.2.2 HVl.out (by decide) (by decide) ?_
        have b4 := (Below.trans (B := wr.heap.size) ((Below.refl wr.heap.size wr).drew) (be1 wr.drew (.cells V.toArray 68)))
        have HB4 := hide b4
        have HC4 := hide (HC2.out.below (Nat.lt_of_lt_of_le HBL.out HBw.out.size) b4)
        have HZ4 := hide (newR wr.drew V 68)
        have c4 : (wr.drew.alloc (.cells V.toArray 68)).cell? ⟨b, o + 2, none⟩ = some (.slice ia n ic) := HC4.out.rg 2 _ rfl
        clear b4
        refine hK.out _ _ ?_ (fun hHeld => ?_)
        · exact range_below HRr.out (Nat.lt_of_lt_of_le (by omega : A < A + 1) E2.out) HB4.out
        clear hK K
        try simp only [Act.put, List.getElem_toArray, List.getElem_cons_zero, List.getElem_cons_succ, List.setIfInBounds_toArray, List.set_cons_zero, List.set_cons_succ]
        generalize wr.drew.alloc (.cells V.toArray 68) = w4 at *
        refine wpAnyH_ready (rs := [4]) (by kernel_rfl) (by simp) ?_
        refine (AllReadyH.cons rfl (fun K hK => ?_) AllReadyH.nil)
        go_simp
        refine hK.out _ _ ?_ (fun hHeld => ?_)
        · first | exact HRr.out | exact range_below HRr.out (Nat.lt_of_lt_of_le (by omega : A < A + 1) E2.out) HB4.out
        clear hK K
        try simp only [Act.put, List.getElem_toArray, List.getElem_cons_zero, List.getElem_cons_succ, List.setIfInBounds_toArray, List.set_cons_zero, List.set_cons_succ]
        refine wpAnyH_ready (rs := [7]) (by kernel_rfl) (by simp) ?_
        refine (AllReadyH.cons rfl (fun K hK => ?_) AllReadyH.nil)
        refine step_append_lies _ rfl (.tmp 65) (.tmp 67) 51 rfl 0 68 i1 _ 41 72 Try.underlying51 HI1.out.1 HI1.out.2.1 HI1.out.2.2.1 HI1.out.2.2.2 (by simp [Value.cells, msv, kvs_len]) (by decide) (.slice ia n ic) n (x.inb.flatMap msv) rfl (by have := HC4.out.cv.fl.2 1 _ _ rfl rfl; rw [← HN.out]; rw [HN.out] at this ⊢; exact this) ⟨wr.drew.heap.size, 0, none⟩ 1 1 V rfl (by rw [HVl.out]) (fun j u hj => by rw [Addr.add_mid]; exact HZ4.out j u hj) HV1.out (by decide) (by unfold maxLen; omega) (by omega) (Nat.zero_le _) _ rfl ?_
        intro g2 cap2 w5 hown hgrow hat hlt2
        have hat2 : ∀ j, (Value.slice (some ⟨g2, 0, none⟩) (n + 1) cap2).ownBlock = some j → (Value.slice ia n ic).ownBlock = some j ∨ w4.heap.size ≤ j := fun j hj => by
          have e : g2 = j := by simpa [Value.ownBlock] using hj
          subst e
          exact hat.imp id fun z => by rw [z]; exact Nat.le_refl _
        have HC5 : Hid (CV w5 54 5 (tookB x m).fl (boxW sw) [u, .slice (some ⟨g2, 0, none⟩) (n + 1) cap2] s) := by
          refine CV.grow (p := [u]) (q := []) (rp := [⟨68, 41, x.out.length, x.out.flatMap msv⟩]) (r := ⟨68, 41, x.inb.length, x.inb.flatMap msv⟩) (rq := []) (r' := ⟨68, 41, (x.inb ++ [m]).length, (x.inb ++ [m]).flatMap msv⟩) HC4.out.cv rfl rfl rfl hgrow ?_ hat2
          rw [List.length_append, List.flatMap_append, HN.out, show [m].flatMap msv = msv m by simp, HVe.out]
          exact hown
        have hub : (Value.slice ia n ic).ownBlock ≠ some b := fun e => HBB.out (HCA.out.bl ▸ mem_blks.2 ⟨_, by simp, e⟩)
        have huB : ∀ j, (Value.slice ia n ic).ownBlock = some j → j ∈ B := fun j e => HCA.out.bl ▸ mem_blks.2 ⟨_, by simp, e⟩
        have huA : ∀ j, (Value.slice ia n ic).ownBlock = some j → j < A := fun j e => by have := HCA.out.lt (huB j e); have := HA.out; omega
        have exg := Ex.ofGrown (S := fun k => (Value.slice ia n ic).ownBlock = some k) hgrow (fun k e => e.symm)
        have HS4 : Hid (A + 1 ≤ w4.heap.size) := Nat.le_trans E2.out HB4.out.size
        have HRA5 : Hid (w5.rangeAt A 0 V) := range_ex (range_below HRr.out (by have := E2.out; omega) HB4.out) (by have := HS4.out; omega) exg (fun e => by have := huA _ e; omega)
        have HCg5 := hide ((Cg.below (o := o) (n := 5) (B := B) (lec HBw.out HB4.out) HBL.out).grown hgrow (fun j hj => .inl (huB j hj)) HBL.out hub)
        have hb4 : b < w4.heap.size := World.block_lt_of_cell? _ _ c4
        have HTH5 : Hid (w5.there b o 5) := there_ex HC4.out.th hb4 exg hub
        have HRG5 : Hid (w5.rangeAt b o (x.vals u (.slice ia n ic) s)) := range_ex HC4.out.rg hb4 exg hub
        have HSUB : Hid (∀ j, j ∈ blks ([u, Value.slice (some ⟨g2, 0, none⟩) (n + 1) cap2] ++ s :: (boxW sw).flatMap (·.2)) → j ∈ B ∨ A + 1 ≤ j) := fun j hj => by
          rcases grow_sub (w := w4) (p := [u]) (q := []) hat2 hj with z | z
          · exact .inl (HCA.out.bl ▸ z)
          · right; have := HS4.out; omega
        have c5 : w5.cell? ⟨b, o + 2, none⟩ = some (.slice ia n ic) := HRG5.out 2 _ rfl
        have f5 : w5.frozen? ⟨b, o + 2, none⟩ = false := (HTH5.out 2 (by omega)).2
        clear hown hgrow hat hlt2 hat2 exg c4 hub huB huA hb4
        refine hK.out _ _ ?_ (fun hHeld => ?_)
        · exact HRA5.out
        clear hK K
        try simp only [Act.put, List.getElem_toArray, List.getElem_cons_zero, List.getElem_cons_succ, List.setIfInBounds_toArray, List.set_cons_zero, List.set_cons_succ]
        refine wpAnyH_take (i := 8) (v := ?_) rfl (by kernel_rfl) (by kernel_rfl) (by kernel_rfl) (fun _ _ _ h => h) (Or.inl ⟨by rfl, ?_⟩) (by assumption) ?_
        rotate_left
        · (intro w hSw; (try dsimp only at hSw); go_simp; try (with_reducible rfl))
        try simp only [Act.put, List.getElem_toArray, List.getElem_cons_zero, List.getElem_cons_succ, List.setIfInBounds_toArray, List.set_cons_zero, List.set_cons_succ]
        refine wpAnyH_take (i := 9) (v := ?_) rfl (by kernel_rfl) (by kernel_rfl) (by kernel_rfl) (fun _ _ _ h => h) (Or.inl ⟨by rfl, ?_⟩) (by assumption) ?_
        rotate_left
        · (intro w hSw; (try dsimp only at hSw); go_simp; try (with_reducible rfl))
        try simp only [Act.put, List.getElem_toArray, List.getElem_cons_zero, List.getElem_cons_succ, List.setIfInBounds_toArray, List.set_cons_zero, List.set_cons_succ]
        refine wpAnyH_ready (rs := [10]) (by kernel_rfl) (by simp) ?_
        refine (AllReadyH.cons rfl (fun K hK => ?_) AllReadyH.nil)
        go_simp
        refine hK.out _ _ ?_ (fun hHeld => ?_)
        · exact range_set_ne HRA5.out HAb.out _ _
        clear hK K
        try simp only [Act.put, List.getElem_toArray, List.getElem_cons_zero, List.getElem_cons_succ, List.setIfInBounds_toArray, List.set_cons_zero, List.set_cons_succ]
        refine wpAnyH_done (by kernel_rfl) ?_ _
        have HRR : Hid (R (.returned (.int .i64 0)) (w5.setCell ⟨b, o + 2, none⟩ (.slice (some ⟨g2, 0, none⟩) (n + 1) cap2))) := by
          rw [← HR.out]
          have hnb : b ∉ blks ([u, Value.slice (some ⟨g2, 0, none⟩) (n + 1) cap2] ++ s :: (boxW sw).flatMap (·.2)) := fun hj => by
            rcases HSUB.out b hj with z | z
            · exact HBB.out z
            · have := HBL.out; have := HA.out; omega
          refine ⟨rfl, HCg5.out.set (j := 2) (by omega) _, _, ⟨sw, u, .slice (some ⟨g2, 0, none⟩) (n + 1) cap2, s, HSW.out, ⟨HC5.out.keep (S := fun k => k = b) ((Ex.refl (fun k => k = b) _).set rfl _) (fun j hj e => hnb (e ▸ hj)), range_set HRG5.out 2 (.slice (some ⟨g2, 0, none⟩) (n + 1) cap2), there_set HTH5.out _ _, rfl⟩, ?_, HSO.out, ?_, hnb⟩, fun j hj => ?_⟩
          · have ok := HX.out.ok
            refine ⟨ok.c, ok.s, ok.o, fun z hz => ?_⟩
            rcases List.mem_append.1 hz with hz | hz
            · exact ok.i z hz
            · have e : z = m := by simpa using hz
              rw [e]; exact HM.out
          · exact Nat.lt_of_lt_of_le HBL.out (HCg5.out.set (j := 2) (by omega) (.slice (some ⟨g2, 0, none⟩) (n + 1) cap2)).ex.size
          · rcases HSUB.out j hj with z | z
            · exact .inl z
            · right; have := HA.out; omega
        generalize w5.setCell ⟨b, o + 2, none⟩ (.slice (some ⟨g2, 0, none⟩) (n + 1) cap2) = w6 at *
        go_wp2
        exact HRR.out

end Go.Proofs.Qxb6500784a
