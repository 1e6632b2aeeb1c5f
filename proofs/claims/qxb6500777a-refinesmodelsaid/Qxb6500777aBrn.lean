import Derived.Test.Qxb6500777aFrP
namespace Go.Proofs.Qxb6500777a
open Go.RowKit

/-! ### A new board -/
def zc99 (j : Nat) : Value := if j = 0 then .pointer none else if (j - 1) % 754 < 640 ∧ (j - 1) % 754 % 10 = 0 then .bool false else .int .i64 0
theorem Try.z99 : Try.zeroCells99 = ((List.range 3017).map zc99).toArray := by kernel_rfl
def tbl0 : Tbl := ⟨fun _ => slt0, fun _ => -1, 0, 1⟩
theorem tbl0_ok : TkI tbl0 := by
  refine ⟨⟨fun _ _ => slt0_ok, fun _ _ _ => rfl, ?_, fun k _ hu => ?_, fun t _ => .inl rfl, fun k _ hu => ?_, fun i j _ _ _ hu => ?_, ⟨by decide, by decide⟩⟩, fun k _ hu => ?_⟩
  · have : ∀ n, cntU (fun _ => slt0) n = 0 := fun n => by
      induction n with
      | zero => rfl
      | succ n ih => show cntU (fun _ => slt0) n + _ = 0; rw [ih]; rfl
    exact (this 64).symm
  all_goals (cases hu)
/-- The board's tables, and the numbers behind it. -/
structure BD (w : World) (b m : Nat) (TT : Nat → Tbl) : Prop where
  c0 : w.cell? ⟨b, 0, none⟩ = some (.pointer (some ⟨m, 0, none⟩))
  ta : ∀ k, k < 4 → TA w b (1 + k * 754) (TT k)
section
variable {w w' : World} {b m : Nat} {TT : Nat → Tbl}
theorem BD.lt (h : BD w b m TT) : b < w.heap.size := World.block_lt_of_cell? _ _ h.c0
theorem BD.below (h : BD w b m TT) (k : Below w.heap.size w w') : BD w' b m TT := ⟨cellKeep k h.c0, fun i hi => (h.ta i hi).below k⟩
theorem BD.keep (h : BD w b m TT) {p lo n : Nat} (k : Fr p lo n w w') (hb : b ≠ p) : BD w' b m TT := ⟨k.ex.cell hb h.c0, fun i hi => (h.ta i hi).keep k (.inl hb)⟩
theorem BD.drewN (h : BD w b m TT) (n : Nat) : BD (w.drewN n) b m TT := h.below (belN w n)
/-- A team's table turns. -/
theorem BD.team (h : BD w b m TT) {i : Nat} (k : Fr b (1 + i * 754) 754 w w') {T : Tbl} (ht : TA w' b (1 + i * 754) T) : BD w' b m (upd TT i T) := by
  refine ⟨(k.cell 0 (.inl (by omega))).trans h.c0, fun j hj => ?_⟩
  by_cases e : j = i
  · subst e; rw [upd_same]; exact ht
  · rw [upd_ne _ _ e]
    exact (h.ta j hj).keep k (.inr (by omega))
end
theorem zc_at (w : World) (m : Nat) (j : Nat) (hj : j < 3017) (h0 : j ≠ 0) : (w.alloc (.cells (Try.zeroCells99.setIfInBounds 0 (.pointer (some ⟨m, 0, none⟩))) 99)).cell? ⟨w.heap.size, j, none⟩ = some (zc99 j) := by
  have hb : (w.alloc (.cells (Try.zeroCells99.setIfInBounds 0 (.pointer (some ⟨m, 0, none⟩))) 99)).heap[w.heap.size]? = some (.cells (Try.zeroCells99.setIfInBounds 0 (.pointer (some ⟨m, 0, none⟩))) 99) := heap_alloc_new w _
  unfold World.cell?
  simp only [hb]
  rw [Array.getElem?_setIfInBounds_ne (by omega), Try.z99, List.getElem?_toArray, List.getElem?_map, List.getElem?_range hj]
  rfl
theorem zc_0 (w : World) (m : Nat) : (w.alloc (.cells (Try.zeroCells99.setIfInBounds 0 (.pointer (some ⟨m, 0, none⟩))) 99)).cell? ⟨w.heap.size, 0, none⟩ = some (.pointer (some ⟨m, 0, none⟩)) := by
  have hb : (w.alloc (.cells (Try.zeroCells99.setIfInBounds 0 (.pointer (some ⟨m, 0, none⟩))) 99)).heap[w.heap.size]? = some (.cells (Try.zeroCells99.setIfInBounds 0 (.pointer (some ⟨m, 0, none⟩))) 99) := heap_alloc_new w _
  unfold World.cell?
  simp only [hb]
  rw [Array.getElem?_setIfInBounds_self_of_lt (by rw [Try.z99, List.size_toArray, List.length_map, List.length_range]; omega)]
  rfl
def tblZ : Tbl := ⟨fun _ => slt0, fun _ => 0, 0, 0⟩
theorem zc_bd (w : World) (m : Nat) : BD (w.alloc (.cells (Try.zeroCells99.setIfInBounds 0 (.pointer (some ⟨m, 0, none⟩))) 99)) w.heap.size m (fun _ => tblZ) := by
  have zi : ∀ j, j < 3017 → j ≠ 0 → ¬ ((j - 1) % 754 < 640 ∧ (j - 1) % 754 % 10 = 0) → (w.alloc (.cells (Try.zeroCells99.setIfInBounds 0 (.pointer (some ⟨m, 0, none⟩))) 99)).cell? ⟨w.heap.size, j, none⟩ = some (.int .i64 0) := fun j h1 h2 h3 => by
    rw [zc_at w m j h1 h2]; unfold zc99; rw [if_neg h2, if_neg h3]
  have zb : ∀ j, j < 3017 → j ≠ 0 → ((j - 1) % 754 < 640 ∧ (j - 1) % 754 % 10 = 0) → (w.alloc (.cells (Try.zeroCells99.setIfInBounds 0 (.pointer (some ⟨m, 0, none⟩))) 99)).cell? ⟨w.heap.size, j, none⟩ = some (.bool false) := fun j h1 h2 h3 => by
    rw [zc_at w m j h1 h2]; unfold zc99; rw [if_neg h2, if_pos h3]
  have md : ∀ k r, r < 754 → ∀ x, x = 1 + k * 754 + r → (x - 1) % 754 = r := fun k r hr x hx => by omega
  refine ⟨zc_0 w m, fun k hk => ⟨fun i hi => ⟨fun j v hv => ?_, fun j => by simp [go_sem]⟩, fun i hi => ?_, ?_, ?_⟩⟩
  · have hj : j < 10 := (List.getElem?_eq_some_iff.1 hv).1
    rcases (by omega : j = 0 ∨ 0 < j) with rfl | hj0
    · cases hv
      exact zb _ (by omega) (by omega) (by rw [md k (i * 10 + 0) (by omega) _ (by omega)]; omega)
    · have hv0 : v = .int .i64 0 := by
        rcases (by omega : j = 1 ∨ j = 2 ∨ j = 3 ∨ j = 4 ∨ j = 5 ∨ j = 6 ∨ j = 7 ∨ j = 8 ∨ j = 9) with rfl | rfl | rfl | rfl | rfl | rfl | rfl | rfl | rfl <;> (cases hv; rfl)
      rw [hv0]
      exact zi _ (by omega) (by omega) (by rw [md k (i * 10 + j) (by omega) _ (by omega)]; omega)
  · exact zi _ (by omega) (by omega) (by rw [md k (640 + i) (by omega) _ (by omega)]; omega)
  · exact zi _ (by omega) (by omega) (by rw [md k 752 (by omega) _ (by omega)]; omega)
  · exact zi _ (by omega) (by omega) (by rw [md k 753 (by omega) _ (by omega)]; omega)
def NbPost (w : World) (m : Nat) (e : Ending) (w' : World) : Prop := ∃ b, e = .returned (.pointer (some ⟨b, 0, none⟩)) ∧ w.heap.size ≤ b ∧ BD w' b m (fun _ => tbl0) ∧ Below w.heap.size w w'
set_option maxRecDepth 100000 in
set_option maxHeartbeats 4000000 in
/-- tracks.New -/
theorem newB_any (w : World) (m : Nat) : Calls Try.prog 16 #[.pointer (some ⟨m, 0, none⟩)] w (NbPost w m) := by
  have HB := hide (zc_bd w m)
  have HE := hide (be1 w (.cells (Try.zeroCells99.setIfInBounds 0 (.pointer (some ⟨m, 0, none⟩))) 99))
  go_enter Try.func16, Try.ntmps16
  go_upto_region 2 with fail
  generalize w.alloc (.cells (Try.zeroCells99.setIfInBounds 0 (.pointer (some ⟨m, 0, none⟩))) 99) = w1 at *
  generalize Try.zeroCells99.setIfInBounds 0 (.pointer (some ⟨m, 0, none⟩)) = arr at *
  have hge : w.heap.size ≤ w.heap.size := Nat.le_refl _
  obtain ⟨b, hb⟩ : ∃ b, w.heap.size = b := ⟨_, rfl⟩
  have HGE := hide (show w.heap.size ≤ b by omega)
  rw [hb] at HB ⊢
  clear hge hb
  go_wp2
  go_loopw [4, 5, 6] (fun s4 _ _ wr => ∃ (i : Nat) (TT : Nat → Tbl), i ≤ 4 ∧ s4 = .int .i64 i ∧ Hid (∀ k, k < i → TT k = tbl0) ∧ Hid (∀ k, i ≤ k → TT k = tblZ) ∧ BD wr b m TT ∧ Below w.heap.size w wr) (fun s4 _ _ _ => 4 - (intOf s4).toNat)
  case atStart => exact ⟨0, fun _ => tblZ, by omega, rfl, hide fun k hk => by omega, hide fun _ _ => rfl, HB.out, HE.out⟩
  case round =>
    clear HB HE
    rename_i wr
    obtain ⟨i, TT, hi, rfl, HT0, HTZ, hbd, hbe⟩ := hrel
    have HB := hide hbd
    have HE := hide hbe
    clear hbd hbe
    by_cases hi4 : i < 4
    · have hi4i : (i : Int) < 4 := by omega
      have HTA := hide (show TA wr b (1 + i * 754) tblZ by rw [← HTZ.out i (Nat.le_refl _)]; exact HB.out.ta i hi4)
      have HO1 := hide (show ∀ T w', Fr b (1 + i * 754) 754 wr w' → TA w' b (1 + i * 754) T → BD w' b m (upd TT i T) from fun T w' k ht => HB.out.team k ht)
      obtain ⟨o, ho⟩ : ∃ o, 1 + i * 754 = o := ⟨_, rfl⟩
      rw [ho] at HTA HO1
      have cn := HTA.out.next
      have fn := HTA.out.f (o + 753)
      go_upto_region 7 with fail
      have HT1 := hide (HTA.out.setNext 1)
      have HF1 := hide ((Fr.refl b o 754 wr).set (j := o + 753) (by omega) (by omega) (.int .i64 1))
      have HE1 := hide ((Ex.of (S := fun _ => False) HE.out).setNew (p := b) (j := o + 753) HGE.out (.int .i64 1))
      clear cn fn
      generalize wr.setCell ⟨b, o + 753, none⟩ (.int .i64 1) = w2 at *
      go_wp2
      go_loopw [6] (fun s6 wy => ∃ (n : Nat) (f : Nat → Int), n ≤ 112 ∧ s6 = .int .i64 n ∧ Hid (∀ k, k < n → f k = -1) ∧ TA wy b o ⟨fun _ => slt0, f, 0, 1⟩ ∧ Fr b o 754 wr wy ∧ Ex (fun _ => False) w wy) (fun s6 _ => 112 - (intOf s6).toNat)
      case atStart => exact ⟨0, fun _ => 0, by omega, rfl, hide fun k hk => by omega, HT1.out, HF1.out, HE1.out⟩
      case round =>
        clear HT1 HF1 HE1
        rename_i wy
        obtain ⟨n, f, hn, rfl, HFN, hta, hfr, hex⟩ := hrel
        have HT := hide hta
        have HF := hide hfr
        have HX := hide hex
        clear hta hfr hex
        by_cases hn112 : n < 112
        · have hn112i : (n : Int) < 112 := by omega
          have cw := HT.out.wh n hn112
          have fw := HT.out.f (o + 640 + n)
          go_wp2
          go_roundw
          case rel => exact ⟨n + 1, upd f n (-1), by omega, by simp, hide fun k hk => by rcases (by omega : k = n ∨ k < n) with rfl | z; exact upd_same _ _ _; rw [upd_ne _ _ (by omega)]; exact HFN.out k z, HT.out.setWh hn112 (-1), HF.out.set (by omega) (by omega) _, HX.out.setNew HGE.out _⟩
          case measure => simp [intOf]; omega
        · obtain rfl : n = 112 := by omega
          rw [show ((112 : Nat) : Int) = 112 from rfl]
          have HN := hide (HO1.out tbl0 _ HF.out ⟨HT.out.sl, fun k hk => by have := HT.out.wh k hk; rw [show (⟨fun _ => slt0, f, 0, 1⟩ : Tbl).wh k = f k from rfl, HFN.out k hk] at this; exact this, HT.out.held, HT.out.next⟩)
          have HBL := hide (HX.out.below (Nat.le_refl _) (fun _ _ e => e))
          go_wp2
          go_roundw
          case rel => exact ⟨i + 1, upd TT i tbl0, by omega, by simp, hide fun k hk => by rcases (by omega : k = i ∨ k < i) with rfl | z; exact upd_same _ _ _; rw [upd_ne _ _ (by omega)]; exact HT0.out k z, hide fun k hk => by rw [upd_ne _ _ (by omega)]; exact HTZ.out k (by omega), HN.out, HBL.out⟩
          case measure => simp [intOf]; omega
    · obtain rfl : i = 4 := by omega
      rw [show ((4 : Nat) : Int) = 4 from rfl]
      have HN := hide (show BD wr b m (fun _ => tbl0) from ⟨HB.out.c0, fun k hk => by have := HB.out.ta k hk; rw [HT0.out k hk] at this; exact this⟩)
      go_wp2
      go_ret
      exact ⟨b, rfl, HGE.out, HN.out, HE.out⟩
end Go.Proofs.Qxb6500777a
