import Derived.Test.Qxb6500784aSn
import Derived.ChangeKeysEq
namespace Go.Proofs.Qxb6500784a
open Go.RowKit

attribute [-simp] Try.isAgg68 Try.sizeOf68 Try.typeInfo68
set_option linter.unusedSimpArgs false in
set_option maxRecDepth 100000 in
set_option maxHeartbeats 4000000 in
/-- Box.Send, the box full. -/
theorem send_full (w : World) (b o : Nat) (x : Box0) (sv : List Box0) (B : List Nat) (m : Msg) (h : BA w b o x sv B) (hn : 32 ≤ x.sn) :
    Calls Try.prog 62 #[.pointer (some ⟨b, o, none⟩), .agg (msv m).toArray] w fun e w' => e = .returned (.tuple #[.agg (msv (List.replicate 41 0)).toArray, .int .i64 50]) ∧ Below w.heap.size w w' := by
  have c3 : w.cell? ⟨b, o + 3, none⟩ = some (.int .i64 x.sn) := h.cell (fun _ _ _ => rfl)
  obtain ⟨V, hV⟩ : ∃ V, msv m = V := ⟨_, rfl⟩
  rw [hV]
  clear hV h
  generalize x.sn = sn at *
  have d : decide (32 ≤ sn) = true := by simp; omega
  obtain ⟨Z, hZ⟩ : ∃ Z, msv (List.replicate 41 0) = Z := ⟨_, rfl⟩
  have HZl : Hid (Z.length = 41) := by rw [← hZ]; exact msv_len zOk
  have HZ1 : Hid (∀ z ∈ Z, z.oneCell' = true) := by rw [← hZ]; exact kvs_one _ _
  have HZe : Hid ((#[.int .u8 0, .int .u8 0, .int .u8 0, .int .u8 0, .int .u8 0, .int .u64 0, .int .u8 0, .int .u64 0, .int .u8 0, .int .u8 0, .int .u8 0, .int .u8 0, .int .u8 0, .int .u8 0, .int .u8 0, .int .u8 0, .int .u8 0, .int .u8 0, .int .u8 0, .int .u8 0, .int .u8 0, .int .u8 0, .int .u8 0, .int .u8 0, .int .u8 0, .int .u8 0, .int .u8 0, .int .u8 0, .int .u8 0, .int .u8 0, .int .u8 0, .int .u8 0, .int .u8 0, .int .u8 0, .int .u8 0, .int .u8 0, .int .u8 0, .int .u8 0, .int .u8 0, .int .u8 0, .int .u8 0] : Array Value) = Z.toArray) := by rw [← hZ]; exact z68.symm
  have HZb : Hid ((Try.prog.built 68 []).getD #[] = Z.toArray) := by show _ = _; rw [← hZ]; kernel_rfl
  rw [hZ]
  clear hZ
  go_enter Try.func62, Try.ntmps62
  go_upto_region 1 with fail
  obtain ⟨A, hA⟩ : ∃ A, w.heap.size = A := ⟨_, rfl⟩
  have HA := hide hA
  have T1 := hide (newTz (w.alloc (.cells V.toArray 68)) #[.int .u8 0, .int .u8 0, .int .u8 0, .int .u8 0, .int .u8 0, .int .u64 0, .int .u8 0, .int .u64 0, .int .u8 0, .int .u8 0, .int .u8 0, .int .u8 0, .int .u8 0, .int .u8 0, .int .u8 0, .int .u8 0, .int .u8 0, .int .u8 0, .int .u8 0, .int .u8 0, .int .u8 0, .int .u8 0, .int .u8 0, .int .u8 0, .int .u8 0, .int .u8 0, .int .u8 0, .int .u8 0, .int .u8 0, .int .u8 0, .int .u8 0, .int .u8 0, .int .u8 0, .int .u8 0, .int .u8 0, .int .u8 0, .int .u8 0, .int .u8 0, .int .u8 0, .int .u8 0, .int .u8 0] 68)
  have B1 := hide (be2 w (.cells V.toArray 68) (.cells #[.int .u8 0, .int .u8 0, .int .u8 0, .int .u8 0, .int .u8 0, .int .u64 0, .int .u8 0, .int .u64 0, .int .u8 0, .int .u8 0, .int .u8 0, .int .u8 0, .int .u8 0, .int .u8 0, .int .u8 0, .int .u8 0, .int .u8 0, .int .u8 0, .int .u8 0, .int .u8 0, .int .u8 0, .int .u8 0, .int .u8 0, .int .u8 0, .int .u8 0, .int .u8 0, .int .u8 0, .int .u8 0, .int .u8 0, .int .u8 0, .int .u8 0, .int .u8 0, .int .u8 0, .int .u8 0, .int .u8 0, .int .u8 0, .int .u8 0, .int .u8 0, .int .u8 0, .int .u8 0, .int .u8 0] 68))
  rw [show (w.alloc (.cells V.toArray 68)).heap.size = A + 1 by simp [hA]] at T1
  rw [hA] at B1 ⊢
  generalize (w.alloc (.cells V.toArray 68)).alloc (.cells #[.int .u8 0, .int .u8 0, .int .u8 0, .int .u8 0, .int .u8 0, .int .u64 0, .int .u8 0, .int .u64 0, .int .u8 0, .int .u8 0, .int .u8 0, .int .u8 0, .int .u8 0, .int .u8 0, .int .u8 0, .int .u8 0, .int .u8 0, .int .u8 0, .int .u8 0, .int .u8 0, .int .u8 0, .int .u8 0, .int .u8 0, .int .u8 0, .int .u8 0, .int .u8 0, .int .u8 0, .int .u8 0, .int .u8 0, .int .u8 0, .int .u8 0, .int .u8 0, .int .u8 0, .int .u8 0, .int .u8 0, .int .u8 0, .int .u8 0, .int .u8 0, .int .u8 0, .int .u8 0, .int .u8 0] 68) = w1 at *
  have hT41 : (#[.int .u8 0, .int .u8 0, .int .u8 0, .int .u8 0, .int .u8 0, .int .u64 0, .int .u8 0, .int .u64 0, .int .u8 0, .int .u8 0, .int .u8 0, .int .u8 0, .int .u8 0, .int .u8 0, .int .u8 0, .int .u8 0, .int .u8 0, .int .u8 0, .int .u8 0, .int .u8 0, .int .u8 0, .int .u8 0, .int .u8 0, .int .u8 0, .int .u8 0, .int .u8 0, .int .u8 0, .int .u8 0, .int .u8 0, .int .u8 0, .int .u8 0, .int .u8 0, .int .u8 0, .int .u8 0, .int .u8 0, .int .u8 0, .int .u8 0, .int .u8 0, .int .u8 0, .int .u8 0, .int .u8 0] : Array Value).size = 41 := rfl
  rw [hT41] at T1
  clear hA hT41
  have k3 := cellKeep (show Below w.heap.size w w1 by rw [HA.out]; exact B1.out) c3
  clear c3
  go_upto_region 2 with fail
  refine wp_region_lit ?_
  refine wpList_build rfl 68 #[] rfl (by kernel_rfl) ?_
  rw [show ∀ f : (Nat × Operand) → (Nat × Value), (Array.map f #[]).toList = [] from fun _ => by simp, HZb.out]
  refine wpList_store_mid rfl 68 (.tmp 4) (.tmp 11) rfl (A + 1) 0 Z.toArray rfl rfl (by simpa [HZl.out] using T1.out) (by simpa [HZl.out] using Try.sz68) (all_oneCell_toArray HZ1.out) ?_
  rw [show Z.toArray.toList = Z by simp]
  have HRZ := hide (World.rangeAt_setCells_same w1 (A + 1) 0 Z (by rw [HZl.out]; exact T1.out))
  have HB2 : Hid (Below w.heap.size w (w1.setCells (A + 1) 0 Z)) := by
    rw [HA.out]
    exact B1.out.trans ((Ex.sets (S := fun j => j = A + 1) rfl Z 0 w1 (Ex.refl _ _)).below (by have := B1.out.size; have := HA.out; omega) (fun j hj e => by omega))
  generalize w1.setCells (A + 1) 0 Z = w8 at *
  go_wp2_with fail
  exact bodyPost_ret (v := .tuple #[.agg Z.toArray, .int .i64 50]) (res_cell_tmp Try.results62 rfl rfl (run_loadVar_mid w8 (A + 1) 0 68 Z _ HRZ.out Try.underlying68 rfl (by rw [HZl.out]; exact Try.sz68))) rfl ⟨rfl, HB2.out⟩

end Go.Proofs.Qxb6500784a
