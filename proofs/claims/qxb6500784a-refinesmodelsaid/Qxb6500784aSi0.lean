import Derived.Test.Qxb6500784aRla
import Derived.Test.Qxb6500784aSh3
namespace Go.Proofs.Qxb6500784a
open Go.RowKit

/-! ### Results of bundles -/
theorem wpL_run {P : Program} {ops : Array Oper} {rest : List Oper} {op : Oper} {a : Act} {w : World} {Q : Exit → Act → World → Prop} (hg : op.guard = none) (v : Value) (w' : World) (hrun : (execOp a.eval op).run P w = .ok (.value v) w')
    (h : wpList P ops Q rest (a.put op.dst v) w') : wpList P ops Q (op :: rest) a w := by
  refine wpList_plain hg fun K hK => ?_
  unfold Oper.wp
  rw [hrun, Oper.upon_value]
  exact hK _ _ h
def z32 : List Int := List.replicate 32 0
def refR (c f : Int) : Rs := ⟨c, f, [], [], [], 0, z32, z32, nilS⟩
theorem refR_ok (c f : Int) : (refR c f).Ok := ⟨by simp [refR, z32], by simp [refR, z32], fun x hx => absurd hx (by simp [refR]), fun x hx => absurd hx (by simp [refR])⟩
theorem Try.inf65 : (Try.prog.info? 65).map (fun i => (i.zero, i.size, i.bytes)) = some (some (.agg ((refR 0 0).vals nilS nilS nilS).toArray), 70, 160) := by kernel_rfl
theorem Try.sz65 : (Try.prog.info? 65).map (·.size) = some 70 := by kernel_rfl
theorem built_ref (c f : Int) : Try.prog.built 65 [(0, .int .i64 c), (1, .int .i64 f)] = some ((refR c f).vals nilS nilS nilS).toArray := by kernel_rfl
def res0 (o : List Int) (v : Value) : Rs := ⟨0, -1, o, [], [], 0, z32, z32, v⟩
theorem res0_ok (o : List Int) (v : Value) : (res0 o v).Ok := ⟨by simp [res0, z32], by simp [res0, z32], fun x hx => absurd hx (by simp [res0]), fun x hx => absurd hx (by simp [res0])⟩
theorem built_res (o : List Int) (v : Value) (a : Option Addr) (n c : Nat) : Try.prog.built 65 [(1, .int .i64 (-1)), (2, .slice a n c)] = some ((res0 o v).vals (.slice a n c) nilS nilS).toArray := by kernel_rfl
attribute [-simp] Try.isAgg65 Try.sizeOf65 Try.typeInfo65
set_option linter.unusedSimpArgs false in
set_option maxRecDepth 100000 in
set_option maxHeartbeats 4000000 in
/-- bundle.refused -/
theorem refused_any (w : World) (c f : Int) : Calls Try.prog 84 #[.int .i64 c, .int .i64 f] w fun e w' => e = .returned (.agg ((refR c f).vals nilS nilS nilS).toArray) ∧ Below w.heap.size w w' := by
  obtain ⟨i3, hi3, hz3, hy3, _⟩ := info_parts Try.inf65
  obtain ⟨F, hF⟩ : ∃ F, (refR c f).vals nilS nilS nilS = F := ⟨_, rfl⟩
  have HFl : Hid (F.length = 70) := by rw [← hF]; exact Rs.len (refR_ok c f) _ _ _
  have HF1 : Hid (∀ u ∈ F, u.oneCell' = true) := by rw [← hF]; exact Rs.one _ rfl rfl rfl
  have HB : Hid (Try.prog.built 65 [(0, .int .i64 c), (1, .int .i64 f)] = some F.toArray) := by rw [← hF]; exact built_ref c f
  rw [hF]
  clear hF
  go_enter Try.func84, Try.ntmps84
  refine wp_seq ?_
  refine wp_region_lit ?_
  refine wpL_alloc rfl 65 rfl i3 hi3 _ hz3 ?_
  rw [show (Value.agg ((refR 0 0).vals nilS nilS nilS).toArray).cells = ((refR 0 0).vals nilS nilS nilS).toArray from rfl]
  have HT := hide (newTz w ((refR 0 0).vals nilS nilS nilS).toArray 65)
  have HBE := hide (be1 w (.cells ((refR 0 0).vals nilS nilS nilS).toArray 65))
  rw [show ((refR 0 0).vals nilS nilS nilS).toArray.size = 70 by kernel_rfl] at HT
  obtain ⟨D, hD⟩ : ∃ D, w.heap.size = D := ⟨_, rfl⟩
  have HD := hide hD
  rw [hD] at HT ⊢
  generalize w.alloc (.cells ((refR 0 0).vals nilS nilS nilS).toArray 65) = w1 at *
  clear hD
  go_upto_region 1 with fail
  refine wp_region_lit ?_
  refine wpL_run rfl (.int .i64 c) w1 rfl ?_
  refine wpL_run rfl (.int .i64 f) w1 rfl ?_
  refine wpL_build rfl 65 _ rfl F.toArray (by exact HB.out) ?_
  refine wpList_store_mid rfl 65 (.tmp 4) (.tmp 7) rfl D 0 F.toArray rfl rfl (by simpa [HFl.out] using HT.out) (by simpa [HFl.out] using Try.sz65) (all_oneCell_toArray HF1.out) ?_
  rw [show F.toArray.toList = F by simp]
  have HRZ := hide (World.rangeAt_setCells_same w1 D 0 F (by rw [HFl.out]; exact HT.out))
  have HB2 : Hid (Below w.heap.size w (w1.setCells D 0 F)) := HBE.out.trans ((Ex.sets (S := fun j => j = D) rfl F 0 w1 (Ex.refl _ _)).below HBE.out.size (fun j hj e => by have := HD.out; omega))
  generalize w1.setCells D 0 F = w2 at *
  go_wp2_with fail
  exact bodyPost_ret (v := .agg F.toArray) (res_cell Try.results84 rfl (run_loadVar_mid w2 D 0 65 F _ HRZ.out Try.underlying65 rfl (by rw [HFl.out]; exact Try.sz65))) rfl ⟨rfl, by rw [← HD.out]; exact HB2.out⟩
end Go.Proofs.Qxb6500784a
