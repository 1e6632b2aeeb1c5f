import Derived.Test.Qxb6500784aIn
namespace Go.Proofs.Qxb6500784a
open Go.RowKit

theorem info_z {P : Program} {t : Nat} {z : Value} {s : Nat} (h : (P.info? t).map (fun i => (i.zero, i.size)) = some (some z, s)) : ∃ i, P.info? t = some i ∧ i.zero = some z := by
  cases hh : P.info? t with
  | none => rw [hh] at h; cases h
  | some i => rw [hh] at h; injection h with h; injection h with h1 h2; exact ⟨i, rfl, h1⟩
theorem Try.inz68 : (Try.prog.info? 68).map (fun i => (i.zero, i.size)) = some (some (.agg (msv msg0).toArray), 41) := by kernel_rfl
def depM (d rc tk am : Int) : Msg := [2, 3, d, 0, rc, 0, tk, am] ++ List.replicate 33 0
theorem built_dep (d rc tk am : Int) : Try.prog.built 68 [(0, .int .u8 2), (1, .int .u8 3), (2, .int .u8 d), (4, .int .u8 rc), (6, .int .u8 tk), (7, .int .u64 am)] = some (msv (depM d rc tk am)).toArray := by kernel_rfl
theorem lit_dep (d rc tk am : Int) : (#[.int .u8 2, .int .u8 3, .int .u8 d, .int .u8 0, .int .u8 rc, .int .u64 0, .int .u8 tk, .int .u64 am, .int .u8 0, .int .u8 0, .int .u8 0, .int .u8 0, .int .u8 0, .int .u8 0, .int .u8 0, .int .u8 0, .int .u8 0, .int .u8 0, .int .u8 0, .int .u8 0, .int .u8 0, .int .u8 0, .int .u8 0, .int .u8 0, .int .u8 0, .int .u8 0, .int .u8 0, .int .u8 0, .int .u8 0, .int .u8 0, .int .u8 0, .int .u8 0, .int .u8 0, .int .u8 0, .int .u8 0, .int .u8 0, .int .u8 0, .int .u8 0, .int .u8 0, .int .u8 0, .int .u8 0] : Array Value) = (msv (depM d rc tk am)).toArray := by kernel_rfl
theorem built_m0 : Try.prog.built 68 [] = some (msv msg0).toArray := by kernel_rfl
theorem msg0_ok : MsgOk msg0 := ⟨by simp [msg0], fun j x hj => by
  rw [msg0, List.getElem?_replicate] at hj
  split at hj
  · cases hj; exact ⟨by omega, by unfold lim; split <;> omega⟩
  · cases hj⟩
theorem depM_ok {d rc tk am : Int} (h1 : 0 ≤ d ∧ d < 256) (h2 : 0 ≤ rc ∧ rc < 256) (h3 : 0 ≤ tk ∧ tk < 256) (h4 : 0 ≤ am ∧ am < m64) : MsgOk (depM d rc tk am) := by
  have z : KOk (fun j => mkd (j + 1 + 1 + 1 + 1 + 1 + 1 + 1 + 1)) 33 (List.replicate 33 0) := ⟨by simp, fun j x hj => by
    rw [List.getElem?_replicate] at hj
    split at hj
    · cases hj; exact ⟨by omega, by unfold lim; split <;> omega⟩
    · cases hj⟩
  exact kok_cons (by omega) (by decide) (kok_cons (by omega) (by decide) (kok_cons h1.1 h1.2 (kok_cons (by omega) (by decide) (kok_cons h2.1 h2.2
    (kok_cons (by omega) (by decide) (kok_cons h3.1 h3.2 (kok_cons h4.1 h4.2 z)))))))
def depC (P : Pr) (d rc tk am : Int) : Int := if ¬ (d = 1 ∨ d = 2) then 39 else if 64 ≤ rc then 5 else if 4 ≤ tk then 7 else if am = 0 then 8 else if 9223372036854775807 < am then 9 else sndP P.b1
def depB (d rc tk am : Int) : Prop := (d = 1 ∨ d = 2) ∧ rc < 64 ∧ tk < 4 ∧ am ≠ 0 ∧ am ≤ 9223372036854775807
open Classical in
noncomputable def depA (P : Pr) (d rc tk am : Int) : Msg := if depB d rc tk am then sndM P.b1 (depM d rc tk am) else msg0
open Classical in
noncomputable def depS (P : Pr) (d rc tk am : Int) : Pr := if depB d rc tk am then { P with b1 := sndB P.b1 (depM d rc tk am) } else P
attribute [-simp] Try.isAgg68 Try.sizeOf68 Try.typeInfo68
set_option linter.unusedSimpArgs false in
set_option maxRecDepth 100000 in
set_option maxHeartbeats 8000000 in
theorem deposit_a (w : World) (b : Nat) (d rc tk am : Int)  (hc : ¬ (d = 1 ∨ d = 2)) :
    Calls Try.prog 52 #[.pointer (some ⟨b, 0, none⟩), .int .u8 d, .int .u8 rc, .int .u8 tk, .int .u64 am] w fun e w' => e = .returned (.tuple #[.agg (msv msg0).toArray, .int .i64 39]) ∧ Below w.heap.size w w' := by
  obtain ⟨F, hF⟩ : ∃ F, msv msg0 = F := ⟨_, rfl⟩
  have HFl : Hid (F.length = 41) := by rw [← hF]; exact msv_len msg0_ok
  have HF1 : Hid (∀ u ∈ F, u.oneCell' = true) := by rw [← hF]; exact kvs_one _ _
  have HBU : Hid (Try.prog.built 68 [] = some F.toArray) := by rw [← hF]; exact built_m0
  suffices H : Calls Try.prog 52 #[.pointer (some ⟨b, 0, none⟩), .int .u8 d, .int .u8 rc, .int .u8 tk, .int .u64 am] w fun e w' => e = .returned (.tuple #[.agg F.toArray, .int .i64 39]) ∧ Below w.heap.size w w' by rw [hF]; exact H
  clear hF
  obtain ⟨rb, hrb, hrt⟩ : ∃ rb, decide (d = 1 ∨ d = 2) = rb ∧ rb = false := ⟨_, rfl, by simp only [decide_eq_false_iff_not]; exact hc⟩
  subst hrt
  have HRB := hide hrb
  clear hrb
  obtain ⟨i3, hi3, hz3⟩ := info_z Try.inz68
  go_enter Try.func52, Try.ntmps52
  refine wp_seq ?_
  refine wp_region_lit ?_
  refine wpL_alloc rfl 68 rfl i3 hi3 _ hz3 ?_
  rw [show (Value.agg (msv msg0).toArray).cells = (msv msg0).toArray from rfl]
  have HT := hide (newTz w (msv msg0).toArray 68)
  have HBE := hide (be1 w (.cells (msv msg0).toArray 68))
  rw [show (msv msg0).toArray.size = 41 by kernel_rfl] at HT
  obtain ⟨D, hD⟩ : ∃ D, w.heap.size = D := ⟨_, rfl⟩
  have HD := hide hD
  have HS1 : Hid ((w.alloc (.cells (msv msg0).toArray 68)).heap.size = D + 1) := by show _ = _; rw [← hD]; simp
  rw [hD] at HT ⊢
  generalize w.alloc (.cells (msv msg0).toArray 68) = w1 at *
  clear hD
  go_upto_region 2 with (go_at_call 78; refine (roll_any _ d).mono ?_; rintro e wq ⟨rfl, rfl⟩; rw [HRB.out]; simp only [])
  refine wp_region_lit ?_
  refine wpL_build rfl 68 [] rfl F.toArray (by exact HBU.out) ?_
  refine wpList_store_mid rfl 68 (.tmp 10) (.tmp 15) rfl D 0 F.toArray rfl rfl (by simpa [HFl.out] using HT.out) (by simpa [HFl.out] using Try.sz68) (all_oneCell_toArray HF1.out) ?_
  rw [show F.toArray.toList = F by simp]
  refine wpL_run rfl (.int .i64 39) _ rfl ?_
  have HRZ := hide (World.rangeAt_setCells_same wq D 0 F (by rw [HFl.out]; exact HT.out))
  have HBZ : Hid (Below w.heap.size w (wq.setCells D 0 F)) := HBE.out.trans ((Ex.sets (S := fun j => j = D) rfl F 0 wq (Ex.refl _ _)).below HBE.out.size (fun j hj e => by have := HD.out; omega))
  generalize wq.setCells D 0 F = wz at *
  go_wp2_with fail
  exact bodyPost_ret (v := .tuple #[.agg F.toArray, .int .i64 39]) (res_cell_tmp Try.results52 rfl rfl (run_loadVar_mid wz D 0 68 F _ HRZ.out Try.underlying68 rfl (by rw [HFl.out]; exact Try.sz68))) rfl ⟨rfl, by rw [← HD.out]; exact HBZ.out⟩
set_option linter.unusedSimpArgs false in
set_option maxRecDepth 100000 in
set_option maxHeartbeats 8000000 in
theorem deposit_b (w : World) (b : Nat) (d rc tk am : Int) (hr : d = 1 ∨ d = 2) (hc : 64 ≤ rc) :
    Calls Try.prog 52 #[.pointer (some ⟨b, 0, none⟩), .int .u8 d, .int .u8 rc, .int .u8 tk, .int .u64 am] w fun e w' => e = .returned (.tuple #[.agg (msv msg0).toArray, .int .i64 5]) ∧ Below w.heap.size w w' := by
  obtain ⟨F, hF⟩ : ∃ F, msv msg0 = F := ⟨_, rfl⟩
  have HFl : Hid (F.length = 41) := by rw [← hF]; exact msv_len msg0_ok
  have HF1 : Hid (∀ u ∈ F, u.oneCell' = true) := by rw [← hF]; exact kvs_one _ _
  have HBU : Hid (Try.prog.built 68 [] = some F.toArray) := by rw [← hF]; exact built_m0
  suffices H : Calls Try.prog 52 #[.pointer (some ⟨b, 0, none⟩), .int .u8 d, .int .u8 rc, .int .u8 tk, .int .u64 am] w fun e w' => e = .returned (.tuple #[.agg F.toArray, .int .i64 5]) ∧ Below w.heap.size w w' by rw [hF]; exact H
  clear hF
  obtain ⟨rb, hrb, hrt⟩ : ∃ rb, decide (d = 1 ∨ d = 2) = rb ∧ rb = true := ⟨_, rfl, by simp only [decide_eq_true_eq]; exact hr⟩
  subst hrt
  have HRB := hide hrb
  clear hrb
  have d2 : decide ((64 : Int) ≤ rc) = true := by simp; omega
  obtain ⟨i3, hi3, hz3⟩ := info_z Try.inz68
  go_enter Try.func52, Try.ntmps52
  refine wp_seq ?_
  refine wp_region_lit ?_
  refine wpL_alloc rfl 68 rfl i3 hi3 _ hz3 ?_
  rw [show (Value.agg (msv msg0).toArray).cells = (msv msg0).toArray from rfl]
  have HT := hide (newTz w (msv msg0).toArray 68)
  have HBE := hide (be1 w (.cells (msv msg0).toArray 68))
  rw [show (msv msg0).toArray.size = 41 by kernel_rfl] at HT
  obtain ⟨D, hD⟩ : ∃ D, w.heap.size = D := ⟨_, rfl⟩
  have HD := hide hD
  have HS1 : Hid ((w.alloc (.cells (msv msg0).toArray 68)).heap.size = D + 1) := by show _ = _; rw [← hD]; simp
  rw [hD] at HT ⊢
  generalize w.alloc (.cells (msv msg0).toArray 68) = w1 at *
  clear hD
  go_upto_region 4 with (go_at_call 78; refine (roll_any _ d).mono ?_; rintro e wq ⟨rfl, rfl⟩; rw [HRB.out]; simp only [])
  refine wp_region_lit ?_
  refine wpL_build rfl 68 [] rfl F.toArray (by exact HBU.out) ?_
  refine wpList_store_mid rfl 68 (.tmp 10) (.tmp 18) rfl D 0 F.toArray rfl rfl (by simpa [HFl.out] using HT.out) (by simpa [HFl.out] using Try.sz68) (all_oneCell_toArray HF1.out) ?_
  rw [show F.toArray.toList = F by simp]
  refine wpL_run rfl (.int .i64 5) _ rfl ?_
  have HRZ := hide (World.rangeAt_setCells_same wq D 0 F (by rw [HFl.out]; exact HT.out))
  have HBZ : Hid (Below w.heap.size w (wq.setCells D 0 F)) := HBE.out.trans ((Ex.sets (S := fun j => j = D) rfl F 0 wq (Ex.refl _ _)).below HBE.out.size (fun j hj e => by have := HD.out; omega))
  generalize wq.setCells D 0 F = wz at *
  go_wp2_with fail
  exact bodyPost_ret (v := .tuple #[.agg F.toArray, .int .i64 5]) (res_cell_tmp Try.results52 rfl rfl (run_loadVar_mid wz D 0 68 F _ HRZ.out Try.underlying68 rfl (by rw [HFl.out]; exact Try.sz68))) rfl ⟨rfl, by rw [← HD.out]; exact HBZ.out⟩
set_option linter.unusedSimpArgs false in
set_option maxRecDepth 100000 in
set_option maxHeartbeats 8000000 in
theorem deposit_c (w : World) (b : Nat) (d rc tk am : Int) (hr : d = 1 ∨ d = 2) (h2 : rc < 64) (hc : 4 ≤ tk) :
    Calls Try.prog 52 #[.pointer (some ⟨b, 0, none⟩), .int .u8 d, .int .u8 rc, .int .u8 tk, .int .u64 am] w fun e w' => e = .returned (.tuple #[.agg (msv msg0).toArray, .int .i64 7]) ∧ Below w.heap.size w w' := by
  obtain ⟨F, hF⟩ : ∃ F, msv msg0 = F := ⟨_, rfl⟩
  have HFl : Hid (F.length = 41) := by rw [← hF]; exact msv_len msg0_ok
  have HF1 : Hid (∀ u ∈ F, u.oneCell' = true) := by rw [← hF]; exact kvs_one _ _
  have HBU : Hid (Try.prog.built 68 [] = some F.toArray) := by rw [← hF]; exact built_m0
  suffices H : Calls Try.prog 52 #[.pointer (some ⟨b, 0, none⟩), .int .u8 d, .int .u8 rc, .int .u8 tk, .int .u64 am] w fun e w' => e = .returned (.tuple #[.agg F.toArray, .int .i64 7]) ∧ Below w.heap.size w w' by rw [hF]; exact H
  clear hF
  obtain ⟨rb, hrb, hrt⟩ : ∃ rb, decide (d = 1 ∨ d = 2) = rb ∧ rb = true := ⟨_, rfl, by simp only [decide_eq_true_eq]; exact hr⟩
  subst hrt
  have HRB := hide hrb
  clear hrb
  have d2 : decide ((64 : Int) ≤ rc) = false := by simp; omega
  have d3 : decide ((4 : Int) ≤ tk) = true := by simp; omega
  obtain ⟨i3, hi3, hz3⟩ := info_z Try.inz68
  go_enter Try.func52, Try.ntmps52
  refine wp_seq ?_
  refine wp_region_lit ?_
  refine wpL_alloc rfl 68 rfl i3 hi3 _ hz3 ?_
  rw [show (Value.agg (msv msg0).toArray).cells = (msv msg0).toArray from rfl]
  have HT := hide (newTz w (msv msg0).toArray 68)
  have HBE := hide (be1 w (.cells (msv msg0).toArray 68))
  rw [show (msv msg0).toArray.size = 41 by kernel_rfl] at HT
  obtain ⟨D, hD⟩ : ∃ D, w.heap.size = D := ⟨_, rfl⟩
  have HD := hide hD
  have HS1 : Hid ((w.alloc (.cells (msv msg0).toArray 68)).heap.size = D + 1) := by show _ = _; rw [← hD]; simp
  rw [hD] at HT ⊢
  generalize w.alloc (.cells (msv msg0).toArray 68) = w1 at *
  clear hD
  go_upto_region 6 with (go_at_call 78; refine (roll_any _ d).mono ?_; rintro e wq ⟨rfl, rfl⟩; rw [HRB.out]; simp only [])
  refine wp_region_lit ?_
  refine wpL_build rfl 68 [] rfl F.toArray (by exact HBU.out) ?_
  refine wpList_store_mid rfl 68 (.tmp 10) (.tmp 21) rfl D 0 F.toArray rfl rfl (by simpa [HFl.out] using HT.out) (by simpa [HFl.out] using Try.sz68) (all_oneCell_toArray HF1.out) ?_
  rw [show F.toArray.toList = F by simp]
  refine wpL_run rfl (.int .i64 7) _ rfl ?_
  have HRZ := hide (World.rangeAt_setCells_same wq D 0 F (by rw [HFl.out]; exact HT.out))
  have HBZ : Hid (Below w.heap.size w (wq.setCells D 0 F)) := HBE.out.trans ((Ex.sets (S := fun j => j = D) rfl F 0 wq (Ex.refl _ _)).below HBE.out.size (fun j hj e => by have := HD.out; omega))
  generalize wq.setCells D 0 F = wz at *
  go_wp2_with fail
  exact bodyPost_ret (v := .tuple #[.agg F.toArray, .int .i64 7]) (res_cell_tmp Try.results52 rfl rfl (run_loadVar_mid wz D 0 68 F _ HRZ.out Try.underlying68 rfl (by rw [HFl.out]; exact Try.sz68))) rfl ⟨rfl, by rw [← HD.out]; exact HBZ.out⟩
set_option linter.unusedSimpArgs false in
set_option maxRecDepth 100000 in
set_option maxHeartbeats 8000000 in
theorem deposit_d (w : World) (b : Nat) (d rc tk am : Int) (hr : d = 1 ∨ d = 2) (h2 : rc < 64) (h3 : tk < 4) (hc : am = 0) :
    Calls Try.prog 52 #[.pointer (some ⟨b, 0, none⟩), .int .u8 d, .int .u8 rc, .int .u8 tk, .int .u64 am] w fun e w' => e = .returned (.tuple #[.agg (msv msg0).toArray, .int .i64 8]) ∧ Below w.heap.size w w' := by
  obtain ⟨F, hF⟩ : ∃ F, msv msg0 = F := ⟨_, rfl⟩
  have HFl : Hid (F.length = 41) := by rw [← hF]; exact msv_len msg0_ok
  have HF1 : Hid (∀ u ∈ F, u.oneCell' = true) := by rw [← hF]; exact kvs_one _ _
  have HBU : Hid (Try.prog.built 68 [] = some F.toArray) := by rw [← hF]; exact built_m0
  suffices H : Calls Try.prog 52 #[.pointer (some ⟨b, 0, none⟩), .int .u8 d, .int .u8 rc, .int .u8 tk, .int .u64 am] w fun e w' => e = .returned (.tuple #[.agg F.toArray, .int .i64 8]) ∧ Below w.heap.size w w' by rw [hF]; exact H
  clear hF
  obtain ⟨rb, hrb, hrt⟩ : ∃ rb, decide (d = 1 ∨ d = 2) = rb ∧ rb = true := ⟨_, rfl, by simp only [decide_eq_true_eq]; exact hr⟩
  subst hrt
  have HRB := hide hrb
  clear hrb
  have d2 : decide ((64 : Int) ≤ rc) = false := by simp; omega
  have d3 : decide ((4 : Int) ≤ tk) = false := by simp; omega
  have d4 : (am == 0) = true := by simp [hc]
  obtain ⟨i3, hi3, hz3⟩ := info_z Try.inz68
  go_enter Try.func52, Try.ntmps52
  refine wp_seq ?_
  refine wp_region_lit ?_
  refine wpL_alloc rfl 68 rfl i3 hi3 _ hz3 ?_
  rw [show (Value.agg (msv msg0).toArray).cells = (msv msg0).toArray from rfl]
  have HT := hide (newTz w (msv msg0).toArray 68)
  have HBE := hide (be1 w (.cells (msv msg0).toArray 68))
  rw [show (msv msg0).toArray.size = 41 by kernel_rfl] at HT
  obtain ⟨D, hD⟩ : ∃ D, w.heap.size = D := ⟨_, rfl⟩
  have HD := hide hD
  have HS1 : Hid ((w.alloc (.cells (msv msg0).toArray 68)).heap.size = D + 1) := by show _ = _; rw [← hD]; simp
  rw [hD] at HT ⊢
  generalize w.alloc (.cells (msv msg0).toArray 68) = w1 at *
  clear hD
  go_upto_region 8 with (go_at_call 78; refine (roll_any _ d).mono ?_; rintro e wq ⟨rfl, rfl⟩; rw [HRB.out]; simp only [])
  refine wp_region_lit ?_
  refine wpL_build rfl 68 [] rfl F.toArray (by exact HBU.out) ?_
  refine wpList_store_mid rfl 68 (.tmp 10) (.tmp 24) rfl D 0 F.toArray rfl rfl (by simpa [HFl.out] using HT.out) (by simpa [HFl.out] using Try.sz68) (all_oneCell_toArray HF1.out) ?_
  rw [show F.toArray.toList = F by simp]
  refine wpL_run rfl (.int .i64 8) _ rfl ?_
  have HRZ := hide (World.rangeAt_setCells_same wq D 0 F (by rw [HFl.out]; exact HT.out))
  have HBZ : Hid (Below w.heap.size w (wq.setCells D 0 F)) := HBE.out.trans ((Ex.sets (S := fun j => j = D) rfl F 0 wq (Ex.refl _ _)).below HBE.out.size (fun j hj e => by have := HD.out; omega))
  generalize wq.setCells D 0 F = wz at *
  go_wp2_with fail
  exact bodyPost_ret (v := .tuple #[.agg F.toArray, .int .i64 8]) (res_cell_tmp Try.results52 rfl rfl (run_loadVar_mid wz D 0 68 F _ HRZ.out Try.underlying68 rfl (by rw [HFl.out]; exact Try.sz68))) rfl ⟨rfl, by rw [← HD.out]; exact HBZ.out⟩
set_option linter.unusedSimpArgs false in
set_option maxRecDepth 100000 in
set_option maxHeartbeats 8000000 in
theorem deposit_e (w : World) (b : Nat) (d rc tk am : Int) (hr : d = 1 ∨ d = 2) (h2 : rc < 64) (h3 : tk < 4) (h4 : am ≠ 0) (hc : 9223372036854775807 < am) :
    Calls Try.prog 52 #[.pointer (some ⟨b, 0, none⟩), .int .u8 d, .int .u8 rc, .int .u8 tk, .int .u64 am] w fun e w' => e = .returned (.tuple #[.agg (msv msg0).toArray, .int .i64 9]) ∧ Below w.heap.size w w' := by
  obtain ⟨F, hF⟩ : ∃ F, msv msg0 = F := ⟨_, rfl⟩
  have HFl : Hid (F.length = 41) := by rw [← hF]; exact msv_len msg0_ok
  have HF1 : Hid (∀ u ∈ F, u.oneCell' = true) := by rw [← hF]; exact kvs_one _ _
  have HBU : Hid (Try.prog.built 68 [] = some F.toArray) := by rw [← hF]; exact built_m0
  suffices H : Calls Try.prog 52 #[.pointer (some ⟨b, 0, none⟩), .int .u8 d, .int .u8 rc, .int .u8 tk, .int .u64 am] w fun e w' => e = .returned (.tuple #[.agg F.toArray, .int .i64 9]) ∧ Below w.heap.size w w' by rw [hF]; exact H
  clear hF
  obtain ⟨rb, hrb, hrt⟩ : ∃ rb, decide (d = 1 ∨ d = 2) = rb ∧ rb = true := ⟨_, rfl, by simp only [decide_eq_true_eq]; exact hr⟩
  subst hrt
  have HRB := hide hrb
  clear hrb
  have d2 : decide ((64 : Int) ≤ rc) = false := by simp; omega
  have d3 : decide ((4 : Int) ≤ tk) = false := by simp; omega
  have d4 : (am == 0) = false := by simp [h4]
  have d5 : decide ((9223372036854775807 : Int) < am) = true := by simp; omega
  obtain ⟨i3, hi3, hz3⟩ := info_z Try.inz68
  go_enter Try.func52, Try.ntmps52
  refine wp_seq ?_
  refine wp_region_lit ?_
  refine wpL_alloc rfl 68 rfl i3 hi3 _ hz3 ?_
  rw [show (Value.agg (msv msg0).toArray).cells = (msv msg0).toArray from rfl]
  have HT := hide (newTz w (msv msg0).toArray 68)
  have HBE := hide (be1 w (.cells (msv msg0).toArray 68))
  rw [show (msv msg0).toArray.size = 41 by kernel_rfl] at HT
  obtain ⟨D, hD⟩ : ∃ D, w.heap.size = D := ⟨_, rfl⟩
  have HD := hide hD
  have HS1 : Hid ((w.alloc (.cells (msv msg0).toArray 68)).heap.size = D + 1) := by show _ = _; rw [← hD]; simp
  rw [hD] at HT ⊢
  generalize w.alloc (.cells (msv msg0).toArray 68) = w1 at *
  clear hD
  go_upto_region 10 with (go_at_call 78; refine (roll_any _ d).mono ?_; rintro e wq ⟨rfl, rfl⟩; rw [HRB.out]; simp only [])
  refine wp_region_lit ?_
  refine wpL_build rfl 68 [] rfl F.toArray (by exact HBU.out) ?_
  refine wpList_store_mid rfl 68 (.tmp 10) (.tmp 27) rfl D 0 F.toArray rfl rfl (by simpa [HFl.out] using HT.out) (by simpa [HFl.out] using Try.sz68) (all_oneCell_toArray HF1.out) ?_
  rw [show F.toArray.toList = F by simp]
  refine wpL_run rfl (.int .i64 9) _ rfl ?_
  have HRZ := hide (World.rangeAt_setCells_same wq D 0 F (by rw [HFl.out]; exact HT.out))
  have HBZ : Hid (Below w.heap.size w (wq.setCells D 0 F)) := HBE.out.trans ((Ex.sets (S := fun j => j = D) rfl F 0 wq (Ex.refl _ _)).below HBE.out.size (fun j hj e => by have := HD.out; omega))
  generalize wq.setCells D 0 F = wz at *
  go_wp2_with fail
  exact bodyPost_ret (v := .tuple #[.agg F.toArray, .int .i64 9]) (res_cell_tmp Try.results52 rfl rfl (run_loadVar_mid wz D 0 68 F _ HRZ.out Try.underlying68 rfl (by rw [HFl.out]; exact Try.sz68))) rfl ⟨rfl, by rw [← HD.out]; exact HBZ.out⟩
set_option linter.unusedSimpArgs false in
set_option maxRecDepth 100000 in
set_option maxHeartbeats 8000000 in
theorem deposit_ok (w : World) (b : Nat) (P : Pr) (S : List Nat) (h : PP w b P S) (hl : P.b1.out.length ≤ 900000000000) (d rc tk am : Int) (h1 : 0 ≤ d ∧ d < 256) (hb2 : 0 ≤ rc ∧ rc < 256) (hb3 : 0 ≤ tk ∧ tk < 256) (hb4 : 0 ≤ am ∧ am < m64) (hr : d = 1 ∨ d = 2) (h2 : rc < 64) (h3 : tk < 4) (h4 : am ≠ 0) (h5 : am ≤ 9223372036854775807) :
    Calls Try.prog 52 #[.pointer (some ⟨b, 0, none⟩), .int .u8 d, .int .u8 rc, .int .u8 tk, .int .u64 am] w fun e w' => e = .returned (.tuple #[.agg (msv (sndM P.b1 (depM d rc tk am))).toArray, .int .i64 (sndP P.b1)]) ∧ PStep w b S { P with b1 := sndB P.b1 (depM d rc tk am) } w' := by
  have HMO := hide (depM_ok h1 hb2 hb3 hb4)
  have HP := hide h
  have HLn := hide hl
  have HLit := hide (lit_dep d rc tk am)
  obtain ⟨m, hm⟩ : ∃ m, depM d rc tk am = m := ⟨_, rfl⟩
  rw [hm] at HMO HLit ⊢
  clear hm h hl
  obtain ⟨F, hF⟩ : ∃ F, msv (sndM P.b1 m) = F := ⟨_, rfl⟩
  have HF := hide hF
  have HFl : Hid (F.length = 41) := by
    rw [← hF]
    refine msv_len ?_
    unfold sndM
    split
    · exact msg0_ok
    · exact stamp_ok HMO.out (by have := HLn.out; omega)
  have HF1 : Hid (∀ u ∈ F, u.oneCell' = true) := by rw [← hF]; exact kvs_one _ _
  rw [hF]
  clear hF
  obtain ⟨cd, hcd⟩ : ∃ cd, sndP P.b1 = cd := ⟨_, rfl⟩
  have HCD := hide hcd
  rw [hcd]
  clear hcd
  obtain ⟨M, hM⟩ : ∃ M, msv m = M := ⟨_, rfl⟩
  have HM := hide hM
  rw [hM] at HLit
  clear hM
  obtain ⟨rb, hrb, hrt⟩ : ∃ rb, decide (d = 1 ∨ d = 2) = rb ∧ rb = true := ⟨_, rfl, by simp only [decide_eq_true_eq]; exact hr⟩
  subst hrt
  have HRB := hide hrb
  clear hrb
  have d2 : decide ((64 : Int) ≤ rc) = false := by simp; omega
  have d3 : decide ((4 : Int) ≤ tk) = false := by simp; omega
  have d4 : (am == 0) = false := by simp [h4]
  have d5 : decide ((9223372036854775807 : Int) < am) = false := by simp; omega
  obtain ⟨i3, hi3, hz3⟩ := info_z Try.inz68
  go_enter Try.func52, Try.ntmps52
  refine wp_seq ?_
  refine wp_region_lit ?_
  refine wpL_alloc rfl 68 rfl i3 hi3 _ hz3 ?_
  rw [show (Value.agg (msv msg0).toArray).cells = (msv msg0).toArray from rfl]
  have HT := hide (newTz w (msv msg0).toArray 68)
  have HBE := hide (be1 w (.cells (msv msg0).toArray 68))
  rw [show (msv msg0).toArray.size = 41 by kernel_rfl] at HT
  obtain ⟨D, hD⟩ : ∃ D, w.heap.size = D := ⟨_, rfl⟩
  have HD := hide hD
  have HS1 : Hid ((w.alloc (.cells (msv msg0).toArray 68)).heap.size = D + 1) := by show _ = _; rw [← hD]; simp
  rw [hD] at HT ⊢
  generalize w.alloc (.cells (msv msg0).toArray 68) = w1 at *
  clear hD
  have HP1 := hide (HP.out.below HBE.out)
  obtain ⟨B, hba, hst⟩ := HP1.out.onE
  have HBA := hide hba
  have HST := hide hst
  clear hba hst
  go_upto_region 11 with (go_at_call 78; refine (roll_any _ d).mono ?_; rintro e wq ⟨rfl, rfl⟩; rw [HRB.out]; simp only [])
  go_wp2_with fail
  rw [HLit.out]
  have HSA : Hid (Calls Try.prog 62 #[.pointer (some ⟨b, 662, none⟩), .agg M.toArray] wq (BStep wq b 662 B (.tuple #[.agg F.toArray, .int .i64 cd]) (sndB P.b1 m) P.t1)) := by
    have := send_all wq b 662 P.b1 P.t1 B m HBA.out HMO.out HLn.out
    rw [HM.out, HF.out, HCD.out] at this
    exact this
  refine HSA.out.mono ?_
  intro e v5 hbs
  obtain ⟨he, hps⟩ := HST.out _ _ _ _ _ hbs
  subst he
  obtain ⟨S5, hk5, hp5⟩ := hps.out
  have HK5 := hide hk5
  have HP5 := hide hp5
  clear hbs hps hk5 hp5 HSA
  go_wp2_with fail
  have HN : Hid (D < wq.heap.size ∧ D ≠ b ∧ D ∉ S ∧ D ∉ S5) := by
    have h1 := HS1.out
    have h2 := HD.out
    have h3 := HP.out.bl
    refine ⟨by omega, by omega, fun e => by have := HP.out.lt e; omega, fun e => ?_⟩
    rcases HK5.out.2 _ e with z | z
    · have := HP.out.lt z; omega
    · omega
  have HT6 : Hid (v5.there D 0 41) := there_ex HT.out HN.out.1 HK5.out.1 (fun e => e.elim HN.out.2.1 HN.out.2.2.1)
  simp only [Try.sizeOf68, Result.andThen, HFl.out, ↓reduceIte, stC v5 D 0 F (by rw [HFl.out]; exact HT6.out) HF1.out]
  rw [Oper.upon_skip]
  have HRZ := hide (World.rangeAt_setCells_same v5 D 0 F (by rw [HFl.out]; exact HT6.out))
  have HEX : Hid (Ex (fun j => j = D) v5 (v5.setCells D 0 F)) := Ex.sets (S := fun j => j = D) rfl F 0 v5 (Ex.refl _ _)
  generalize v5.setCells D 0 F = wz at *
  have HKZ : Hid (PStep w b S { P with b1 := sndB P.b1 m } wz) := by
    have k := (((Link.refl w b S).below HBE.out).trans HK5.out).loc HEX.out (by have := HD.out; omega)
    exact ⟨k.1, S5, HP5.out.ex HEX.out (fun e => HN.out.2.1 e.symm) (fun k hk e => HN.out.2.2.2 (e ▸ hk)), k.2⟩
  clear HT6 HK5 HP5 HN HEX
  go_wp2_with fail
  exact bodyPost_ret (v := .tuple #[.agg F.toArray, .int .i64 cd]) (res_cell_tmp Try.results52 rfl rfl (run_loadVar_mid wz D 0 68 F _ HRZ.out Try.underlying68 rfl (by rw [HFl.out]; exact Try.sz68))) rfl ⟨rfl, HKZ.out⟩
/-- Pair.Deposit -/
theorem deposit_any (w : World) (b : Nat) (P : Pr) (S : List Nat) (h : PP w b P S) (hl : P.b1.out.length ≤ 900000000000) (d rc tk am : Int) (h1 : 0 ≤ d ∧ d < 256) (hb2 : 0 ≤ rc ∧ rc < 256) (hb3 : 0 ≤ tk ∧ tk < 256) (hb4 : 0 ≤ am ∧ am < m64) :
    Calls Try.prog 52 #[.pointer (some ⟨b, 0, none⟩), .int .u8 d, .int .u8 rc, .int .u8 tk, .int .u64 am] w fun e w' => e = .returned (.tuple #[.agg (msv (depA P d rc tk am)).toArray, .int .i64 (depC P d rc tk am)]) ∧ PStep w b S (depS P d rc tk am) w' := by
  have fin : ∀ c : Int, ¬ depB d rc tk am → depC P d rc tk am = c → Calls Try.prog 52 #[.pointer (some ⟨b, 0, none⟩), .int .u8 d, .int .u8 rc, .int .u8 tk, .int .u64 am] w (fun e w' => e = .returned (.tuple #[.agg (msv msg0).toArray, .int .i64 c]) ∧ Below w.heap.size w w') → Calls Try.prog 52 #[.pointer (some ⟨b, 0, none⟩), .int .u8 d, .int .u8 rc, .int .u8 tk, .int .u64 am] w fun e w' => e = .returned (.tuple #[.agg (msv (depA P d rc tk am)).toArray, .int .i64 (depC P d rc tk am)]) ∧ PStep w b S (depS P d rc tk am) w' := fun c hn hc hh => by
    refine hh.mono ?_
    rintro e w' ⟨he, hb⟩
    unfold depA depS
    rw [if_neg hn, if_neg hn, hc]
    exact ⟨he, PStep.of h hb⟩
  by_cases c1 : d = 1 ∨ d = 2
  · by_cases c2 : 64 ≤ rc
    · exact fin 5 (fun z => by have := z.2.1; omega) (by unfold depC; rw [if_neg (by simp [c1]), if_pos c2]) (deposit_b w b d rc tk am c1 c2)
    · by_cases c3 : 4 ≤ tk
      · exact fin 7 (fun z => by have := z.2.2.1; omega) (by unfold depC; rw [if_neg (by simp [c1]), if_neg c2, if_pos c3]) (deposit_c w b d rc tk am c1 (by omega) c3)
      · by_cases c4 : am = 0
        · exact fin 8 (fun z => z.2.2.2.1 c4) (by unfold depC; rw [if_neg (by simp [c1]), if_neg c2, if_neg c3, if_pos c4]) (deposit_d w b d rc tk am c1 (by omega) (by omega) c4)
        · by_cases c5 : 9223372036854775807 < am
          · exact fin 9 (fun z => by have := z.2.2.2.2; omega) (by unfold depC; rw [if_neg (by simp [c1]), if_neg c2, if_neg c3, if_neg c4, if_pos c5]) (deposit_e w b d rc tk am c1 (by omega) (by omega) c4 c5)
          · have hB : depB d rc tk am := ⟨c1, by omega, by omega, c4, by omega⟩
            have hC : depC P d rc tk am = sndP P.b1 := by unfold depC; rw [if_neg (by simp [c1]), if_neg c2, if_neg c3, if_neg c4, if_neg c5]
            unfold depA depS
            rw [if_pos hB, if_pos hB, hC]
            exact deposit_ok w b P S h hl d rc tk am h1 hb2 hb3 hb4 c1 (by omega) (by omega) c4 (by omega)
  · exact fin 39 (fun z => c1 z.1) (by unfold depC; rw [if_pos c1]) (deposit_a w b d rc tk am c1)
end Go.Proofs.Qxb6500784a
