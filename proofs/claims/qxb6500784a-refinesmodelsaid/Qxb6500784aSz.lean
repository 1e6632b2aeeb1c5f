import Derived.Test.Qxb6500784aRq
namespace Go.Proofs.Qxb6500784a
open Go.RowKit

theorem Rs.atA {r : Rs} (h : r.Ok) {w : World} {b : Nat} {vo vr vs : Value} (hr : w.rangeAt b 0 (r.vals vo vr vs)) : w.rangeAt b 6 (u8s r.ra) ∧ w.rangeAt b 38 (u8s r.rb) := by
  refine ⟨fun j v hv => ?_, fun j v hv => ?_⟩
  · have := hr (6 + j) v (by
      show (Value.int .i64 r.code :: .int .i64 r.failed :: vo :: vr :: vs :: .int .u64 r.gas :: (u8s r.ra ++ u8s r.rb))[6 + j]? = _
      rw [Nat.add_comm 6 j]
      simp only [List.getElem?_cons_succ]
      rw [List.getElem?_append_left (List.getElem?_eq_some_iff.1 hv).1]; exact hv)
    rwa [Nat.zero_add] at this
  · have := hr (38 + j) v (by
      show (Value.int .i64 r.code :: .int .i64 r.failed :: vo :: vr :: vs :: .int .u64 r.gas :: (u8s r.ra ++ u8s r.rb))[38 + j]? = _
      rw [show 38 + j = (32 + j) + 6 by omega]
      simp only [List.getElem?_cons_succ]
      rw [List.getElem?_append_right (by simp [u8s, h.al])]
      simp only [u8s, List.length_map, h.al, Nat.add_sub_cancel_left]
      exact hv)
    rwa [Nat.zero_add] at this
attribute [-simp] Try.isAgg63 Try.sizeOf63 Try.typeInfo63 Try.isAgg68 Try.sizeOf68 Try.typeInfo68 Try.isAgg89 Try.sizeOf89 Try.typeInfo89
attribute [local irreducible] rootP shaP
set_option linter.unusedSimpArgs false in
set_option maxRecDepth 100000 in
set_option maxHeartbeats 8000000 in
/-- sameResult of results that show the same -/
theorem sameR_any (w : World) (r q : Rs) (vo vr vs uo ur us : Value) (C D : List Nat) (h1 : RL w r vo vr vs C) (h2 : RL w q uo ur us D) (he : RsE r q) (ho : r.Ok) :
    Calls Try.prog 35 #[.agg (r.vals vo vr vs).toArray, .agg (q.vals uo ur us).toArray] w fun e w' => e = .returned (.bool true) ∧ Below w.heap.size w w' := by
  have hq : q.vals uo ur us = r.vals uo ur us := by simp only [Rs.vals, he.c, he.f, he.g, he.a, he.b]
  rw [hq]
  have r1 := h1.o
  have r2 := h2.o
  have r3 := h1.q
  have r4 := h2.q
  have r5 := h1.s
  have r6 := h2.s
  rw [he.o] at r2
  rw [he.x] at r4
  rw [he.s] at r6
  clear h1 h2 hq he
  have hl3 := own_le r3
  have hl5 := own_le r5
  obtain ⟨oa, pa2, rfl⟩ := own_form r1
  obtain ⟨ob, pb2, rfl⟩ := own_form r2
  obtain ⟨ra, pa3, rfl⟩ := own_form r3
  obtain ⟨rb, pb3, rfl⟩ := own_form r4
  obtain ⟨sa, pa4, rfl⟩ := own_form r5
  obtain ⟨sb, pb4, rfl⟩ := own_form r6
  obtain ⟨F, hF⟩ : ∃ F, r.vals (.slice oa r.ord.length pa2) (.slice ra r.rcs.length pa3) (.slice sa r.stm.length pa4) = F := ⟨_, rfl⟩
  obtain ⟨G, hG⟩ : ∃ G, r.vals (.slice ob r.ord.length pb2) (.slice rb r.rcs.length pb3) (.slice sb r.stm.length pb4) = G := ⟨_, rfl⟩
  rw [hF, hG]
  go_enter Try.func35, Try.ntmps35
  go_upto_region 1 with fail
  have HBW := hide (be2 w (.cells F.toArray 65) (.cells G.toArray 65))
  have HRF := hide (World.rangeAt_alloc (newR w F 65) (.cells G.toArray 65))
  have HRG := hide (newR (w.alloc (.cells F.toArray 65)) G 65)
  obtain ⟨A, hA⟩ : ∃ A, w.heap.size = A := ⟨_, rfl⟩
  rw [show (w.alloc (.cells F.toArray 65)).heap.size = A + 1 by simp [hA]] at HRG
  rw [hA] at HRF ⊢
  have HM2 := hide (own_kept r1 (Ex.of (S := fun _ => False) HBW.out) (fun _ _ e => e))
  have HN2 := hide (own_kept r2 (Ex.of (S := fun _ => False) HBW.out) (fun _ _ e => e))
  have HM3 := hide (own_kept r3 (Ex.of (S := fun _ => False) HBW.out) (fun _ _ e => e))
  have HN3 := hide (own_kept r4 (Ex.of (S := fun _ => False) HBW.out) (fun _ _ e => e))
  have HM4 := hide (own_kept r5 (Ex.of (S := fun _ => False) HBW.out) (fun _ _ e => e))
  have HN4 := hide (own_kept r6 (Ex.of (S := fun _ => False) HBW.out) (fun _ _ e => e))
  clear r1 r2 r3 r4 r5 r6
  generalize (w.alloc (.cells F.toArray 65)).alloc (.cells G.toArray 65) = x3 at *
  rw [← hF] at HRF
  rw [← hG] at HRG
  clear hF hG hA
  have c0 : x3.cell? ⟨A, 0, none⟩ = some (.int .i64 r.code) := by have := HRF.out 0 _ rfl; rwa [Nat.zero_add] at this
  have c1 : x3.cell? ⟨A, 1, none⟩ = some (.int .i64 r.failed) := by have := HRF.out 1 _ rfl; rwa [Nat.zero_add] at this
  have c2 : x3.cell? ⟨A, 2, none⟩ = some (.slice oa r.ord.length pa2) := by have := HRF.out 2 _ rfl; rwa [Nat.zero_add] at this
  have c3 : x3.cell? ⟨A, 3, none⟩ = some (.slice ra r.rcs.length pa3) := by have := HRF.out 3 _ rfl; rwa [Nat.zero_add] at this
  have c4 : x3.cell? ⟨A, 4, none⟩ = some (.slice sa r.stm.length pa4) := by have := HRF.out 4 _ rfl; rwa [Nat.zero_add] at this
  have c5 : x3.cell? ⟨A, 5, none⟩ = some (.int .u64 r.gas) := by have := HRF.out 5 _ rfl; rwa [Nat.zero_add] at this
  have d0 : x3.cell? ⟨A + 1, 0, none⟩ = some (.int .i64 r.code) := by have := HRG.out 0 _ rfl; rwa [Nat.zero_add] at this
  have d1 : x3.cell? ⟨A + 1, 1, none⟩ = some (.int .i64 r.failed) := by have := HRG.out 1 _ rfl; rwa [Nat.zero_add] at this
  have d2 : x3.cell? ⟨A + 1, 2, none⟩ = some (.slice ob r.ord.length pb2) := by have := HRG.out 2 _ rfl; rwa [Nat.zero_add] at this
  have d3 : x3.cell? ⟨A + 1, 3, none⟩ = some (.slice rb r.rcs.length pb3) := by have := HRG.out 3 _ rfl; rwa [Nat.zero_add] at this
  have d4 : x3.cell? ⟨A + 1, 4, none⟩ = some (.slice sb r.stm.length pb4) := by have := HRG.out 4 _ rfl; rwa [Nat.zero_add] at this
  have d5 : x3.cell? ⟨A + 1, 5, none⟩ = some (.int .u64 r.gas) := by have := HRG.out 5 _ rfl; rwa [Nat.zero_add] at this
  have HFA := hide (Rs.atA ho HRF.out).1
  have HFB := hide (Rs.atA ho HRF.out).2
  have HGA := hide (Rs.atA ho HRG.out).1
  have HGB := hide (Rs.atA ho HRG.out).2
  have HLA : Hid ((u8s r.ra).length = 32) := by simp [Hid, u8s, ho.al]
  have HLB : Hid ((u8s r.rb).length = 32) := by simp [Hid, u8s, ho.bl]
  have he1 : ∀ w, (Op.equalIn 10000 63 (.agg (u8s r.ra).toArray) (.agg (u8s r.ra).toArray)).run Try.prog w = .ok true w := fun w => eq63 9998 ho.al
  have he2 : ∀ w, (Op.equalIn 10000 63 (.agg (u8s r.rb).toArray) (.agg (u8s r.rb).toArray)).run Try.prog w = .ok true w := fun w => eq63 9998 ho.bl
  have HOK := hide ho
  clear ho HRF HRG
  generalize u8s r.ra = Ra at *
  generalize u8s r.rb = Rb at *
  go_wp2_with fail
  simp only [Try.sizeOf63, Result.andThen, show ((32 : Nat) = 0) = False from by simp, ↓reduceIte]
  rw [Oper.upon_value]
  go_wp2_with fail
  simp only [Try.isAgg63, Try.sizeOf63, Result.andThen, ↓reduceIte, ldC x3 A 6 Ra 32 HLA.out HFA.out]
  rw [Oper.upon_value]
  go_wp2_with fail
  simp only [Try.sizeOf63, Result.andThen, show ((32 : Nat) = 0) = False from by simp, ↓reduceIte]
  rw [Oper.upon_value]
  go_wp2_with fail
  simp only [Try.isAgg63, Try.sizeOf63, Result.andThen, ↓reduceIte, ldC x3 (A + 1) 6 Ra 32 HLA.out HGA.out]
  rw [Oper.upon_value]
  go_wp2_with fail
  simp only [Try.sizeOf63, Result.andThen, show ((32 : Nat) = 0) = False from by simp, ↓reduceIte]
  rw [Oper.upon_value]
  go_wp2_with fail
  simp only [Try.isAgg63, Try.sizeOf63, Result.andThen, ↓reduceIte, ldC x3 A 38 Rb 32 HLB.out HFB.out]
  rw [Oper.upon_value]
  go_wp2_with fail
  simp only [Try.sizeOf63, Result.andThen, show ((32 : Nat) = 0) = False from by simp, ↓reduceIte]
  rw [Oper.upon_value]
  go_wp2_with fail
  simp only [Try.isAgg63, Try.sizeOf63, Result.andThen, ↓reduceIte, ldC x3 (A + 1) 38 Rb 32 HLB.out HGB.out]
  rw [Oper.upon_value]
  go_upto_region 3 with fail
  clear he1 he2 HFA HFB HGA HGB HLA HLB c0 c1 c5 d0 d1 d5
  go_upto_region 5 with (go_at_call 17; refine (sameI_any x3 _ _ r.ord HM2.out HN2.out).mono ?_; rintro e y ⟨rfl, hby⟩; have HY := hide hby; clear hby; have c3' := cellKeep HY.out c3; have c4' := cellKeep HY.out c4; have d3' := cellKeep HY.out d3; have d4' := cellKeep HY.out d4; simp only [])
  have HC0 := hide HY.out
  clear c3' c4' d3' d4' c2 d2 HY
  have k1 := cellKeep HC0.out c3
  go_upto_block 0 with fail
  go_cut [4] (fun _ wx => Below x3.heap.size x3 wx)
  case first =>
    go_wp2
    go_loopw [67] (fun s wr => ∃ i : Nat, i ≤ r.rcs.length ∧ s = .int .i64 i ∧ Below x3.heap.size x3 wr) (fun s _ => r.rcs.length - (intOf s).toNat)
    case atStart => exact ⟨0, Nat.zero_le _, rfl, HC0.out⟩
    case round =>
      clear k1
      obtain ⟨i, hi, rfl, hb⟩ := hrel
      have HB := hide hb
      clear hb
      by_cases hlt : i < r.rcs.length
      · have e1 : decide ((i : Int) < (r.rcs.length : Int)) = true := by simp; omega
        have hii : (i : Int) < (r.rcs.length : Int) := by omega
        obtain ⟨m, hp⟩ : ∃ p, r.rcs[i]? = some p := ⟨_, List.getElem?_eq_getElem hlt⟩
        obtain ⟨g1, _, hg1⟩ := own_some HM3.out (by omega)
        obtain ⟨g2, _, hg2⟩ := own_some HN3.out (by omega)
        cases hg1
        cases hg2
        have hmo := HOK.out.rc m (List.mem_of_getElem? hp)
        have q1 := range_flat (k := 87) (fun y hy => Rcp.len (HOK.out.rc y hy)) (own_range HM3.out) hp
        have q2 := range_flat (k := 87) (fun y hy => Rcp.len (HOK.out.rc y hy)) (own_range HN3.out) hp
        have HVm : Hid ((Rcp.vals m).length = 87) := Rcp.len hmo
        have heT : ∀ w, (Op.equalIn 10000 89 (.agg (Rcp.vals m).toArray) (.agg (Rcp.vals m).toArray)).run Try.prog w = .ok true w := fun w => eq89 w hmo 9994
        have l1 : g1 < x3.heap.size := (HM3.out.lt g1 rfl).2
        have l2 : g2 < x3.heap.size := (HN3.out.lt g2 rfl).2
        have HS : Hid (wr.drew.cell? ⟨A, 3, none⟩ = some (.slice (some ⟨g1, 0, none⟩) r.rcs.length pa3) ∧ wr.drew.cell? ⟨A + 1, 3, none⟩ = some (.slice (some ⟨g2, 0, none⟩) r.rcs.length pb3) ∧ wr.drew.rangeAt g1 (i * 87) (Rcp.vals m) ∧ wr.drew.rangeAt g2 (i * 87) (Rcp.vals m)) :=
          ⟨cellKeep HB.out.drew c3, cellKeep HB.out.drew d3, range_below q1 l1 HB.out.drew, range_below q2 l2 HB.out.drew⟩
        clear q1 q2 l1 l2 hp hmo
        generalize Rcp.vals m = Vm at *
        have hzT := Try.sizeOf89
        go_upto_region 8 with fail
        refine wp_region_held_drew (S := fun w' => w'.cell? ⟨A, 3, none⟩ = some (.slice (some ⟨g1, 0, none⟩) r.rcs.length pa3) ∧ w'.cell? ⟨A + 1, 3, none⟩ = some (.slice (some ⟨g2, 0, none⟩) r.rcs.length pb3) ∧ w'.rangeAt g1 (i * 87) Vm ∧ w'.rangeAt g2 (i * 87) Vm) (by kernel_rfl) HS.out (fun hHeld => ?_)
        refine wpAnyH_take (i := 0) (v := ?_) rfl (by kernel_rfl) (by kernel_rfl) (by kernel_rfl) (fun _ _ _ h => h) (Or.inl ⟨by rfl, ?_⟩) (by assumption) ?_
        rotate_left
        · (intro w hSw; (try dsimp only at hSw); go_simp; try (with_reducible rfl))
        try simp only [Act.put, List.getElem_toArray, List.getElem_cons_zero, List.getElem_cons_succ, List.setIfInBounds_toArray, List.set_cons_zero, List.set_cons_succ]
        refine wpAnyH_take (i := 1) (v := ?_) rfl (by kernel_rfl) (by kernel_rfl) (by kernel_rfl) (fun _ _ _ h => h) (Or.inl ⟨by rfl, ?_⟩) (by assumption) ?_
        rotate_left
        · (intro w hSw; (try dsimp only at hSw); go_simp; try (with_reducible rfl))
        try simp only [Act.put, List.getElem_toArray, List.getElem_cons_zero, List.getElem_cons_succ, List.setIfInBounds_toArray, List.set_cons_zero, List.set_cons_succ]
        refine wpAnyH_take (i := 2) (v := ?_) rfl (by kernel_rfl) (by kernel_rfl) (by kernel_rfl) (fun _ _ _ h => h) (Or.inl ⟨by rfl, ?_⟩) (by assumption) ?_
        rotate_left
        · (intro w hSw; (try dsimp only at hSw); go_simp; try (with_reducible rfl))
        try simp only [Act.put, List.getElem_toArray, List.getElem_cons_zero, List.getElem_cons_succ, List.setIfInBounds_toArray, List.set_cons_zero, List.set_cons_succ]
        refine wpAnyH_take (i := 3) (v := ?_) rfl (by kernel_rfl) (by kernel_rfl) (by kernel_rfl) (fun _ _ _ h => h) (Or.inl ⟨by rfl, ?_⟩) (by assumption) ?_
        rotate_left
        · (intro w hSw; (try dsimp only at hSw); go_simp; try (with_reducible rfl))
        try simp only [Act.put, List.getElem_toArray, List.getElem_cons_zero, List.getElem_cons_succ, List.setIfInBounds_toArray, List.set_cons_zero, List.set_cons_succ]
        refine wpAnyH_take (i := 4) rfl (by kernel_rfl) (by kernel_rfl) (by kernel_rfl) (fun _ _ _ h => h) (yieldsIf_load_mid (by rfl) 89 (.tmp 73) rfl g1 (i * 87) rfl Vm _ (fun w h => h.2.2.1) Try.underlying89 rfl (by rw [HVm.out]; exact Try.sz89)) (by assumption) ?_
        try simp only [Act.put, List.getElem_toArray, List.getElem_cons_zero, List.getElem_cons_succ, List.setIfInBounds_toArray, List.set_cons_zero, List.set_cons_succ]
        refine wpAnyH_take (i := 5) (v := ?_) rfl (by kernel_rfl) (by kernel_rfl) (by kernel_rfl) (fun _ _ _ h => h) (Or.inl ⟨by rfl, ?_⟩) (by assumption) ?_
        rotate_left
        · (intro w hSw; (try dsimp only at hSw); go_simp; try (with_reducible rfl))
        try simp only [Act.put, List.getElem_toArray, List.getElem_cons_zero, List.getElem_cons_succ, List.setIfInBounds_toArray, List.set_cons_zero, List.set_cons_succ]
        refine wpAnyH_take (i := 6) (v := ?_) rfl (by kernel_rfl) (by kernel_rfl) (by kernel_rfl) (fun _ _ _ h => h) (Or.inl ⟨by rfl, ?_⟩) (by assumption) ?_
        rotate_left
        · (intro w hSw; (try dsimp only at hSw); go_simp; try (with_reducible rfl))
        try simp only [Act.put, List.getElem_toArray, List.getElem_cons_zero, List.getElem_cons_succ, List.setIfInBounds_toArray, List.set_cons_zero, List.set_cons_succ]
        refine wpAnyH_take (i := 7) (v := ?_) rfl (by kernel_rfl) (by kernel_rfl) (by kernel_rfl) (fun _ _ _ h => h) (Or.inl ⟨by rfl, ?_⟩) (by assumption) ?_
        rotate_left
        · (intro w hSw; (try dsimp only at hSw); go_simp; try (with_reducible rfl))
        try simp only [Act.put, List.getElem_toArray, List.getElem_cons_zero, List.getElem_cons_succ, List.setIfInBounds_toArray, List.set_cons_zero, List.set_cons_succ]
        refine wpAnyH_take (i := 8) (v := ?_) rfl (by kernel_rfl) (by kernel_rfl) (by kernel_rfl) (fun _ _ _ h => h) (Or.inl ⟨by rfl, ?_⟩) (by assumption) ?_
        rotate_left
        · (intro w hSw; (try dsimp only at hSw); go_simp; try (with_reducible rfl))
        try simp only [Act.put, List.getElem_toArray, List.getElem_cons_zero, List.getElem_cons_succ, List.setIfInBounds_toArray, List.set_cons_zero, List.set_cons_succ]
        refine wpAnyH_take (i := 9) rfl (by kernel_rfl) (by kernel_rfl) (by kernel_rfl) (fun _ _ _ h => h) (yieldsIf_load_mid (by rfl) 89 (.tmp 78) rfl g2 (i * 87) rfl Vm _ (fun w h => h.2.2.2) Try.underlying89 rfl (by rw [HVm.out]; exact Try.sz89)) (by assumption) ?_
        try simp only [Act.put, List.getElem_toArray, List.getElem_cons_zero, List.getElem_cons_succ, List.setIfInBounds_toArray, List.set_cons_zero, List.set_cons_succ]
        refine wpAnyH_take (i := 10) (v := ?_) rfl (by kernel_rfl) (by kernel_rfl) (by kernel_rfl) (fun _ _ _ h => h) (Or.inl ⟨by rfl, ?_⟩) (by assumption) ?_
        rotate_left
        · (intro w hSw; (try dsimp only at hSw); go_simp; try (with_reducible rfl))
        try simp only [Act.put, List.getElem_toArray, List.getElem_cons_zero, List.getElem_cons_succ, List.setIfInBounds_toArray, List.set_cons_zero, List.set_cons_succ]
        refine wpAnyH_done (by kernel_rfl) ?_ _
        have HB2 := hide HB.out.drew
        clear hHeld HS hzT heT
        generalize wr.drew = wx at *
        go_wp2
        go_roundw
        case rel => exact ⟨i + 1, by omega, by go_num, HB2.out⟩
        case measure => simp [intOf]; omega
      · obtain rfl : i = r.rcs.length := by omega
        have e1 : decide ((r.rcs.length : Int) < (r.rcs.length : Int)) = false := by simp
        go_wp2
        go_meet
        exact HB.out
  have HC1 := hide hcut
  clear hcut HC0 k1
  go_upto_region 11 with fail
  have k1 := cellKeep HC1.out c4
  go_wp2
  go_loopw [85] (fun s wr => ∃ i : Nat, i ≤ r.stm.length ∧ s = .int .i64 i ∧ Below x3.heap.size x3 wr) (fun s _ => r.stm.length - (intOf s).toNat)
  case atStart => exact ⟨0, Nat.zero_le _, rfl, HC1.out⟩
  case round =>
    clear k1
    obtain ⟨i, hi, rfl, hb⟩ := hrel
    have HB := hide hb
    clear hb
    by_cases hlt : i < r.stm.length
    · have e1 : decide ((i : Int) < (r.stm.length : Int)) = true := by simp; omega
      have hii : (i : Int) < (r.stm.length : Int) := by omega
      obtain ⟨m, hp⟩ : ∃ p, r.stm[i]? = some p := ⟨_, List.getElem?_eq_getElem hlt⟩
      obtain ⟨g1, _, hg1⟩ := own_some HM4.out (by omega)
      obtain ⟨g2, _, hg2⟩ := own_some HN4.out (by omega)
      cases hg1
      cases hg2
      have hmo := HOK.out.sm m (List.mem_of_getElem? hp)
      have q1 := range_flat (k := 41) (fun y hy => msv_len (HOK.out.sm y hy)) (own_range HM4.out) hp
      have q2 := range_flat (k := 41) (fun y hy => msv_len (HOK.out.sm y hy)) (own_range HN4.out) hp
      have HVm : Hid ((msv m).length = 41) := msv_len hmo
      have heT : ∀ w, (Op.equalIn 10000 68 (.agg (msv m).toArray) (.agg (msv m).toArray)).run Try.prog w = .ok true w := fun w => by have := eq68 w hmo hmo 9996; simpa using this
      have l1 : g1 < x3.heap.size := (HM4.out.lt g1 rfl).2
      have l2 : g2 < x3.heap.size := (HN4.out.lt g2 rfl).2
      have HS : Hid (wr.drew.cell? ⟨A, 4, none⟩ = some (.slice (some ⟨g1, 0, none⟩) r.stm.length pa4) ∧ wr.drew.cell? ⟨A + 1, 4, none⟩ = some (.slice (some ⟨g2, 0, none⟩) r.stm.length pb4) ∧ wr.drew.rangeAt g1 (i * 41) (msv m) ∧ wr.drew.rangeAt g2 (i * 41) (msv m)) :=
        ⟨cellKeep HB.out.drew c4, cellKeep HB.out.drew d4, range_below q1 l1 HB.out.drew, range_below q2 l2 HB.out.drew⟩
      clear q1 q2 l1 l2 hp hmo
      generalize msv m = Vm at *
      have hzT := Try.sizeOf68
      go_upto_region 14 with fail
      refine wp_region_held_drew (S := fun w' => w'.cell? ⟨A, 4, none⟩ = some (.slice (some ⟨g1, 0, none⟩) r.stm.length pa4) ∧ w'.cell? ⟨A + 1, 4, none⟩ = some (.slice (some ⟨g2, 0, none⟩) r.stm.length pb4) ∧ w'.rangeAt g1 (i * 41) Vm ∧ w'.rangeAt g2 (i * 41) Vm) (by kernel_rfl) HS.out (fun hHeld => ?_)
      refine wpAnyH_take (i := 0) (v := ?_) rfl (by kernel_rfl) (by kernel_rfl) (by kernel_rfl) (fun _ _ _ h => h) (Or.inl ⟨by rfl, ?_⟩) (by assumption) ?_
      rotate_left
      · (intro w hSw; (try dsimp only at hSw); go_simp; try (with_reducible rfl))
      try simp only [Act.put, List.getElem_toArray, List.getElem_cons_zero, List.getElem_cons_succ, List.setIfInBounds_toArray, List.set_cons_zero, List.set_cons_succ]
      refine wpAnyH_take (i := 1) (v := ?_) rfl (by kernel_rfl) (by kernel_rfl) (by kernel_rfl) (fun _ _ _ h => h) (Or.inl ⟨by rfl, ?_⟩) (by assumption) ?_
      rotate_left
      · (intro w hSw; (try dsimp only at hSw); go_simp; try (with_reducible rfl))
      try simp only [Act.put, List.getElem_toArray, List.getElem_cons_zero, List.getElem_cons_succ, List.setIfInBounds_toArray, List.set_cons_zero, List.set_cons_succ]
      refine wpAnyH_take (i := 2) (v := ?_) rfl (by kernel_rfl) (by kernel_rfl) (by kernel_rfl) (fun _ _ _ h => h) (Or.inl ⟨by rfl, ?_⟩) (by assumption) ?_
      rotate_left
      · (intro w hSw; (try dsimp only at hSw); go_simp; try (with_reducible rfl))
      try simp only [Act.put, List.getElem_toArray, List.getElem_cons_zero, List.getElem_cons_succ, List.setIfInBounds_toArray, List.set_cons_zero, List.set_cons_succ]
      refine wpAnyH_take (i := 3) (v := ?_) rfl (by kernel_rfl) (by kernel_rfl) (by kernel_rfl) (fun _ _ _ h => h) (Or.inl ⟨by rfl, ?_⟩) (by assumption) ?_
      rotate_left
      · (intro w hSw; (try dsimp only at hSw); go_simp; try (with_reducible rfl))
      try simp only [Act.put, List.getElem_toArray, List.getElem_cons_zero, List.getElem_cons_succ, List.setIfInBounds_toArray, List.set_cons_zero, List.set_cons_succ]
      refine wpAnyH_take (i := 4) rfl (by kernel_rfl) (by kernel_rfl) (by kernel_rfl) (fun _ _ _ h => h) (yieldsIf_load_mid (by rfl) 68 (.tmp 91) rfl g1 (i * 41) rfl Vm _ (fun w h => h.2.2.1) Try.underlying68 rfl (by rw [HVm.out]; exact Try.sz68)) (by assumption) ?_
      try simp only [Act.put, List.getElem_toArray, List.getElem_cons_zero, List.getElem_cons_succ, List.setIfInBounds_toArray, List.set_cons_zero, List.set_cons_succ]
      refine wpAnyH_take (i := 5) (v := ?_) rfl (by kernel_rfl) (by kernel_rfl) (by kernel_rfl) (fun _ _ _ h => h) (Or.inl ⟨by rfl, ?_⟩) (by assumption) ?_
      rotate_left
      · (intro w hSw; (try dsimp only at hSw); go_simp; try (with_reducible rfl))
      try simp only [Act.put, List.getElem_toArray, List.getElem_cons_zero, List.getElem_cons_succ, List.setIfInBounds_toArray, List.set_cons_zero, List.set_cons_succ]
      refine wpAnyH_take (i := 6) (v := ?_) rfl (by kernel_rfl) (by kernel_rfl) (by kernel_rfl) (fun _ _ _ h => h) (Or.inl ⟨by rfl, ?_⟩) (by assumption) ?_
      rotate_left
      · (intro w hSw; (try dsimp only at hSw); go_simp; try (with_reducible rfl))
      try simp only [Act.put, List.getElem_toArray, List.getElem_cons_zero, List.getElem_cons_succ, List.setIfInBounds_toArray, List.set_cons_zero, List.set_cons_succ]
      refine wpAnyH_take (i := 7) (v := ?_) rfl (by kernel_rfl) (by kernel_rfl) (by kernel_rfl) (fun _ _ _ h => h) (Or.inl ⟨by rfl, ?_⟩) (by assumption) ?_
      rotate_left
      · (intro w hSw; (try dsimp only at hSw); go_simp; try (with_reducible rfl))
      try simp only [Act.put, List.getElem_toArray, List.getElem_cons_zero, List.getElem_cons_succ, List.setIfInBounds_toArray, List.set_cons_zero, List.set_cons_succ]
      refine wpAnyH_take (i := 8) (v := ?_) rfl (by kernel_rfl) (by kernel_rfl) (by kernel_rfl) (fun _ _ _ h => h) (Or.inl ⟨by rfl, ?_⟩) (by assumption) ?_
      rotate_left
      · (intro w hSw; (try dsimp only at hSw); go_simp; try (with_reducible rfl))
      try simp only [Act.put, List.getElem_toArray, List.getElem_cons_zero, List.getElem_cons_succ, List.setIfInBounds_toArray, List.set_cons_zero, List.set_cons_succ]
      refine wpAnyH_take (i := 9) rfl (by kernel_rfl) (by kernel_rfl) (by kernel_rfl) (fun _ _ _ h => h) (yieldsIf_load_mid (by rfl) 68 (.tmp 96) rfl g2 (i * 41) rfl Vm _ (fun w h => h.2.2.2) Try.underlying68 rfl (by rw [HVm.out]; exact Try.sz68)) (by assumption) ?_
      try simp only [Act.put, List.getElem_toArray, List.getElem_cons_zero, List.getElem_cons_succ, List.setIfInBounds_toArray, List.set_cons_zero, List.set_cons_succ]
      refine wpAnyH_take (i := 10) (v := ?_) rfl (by kernel_rfl) (by kernel_rfl) (by kernel_rfl) (fun _ _ _ h => h) (Or.inl ⟨by rfl, ?_⟩) (by assumption) ?_
      rotate_left
      · (intro w hSw; (try dsimp only at hSw); go_simp; try (with_reducible rfl))
      try simp only [Act.put, List.getElem_toArray, List.getElem_cons_zero, List.getElem_cons_succ, List.setIfInBounds_toArray, List.set_cons_zero, List.set_cons_succ]
      refine wpAnyH_done (by kernel_rfl) ?_ _
      have HB2 := hide HB.out.drew
      clear hHeld HS hzT heT
      generalize wr.drew = wx at *
      go_wp2
      go_roundw
      case rel => exact ⟨i + 1, by omega, by go_num, HB2.out⟩
      case measure => simp [intOf]; omega
    · obtain rfl : i = r.stm.length := by omega
      have e1 : decide ((r.stm.length : Int) < (r.stm.length : Int)) = false := by simp
      have HF := hide (lec HBW.out HB.out)
      go_wp2
      go_ret
      exact ⟨rfl, HF.out⟩
end Go.Proofs.Qxb6500784a
