import Derived.Test.Qxb6500784aSp0
namespace Go.Proofs.Qxb6500784a
open Go.RowKit

attribute [-simp] Try.isAgg95 Try.sizeOf95 Try.typeInfo95
set_option linter.unusedSimpArgs false in
set_option maxRecDepth 100000 in
set_option maxHeartbeats 8000000 in
theorem spoil_5 (B : Nat) (w : World) (g m cap : Nat) (R : List (List Value)) (h : SpI B w g m cap R) : Calls Try.prog 26 #[.agg #[.slice (some ⟨g, 0, none⟩) (m + 1) cap], .int .i64 5] w (SpPost B w) := by
  have H := hide h
  have hm7 := h.hm
  have HG := hide (h.ow.lt g rfl)
  clear h
  obtain ⟨A, hA⟩ : ∃ A, A = w.heap.size := ⟨_, rfl⟩
  have HA := hide hA
  obtain ⟨Q, hQ⟩ : ∃ Q, SpPost B w = Q := ⟨_, rfl⟩
  rw [hQ]
  have HQ := hide hQ
  clear hQ
  go_enter Try.func26, Try.ntmps26
  go_upto_region 1 with fail
  have HB := hide (be2 w (.cells #[.slice (some ⟨g, 0, none⟩) (m + 1) cap] 27) (.cells #[nilS] 27))
  have c0 : ((w.alloc (.cells #[.slice (some ⟨g, 0, none⟩) (m + 1) cap] 27)).alloc (.cells #[nilS] 27)).cell? ⟨A, 0, none⟩ = some (.slice (some ⟨g, 0, none⟩) (m + 1) cap) := by rw [hA]; simp [go_sem]
  have c1 : ((w.alloc (.cells #[.slice (some ⟨g, 0, none⟩) (m + 1) cap] 27)).alloc (.cells #[nilS] 27)).cell? ⟨A + 1, 0, none⟩ = some nilS := by rw [hA]; simp [go_sem]
  have f1 : ((w.alloc (.cells #[.slice (some ⟨g, 0, none⟩) (m + 1) cap] 27)).alloc (.cells #[nilS] 27)).frozen? ⟨A + 1, 0, none⟩ = false := by rw [hA]; simp [go_sem]
  have HE : Hid (((w.alloc (.cells #[.slice (some ⟨g, 0, none⟩) (m + 1) cap] 27)).alloc (.cells #[nilS] 27)).heap.size = A + 2) := by show _ = _; rw [hA]; simp
  have H2 := hide (H.out.below HB.out)
  rw [← hA]
  generalize (w.alloc (.cells #[.slice (some ⟨g, 0, none⟩) (m + 1) cap] 27)).alloc (.cells #[nilS] 27) = w2 at *
  have HGA : Hid (g < A) := by rw [hA]; exact HG.out.2
  clear hA
  obtain ⟨cc, hcc, e1, e3⟩ := (H.out.at (i := m) (by omega)).c
  have e85 := (H.out.at (i := m) (by omega)).n
  have HLn := hide (H.out.at (i := m) (by omega)).l
  have hlt : (m : Int) < (m : Int) + 1 := by omega
  have H3 := hide H2.out
  have HBb := hide HB.out
  have a0 := c0
  have a1 := c1
  have af := f1
  obtain ⟨V, hV⟩ : ∃ V, (rowF R m)[1]? = some V := ⟨_, List.getElem?_eq_getElem (by rw [HLn.out]; omega)⟩
  have cV : w2.cell? ⟨g, m * 86 + 1, none⟩ = some V := H3.out.rg m (by omega) 1 V hV
  have fV : w2.frozen? ⟨g, m * 86 + 1, none⟩ = false := H3.out.ow.frozenAt _
  go_upto_region 16 with fail
  go_wp2_with fail
  simp only [Try.sizeOf95, Result.andThen]
  rw [Oper.upon_value]
  go_upto_region 17 with fail
  have k0 : (w2.setCell ⟨g, m * 86 + 1, none⟩ (.int .u8 3)).cell? ⟨A, 0, none⟩ = some (.slice (some ⟨g, 0, none⟩) (m + 1) cap) := by rw [set_cell_ne _ _ _ _ _ _ (by have := HGA.out; omega)]; exact a0
  have k1 : (w2.setCell ⟨g, m * 86 + 1, none⟩ (.int .u8 3)).cell? ⟨A + 1, 0, none⟩ = some nilS := by rw [set_cell_ne _ _ _ _ _ _ (by have := HGA.out; omega)]; exact a1
  have k2 : (w2.setCell ⟨g, m * 86 + 1, none⟩ (.int .u8 3)).frozen? ⟨A + 1, 0, none⟩ = false := by rw [set_frozen]; exact af
  have HLK : Hid (LegOk ((w2.setCell ⟨g, m * 86 + 1, none⟩ (.int .u8 3)).setCell ⟨A + 1, 0, none⟩ (.slice (some ⟨g, 0, none⟩) (m + 1) cap)) (lasL R m 1 (.int .u8 3) 3 cc none 0 0 (fun _ => 0))) :=
    las_ok H.out (by omega) (by rw [List.getElem?_set_self (by rw [HLn.out]; omega)]) (by rw [List.getElem?_set_ne (by omega)]; exact e3) (by rw [List.getElem?_set_ne (by omega)]; exact e85) (by omega) (by omega) (by omega) (fun k hk => absurd hk (Nat.not_lt_zero _))
  have HCD : Hid (ordCode (m + 1) (lastL R m (lasL R m 1 (.int .u8 3) 3 cc none 0 0 (fun _ => 0))) = 62) := bad_last (by omega) (lastL_code H.out _) (by rw [lastL_m]; exact las_62 (by omega)) (by decide)
  have HPO := hide (SpI.fin H.out H3.out HBb.out HA.out (j := 1) (by omega) (l := lasL R m 1 (.int .u8 3) 3 cc none 0 0 (fun _ => 0)) rfl HLK.out HCD.out (by decide))
  rw [HQ.out] at HPO
  generalize w2.setCell ⟨g, m * 86 + 1, none⟩ (.int .u8 3) = w3 at *
  go_wp2_with fail
  exact bodyPost_ret (v := .tuple #[.agg #[.slice (some ⟨g, 0, none⟩) (m + 1) cap], .int .i64 62]) (res_cell_tmp Try.results26 rfl rfl (run_loadVar_mid _ (A + 1) 0 27 [.slice (some ⟨g, 0, none⟩) (m + 1) cap] _ (range_one (World.cell?_setCell_same _ _ _ k1)) Try.underlying27 rfl (by kernel_rfl))) rfl HPO.out
set_option linter.unusedSimpArgs false in
set_option maxRecDepth 100000 in
set_option maxHeartbeats 8000000 in
theorem spoil_6 (B : Nat) (w : World) (g m cap : Nat) (R : List (List Value)) (h : SpI B w g m cap R) : Calls Try.prog 26 #[.agg #[.slice (some ⟨g, 0, none⟩) (m + 1) cap], .int .i64 6] w (SpPost B w) := by
  have H := hide h
  have hm7 := h.hm
  have HG := hide (h.ow.lt g rfl)
  clear h
  obtain ⟨A, hA⟩ : ∃ A, A = w.heap.size := ⟨_, rfl⟩
  have HA := hide hA
  obtain ⟨Q, hQ⟩ : ∃ Q, SpPost B w = Q := ⟨_, rfl⟩
  rw [hQ]
  have HQ := hide hQ
  clear hQ
  go_enter Try.func26, Try.ntmps26
  go_upto_region 1 with fail
  have HB := hide (be2 w (.cells #[.slice (some ⟨g, 0, none⟩) (m + 1) cap] 27) (.cells #[nilS] 27))
  have c0 : ((w.alloc (.cells #[.slice (some ⟨g, 0, none⟩) (m + 1) cap] 27)).alloc (.cells #[nilS] 27)).cell? ⟨A, 0, none⟩ = some (.slice (some ⟨g, 0, none⟩) (m + 1) cap) := by rw [hA]; simp [go_sem]
  have c1 : ((w.alloc (.cells #[.slice (some ⟨g, 0, none⟩) (m + 1) cap] 27)).alloc (.cells #[nilS] 27)).cell? ⟨A + 1, 0, none⟩ = some nilS := by rw [hA]; simp [go_sem]
  have f1 : ((w.alloc (.cells #[.slice (some ⟨g, 0, none⟩) (m + 1) cap] 27)).alloc (.cells #[nilS] 27)).frozen? ⟨A + 1, 0, none⟩ = false := by rw [hA]; simp [go_sem]
  have HE : Hid (((w.alloc (.cells #[.slice (some ⟨g, 0, none⟩) (m + 1) cap] 27)).alloc (.cells #[nilS] 27)).heap.size = A + 2) := by show _ = _; rw [hA]; simp
  have H2 := hide (H.out.below HB.out)
  rw [← hA]
  generalize (w.alloc (.cells #[.slice (some ⟨g, 0, none⟩) (m + 1) cap] 27)).alloc (.cells #[nilS] 27) = w2 at *
  have HGA : Hid (g < A) := by rw [hA]; exact HG.out.2
  clear hA
  obtain ⟨cc, hcc, e1, e3⟩ := (H.out.at (i := m) (by omega)).c
  have e85 := (H.out.at (i := m) (by omega)).n
  have HLn := hide (H.out.at (i := m) (by omega)).l
  have hlt : (m : Int) < (m : Int) + 1 := by omega
  have H3 := hide H2.out
  have HBb := hide HB.out
  have a0 := c0
  have a1 := c1
  have af := f1
  obtain ⟨V, hV⟩ : ∃ V, (rowF R m)[1]? = some V := ⟨_, List.getElem?_eq_getElem (by rw [HLn.out]; omega)⟩
  have cV : w2.cell? ⟨g, m * 86 + 1, none⟩ = some V := H3.out.rg m (by omega) 1 V hV
  have fV : w2.frozen? ⟨g, m * 86 + 1, none⟩ = false := H3.out.ow.frozenAt _
  go_upto_region 19 with fail
  go_wp2_with fail
  simp only [Try.sizeOf95, Result.andThen]
  rw [Oper.upon_value]
  go_upto_region 20 with fail
  have k0 : (w2.setCell ⟨g, m * 86 + 1, none⟩ (.int .u8 0)).cell? ⟨A, 0, none⟩ = some (.slice (some ⟨g, 0, none⟩) (m + 1) cap) := by rw [set_cell_ne _ _ _ _ _ _ (by have := HGA.out; omega)]; exact a0
  have k1 : (w2.setCell ⟨g, m * 86 + 1, none⟩ (.int .u8 0)).cell? ⟨A + 1, 0, none⟩ = some nilS := by rw [set_cell_ne _ _ _ _ _ _ (by have := HGA.out; omega)]; exact a1
  have k2 : (w2.setCell ⟨g, m * 86 + 1, none⟩ (.int .u8 0)).frozen? ⟨A + 1, 0, none⟩ = false := by rw [set_frozen]; exact af
  have HLK : Hid (LegOk ((w2.setCell ⟨g, m * 86 + 1, none⟩ (.int .u8 0)).setCell ⟨A + 1, 0, none⟩ (.slice (some ⟨g, 0, none⟩) (m + 1) cap)) (lasL R m 1 (.int .u8 0) 0 cc none 0 0 (fun _ => 0))) :=
    las_ok H.out (by omega) (by rw [List.getElem?_set_self (by rw [HLn.out]; omega)]) (by rw [List.getElem?_set_ne (by omega)]; exact e3) (by rw [List.getElem?_set_ne (by omega)]; exact e85) (by omega) (by omega) (by omega) (fun k hk => absurd hk (Nat.not_lt_zero _))
  have HCD : Hid (ordCode (m + 1) (lastL R m (lasL R m 1 (.int .u8 0) 0 cc none 0 0 (fun _ => 0))) = 62) := bad_last (by omega) (lastL_code H.out _) (by rw [lastL_m]; exact las_62 (by omega)) (by decide)
  have HPO := hide (SpI.fin H.out H3.out HBb.out HA.out (j := 1) (by omega) (l := lasL R m 1 (.int .u8 0) 0 cc none 0 0 (fun _ => 0)) rfl HLK.out HCD.out (by decide))
  rw [HQ.out] at HPO
  generalize w2.setCell ⟨g, m * 86 + 1, none⟩ (.int .u8 0) = w3 at *
  go_wp2_with fail
  exact bodyPost_ret (v := .tuple #[.agg #[.slice (some ⟨g, 0, none⟩) (m + 1) cap], .int .i64 62]) (res_cell_tmp Try.results26 rfl rfl (run_loadVar_mid _ (A + 1) 0 27 [.slice (some ⟨g, 0, none⟩) (m + 1) cap] _ (range_one (World.cell?_setCell_same _ _ _ k1)) Try.underlying27 rfl (by kernel_rfl))) rfl HPO.out
set_option linter.unusedSimpArgs false in
set_option maxRecDepth 100000 in
set_option maxHeartbeats 8000000 in
theorem spoil_7 (B : Nat) (w : World) (g m cap : Nat) (R : List (List Value)) (h : SpI B w g m cap R) : Calls Try.prog 26 #[.agg #[.slice (some ⟨g, 0, none⟩) (m + 1) cap], .int .i64 7] w (SpPost B w) := by
  have H := hide h
  have hm7 := h.hm
  have HG := hide (h.ow.lt g rfl)
  clear h
  obtain ⟨A, hA⟩ : ∃ A, A = w.heap.size := ⟨_, rfl⟩
  have HA := hide hA
  obtain ⟨Q, hQ⟩ : ∃ Q, SpPost B w = Q := ⟨_, rfl⟩
  rw [hQ]
  have HQ := hide hQ
  clear hQ
  go_enter Try.func26, Try.ntmps26
  go_upto_region 1 with fail
  have HB := hide (be2 w (.cells #[.slice (some ⟨g, 0, none⟩) (m + 1) cap] 27) (.cells #[nilS] 27))
  have c0 : ((w.alloc (.cells #[.slice (some ⟨g, 0, none⟩) (m + 1) cap] 27)).alloc (.cells #[nilS] 27)).cell? ⟨A, 0, none⟩ = some (.slice (some ⟨g, 0, none⟩) (m + 1) cap) := by rw [hA]; simp [go_sem]
  have c1 : ((w.alloc (.cells #[.slice (some ⟨g, 0, none⟩) (m + 1) cap] 27)).alloc (.cells #[nilS] 27)).cell? ⟨A + 1, 0, none⟩ = some nilS := by rw [hA]; simp [go_sem]
  have f1 : ((w.alloc (.cells #[.slice (some ⟨g, 0, none⟩) (m + 1) cap] 27)).alloc (.cells #[nilS] 27)).frozen? ⟨A + 1, 0, none⟩ = false := by rw [hA]; simp [go_sem]
  have HE : Hid (((w.alloc (.cells #[.slice (some ⟨g, 0, none⟩) (m + 1) cap] 27)).alloc (.cells #[nilS] 27)).heap.size = A + 2) := by show _ = _; rw [hA]; simp
  have H2 := hide (H.out.below HB.out)
  rw [← hA]
  generalize (w.alloc (.cells #[.slice (some ⟨g, 0, none⟩) (m + 1) cap] 27)).alloc (.cells #[nilS] 27) = w2 at *
  have HGA : Hid (g < A) := by rw [hA]; exact HG.out.2
  clear hA
  obtain ⟨cc, hcc, e1, e3⟩ := (H.out.at (i := m) (by omega)).c
  have e85 := (H.out.at (i := m) (by omega)).n
  have HLn := hide (H.out.at (i := m) (by omega)).l
  have hlt : (m : Int) < (m : Int) + 1 := by omega
  have H3 := hide H2.out
  have HBb := hide HB.out
  have a0 := c0
  have a1 := c1
  have af := f1
  obtain ⟨V, hV⟩ : ∃ V, (rowF R m)[3]? = some V := ⟨_, List.getElem?_eq_getElem (by rw [HLn.out]; omega)⟩
  have cV : w2.cell? ⟨g, m * 86 + 3, none⟩ = some V := H3.out.rg m (by omega) 3 V hV
  have fV : w2.frozen? ⟨g, m * 86 + 3, none⟩ = false := H3.out.ow.frozenAt _
  go_upto_region 22 with fail
  go_wp2_with fail
  simp only [Try.sizeOf95, Result.andThen]
  rw [Oper.upon_value]
  go_upto_region 23 with fail
  have k0 : (w2.setCell ⟨g, m * 86 + 3, none⟩ (.int .u8 3)).cell? ⟨A, 0, none⟩ = some (.slice (some ⟨g, 0, none⟩) (m + 1) cap) := by rw [set_cell_ne _ _ _ _ _ _ (by have := HGA.out; omega)]; exact a0
  have k1 : (w2.setCell ⟨g, m * 86 + 3, none⟩ (.int .u8 3)).cell? ⟨A + 1, 0, none⟩ = some nilS := by rw [set_cell_ne _ _ _ _ _ _ (by have := HGA.out; omega)]; exact a1
  have k2 : (w2.setCell ⟨g, m * 86 + 3, none⟩ (.int .u8 3)).frozen? ⟨A + 1, 0, none⟩ = false := by rw [set_frozen]; exact af
  have HLK : Hid (LegOk ((w2.setCell ⟨g, m * 86 + 3, none⟩ (.int .u8 3)).setCell ⟨A + 1, 0, none⟩ (.slice (some ⟨g, 0, none⟩) (m + 1) cap)) (lasL R m 3 (.int .u8 3) cc 3 none 0 0 (fun _ => 0))) :=
    las_ok H.out (by omega) (by rw [List.getElem?_set_ne (by omega)]; exact e1) (by rw [List.getElem?_set_self (by rw [HLn.out]; omega)]) (by rw [List.getElem?_set_ne (by omega)]; exact e85) (by omega) (by omega) (by omega) (fun k hk => absurd hk (Nat.not_lt_zero _))
  have HCD : Hid (ordCode (m + 1) (lastL R m (lasL R m 3 (.int .u8 3) cc 3 none 0 0 (fun _ => 0))) = 63) := bad_last (by omega) (lastL_code H.out _) (by rw [lastL_m]; exact las_63 hcc) (by decide)
  have HPO := hide (SpI.fin H.out H3.out HBb.out HA.out (j := 3) (by omega) (l := lasL R m 3 (.int .u8 3) cc 3 none 0 0 (fun _ => 0)) rfl HLK.out HCD.out (by decide))
  rw [HQ.out] at HPO
  generalize w2.setCell ⟨g, m * 86 + 3, none⟩ (.int .u8 3) = w3 at *
  go_wp2_with fail
  exact bodyPost_ret (v := .tuple #[.agg #[.slice (some ⟨g, 0, none⟩) (m + 1) cap], .int .i64 63]) (res_cell_tmp Try.results26 rfl rfl (run_loadVar_mid _ (A + 1) 0 27 [.slice (some ⟨g, 0, none⟩) (m + 1) cap] _ (range_one (World.cell?_setCell_same _ _ _ k1)) Try.underlying27 rfl (by kernel_rfl))) rfl HPO.out
set_option linter.unusedSimpArgs false in
set_option maxRecDepth 100000 in
set_option maxHeartbeats 8000000 in
theorem spoil_8 (B : Nat) (w : World) (g m cap : Nat) (R : List (List Value)) (h : SpI B w g m cap R) : Calls Try.prog 26 #[.agg #[.slice (some ⟨g, 0, none⟩) (m + 1) cap], .int .i64 8] w (SpPost B w) := by
  have H := hide h
  have hm7 := h.hm
  have HG := hide (h.ow.lt g rfl)
  clear h
  obtain ⟨A, hA⟩ : ∃ A, A = w.heap.size := ⟨_, rfl⟩
  have HA := hide hA
  obtain ⟨Q, hQ⟩ : ∃ Q, SpPost B w = Q := ⟨_, rfl⟩
  rw [hQ]
  have HQ := hide hQ
  clear hQ
  go_enter Try.func26, Try.ntmps26
  go_upto_region 1 with fail
  have HB := hide (be2 w (.cells #[.slice (some ⟨g, 0, none⟩) (m + 1) cap] 27) (.cells #[nilS] 27))
  have c0 : ((w.alloc (.cells #[.slice (some ⟨g, 0, none⟩) (m + 1) cap] 27)).alloc (.cells #[nilS] 27)).cell? ⟨A, 0, none⟩ = some (.slice (some ⟨g, 0, none⟩) (m + 1) cap) := by rw [hA]; simp [go_sem]
  have c1 : ((w.alloc (.cells #[.slice (some ⟨g, 0, none⟩) (m + 1) cap] 27)).alloc (.cells #[nilS] 27)).cell? ⟨A + 1, 0, none⟩ = some nilS := by rw [hA]; simp [go_sem]
  have f1 : ((w.alloc (.cells #[.slice (some ⟨g, 0, none⟩) (m + 1) cap] 27)).alloc (.cells #[nilS] 27)).frozen? ⟨A + 1, 0, none⟩ = false := by rw [hA]; simp [go_sem]
  have HE : Hid (((w.alloc (.cells #[.slice (some ⟨g, 0, none⟩) (m + 1) cap] 27)).alloc (.cells #[nilS] 27)).heap.size = A + 2) := by show _ = _; rw [hA]; simp
  have H2 := hide (H.out.below HB.out)
  rw [← hA]
  generalize (w.alloc (.cells #[.slice (some ⟨g, 0, none⟩) (m + 1) cap] 27)).alloc (.cells #[nilS] 27) = w2 at *
  have HGA : Hid (g < A) := by rw [hA]; exact HG.out.2
  clear hA
  obtain ⟨cc, hcc, e1, e3⟩ := (H.out.at (i := m) (by omega)).c
  have e85 := (H.out.at (i := m) (by omega)).n
  have HLn := hide (H.out.at (i := m) (by omega)).l
  have hlt : (m : Int) < (m : Int) + 1 := by omega
  have HBa : Hid (Below w2.heap.size w2 (w2.alloc (.cells #[.int .u8 0, .int .u8 0, .int .u8 0, .int .u8 0, .int .u8 0, .int .u8 0, .int .u8 0, .int .u8 0, .int .u8 0] 5))) := be1 w2 (.cells #[.int .u8 0, .int .u8 0, .int .u8 0, .int .u8 0, .int .u8 0, .int .u8 0, .int .u8 0, .int .u8 0, .int .u8 0] 5)
  have HNa := hide (newR w2 [.int .u8 0, .int .u8 0, .int .u8 0, .int .u8 0, .int .u8 0, .int .u8 0, .int .u8 0, .int .u8 0, .int .u8 0] 5)
  have H3 := hide (H2.out.below HBa.out)
  have a0 := cellKeep HBa.out c0
  have a1 := cellKeep HBa.out c1
  have af : (w2.alloc (.cells #[.int .u8 0, .int .u8 0, .int .u8 0, .int .u8 0, .int .u8 0, .int .u8 0, .int .u8 0, .int .u8 0, .int .u8 0] 5)).frozen? ⟨A + 1, 0, none⟩ = false := by rw [World.frozen?_of_block (HBa.out.block _ (show A + 1 < _ by have := HE.out; omega))]; exact f1
  have HBb := hide (lec HB.out HBa.out)
  rw [show w2.heap.size = A + 2 from HE.out] at HNa
  obtain ⟨V, hV⟩ : ∃ V, (rowF R m)[85]? = some V := ⟨_, List.getElem?_eq_getElem (by rw [HLn.out]; omega)⟩
  have cV : (w2.alloc (.cells #[.int .u8 0, .int .u8 0, .int .u8 0, .int .u8 0, .int .u8 0, .int .u8 0, .int .u8 0, .int .u8 0, .int .u8 0] 5)).cell? ⟨g, m * 86 + 85, none⟩ = some V := H3.out.rg m (by omega) 85 V hV
  have fV : (w2.alloc (.cells #[.int .u8 0, .int .u8 0, .int .u8 0, .int .u8 0, .int .u8 0, .int .u8 0, .int .u8 0, .int .u8 0, .int .u8 0] 5)).frozen? ⟨g, m * 86 + 85, none⟩ = false := H3.out.ow.frozenAt _
  go_upto_region 25 with fail
  go_wp2_with fail
  simp only [Try.sizeOf95, Result.andThen]
  rw [Oper.upon_value]
  go_upto_region 26 with fail
  try rw [HE.out]
  have k0 : ((w2.alloc (.cells #[.int .u8 0, .int .u8 0, .int .u8 0, .int .u8 0, .int .u8 0, .int .u8 0, .int .u8 0, .int .u8 0, .int .u8 0] 5)).setCell ⟨g, m * 86 + 85, none⟩ (.slice (some ⟨A + 2, 0, none⟩) 9 9)).cell? ⟨A, 0, none⟩ = some (.slice (some ⟨g, 0, none⟩) (m + 1) cap) := by rw [set_cell_ne _ _ _ _ _ _ (by have := HGA.out; omega)]; exact a0
  have k1 : ((w2.alloc (.cells #[.int .u8 0, .int .u8 0, .int .u8 0, .int .u8 0, .int .u8 0, .int .u8 0, .int .u8 0, .int .u8 0, .int .u8 0] 5)).setCell ⟨g, m * 86 + 85, none⟩ (.slice (some ⟨A + 2, 0, none⟩) 9 9)).cell? ⟨A + 1, 0, none⟩ = some nilS := by rw [set_cell_ne _ _ _ _ _ _ (by have := HGA.out; omega)]; exact a1
  have k2 : ((w2.alloc (.cells #[.int .u8 0, .int .u8 0, .int .u8 0, .int .u8 0, .int .u8 0, .int .u8 0, .int .u8 0, .int .u8 0, .int .u8 0] 5)).setCell ⟨g, m * 86 + 85, none⟩ (.slice (some ⟨A + 2, 0, none⟩) 9 9)).frozen? ⟨A + 1, 0, none⟩ = false := by rw [set_frozen]; exact af
  have HLK : Hid (LegOk (((w2.alloc (.cells #[.int .u8 0, .int .u8 0, .int .u8 0, .int .u8 0, .int .u8 0, .int .u8 0, .int .u8 0, .int .u8 0, .int .u8 0] 5)).setCell ⟨g, m * 86 + 85, none⟩ (.slice (some ⟨A + 2, 0, none⟩) 9 9)).setCell ⟨A + 1, 0, none⟩ (.slice (some ⟨g, 0, none⟩) (m + 1) cap)) (lasL R m 85 (.slice (some ⟨A + 2, 0, none⟩) 9 9) cc cc (some ⟨A + 2, 0, none⟩) 9 9 (fun _ => 0))) :=
    las_ok H.out (by omega) (by rw [List.getElem?_set_ne (by omega)]; exact e1) (by rw [List.getElem?_set_ne (by omega)]; exact e3) (by rw [List.getElem?_set_self (by rw [HLn.out]; omega)]) (by omega) (by omega) (by omega) (fun k hk => ⟨A + 2, 0, rfl, by
      have hne : A + 2 ≠ g := by have := HGA.out; omega
      rw [set_cell_ne _ _ _ _ _ _ (by omega), set_cell_ne _ _ _ _ _ _ hne]
      exact HNa.out k _ (by match k, hk with
      | 0, _ => rfl
      | 1, _ => rfl
      | 2, _ => rfl
      | 3, _ => rfl
      | 4, _ => rfl
      | 5, _ => rfl
      | 6, _ => rfl
      | 7, _ => rfl
      | 8, _ => rfl), by show (0 : Int) ≤ 0 ∧ (0 : Int) < 256; omega⟩)
  have HCD : Hid (ordCode (m + 1) (lastL R m (lasL R m 85 (.slice (some ⟨A + 2, 0, none⟩) 9 9) cc cc (some ⟨A + 2, 0, none⟩) 9 9 (fun _ => 0))) = 64) := bad_last (by omega) (lastL_code H.out _) (by rw [lastL_m]; (rw [las_nn hcc]; rfl)) (by decide)
  have HPO := hide (SpI.fin H.out H3.out HBb.out HA.out (j := 85) (by omega) (l := lasL R m 85 (.slice (some ⟨A + 2, 0, none⟩) 9 9) cc cc (some ⟨A + 2, 0, none⟩) 9 9 (fun _ => 0)) rfl HLK.out HCD.out (by decide))
  rw [HQ.out] at HPO
  generalize (w2.alloc (.cells #[.int .u8 0, .int .u8 0, .int .u8 0, .int .u8 0, .int .u8 0, .int .u8 0, .int .u8 0, .int .u8 0, .int .u8 0] 5)).setCell ⟨g, m * 86 + 85, none⟩ (.slice (some ⟨A + 2, 0, none⟩) 9 9) = w3 at *
  go_wp2_with fail
  exact bodyPost_ret (v := .tuple #[.agg #[.slice (some ⟨g, 0, none⟩) (m + 1) cap], .int .i64 64]) (res_cell_tmp Try.results26 rfl rfl (run_loadVar_mid _ (A + 1) 0 27 [.slice (some ⟨g, 0, none⟩) (m + 1) cap] _ (range_one (World.cell?_setCell_same _ _ _ k1)) Try.underlying27 rfl (by kernel_rfl))) rfl HPO.out
set_option linter.unusedSimpArgs false in
set_option maxRecDepth 100000 in
set_option maxHeartbeats 8000000 in
theorem spoil_3 (B : Nat) (w : World) (g m cap : Nat) (R : List (List Value)) (h : SpI B w g m cap R) : Calls Try.prog 26 #[.agg #[.slice (some ⟨g, 0, none⟩) (m + 1) cap], .int .i64 3] w (SpPost B w) := by
  have H := hide h
  have hm7 := h.hm
  have HG := hide (h.ow.lt g rfl)
  clear h
  obtain ⟨A, hA⟩ : ∃ A, A = w.heap.size := ⟨_, rfl⟩
  have HA := hide hA
  obtain ⟨Q, hQ⟩ : ∃ Q, SpPost B w = Q := ⟨_, rfl⟩
  rw [hQ]
  have HQ := hide hQ
  clear hQ
  go_enter Try.func26, Try.ntmps26
  go_upto_region 1 with fail
  have HB := hide (be2 w (.cells #[.slice (some ⟨g, 0, none⟩) (m + 1) cap] 27) (.cells #[nilS] 27))
  have c0 : ((w.alloc (.cells #[.slice (some ⟨g, 0, none⟩) (m + 1) cap] 27)).alloc (.cells #[nilS] 27)).cell? ⟨A, 0, none⟩ = some (.slice (some ⟨g, 0, none⟩) (m + 1) cap) := by rw [hA]; simp [go_sem]
  have c1 : ((w.alloc (.cells #[.slice (some ⟨g, 0, none⟩) (m + 1) cap] 27)).alloc (.cells #[nilS] 27)).cell? ⟨A + 1, 0, none⟩ = some nilS := by rw [hA]; simp [go_sem]
  have f1 : ((w.alloc (.cells #[.slice (some ⟨g, 0, none⟩) (m + 1) cap] 27)).alloc (.cells #[nilS] 27)).frozen? ⟨A + 1, 0, none⟩ = false := by rw [hA]; simp [go_sem]
  have HE : Hid (((w.alloc (.cells #[.slice (some ⟨g, 0, none⟩) (m + 1) cap] 27)).alloc (.cells #[nilS] 27)).heap.size = A + 2) := by show _ = _; rw [hA]; simp
  have H2 := hide (H.out.below HB.out)
  rw [← hA]
  generalize (w.alloc (.cells #[.slice (some ⟨g, 0, none⟩) (m + 1) cap] 27)).alloc (.cells #[nilS] 27) = w2 at *
  have HGA : Hid (g < A) := by rw [hA]; exact HG.out.2
  clear hA
  obtain ⟨cc, hcc, e1, e3⟩ := (H.out.at (i := m) (by omega)).c
  have e85 := (H.out.at (i := m) (by omega)).n
  have HLn := hide (H.out.at (i := m) (by omega)).l
  have hlt : (m : Int) < (m : Int) + 1 := by omega
  have HBa : Hid (Below w2.heap.size w2 (w2.alloc (.cells #[.int .u8 0, .int .u8 200] 5))) := be1 w2 (.cells #[.int .u8 0, .int .u8 200] 5)
  have HNa := hide (newR w2 [.int .u8 0, .int .u8 200] 5)
  have H3 := hide (H2.out.below HBa.out)
  have a0 := cellKeep HBa.out c0
  have a1 := cellKeep HBa.out c1
  have af : (w2.alloc (.cells #[.int .u8 0, .int .u8 200] 5)).frozen? ⟨A + 1, 0, none⟩ = false := by rw [World.frozen?_of_block (HBa.out.block _ (show A + 1 < _ by have := HE.out; omega))]; exact f1
  have HBb := hide (lec HB.out HBa.out)
  rw [show w2.heap.size = A + 2 from HE.out] at HNa
  obtain ⟨V, hV⟩ : ∃ V, (rowF R m)[85]? = some V := ⟨_, List.getElem?_eq_getElem (by rw [HLn.out]; omega)⟩
  have cV : (w2.alloc (.cells #[.int .u8 0, .int .u8 200] 5)).cell? ⟨g, m * 86 + 85, none⟩ = some V := H3.out.rg m (by omega) 85 V hV
  have fV : (w2.alloc (.cells #[.int .u8 0, .int .u8 200] 5)).frozen? ⟨g, m * 86 + 85, none⟩ = false := H3.out.ow.frozenAt _
  go_upto_region 10 with fail
  go_wp2_with fail
  simp only [Try.sizeOf95, Result.andThen]
  rw [Oper.upon_value]
  go_upto_region 11 with fail
  try rw [HE.out]
  have k0 : ((w2.alloc (.cells #[.int .u8 0, .int .u8 200] 5)).setCell ⟨g, m * 86 + 85, none⟩ (.slice (some ⟨A + 2, 0, none⟩) 2 2)).cell? ⟨A, 0, none⟩ = some (.slice (some ⟨g, 0, none⟩) (m + 1) cap) := by rw [set_cell_ne _ _ _ _ _ _ (by have := HGA.out; omega)]; exact a0
  have k1 : ((w2.alloc (.cells #[.int .u8 0, .int .u8 200] 5)).setCell ⟨g, m * 86 + 85, none⟩ (.slice (some ⟨A + 2, 0, none⟩) 2 2)).cell? ⟨A + 1, 0, none⟩ = some nilS := by rw [set_cell_ne _ _ _ _ _ _ (by have := HGA.out; omega)]; exact a1
  have k2 : ((w2.alloc (.cells #[.int .u8 0, .int .u8 200] 5)).setCell ⟨g, m * 86 + 85, none⟩ (.slice (some ⟨A + 2, 0, none⟩) 2 2)).frozen? ⟨A + 1, 0, none⟩ = false := by rw [set_frozen]; exact af
  have HLK : Hid (LegOk (((w2.alloc (.cells #[.int .u8 0, .int .u8 200] 5)).setCell ⟨g, m * 86 + 85, none⟩ (.slice (some ⟨A + 2, 0, none⟩) 2 2)).setCell ⟨A + 1, 0, none⟩ (.slice (some ⟨g, 0, none⟩) (m + 1) cap)) (lasL R m 85 (.slice (some ⟨A + 2, 0, none⟩) 2 2) cc cc (some ⟨A + 2, 0, none⟩) 2 2 (fun k => if k = 0 then 0 else 200))) :=
    las_ok H.out (by omega) (by rw [List.getElem?_set_ne (by omega)]; exact e1) (by rw [List.getElem?_set_ne (by omega)]; exact e3) (by rw [List.getElem?_set_self (by rw [HLn.out]; omega)]) (by omega) (by omega) (by omega) (fun k hk => ⟨A + 2, 0, rfl, by
      have hne : A + 2 ≠ g := by have := HGA.out; omega
      rw [set_cell_ne _ _ _ _ _ _ (by omega), set_cell_ne _ _ _ _ _ _ hne]
      exact HNa.out k _ (by match k, hk with
      | 0, _ => rfl
      | 1, _ => rfl), by show 0 ≤ (if k = 0 then (0 : Int) else 200) ∧ (if k = 0 then (0 : Int) else 200) < 256; split <;> omega⟩)
  have HCD : Hid (ordCode (m + 1) (lastL R m (lasL R m 85 (.slice (some ⟨A + 2, 0, none⟩) 2 2) cc cc (some ⟨A + 2, 0, none⟩) 2 2 (fun k => if k = 0 then 0 else 200))) = 66) := by
    refine bad_miss (by omega) (by omega) (fun i hi => ?_) (lastL_id H.out _ (las_id H.out (by omega) _)) (i := m) (k := 1) (by omega) (by rw [lastL_m]; show 1 < 2; omega) (fun j hj => ?_)
    · by_cases e : i = m
      · subst e; rw [lastL_m, las_nn hcc]; rfl
      · exact lastL_code H.out _ i (by omega)
    · rw [lastL_id H.out _ (las_id H.out (by omega) _) j hj, lastL_m]
      show (j : Int) ≠ 200
      omega
  have HPO := hide (SpI.fin H.out H3.out HBb.out HA.out (j := 85) (by omega) (l := lasL R m 85 (.slice (some ⟨A + 2, 0, none⟩) 2 2) cc cc (some ⟨A + 2, 0, none⟩) 2 2 (fun k => if k = 0 then 0 else 200)) rfl HLK.out HCD.out (by decide))
  rw [HQ.out] at HPO
  generalize (w2.alloc (.cells #[.int .u8 0, .int .u8 200] 5)).setCell ⟨g, m * 86 + 85, none⟩ (.slice (some ⟨A + 2, 0, none⟩) 2 2) = w3 at *
  go_wp2_with fail
  exact bodyPost_ret (v := .tuple #[.agg #[.slice (some ⟨g, 0, none⟩) (m + 1) cap], .int .i64 66]) (res_cell_tmp Try.results26 rfl rfl (run_loadVar_mid _ (A + 1) 0 27 [.slice (some ⟨g, 0, none⟩) (m + 1) cap] _ (range_one (World.cell?_setCell_same _ _ _ k1)) Try.underlying27 rfl (by kernel_rfl))) rfl HPO.out
set_option linter.unusedSimpArgs false in
set_option maxRecDepth 100000 in
set_option maxHeartbeats 8000000 in
theorem spoil_1 (B : Nat) (w : World) (g m cap : Nat) (R : List (List Value)) (h : SpI B w g m cap R) : Calls Try.prog 26 #[.agg #[.slice (some ⟨g, 0, none⟩) (m + 1) cap], .int .i64 1] w (SpPost B w) := by
  have H := hide h
  have hm7 := h.hm
  have HG := hide (h.ow.lt g rfl)
  clear h
  obtain ⟨A, hA⟩ : ∃ A, A = w.heap.size := ⟨_, rfl⟩
  have HA := hide hA
  obtain ⟨Q, hQ⟩ : ∃ Q, SpPost B w = Q := ⟨_, rfl⟩
  rw [hQ]
  have HQ := hide hQ
  clear hQ
  go_enter Try.func26, Try.ntmps26
  go_upto_region 1 with fail
  have HB := hide (be2 w (.cells #[.slice (some ⟨g, 0, none⟩) (m + 1) cap] 27) (.cells #[nilS] 27))
  have c0 : ((w.alloc (.cells #[.slice (some ⟨g, 0, none⟩) (m + 1) cap] 27)).alloc (.cells #[nilS] 27)).cell? ⟨A, 0, none⟩ = some (.slice (some ⟨g, 0, none⟩) (m + 1) cap) := by rw [hA]; simp [go_sem]
  have c1 : ((w.alloc (.cells #[.slice (some ⟨g, 0, none⟩) (m + 1) cap] 27)).alloc (.cells #[nilS] 27)).cell? ⟨A + 1, 0, none⟩ = some nilS := by rw [hA]; simp [go_sem]
  have f1 : ((w.alloc (.cells #[.slice (some ⟨g, 0, none⟩) (m + 1) cap] 27)).alloc (.cells #[nilS] 27)).frozen? ⟨A + 1, 0, none⟩ = false := by rw [hA]; simp [go_sem]
  have HE : Hid (((w.alloc (.cells #[.slice (some ⟨g, 0, none⟩) (m + 1) cap] 27)).alloc (.cells #[nilS] 27)).heap.size = A + 2) := by show _ = _; rw [hA]; simp
  have H2 := hide (H.out.below HB.out)
  rw [← hA]
  generalize (w.alloc (.cells #[.slice (some ⟨g, 0, none⟩) (m + 1) cap] 27)).alloc (.cells #[nilS] 27) = w2 at *
  have HGA : Hid (g < A) := by rw [hA]; exact HG.out.2
  clear hA
  have HPO : Hid (SpPost B w (.returned (.tuple #[.agg #[nilS], .int .i64 60])) (w2.setCell ⟨A + 1, 0, none⟩ nilS)) :=
    ⟨none, 0, 0, fun _ => default, 60, rfl, by decide, by omega, fun i hi => absurd hi (Nat.not_lt_zero _), bad_none _, (HB.out.mono H.out.hB).setCell (p := ⟨A + 1, 0, none⟩) (by have := HA.out; have := H.out.hB; show B ≤ A + 1; omega) _⟩
  rw [HQ.out] at HPO
  have k1 := c1
  go_wp2_with fail
  exact bodyPost_ret (v := .tuple #[.agg #[nilS], .int .i64 60]) (res_cell_tmp Try.results26 rfl rfl (run_loadVar_mid _ (A + 1) 0 27 [nilS] _ (range_one (World.cell?_setCell_same _ _ _ k1)) Try.underlying27 rfl (by kernel_rfl))) rfl HPO.out
set_option linter.unusedSimpArgs false in
set_option maxRecDepth 100000 in
set_option maxHeartbeats 8000000 in
theorem spoil_9 (B : Nat) (w : World) (g m cap : Nat) (R : List (List Value)) (h : SpI B w g m cap R) : Calls Try.prog 26 #[.agg #[.slice (some ⟨g, 0, none⟩) (m + 1) cap], .int .i64 9] w (SpPost B w) := by
  have H := hide h
  have hm7 := h.hm
  have HG := hide (h.ow.lt g rfl)
  clear h
  obtain ⟨A, hA⟩ : ∃ A, A = w.heap.size := ⟨_, rfl⟩
  have HA := hide hA
  obtain ⟨Q, hQ⟩ : ∃ Q, SpPost B w = Q := ⟨_, rfl⟩
  rw [hQ]
  have HQ := hide hQ
  clear hQ
  go_enter Try.func26, Try.ntmps26
  go_upto_region 1 with fail
  have HB := hide (be2 w (.cells #[.slice (some ⟨g, 0, none⟩) (m + 1) cap] 27) (.cells #[nilS] 27))
  have c0 : ((w.alloc (.cells #[.slice (some ⟨g, 0, none⟩) (m + 1) cap] 27)).alloc (.cells #[nilS] 27)).cell? ⟨A, 0, none⟩ = some (.slice (some ⟨g, 0, none⟩) (m + 1) cap) := by rw [hA]; simp [go_sem]
  have c1 : ((w.alloc (.cells #[.slice (some ⟨g, 0, none⟩) (m + 1) cap] 27)).alloc (.cells #[nilS] 27)).cell? ⟨A + 1, 0, none⟩ = some nilS := by rw [hA]; simp [go_sem]
  have f1 : ((w.alloc (.cells #[.slice (some ⟨g, 0, none⟩) (m + 1) cap] 27)).alloc (.cells #[nilS] 27)).frozen? ⟨A + 1, 0, none⟩ = false := by rw [hA]; simp [go_sem]
  have HE : Hid (((w.alloc (.cells #[.slice (some ⟨g, 0, none⟩) (m + 1) cap] 27)).alloc (.cells #[nilS] 27)).heap.size = A + 2) := by show _ = _; rw [hA]; simp
  have H2 := hide (H.out.below HB.out)
  rw [← hA]
  generalize (w.alloc (.cells #[.slice (some ⟨g, 0, none⟩) (m + 1) cap] 27)).alloc (.cells #[nilS] 27) = w2 at *
  have HGA : Hid (g < A) := by rw [hA]; exact HG.out.2
  clear hA
  obtain ⟨cc, hcc, e1, e3⟩ := (H.out.at (i := m) (by omega)).c
  have e85 := (H.out.at (i := m) (by omega)).n
  have HLn := hide (H.out.at (i := m) (by omega)).l
  have hlt : (m : Int) < (m : Int) + 1 := by omega
  have HBa : Hid (Below w2.heap.size w2 (w2.drew.alloc (.cells #[.int .u8 m] 5))) := (Below.trans (B := w2.heap.size) ((Below.refl w2.heap.size w2).drew) (be1 w2.drew (.cells #[.int .u8 m] 5)))
  have HNa := hide (newR w2.drew [.int .u8 m] 5)
  have H3 := hide (H2.out.below HBa.out)
  have a0 := cellKeep HBa.out c0
  have a1 := cellKeep HBa.out c1
  have af : (w2.drew.alloc (.cells #[.int .u8 m] 5)).frozen? ⟨A + 1, 0, none⟩ = false := by rw [World.frozen?_of_block (HBa.out.block _ (show A + 1 < _ by have := HE.out; omega))]; exact f1
  have HBb := hide (lec HB.out HBa.out)
  rw [show w2.drew.heap.size = A + 2 from HE.out] at HNa
  obtain ⟨V, hV⟩ : ∃ V, (rowF R m)[85]? = some V := ⟨_, List.getElem?_eq_getElem (by rw [HLn.out]; omega)⟩
  have cV : (w2.drew.alloc (.cells #[.int .u8 m] 5)).cell? ⟨g, m * 86 + 85, none⟩ = some V := H3.out.rg m (by omega) 85 V hV
  have fV : (w2.drew.alloc (.cells #[.int .u8 m] 5)).frozen? ⟨g, m * 86 + 85, none⟩ = false := H3.out.ow.frozenAt _
  go_upto_region 27 with fail
  have cm : w2.drew.cell? ⟨g, m * 86, none⟩ = some (.int .u8 m) := H2.out.rg m (by omega) 0 _ (H2.out.at (i := m) (by omega)).a
  have cM : (w2.drew.alloc (.cells #[.int .u8 m] 5)).cell? ⟨g, m * 86, none⟩ = some (.int .u8 m) := H3.out.rg m (by omega) 0 _ (H2.out.at (i := m) (by omega)).a
  have hz95 := Try.sizeOf95
  refine wp_region_held_drew (S := fun w' => w'.cell? ⟨A, 0, none⟩ = some (.slice (some ⟨g, 0, none⟩) (m + 1) cap) ∧ w'.cell? ⟨g, m * 86, none⟩ = some (.int .u8 m)) (by kernel_rfl) ⟨c0, cm⟩ (fun hHeld => ?_)
  refine wpAnyH_take (i := 0) (v := ?_) rfl (by kernel_rfl) (by kernel_rfl) (by kernel_rfl) (fun _ _ _ h => h) (Or.inl ⟨by rfl, ?_⟩) (by assumption) ?_
  rotate_left
  · (intro w hSw; (try dsimp only at hSw); go_simp; try (with_reducible rfl))
  try simp only [Act.put, List.getElem_toArray, List.getElem_cons_zero, List.getElem_cons_succ, List.setIfInBounds_toArray, List.set_cons_zero, List.set_cons_succ]
  refine wpAnyH_take (i := 1) (v := ?_) rfl (by kernel_rfl) (by kernel_rfl) (by kernel_rfl) (fun _ _ _ h => h) (Or.inl ⟨by rfl, ?_⟩) (by assumption) ?_
  rotate_left
  · (intro w hSw; (try dsimp only at hSw); go_simp; try (with_reducible rfl))
  try simp only [Act.put, List.getElem_toArray, List.getElem_cons_zero, List.getElem_cons_succ, List.setIfInBounds_toArray, List.set_cons_zero, List.set_cons_succ]
  refine wpAnyH_take (i := 2) (v := ?_) rfl (by kernel_rfl) (by kernel_rfl) (by kernel_rfl) (fun _ _ _ h => h) (Or.inl ⟨by rfl, ?_⟩) (by assumption) ?_
  rotate_left
  · (intro w hSw; (try dsimp only at hSw); go_simp; try (with_reducible rfl))
  try simp only [Act.put, List.getElem_toArray, List.getElem_cons_zero, List.getElem_cons_succ, List.setIfInBounds_toArray, List.set_cons_zero, List.set_cons_succ]
  refine wpAnyH_take (i := 3) (v := ?_) rfl (by kernel_rfl) (by kernel_rfl) (by kernel_rfl) (fun _ _ _ h => h) (Or.inl ⟨by rfl, ?_⟩) (by assumption) ?_
  rotate_left
  · (intro w hSw; (try dsimp only at hSw); go_simp; try (with_reducible rfl))
  try simp only [Act.put, List.getElem_toArray, List.getElem_cons_zero, List.getElem_cons_succ, List.setIfInBounds_toArray, List.set_cons_zero, List.set_cons_succ]
  refine wpAnyH_take (i := 4) (v := ?_) rfl (by kernel_rfl) (by kernel_rfl) (by kernel_rfl) (fun _ _ _ h => h) (Or.inl ⟨by rfl, ?_⟩) (by assumption) ?_
  rotate_left
  · (intro w hSw; (try dsimp only at hSw); go_simp; try (with_reducible rfl))
  try simp only [Act.put, List.getElem_toArray, List.getElem_cons_zero, List.getElem_cons_succ, List.setIfInBounds_toArray, List.set_cons_zero, List.set_cons_succ]
  refine wpAnyH_take (i := 5) (v := ?_) rfl (by kernel_rfl) (by kernel_rfl) (by kernel_rfl) (fun _ _ _ h => h) (Or.inl ⟨by rfl, ?_⟩) (by assumption) ?_
  rotate_left
  · (intro w hSw; (try dsimp only at hSw); go_simp; try (with_reducible rfl))
  try simp only [Act.put, List.getElem_toArray, List.getElem_cons_zero, List.getElem_cons_succ, List.setIfInBounds_toArray, List.set_cons_zero, List.set_cons_succ]
  refine wpAnyH_take (i := 6) (v := ?_) rfl (by kernel_rfl) (by kernel_rfl) (by kernel_rfl) (fun _ _ _ h => h) (Or.inl ⟨by rfl, ?_⟩) (by assumption) ?_
  rotate_left
  · (intro w hSw; (try dsimp only at hSw); go_simp; try (with_reducible rfl))
  try simp only [Act.put, List.getElem_toArray, List.getElem_cons_zero, List.getElem_cons_succ, List.setIfInBounds_toArray, List.set_cons_zero, List.set_cons_succ]
  refine wpAnyH_take (i := 7) (v := ?_) rfl (by kernel_rfl) (by kernel_rfl) (by kernel_rfl) (fun _ _ _ h => h) (Or.inl ⟨by rfl, ?_⟩) (by assumption) ?_
  rotate_left
  · (intro w hSw; (try dsimp only at hSw); go_simp; try (with_reducible rfl))
  try simp only [Act.put, List.getElem_toArray, List.getElem_cons_zero, List.getElem_cons_succ, List.setIfInBounds_toArray, List.set_cons_zero, List.set_cons_succ]
  refine wpAnyH_take (i := 8) (v := ?_) rfl (by kernel_rfl) (by kernel_rfl) (by kernel_rfl) (fun _ _ _ h => h) (Or.inl ⟨by rfl, ?_⟩) (by assumption) ?_
  rotate_left
  · (intro w hSw; (try dsimp only at hSw); go_simp; try (with_reducible rfl))
  try simp only [Act.put, List.getElem_toArray, List.getElem_cons_zero, List.getElem_cons_succ, List.setIfInBounds_toArray, List.set_cons_zero, List.set_cons_succ]
  refine wpAnyH_ready (rs := [9]) (by kernel_rfl) (by simp) ?_
  refine (AllReadyH.cons rfl (fun K hK => ?_) AllReadyH.nil)
  refine step_buildI rfl (.tmp 97) rfl m rfl ?_
  refine hK.out _ _ ?_ (fun hHeld => ?_)
  · exact ⟨a0, cM⟩
  clear hK K
  try simp only [Act.put, List.getElem_toArray, List.getElem_cons_zero, List.getElem_cons_succ, List.setIfInBounds_toArray, List.set_cons_zero, List.set_cons_succ]
  generalize w2.drew.alloc (.cells #[.int .u8 m] 5) = w4 at *
  refine wpAnyH_take (i := 10) (v := ?_) rfl (by kernel_rfl) (by kernel_rfl) (by kernel_rfl) (fun _ _ _ h => h) (Or.inl ⟨by rfl, ?_⟩) (by assumption) ?_
  rotate_left
  · (intro w hSw; (try dsimp only at hSw); go_simp; try (with_reducible rfl))
  try simp only [Act.put, List.getElem_toArray, List.getElem_cons_zero, List.getElem_cons_succ, List.setIfInBounds_toArray, List.set_cons_zero, List.set_cons_succ]
  refine wpAnyH_take (i := 11) (v := ?_) rfl (by kernel_rfl) (by kernel_rfl) (by kernel_rfl) (fun _ _ _ h => h) (Or.inl ⟨by rfl, ?_⟩) (by assumption) ?_
  rotate_left
  · (intro w hSw; (try dsimp only at hSw); go_simp; try (with_reducible rfl))
  try simp only [Act.put, List.getElem_toArray, List.getElem_cons_zero, List.getElem_cons_succ, List.setIfInBounds_toArray, List.set_cons_zero, List.set_cons_succ]
  refine wpAnyH_ready (rs := [12]) (by kernel_rfl) (by simp) ?_
  refine (AllReadyH.cons rfl (fun K hK => ?_) AllReadyH.nil)
  go_simp
  refine hK.out _ _ ?_ (fun hHeld => ?_)
  · exact ⟨by rw [set_cell_ne _ _ _ _ _ _ (by have := HGA.out; omega)]; exact a0, by rw [World.cell?_setCell_other _ _ _ _ (by simp)]; exact cM⟩
  clear hK K
  try simp only [Act.put, List.getElem_toArray, List.getElem_cons_zero, List.getElem_cons_succ, List.setIfInBounds_toArray, List.set_cons_zero, List.set_cons_succ]
  refine wpAnyH_done (by kernel_rfl) ?_ _
  clear hHeld hz95
  go_upto_region 28 with fail
  rw [HE.out]
  have k0 : (w4.setCell ⟨g, m * 86 + 85, none⟩ (.slice (some ⟨A + 2, 0, none⟩) 1 1)).cell? ⟨A, 0, none⟩ = some (.slice (some ⟨g, 0, none⟩) (m + 1) cap) := by rw [set_cell_ne _ _ _ _ _ _ (by have := HGA.out; omega)]; exact a0
  have k1 : (w4.setCell ⟨g, m * 86 + 85, none⟩ (.slice (some ⟨A + 2, 0, none⟩) 1 1)).cell? ⟨A + 1, 0, none⟩ = some nilS := by rw [set_cell_ne _ _ _ _ _ _ (by have := HGA.out; omega)]; exact a1
  have k2 : (w4.setCell ⟨g, m * 86 + 85, none⟩ (.slice (some ⟨A + 2, 0, none⟩) 1 1)).frozen? ⟨A + 1, 0, none⟩ = false := by rw [set_frozen]; exact af
  have HLK : Hid (LegOk ((w4.setCell ⟨g, m * 86 + 85, none⟩ (.slice (some ⟨A + 2, 0, none⟩) 1 1)).setCell ⟨A + 1, 0, none⟩ (.slice (some ⟨g, 0, none⟩) (m + 1) cap)) (lasL R m 85 (.slice (some ⟨A + 2, 0, none⟩) 1 1) cc cc (some ⟨A + 2, 0, none⟩) 1 1 (fun _ => (m : Int)))) :=
    las_ok H.out (by omega) (by rw [List.getElem?_set_ne (by omega)]; exact e1) (by rw [List.getElem?_set_ne (by omega)]; exact e3) (by rw [List.getElem?_set_self (by rw [HLn.out]; omega)]) (by omega) (by omega) (by omega) (fun k hk => ⟨A + 2, 0, rfl, by
      have hne : A + 2 ≠ g := by have := HGA.out; omega
      rw [set_cell_ne _ _ _ _ _ _ (by omega), set_cell_ne _ _ _ _ _ _ hne]
      exact HNa.out k _ (by match k, hk with
      | 0, _ => rfl), by show (0 : Int) ≤ m ∧ (m : Int) < 256; omega⟩)
  have HCD : Hid (ordCode (m + 1) (lastL R m (lasL R m 85 (.slice (some ⟨A + 2, 0, none⟩) 1 1) cc cc (some ⟨A + 2, 0, none⟩) 1 1 (fun _ => (m : Int)))) = 67) := by
    refine bad_self (by omega) (fun i hi => ?_) (lastL_id H.out _ (las_id H.out (by omega) _)) (fun i hi => ?_) (by rw [lastL_m]; rfl) (by rw [lastL_m]; rfl)
    · by_cases e : i = m
      · subst e; rw [lastL_m, las_nn hcc]; rfl
      · exact lastL_code H.out _ i (by omega)
    · unfold lastL; rw [if_neg (by omega)]; rfl
  have HPO := hide (SpI.fin H.out H3.out HBb.out HA.out (j := 85) (by omega) (l := lasL R m 85 (.slice (some ⟨A + 2, 0, none⟩) 1 1) cc cc (some ⟨A + 2, 0, none⟩) 1 1 (fun _ => (m : Int))) rfl HLK.out HCD.out (by decide))
  rw [HQ.out] at HPO
  generalize w4.setCell ⟨g, m * 86 + 85, none⟩ (.slice (some ⟨A + 2, 0, none⟩) 1 1) = w3 at *
  go_wp2_with fail
  exact bodyPost_ret (v := .tuple #[.agg #[.slice (some ⟨g, 0, none⟩) (m + 1) cap], .int .i64 67]) (res_cell_tmp Try.results26 rfl rfl (run_loadVar_mid _ (A + 1) 0 27 [.slice (some ⟨g, 0, none⟩) (m + 1) cap] _ (range_one (World.cell?_setCell_same _ _ _ k1)) Try.underlying27 rfl (by kernel_rfl))) rfl HPO.out
set_option linter.unusedSimpArgs false in
set_option maxRecDepth 100000 in
set_option maxHeartbeats 8000000 in
theorem spoil_4 (B : Nat) (w : World) (g m cap : Nat) (R : List (List Value)) (h : SpI B w g m cap R) : Calls Try.prog 26 #[.agg #[.slice (some ⟨g, 0, none⟩) (m + 1) cap], .int .i64 4] w (SpPost B w) := by
  have H := hide h
  have hm7 := h.hm
  have HG := hide (h.ow.lt g rfl)
  clear h
  obtain ⟨A, hA⟩ : ∃ A, A = w.heap.size := ⟨_, rfl⟩
  have HA := hide hA
  obtain ⟨Q, hQ⟩ : ∃ Q, SpPost B w = Q := ⟨_, rfl⟩
  rw [hQ]
  have HQ := hide hQ
  clear hQ
  go_enter Try.func26, Try.ntmps26
  go_upto_region 1 with fail
  have HB := hide (be2 w (.cells #[.slice (some ⟨g, 0, none⟩) (m + 1) cap] 27) (.cells #[nilS] 27))
  have c0 : ((w.alloc (.cells #[.slice (some ⟨g, 0, none⟩) (m + 1) cap] 27)).alloc (.cells #[nilS] 27)).cell? ⟨A, 0, none⟩ = some (.slice (some ⟨g, 0, none⟩) (m + 1) cap) := by rw [hA]; simp [go_sem]
  have c1 : ((w.alloc (.cells #[.slice (some ⟨g, 0, none⟩) (m + 1) cap] 27)).alloc (.cells #[nilS] 27)).cell? ⟨A + 1, 0, none⟩ = some nilS := by rw [hA]; simp [go_sem]
  have f1 : ((w.alloc (.cells #[.slice (some ⟨g, 0, none⟩) (m + 1) cap] 27)).alloc (.cells #[nilS] 27)).frozen? ⟨A + 1, 0, none⟩ = false := by rw [hA]; simp [go_sem]
  have f0 : ((w.alloc (.cells #[.slice (some ⟨g, 0, none⟩) (m + 1) cap] 27)).alloc (.cells #[nilS] 27)).frozen? ⟨A, 0, none⟩ = false := by rw [hA]; simp [go_sem]
  have HE : Hid (((w.alloc (.cells #[.slice (some ⟨g, 0, none⟩) (m + 1) cap] 27)).alloc (.cells #[nilS] 27)).heap.size = A + 2) := by show _ = _; rw [hA]; simp
  have H2 := hide (H.out.below HB.out)
  rw [← hA]
  generalize (w.alloc (.cells #[.slice (some ⟨g, 0, none⟩) (m + 1) cap] 27)).alloc (.cells #[nilS] 27) = w2 at *
  have HGA : Hid (g < A) := by rw [hA]; exact HG.out.2
  clear hA
  obtain ⟨i9, hi9, hz9, hy9, hb9⟩ := info_parts Try.inf95
  have HI := hide (show Try.prog.info? 95 = some i9 ∧ i9.zero = some (.agg Try.zeroCells95) ∧ i9.size = 86 ∧ i9.bytes = 184 from ⟨hi9, hz9, hy9, hb9⟩)
  clear hi9 hz9 hy9 hb9
  have HL := hide (H.out.toL H2.out HB.out HA.out c0 f0 c1 f1 HE.out)
  obtain ⟨U, hU⟩ : ∃ U, rowF R 0 = U := ⟨_, rfl⟩
  have HUW := hide (H.out.at (i := 0) (by omega))
  have HUR := hide (H2.out.rg 0 (by omega))
  rw [hU] at HUW HUR
  rw [Nat.zero_mul] at HUR
  have HUl := hide HUW.out.l
  have HUo := hide HUW.out.o
  have HPU := hide (HUW.out.pl (by omega))
  have HCD : Hid (ordCode (m + 1 + 1) (fun i => lg (rowF (R ++ [U]) i)) = 65) := by
    have hpl : ∀ i, i < m + 2 → PL (rowF (R ++ [U]) i) := fun i hi => by
      by_cases e : i < m + 1
      · have : rowF (R ++ [U]) i = rowF R i := by unfold rowF; rw [List.getElem?_append_left (by rw [H.out.hl]; exact e)]
        rw [this]; exact (H.out.at e).pl (by omega)
      · have : rowF (R ++ [U]) i = U := by unfold rowF; rw [List.getElem?_append_right (by rw [H.out.hl]; omega), show i - R.length = 0 by rw [H.out.hl]; omega]; rfl
        rw [this]; exact HPU.out
    refine bad_dup (by omega) (fun i hi => (hpl i hi).code) (i := 0) (j := m + 1) (by omega) (by omega) ?_
    show num (rowF (R ++ [U]) 0)[0]? = num (rowF (R ++ [U]) (m + 1))[0]?
    have e1 : rowF (R ++ [U]) 0 = U := by rw [← hU]; unfold rowF; rw [List.getElem?_append_left (by rw [H.out.hl]; omega)]
    have e2 : rowF (R ++ [U]) (m + 1) = U := by unfold rowF; rw [List.getElem?_append_right (by rw [H.out.hl]; omega), show m + 1 - R.length = 0 by rw [H.out.hl]; omega]; rfl
    rw [e1, e2]
  have hz95 := Try.sizeOf95
  have hm0 : (0 : Int) < (m : Int) + 1 := by omega
  go_upto_region 13 with fail
  refine wp_region_held_drew (S := fun _ => True) (by kernel_rfl) trivial (fun hHeld => ?_)
  refine wpAnyH_take (i := 0) (v := ?_) rfl (by kernel_rfl) (by kernel_rfl) (by kernel_rfl) (fun _ _ _ h => h) (Or.inl ⟨by rfl, ?_⟩) (by assumption) ?_
  rotate_left
  · (intro w hSw; (try dsimp only at hSw); go_simp; try (with_reducible rfl))
  try simp only [Act.put, List.getElem_toArray, List.getElem_cons_zero, List.getElem_cons_succ, List.setIfInBounds_toArray, List.set_cons_zero, List.set_cons_succ]
  refine wpAnyH_take (i := 2) (v := ?_) rfl (by kernel_rfl) (by kernel_rfl) (by kernel_rfl) (fun _ _ _ h => h) (Or.inl ⟨by rfl, ?_⟩) (by assumption) ?_
  rotate_left
  · (intro w hSw; (try dsimp only at hSw); go_simp; try (with_reducible rfl))
  try simp only [Act.put, List.getElem_toArray, List.getElem_cons_zero, List.getElem_cons_succ, List.setIfInBounds_toArray, List.set_cons_zero, List.set_cons_succ]
  refine wpAnyH_ready (rs := [1, 3]) (by kernel_rfl) (by simp) ?_
  refine (AllReadyH.cons rfl (fun K hK => ?_) (AllReadyH.cons rfl (fun K hK => ?_) AllReadyH.nil))
  · go_simp
    refine hK.out _ _ ?_ (fun hHeld => ?_)
    · trivial
    clear hK K
    try simp only [Act.put, List.getElem_toArray, List.getElem_cons_zero, List.getElem_cons_succ, List.setIfInBounds_toArray, List.set_cons_zero, List.set_cons_succ]
    refine wpAnyH_ready (rs := [3]) (by kernel_rfl) (by simp) ?_
    refine (AllReadyH.cons rfl (fun K hK => ?_) AllReadyH.nil)
    go_simp
    refine hK.out _ _ ?_ (fun hHeld => ?_)
    · trivial
    clear hK K
    try simp only [Act.put, List.getElem_toArray, List.getElem_cons_zero, List.getElem_cons_succ, List.setIfInBounds_toArray, List.set_cons_zero, List.set_cons_succ]
    refine wpAnyH_take (i := 4) (v := ?_) rfl (by kernel_rfl) (by kernel_rfl) (by kernel_rfl) (fun _ _ _ h => h) (Or.inl ⟨by rfl, ?_⟩) (by assumption) ?_
    rotate_left
    · (intro w hSw; (try dsimp only at hSw); go_simp; try (with_reducible rfl))
    try simp only [Act.put, List.getElem_toArray, List.getElem_cons_zero, List.getElem_cons_succ, List.setIfInBounds_toArray, List.set_cons_zero, List.set_cons_succ]
    refine wpAnyH_ready (rs := [5]) (by kernel_rfl) (by simp) ?_
    refine (AllReadyH.cons rfl (fun K hK => ?_) AllReadyH.nil)
    refine step_loadM rfl 95 (.tmp 49) rfl g 0 rfl U _ HUR.out Try.underlying95 rfl (by rw [HUl.out]; exact Try.sz95) ?_
    refine hK.out _ _ ?_ (fun hHeld => ?_)
    · trivial
    clear hK K
    try simp only [Act.put, List.getElem_toArray, List.getElem_cons_zero, List.getElem_cons_succ, List.setIfInBounds_toArray, List.set_cons_zero, List.set_cons_succ]
    refine wpAnyH_ready (rs := [6]) (by kernel_rfl) (by simp) ?_
    refine (AllReadyH.cons rfl (fun K hK => ?_) AllReadyH.nil)
    refine step_buildS rfl 25 95 (.tmp 50) rfl U rfl i9 _ 86 184 Try.underlying25 HI.out.1 HI.out.2.1 HI.out.2.2.1 HI.out.2.2.2 HUl.out (by decide) (by decide) ?_
    have b4 := (Below.trans (B := w2.heap.size) ((Below.refl w2.heap.size w2).drew) (be1 w2.drew (.cells U.toArray 95)))
    have HL4 := hide (HL.out.below b4)
    have HNW := hide (newR w2.drew U 95)
    rw [show w2.drew.heap.size = A + 2 from HE.out] at HNW ⊢
    have HS4 : Hid ((w2.drew.alloc (.cells U.toArray 95)).heap.size = A + 3) := (by show _ = _; simp [HE.out])
    clear b4
    refine hK.out _ _ ?_ (fun hHeld => ?_)
    · trivial
    clear hK K
    try simp only [Act.put, List.getElem_toArray, List.getElem_cons_zero, List.getElem_cons_succ, List.setIfInBounds_toArray, List.set_cons_zero, List.set_cons_succ]
    generalize w2.drew.alloc (.cells U.toArray 95) = w4 at *
    have c4 := HL4.out.c0
    refine wpAnyH_ready (rs := [7]) (by kernel_rfl) (by simp) ?_
    refine (AllReadyH.cons rfl (fun K hK => ?_) AllReadyH.nil)
    refine step_append_lies _ rfl (.tmp 46) (.tmp 51) 25 rfl B 95 i9 _ 86 184 Try.underlying25 HI.out.1 HI.out.2.1 HI.out.2.2.1 HI.out.2.2.2 Try.zs95 (by decide) (.slice (some ⟨g, 0, none⟩) (m + 1) cap) (m + 1) R.flatten rfl HL4.out.ow ⟨A + 2, 0, none⟩ 1 1 U rfl (by rw [HUl.out]) (fun j u hj => by rw [Addr.add_mid]; exact HNW.out j u hj) HUo.out (by decide) (by unfold maxLen; omega) (by omega) (by have := HL4.out.bA; have := HL4.out.sz; omega) (A + 3) HS4.out ?_
    intro g2 cap2 w5 hown hgrow hat hlt2
    have HL5 := hide (HL4.out.grow HPU.out hown hgrow (by rcases hat with z | z; exact .inl (by simpa [Value.ownBlock] using z); right; rw [z, HS4.out]; exact Nat.le_refl _))
    have c5 : w5.cell? ⟨A, 0, none⟩ = some (.slice (some ⟨g, 0, none⟩) (m + 1) cap) := (by rw [World.cell?_of_block (hgrow.block A (by have := HS4.out; omega) (fun e => HL4.out.gA.1 (by injection e with e; exact e.symm)))]; exact HL4.out.c0)
    have f5 : w5.frozen? ⟨A, 0, none⟩ = false := (by rw [World.frozen?_of_block (hgrow.block A (by have := HS4.out; omega) (fun e => HL4.out.gA.1 (by injection e with e; exact e.symm)))]; exact HL4.out.f0)
    clear hown hgrow hat hlt2
    refine hK.out _ _ ?_ (fun hHeld => ?_)
    · trivial
    clear hK K
    try simp only [Act.put, List.getElem_toArray, List.getElem_cons_zero, List.getElem_cons_succ, List.setIfInBounds_toArray, List.set_cons_zero, List.set_cons_succ]
    refine wpAnyH_take (i := 8) (v := ?_) rfl (by kernel_rfl) (by kernel_rfl) (by kernel_rfl) (fun _ _ _ h => h) (Or.inl ⟨by rfl, ?_⟩) (by assumption) ?_
    rotate_left
    · (intro w hSw; (try dsimp only at hSw); go_simp; try (with_reducible rfl))
    try simp only [Act.put, List.getElem_toArray, List.getElem_cons_zero, List.getElem_cons_succ, List.setIfInBounds_toArray, List.set_cons_zero, List.set_cons_succ]
    refine wpAnyH_ready (rs := [9]) (by kernel_rfl) (by simp) ?_
    refine (AllReadyH.cons rfl (fun K hK => ?_) AllReadyH.nil)
    go_simp
    refine hK.out _ _ ?_ (fun hHeld => ?_)
    · trivial
    clear hK K
    try simp only [Act.put, List.getElem_toArray, List.getElem_cons_zero, List.getElem_cons_succ, List.setIfInBounds_toArray, List.set_cons_zero, List.set_cons_succ]
    refine wpAnyH_done (by kernel_rfl) ?_ _
    clear hHeld hz95 c5 f5
    have HPO := hide (HL5.out.fin (by omega) (by decide) HCD.out)
    rw [HQ.out] at HPO
    have k0 := HL5.out.c0
    have k1 := HL5.out.c1
    have k2 := HL5.out.f1
    generalize w5.setCell ⟨A, 0, none⟩ (.slice (some ⟨g2, 0, none⟩) (m + 1 + 1) cap2) = w6 at *
    go_wp2_with fail
    exact bodyPost_ret (v := .tuple #[.agg #[.slice (some ⟨g2, 0, none⟩) (m + 1 + 1) cap2], .int .i64 65]) (res_cell_tmp Try.results26 rfl rfl (run_loadVar_mid _ (A + 1) 0 27 [.slice (some ⟨g2, 0, none⟩) (m + 1 + 1) cap2] _ (range_one (World.cell?_setCell_same _ _ _ k1)) Try.underlying27 rfl (by kernel_rfl))) rfl HPO.out
  · go_simp
    refine hK.out _ _ ?_ (fun hHeld => ?_)
    · trivial
    clear hK K
    try simp only [Act.put, List.getElem_toArray, List.getElem_cons_zero, List.getElem_cons_succ, List.setIfInBounds_toArray, List.set_cons_zero, List.set_cons_succ]
    refine wpAnyH_take (i := 4) (v := ?_) rfl (by kernel_rfl) (by kernel_rfl) (by kernel_rfl) (fun _ _ _ h => h) (Or.inl ⟨by rfl, ?_⟩) (by assumption) ?_
    rotate_left
    · (intro w hSw; (try dsimp only at hSw); go_simp; try (with_reducible rfl))
    try simp only [Act.put, List.getElem_toArray, List.getElem_cons_zero, List.getElem_cons_succ, List.setIfInBounds_toArray, List.set_cons_zero, List.set_cons_succ]
    refine wpAnyH_ready (rs := [1, 5]) (by kernel_rfl) (by simp) ?_
    refine (AllReadyH.cons rfl (fun K hK => ?_) (AllReadyH.cons rfl (fun K hK => ?_) AllReadyH.nil))
    · go_simp
      refine hK.out _ _ ?_ (fun hHeld => ?_)
      · trivial
      clear hK K
      try simp only [Act.put, List.getElem_toArray, List.getElem_cons_zero, List.getElem_cons_succ, List.setIfInBounds_toArray, List.set_cons_zero, List.set_cons_succ]
      refine wpAnyH_ready (rs := [5]) (by kernel_rfl) (by simp) ?_
      refine (AllReadyH.cons rfl (fun K hK => ?_) AllReadyH.nil)
      refine step_loadM rfl 95 (.tmp 49) rfl g 0 rfl U _ HUR.out Try.underlying95 rfl (by rw [HUl.out]; exact Try.sz95) ?_
      refine hK.out _ _ ?_ (fun hHeld => ?_)
      · trivial
      clear hK K
      try simp only [Act.put, List.getElem_toArray, List.getElem_cons_zero, List.getElem_cons_succ, List.setIfInBounds_toArray, List.set_cons_zero, List.set_cons_succ]
      refine wpAnyH_ready (rs := [6]) (by kernel_rfl) (by simp) ?_
      refine (AllReadyH.cons rfl (fun K hK => ?_) AllReadyH.nil)
      refine step_buildS rfl 25 95 (.tmp 50) rfl U rfl i9 _ 86 184 Try.underlying25 HI.out.1 HI.out.2.1 HI.out.2.2.1 HI.out.2.2.2 HUl.out (by decide) (by decide) ?_
      have b4 := (Below.trans (B := w2.heap.size) ((Below.refl w2.heap.size w2).drew) (be1 w2.drew (.cells U.toArray 95)))
      have HL4 := hide (HL.out.below b4)
      have HNW := hide (newR w2.drew U 95)
      rw [show w2.drew.heap.size = A + 2 from HE.out] at HNW ⊢
      have HS4 : Hid ((w2.drew.alloc (.cells U.toArray 95)).heap.size = A + 3) := (by show _ = _; simp [HE.out])
      clear b4
      refine hK.out _ _ ?_ (fun hHeld => ?_)
      · trivial
      clear hK K
      try simp only [Act.put, List.getElem_toArray, List.getElem_cons_zero, List.getElem_cons_succ, List.setIfInBounds_toArray, List.set_cons_zero, List.set_cons_succ]
      generalize w2.drew.alloc (.cells U.toArray 95) = w4 at *
      have c4 := HL4.out.c0
      refine wpAnyH_ready (rs := [7]) (by kernel_rfl) (by simp) ?_
      refine (AllReadyH.cons rfl (fun K hK => ?_) AllReadyH.nil)
      refine step_append_lies _ rfl (.tmp 46) (.tmp 51) 25 rfl B 95 i9 _ 86 184 Try.underlying25 HI.out.1 HI.out.2.1 HI.out.2.2.1 HI.out.2.2.2 Try.zs95 (by decide) (.slice (some ⟨g, 0, none⟩) (m + 1) cap) (m + 1) R.flatten rfl HL4.out.ow ⟨A + 2, 0, none⟩ 1 1 U rfl (by rw [HUl.out]) (fun j u hj => by rw [Addr.add_mid]; exact HNW.out j u hj) HUo.out (by decide) (by unfold maxLen; omega) (by omega) (by have := HL4.out.bA; have := HL4.out.sz; omega) (A + 3) HS4.out ?_
      intro g2 cap2 w5 hown hgrow hat hlt2
      have HL5 := hide (HL4.out.grow HPU.out hown hgrow (by rcases hat with z | z; exact .inl (by simpa [Value.ownBlock] using z); right; rw [z, HS4.out]; exact Nat.le_refl _))
      have c5 : w5.cell? ⟨A, 0, none⟩ = some (.slice (some ⟨g, 0, none⟩) (m + 1) cap) := (by rw [World.cell?_of_block (hgrow.block A (by have := HS4.out; omega) (fun e => HL4.out.gA.1 (by injection e with e; exact e.symm)))]; exact HL4.out.c0)
      have f5 : w5.frozen? ⟨A, 0, none⟩ = false := (by rw [World.frozen?_of_block (hgrow.block A (by have := HS4.out; omega) (fun e => HL4.out.gA.1 (by injection e with e; exact e.symm)))]; exact HL4.out.f0)
      clear hown hgrow hat hlt2
      refine hK.out _ _ ?_ (fun hHeld => ?_)
      · trivial
      clear hK K
      try simp only [Act.put, List.getElem_toArray, List.getElem_cons_zero, List.getElem_cons_succ, List.setIfInBounds_toArray, List.set_cons_zero, List.set_cons_succ]
      refine wpAnyH_take (i := 8) (v := ?_) rfl (by kernel_rfl) (by kernel_rfl) (by kernel_rfl) (fun _ _ _ h => h) (Or.inl ⟨by rfl, ?_⟩) (by assumption) ?_
      rotate_left
      · (intro w hSw; (try dsimp only at hSw); go_simp; try (with_reducible rfl))
      try simp only [Act.put, List.getElem_toArray, List.getElem_cons_zero, List.getElem_cons_succ, List.setIfInBounds_toArray, List.set_cons_zero, List.set_cons_succ]
      refine wpAnyH_ready (rs := [9]) (by kernel_rfl) (by simp) ?_
      refine (AllReadyH.cons rfl (fun K hK => ?_) AllReadyH.nil)
      go_simp
      refine hK.out _ _ ?_ (fun hHeld => ?_)
      · trivial
      clear hK K
      try simp only [Act.put, List.getElem_toArray, List.getElem_cons_zero, List.getElem_cons_succ, List.setIfInBounds_toArray, List.set_cons_zero, List.set_cons_succ]
      refine wpAnyH_done (by kernel_rfl) ?_ _
      clear hHeld hz95 c5 f5
      have HPO := hide (HL5.out.fin (by omega) (by decide) HCD.out)
      rw [HQ.out] at HPO
      have k0 := HL5.out.c0
      have k1 := HL5.out.c1
      have k2 := HL5.out.f1
      generalize w5.setCell ⟨A, 0, none⟩ (.slice (some ⟨g2, 0, none⟩) (m + 1 + 1) cap2) = w6 at *
      go_wp2_with fail
      exact bodyPost_ret (v := .tuple #[.agg #[.slice (some ⟨g2, 0, none⟩) (m + 1 + 1) cap2], .int .i64 65]) (res_cell_tmp Try.results26 rfl rfl (run_loadVar_mid _ (A + 1) 0 27 [.slice (some ⟨g2, 0, none⟩) (m + 1 + 1) cap2] _ (range_one (World.cell?_setCell_same _ _ _ k1)) Try.underlying27 rfl (by kernel_rfl))) rfl HPO.out
    · refine step_loadM rfl 95 (.tmp 49) rfl g 0 rfl U _ HUR.out Try.underlying95 rfl (by rw [HUl.out]; exact Try.sz95) ?_
      refine hK.out _ _ ?_ (fun hHeld => ?_)
      · trivial
      clear hK K
      try simp only [Act.put, List.getElem_toArray, List.getElem_cons_zero, List.getElem_cons_succ, List.setIfInBounds_toArray, List.set_cons_zero, List.set_cons_succ]
      refine wpAnyH_ready (rs := [1, 6]) (by kernel_rfl) (by simp) ?_
      refine (AllReadyH.cons rfl (fun K hK => ?_) (AllReadyH.cons rfl (fun K hK => ?_) AllReadyH.nil))
      · go_simp
        refine hK.out _ _ ?_ (fun hHeld => ?_)
        · trivial
        clear hK K
        try simp only [Act.put, List.getElem_toArray, List.getElem_cons_zero, List.getElem_cons_succ, List.setIfInBounds_toArray, List.set_cons_zero, List.set_cons_succ]
        refine wpAnyH_ready (rs := [6]) (by kernel_rfl) (by simp) ?_
        refine (AllReadyH.cons rfl (fun K hK => ?_) AllReadyH.nil)
        refine step_buildS rfl 25 95 (.tmp 50) rfl U rfl i9 _ 86 184 Try.underlying25 HI.out.1 HI.out.2.1 HI.out.2.2.1 HI.out.2.2.2 HUl.out (by decide) (by decide) ?_
        have b4 := (Below.trans (B := w2.heap.size) ((Below.refl w2.heap.size w2).drew) (be1 w2.drew (.cells U.toArray 95)))
        have HL4 := hide (HL.out.below b4)
        have HNW := hide (newR w2.drew U 95)
        rw [show w2.drew.heap.size = A + 2 from HE.out] at HNW ⊢
        have HS4 : Hid ((w2.drew.alloc (.cells U.toArray 95)).heap.size = A + 3) := (by show _ = _; simp [HE.out])
        clear b4
        refine hK.out _ _ ?_ (fun hHeld => ?_)
        · trivial
        clear hK K
        try simp only [Act.put, List.getElem_toArray, List.getElem_cons_zero, List.getElem_cons_succ, List.setIfInBounds_toArray, List.set_cons_zero, List.set_cons_succ]
        generalize w2.drew.alloc (.cells U.toArray 95) = w4 at *
        have c4 := HL4.out.c0
        refine wpAnyH_ready (rs := [7]) (by kernel_rfl) (by simp) ?_
        refine (AllReadyH.cons rfl (fun K hK => ?_) AllReadyH.nil)
        refine step_append_lies _ rfl (.tmp 46) (.tmp 51) 25 rfl B 95 i9 _ 86 184 Try.underlying25 HI.out.1 HI.out.2.1 HI.out.2.2.1 HI.out.2.2.2 Try.zs95 (by decide) (.slice (some ⟨g, 0, none⟩) (m + 1) cap) (m + 1) R.flatten rfl HL4.out.ow ⟨A + 2, 0, none⟩ 1 1 U rfl (by rw [HUl.out]) (fun j u hj => by rw [Addr.add_mid]; exact HNW.out j u hj) HUo.out (by decide) (by unfold maxLen; omega) (by omega) (by have := HL4.out.bA; have := HL4.out.sz; omega) (A + 3) HS4.out ?_
        intro g2 cap2 w5 hown hgrow hat hlt2
        have HL5 := hide (HL4.out.grow HPU.out hown hgrow (by rcases hat with z | z; exact .inl (by simpa [Value.ownBlock] using z); right; rw [z, HS4.out]; exact Nat.le_refl _))
        have c5 : w5.cell? ⟨A, 0, none⟩ = some (.slice (some ⟨g, 0, none⟩) (m + 1) cap) := (by rw [World.cell?_of_block (hgrow.block A (by have := HS4.out; omega) (fun e => HL4.out.gA.1 (by injection e with e; exact e.symm)))]; exact HL4.out.c0)
        have f5 : w5.frozen? ⟨A, 0, none⟩ = false := (by rw [World.frozen?_of_block (hgrow.block A (by have := HS4.out; omega) (fun e => HL4.out.gA.1 (by injection e with e; exact e.symm)))]; exact HL4.out.f0)
        clear hown hgrow hat hlt2
        refine hK.out _ _ ?_ (fun hHeld => ?_)
        · trivial
        clear hK K
        try simp only [Act.put, List.getElem_toArray, List.getElem_cons_zero, List.getElem_cons_succ, List.setIfInBounds_toArray, List.set_cons_zero, List.set_cons_succ]
        refine wpAnyH_take (i := 8) (v := ?_) rfl (by kernel_rfl) (by kernel_rfl) (by kernel_rfl) (fun _ _ _ h => h) (Or.inl ⟨by rfl, ?_⟩) (by assumption) ?_
        rotate_left
        · (intro w hSw; (try dsimp only at hSw); go_simp; try (with_reducible rfl))
        try simp only [Act.put, List.getElem_toArray, List.getElem_cons_zero, List.getElem_cons_succ, List.setIfInBounds_toArray, List.set_cons_zero, List.set_cons_succ]
        refine wpAnyH_ready (rs := [9]) (by kernel_rfl) (by simp) ?_
        refine (AllReadyH.cons rfl (fun K hK => ?_) AllReadyH.nil)
        go_simp
        refine hK.out _ _ ?_ (fun hHeld => ?_)
        · trivial
        clear hK K
        try simp only [Act.put, List.getElem_toArray, List.getElem_cons_zero, List.getElem_cons_succ, List.setIfInBounds_toArray, List.set_cons_zero, List.set_cons_succ]
        refine wpAnyH_done (by kernel_rfl) ?_ _
        clear hHeld hz95 c5 f5
        have HPO := hide (HL5.out.fin (by omega) (by decide) HCD.out)
        rw [HQ.out] at HPO
        have k0 := HL5.out.c0
        have k1 := HL5.out.c1
        have k2 := HL5.out.f1
        generalize w5.setCell ⟨A, 0, none⟩ (.slice (some ⟨g2, 0, none⟩) (m + 1 + 1) cap2) = w6 at *
        go_wp2_with fail
        exact bodyPost_ret (v := .tuple #[.agg #[.slice (some ⟨g2, 0, none⟩) (m + 1 + 1) cap2], .int .i64 65]) (res_cell_tmp Try.results26 rfl rfl (run_loadVar_mid _ (A + 1) 0 27 [.slice (some ⟨g2, 0, none⟩) (m + 1 + 1) cap2] _ (range_one (World.cell?_setCell_same _ _ _ k1)) Try.underlying27 rfl (by kernel_rfl))) rfl HPO.out
      · refine step_buildS rfl 25 95 (.tmp 50) rfl U rfl i9 _ 86 184 Try.underlying25 HI.out.1 HI.out.2.1 HI.out.2.2.1 HI.out.2.2.2 HUl.out (by decide) (by decide) ?_
        have b4 := (Below.trans (B := w2.heap.size) ((Below.refl w2.heap.size w2).drew) (be1 w2.drew (.cells U.toArray 95)))
        have HL4 := hide (HL.out.below b4)
        have HNW := hide (newR w2.drew U 95)
        rw [show w2.drew.heap.size = A + 2 from HE.out] at HNW ⊢
        have HS4 : Hid ((w2.drew.alloc (.cells U.toArray 95)).heap.size = A + 3) := (by show _ = _; simp [HE.out])
        clear b4
        refine hK.out _ _ ?_ (fun hHeld => ?_)
        · trivial
        clear hK K
        try simp only [Act.put, List.getElem_toArray, List.getElem_cons_zero, List.getElem_cons_succ, List.setIfInBounds_toArray, List.set_cons_zero, List.set_cons_succ]
        generalize w2.drew.alloc (.cells U.toArray 95) = w4 at *
        have c4 := HL4.out.c0
        refine wpAnyH_ready (rs := [1]) (by kernel_rfl) (by simp) ?_
        refine (AllReadyH.cons rfl (fun K hK => ?_) AllReadyH.nil)
        go_simp
        refine hK.out _ _ ?_ (fun hHeld => ?_)
        · trivial
        clear hK K
        try simp only [Act.put, List.getElem_toArray, List.getElem_cons_zero, List.getElem_cons_succ, List.setIfInBounds_toArray, List.set_cons_zero, List.set_cons_succ]
        refine wpAnyH_ready (rs := [7]) (by kernel_rfl) (by simp) ?_
        refine (AllReadyH.cons rfl (fun K hK => ?_) AllReadyH.nil)
        refine step_append_lies _ rfl (.tmp 46) (.tmp 51) 25 rfl B 95 i9 _ 86 184 Try.underlying25 HI.out.1 HI.out.2.1 HI.out.2.2.1 HI.out.2.2.2 Try.zs95 (by decide) (.slice (some ⟨g, 0, none⟩) (m + 1) cap) (m + 1) R.flatten rfl HL4.out.ow ⟨A + 2, 0, none⟩ 1 1 U rfl (by rw [HUl.out]) (fun j u hj => by rw [Addr.add_mid]; exact HNW.out j u hj) HUo.out (by decide) (by unfold maxLen; omega) (by omega) (by have := HL4.out.bA; have := HL4.out.sz; omega) (A + 3) HS4.out ?_
        intro g2 cap2 w5 hown hgrow hat hlt2
        have HL5 := hide (HL4.out.grow HPU.out hown hgrow (by rcases hat with z | z; exact .inl (by simpa [Value.ownBlock] using z); right; rw [z, HS4.out]; exact Nat.le_refl _))
        have c5 : w5.cell? ⟨A, 0, none⟩ = some (.slice (some ⟨g, 0, none⟩) (m + 1) cap) := (by rw [World.cell?_of_block (hgrow.block A (by have := HS4.out; omega) (fun e => HL4.out.gA.1 (by injection e with e; exact e.symm)))]; exact HL4.out.c0)
        have f5 : w5.frozen? ⟨A, 0, none⟩ = false := (by rw [World.frozen?_of_block (hgrow.block A (by have := HS4.out; omega) (fun e => HL4.out.gA.1 (by injection e with e; exact e.symm)))]; exact HL4.out.f0)
        clear hown hgrow hat hlt2
        refine hK.out _ _ ?_ (fun hHeld => ?_)
        · trivial
        clear hK K
        try simp only [Act.put, List.getElem_toArray, List.getElem_cons_zero, List.getElem_cons_succ, List.setIfInBounds_toArray, List.set_cons_zero, List.set_cons_succ]
        refine wpAnyH_take (i := 8) (v := ?_) rfl (by kernel_rfl) (by kernel_rfl) (by kernel_rfl) (fun _ _ _ h => h) (Or.inl ⟨by rfl, ?_⟩) (by assumption) ?_
        rotate_left
        · (intro w hSw; (try dsimp only at hSw); go_simp; try (with_reducible rfl))
        try simp only [Act.put, List.getElem_toArray, List.getElem_cons_zero, List.getElem_cons_succ, List.setIfInBounds_toArray, List.set_cons_zero, List.set_cons_succ]
        refine wpAnyH_ready (rs := [9]) (by kernel_rfl) (by simp) ?_
        refine (AllReadyH.cons rfl (fun K hK => ?_) AllReadyH.nil)
        go_simp
        refine hK.out _ _ ?_ (fun hHeld => ?_)
        · trivial
        clear hK K
        try simp only [Act.put, List.getElem_toArray, List.getElem_cons_zero, List.getElem_cons_succ, List.setIfInBounds_toArray, List.set_cons_zero, List.set_cons_succ]
        refine wpAnyH_done (by kernel_rfl) ?_ _
        clear hHeld hz95 c5 f5
        have HPO := hide (HL5.out.fin (by omega) (by decide) HCD.out)
        rw [HQ.out] at HPO
        have k0 := HL5.out.c0
        have k1 := HL5.out.c1
        have k2 := HL5.out.f1
        generalize w5.setCell ⟨A, 0, none⟩ (.slice (some ⟨g2, 0, none⟩) (m + 1 + 1) cap2) = w6 at *
        go_wp2_with fail
        exact bodyPost_ret (v := .tuple #[.agg #[.slice (some ⟨g2, 0, none⟩) (m + 1 + 1) cap2], .int .i64 65]) (res_cell_tmp Try.results26 rfl rfl (run_loadVar_mid _ (A + 1) 0 27 [.slice (some ⟨g2, 0, none⟩) (m + 1 + 1) cap2] _ (range_one (World.cell?_setCell_same _ _ _ k1)) Try.underlying27 rfl (by kernel_rfl))) rfl HPO.out
end Go.Proofs.Qxb6500784a
