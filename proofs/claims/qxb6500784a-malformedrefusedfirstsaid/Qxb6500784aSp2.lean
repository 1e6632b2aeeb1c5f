import Derived.Test.Qxb6500784aSp0
namespace Go.Proofs.Qxb6500784a
open Go.RowKit

def lenOf (v : Option Value) : Nat := match v with
  | some (.slice _ n _) => n
  | _ => 0
attribute [-simp] Try.isAgg95 Try.sizeOf95 Try.typeInfo95
set_option linter.unusedSimpArgs false in
set_option maxRecDepth 100000 in
set_option maxHeartbeats 8000000 in
theorem spoil_2 (B : Nat) (w : World) (g m cap : Nat) (R : List (List Value)) (h : SpI B w g m cap R) : Calls Try.prog 26 #[.agg #[.slice (some ⟨g, 0, none⟩) (m + 1) cap], .int .i64 2] w (SpPost B w) := by
  have H := hide h
  have hm7 := h.hm
  have HG := hide (h.ow.lt g rfl)
  clear h
  obtain ⟨A, hA⟩ : ∃ A, A = w.heap.size := ⟨_, rfl⟩
  have HA := hide hA
  obtain ⟨Q, hQ⟩ : ∃ Q, SpPost B w = Q := ⟨_, rfl⟩
  rw [hQ]
  have HQ := hide hQ
  clear hQ
  go_enter Try.func26, Try.ntmps26
  go_upto_region 1 with fail
  have HB := hide (be2 w (.cells #[.slice (some ⟨g, 0, none⟩) (m + 1) cap] 27) (.cells #[nilS] 27))
  have c0 : ((w.alloc (.cells #[.slice (some ⟨g, 0, none⟩) (m + 1) cap] 27)).alloc (.cells #[nilS] 27)).cell? ⟨A, 0, none⟩ = some (.slice (some ⟨g, 0, none⟩) (m + 1) cap) := by rw [hA]; simp [go_sem]
  have c1 : ((w.alloc (.cells #[.slice (some ⟨g, 0, none⟩) (m + 1) cap] 27)).alloc (.cells #[nilS] 27)).cell? ⟨A + 1, 0, none⟩ = some nilS := by rw [hA]; simp [go_sem]
  have f1 : ((w.alloc (.cells #[.slice (some ⟨g, 0, none⟩) (m + 1) cap] 27)).alloc (.cells #[nilS] 27)).frozen? ⟨A + 1, 0, none⟩ = false := by rw [hA]; simp [go_sem]
  have f0 : ((w.alloc (.cells #[.slice (some ⟨g, 0, none⟩) (m + 1) cap] 27)).alloc (.cells #[nilS] 27)).frozen? ⟨A, 0, none⟩ = false := by rw [hA]; simp [go_sem]
  have HE : Hid (((w.alloc (.cells #[.slice (some ⟨g, 0, none⟩) (m + 1) cap] 27)).alloc (.cells #[nilS] 27)).heap.size = A + 2) := by show _ = _; rw [hA]; simp
  have H2 := hide (H.out.below HB.out)
  rw [← hA]
  generalize (w.alloc (.cells #[.slice (some ⟨g, 0, none⟩) (m + 1) cap] 27)).alloc (.cells #[nilS] 27) = w2 at *
  have HGA : Hid (g < A) := by rw [hA]; exact HG.out.2
  clear hA
  obtain ⟨i9, hi9, hz9, hy9, hb9⟩ := info_parts Try.inf95
  have HI := hide (show Try.prog.info? 95 = some i9 ∧ i9.zero = some (.agg Try.zeroCells95) ∧ i9.size = 86 ∧ i9.bytes = 184 from ⟨hi9, hz9, hy9, hb9⟩)
  clear hi9 hz9 hy9 hb9
  have HL := hide (H.out.toL H2.out HB.out HA.out c0 f0 c1 f1 HE.out)
  clear c0 c1 f0 f1
  have c0 := HL.out.c0
  go_wp2
  go_loopw [17] (fun _ wr => ∃ (h k c : Nat) (R' : List (List Value)), SpL B w A wr h k c R' ∧ k ≤ 9) (fun _ wr => 9 - lenOf (wr.cell? ⟨A, 0, none⟩))
  case atStart => exact ⟨g, m + 1, cap, R, HL.out, by omega⟩
  case round =>
    clear c0 HL
    obtain ⟨h, k, c, R', hl, hk9⟩ := hrel
    have HL := hide hl
    have c0 : wr.cell? ⟨A, 0, none⟩ = some (.slice (some ⟨h, 0, none⟩) k c) := hl.c0
    clear hl
    by_cases hk8 : k ≤ 8
    · have d1 : decide ((k : Int) ≤ 8) = true := by simp; omega
      have HB1 := hide (built_T 1)
      have HB2 := hide (built_L (100 + k) 1)
      have HDP := hide (defL_pl (100 + k) (by omega))
      have ek : ((100 + k : Nat) : Int) = 100 + (k : Int) := by omega
      rw [ek] at HDP
      obtain ⟨U, hU⟩ : ∃ U, defL (100 + (k : Int)) 1 = U := ⟨_, rfl⟩
      rw [hU] at HDP HB2
      have HDl := hide HDP.out.l
      have HDo := hide HDP.out.o
      clear hU
      generalize (defT 1).toArray = Tz at *
      have wk1 : IntKind.i64.wrap (100 + (k : Int)) = 100 + (k : Int) := by rw [IntKind.wrap_i64]; omega
      have wk2 : IntKind.u8.wrap (100 + (k : Int)) = 100 + (k : Int) := by rw [IntKind.wrap_u8]; omega
      go_upto_region 7 with fail
      refine wp_region_lit ?_
      refine wpL_run rfl (.pointer (some ⟨A, 0, none⟩)) wr (by simp [go_sem]) ?_
      refine wpL_run rfl (.slice (some ⟨h, 0, none⟩) k c) wr (by simp [go_sem, c0]) ?_
      refine wpL_run rfl (.pointer (some ⟨A, 0, none⟩)) wr (by simp [go_sem]) ?_
      refine wpL_run rfl (.slice (some ⟨h, 0, none⟩) k c) wr (by simp [go_sem, c0]) ?_
      refine wpL_run rfl (.int .i64 k) wr (by simp [go_sem]) ?_
      refine wpL_run rfl (.int .i64 (100 + k)) wr (by simp [go_sem, wk1]) ?_
      refine wpL_run rfl (.int .u8 (100 + k)) wr (by simp [go_sem, wk2]) ?_
      simp only [Act.put, List.setIfInBounds_toArray, List.set_cons_zero, List.set_cons_succ]
      refine wpL_build rfl 92 _ rfl Tz (by exact HB1.out) ?_
      refine wpL_build rfl 95 _ rfl U.toArray (by exact HB2.out) ?_
      refine wpList_plain rfl (fun K hK => wp_buildS 25 95 (.tmp 29) rfl U rfl i9 _ 86 184 Try.underlying25 HI.out.1 HI.out.2.1 HI.out.2.2.1 HI.out.2.2.2 HDl.out (by decide) (by decide) (hK _ _ ?_))
      have HL4 := hide (HL.out.below (be1 wr (.cells U.toArray 95)))
      have HNW := hide (newR wr U 95)
      obtain ⟨Y, hY⟩ : ∃ Y, wr.heap.size = Y := ⟨_, rfl⟩
      have HS4 : Hid ((wr.alloc (.cells U.toArray 95)).heap.size = Y + 1) := by show _ = _; simp [hY]
      have HAY : Hid (A + 2 ≤ Y) := by rw [← hY]; exact HL.out.sz
      rw [hY] at HNW ⊢
      clear hY
      have HM : Hid (9 - (k + 1) < 9 - lenOf (wr.cell? ⟨A, 0, none⟩)) := by show _ < _; rw [c0]; show 9 - (k + 1) < 9 - k; omega
      generalize wr.alloc (.cells U.toArray 95) = wv at *
      simp only [Act.put, List.setIfInBounds_toArray, List.set_cons_zero, List.set_cons_succ]
      refine wpList_append_lies wv rfl (.tmp 22) (.tmp 30) 25 rfl B 95 i9 _ 86 184 Try.underlying25 HI.out.1 HI.out.2.1 HI.out.2.2.1 HI.out.2.2.2 Try.zs95 (by decide) (.slice (some ⟨h, 0, none⟩) k c) k R'.flatten rfl HL4.out.ow ⟨Y, 0, none⟩ 1 1 U rfl (by rw [HDl.out]) (fun j u hj => by rw [Addr.add_mid]; exact HNW.out j u hj) HDo.out (by decide) (by unfold maxLen; omega) (by omega) (by have := HL4.out.bA; have := HL4.out.sz; omega) (Y + 1) HS4.out ?_
      intro g2 cap2 w5 hown hgrow hat hlt2
      have HL5 := hide (HL4.out.grow HDP.out hown hgrow (by rcases hat with z | z; exact .inl (by simpa [Value.ownBlock] using z); right; rw [z, HS4.out]; exact Nat.le_refl _))
      have c5 : w5.cell? ⟨A, 0, none⟩ = some (.slice (some ⟨h, 0, none⟩) k c) := (by rw [World.cell?_of_block (hgrow.block A (by have := HS4.out; have := HAY.out; omega) (fun e => HL4.out.gA.1 (by injection e with e; exact e.symm)))]; exact HL4.out.c0)
      have f5 : w5.frozen? ⟨A, 0, none⟩ = false := (by rw [World.frozen?_of_block (hgrow.block A (by have := HS4.out; have := HAY.out; omega) (fun e => HL4.out.gA.1 (by injection e with e; exact e.symm)))]; exact HL4.out.f0)
      clear hown hgrow hat hlt2 HL4 HL HNW HDP HDl HDo HB1 HB2 c0
      simp only [Act.put, List.setIfInBounds_toArray, List.set_cons_zero, List.set_cons_succ]
      go_wp2_with fail
      go_roundw
      case rel => exact ⟨g2, k + 1, cap2, R' ++ [U], HL5.out, by omega⟩
      case measure => rw [HL5.out.c0]; exact HM.out
    · obtain rfl : k = 9 := by omega
      have HPO := hide (HL.out.fin (by omega) (cd := 61) (by decide) (bad_many (by omega) _))
      rw [HQ.out] at HPO
      have k1 := HL.out.c1
      have k2 := HL.out.f1
      go_wp2_with fail
      exact bodyPost_ret (v := .tuple #[.agg #[.slice (some ⟨h, 0, none⟩) 9 c], .int .i64 61]) (res_cell_tmp Try.results26 rfl rfl (run_loadVar_mid _ (A + 1) 0 27 [.slice (some ⟨h, 0, none⟩) 9 c] _ (range_one (World.cell?_setCell_same _ _ _ k1)) Try.underlying27 rfl (by kernel_rfl))) rfl HPO.out
end Go.Proofs.Qxb6500784a
