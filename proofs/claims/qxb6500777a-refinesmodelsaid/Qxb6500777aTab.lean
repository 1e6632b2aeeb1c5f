import Derived.Test.Qxb6500777aTbP
namespace Go.Proofs.Qxb6500777a
open Go.RowKit

def TbPost (w : World) (L : List Trk) (e : Ending) (w' : World) : Prop := ∃ a c, e = .returned (.slice a L.length c) ∧ TRow w' w.heap.size (.slice a L.length c) L ∧ Below w.heap.size w w'
set_option linter.unusedSimpArgs false in
set_option maxRecDepth 100000 in
set_option maxHeartbeats 4000000 in
/-- tracks.Board.AppendTable, to nothing -/
theorem append_any (w : World) (b tm : Nat) (htm : tm < 4) (T : Tbl) (h : TA w b (1 + tm * 754) T) :
    Calls Try.prog 45 #[.pointer (some ⟨b, 0, none⟩), .slice none 0 0, .int .i64 tm] w (TbPost w (tabN T 64)) := by
  have htmi : (tm : Int) < 4 := by omega
  have htm0 : decide ((tm : Int) < 0) = false := by simp
  have HT := hide h
  clear h
  obtain ⟨o, ho⟩ : ∃ o, 1 + tm * 754 = o := ⟨_, rfl⟩
  rw [ho] at HT
  obtain ⟨i0, hi0, hz0, hz1, hz2⟩ : ∃ i0, Try.prog.info? 51 = some i0 ∧ i0.zero = some (.agg #[.int .i64 0, .int .i64 0, .int .i64 0, .int .i64 0, .int .i64 0, .int .i64 0, .int .i64 0]) ∧ i0.size = 7 ∧ i0.bytes = 56 := ⟨_, rfl, rfl, rfl, rfl⟩
  go_enter Try.func45, Try.ntmps45
  go_wp2
  go_loopw [1, 9, 10] (fun s1 s9 _ wr => ∃ (i : Nat) (a : Option Addr) (c : Nat), i ≤ 64 ∧ s9 = .int .i64 i ∧ s1 = .slice a (tabN T i).length c ∧ TRow wr w.heap.size (.slice a (tabN T i).length c) (tabN T i) ∧ Below w.heap.size w wr) (fun _ s9 _ _ => 64 - (intOf s9).toNat)
  case atStart => exact ⟨0, none, 0, by omega, rfl, rfl, World.ownsRow_nil _ _ _ _, Below.refl _ _⟩
  case round =>
    rename_i wr
    obtain ⟨i, a, c, hi, rfl, rfl, hr, hb⟩ := hrel
    have HR := hide hr
    have HE := hide hb
    clear hr hb
    by_cases hi64 : i < 64
    · have hi64i : (i : Int) < 64 := by omega
      have HS := hide ((HT.out.below HE.out).sl i hi64)
      have HX := hide (show tabN T (i + 1) = if (T.sl i).used then insT (T.sl i).tr (tabN T i) else tabN T i from rfl)
      obtain ⟨L, hL⟩ : ∃ L, tabN T i = L := ⟨_, rfl⟩
      have hLl : L.length ≤ 64 := by have := tab_le (T := T) i; rw [hL] at this; omega
      rw [hL] at HX HR ⊢
      clear hL
      obtain ⟨s, hs⟩ : ∃ s, T.sl i = s := ⟨_, rfl⟩
      rw [hs] at HX HS
      clear hs
      obtain ⟨a0, a1, a2, a3, a4, a5, a6, a7, a8, a9⟩ := HS.out.sl
      cases hu : s.used
      · rw [hu] at a0 HX
        have HX2 := hide (show tabN T (i + 1) = L by rw [HX.out]; rfl)
        clear hu
        go_wp2
        go_roundw
        case rel => exact ⟨i + 1, a, c, by omega, by simp, by rw [HX2.out], by rw [HX2.out]; exact HR.out, HE.out⟩
        case measure => simp [intOf]; omega
      · rw [hu] at a0 HX
        have HX2 := hide (show tabN T (i + 1) = insT s.tr L by rw [HX.out]; rfl)
        clear hu a1 a2
        obtain ⟨t, ht⟩ : ∃ t, s.tr = t := ⟨_, rfl⟩
        rw [ht] at a3 a4 a5 a6 a7 a8 a9 HX2
        clear ht
        go_upto_region 9 with fail
        have HR3 := hide (HR.out.below (be1 wr (.cells #[.int .i64 t.num, .int .i64 t.x, .int .i64 t.y, .int .i64 t.co, .int .i64 t.sp, .int .i64 t.st, .int .i64 t.ag] 51)))
        have HE3 := hide (lec HE.out (be1 wr (.cells #[.int .i64 t.num, .int .i64 t.x, .int .i64 t.y, .int .i64 t.co, .int .i64 t.sp, .int .i64 t.st, .int .i64 t.ag] 51)))
        have HNC := hide (show ∀ (j : Nat) (u : Value), t.vals[j]? = some u → (wr.alloc (.cells #[.int .i64 t.num, .int .i64 t.x, .int .i64 t.y, .int .i64 t.co, .int .i64 t.sp, .int .i64 t.st, .int .i64 t.ag] 51)).cell? ((⟨wr.heap.size, 0, none⟩ : Addr).add j) = some u from fun j u hj => new_cells _ t.vals 51 j u hj)
        have HV := hide (tvals_one t)
        have HSZ := hide (show w.heap.size ≤ (wr.alloc (.cells #[.int .i64 t.num, .int .i64 t.x, .int .i64 t.y, .int .i64 t.co, .int .i64 t.sp, .int .i64 t.st, .int .i64 t.ag] 51)).heap.size from HE3.out.size)
        have HMX := hide (show L.length + 1 ≤ maxLen ∧ (L.length + 1) * 56 ≤ 140737488355328 by unfold maxLen; omega)
        go_wp2_with (at_builtin; go_loud (refine wpList_append_own _ rfl (.tmp 37) (.tmp 45) 42 rfl w.heap.size 51 i0 _ 7 56 Try.underlying42 hi0 hz0 hz1 hz2 rfl (by decide) (.slice a L.length c) L.length (L.flatMap Trk.vals) rfl HR3.out _ 1 1 t.vals rfl rfl HNC.out HV.out HMX.out.1 HMX.out.2 HSZ.out ?_; intro v' w3 hown hgrow hnil; have HE4 := hide (bel_grownT HE3.out HR3.out hgrow); have HR4 := hide hown; obtain ⟨g, c4, rfl⟩ := own_some hown (by omega); clear hown hgrow hnil))
        have HR5 := hide (show TRow w3 w.heap.size (.slice (some ⟨g, 0, none⟩) (L.length + 1) c4) (L.take L.length ++ t :: L.drop L.length) by
          have e : L.take L.length ++ t :: L.drop L.length = L ++ [t] := by simp
          rw [e]
          have := HR4.out
          unfold TRow
          rw [List.flatMap_append, List.length_append]
          simpa using this)
        clear a0 a3 a4 a5 a6 a7 a8 a9 HR HE HR3 HE3 HNC HV HSZ HMX HR4 HS
        obtain ⟨n1, hn1⟩ : ∃ n, L.length + 1 = n := ⟨_, rfl⟩
        rw [hn1] at HR5 ⊢
        have HN1 := hide hn1
        have hw1 : IntKind.i64.wrap ((n1 : Int) - 1) = (L.length : Int) := by rw [IntKind.wrap_i64]; omega
        have hlw : IntKind.i64.wrap (n1 : Int) = (n1 : Int) := by rw [IntKind.wrap_i64]; omega
        have hnl : n1 ≤ 65 := by omega
        clear hn1
        go_wp2
        go_loopw [10] (fun s10 wy => ∃ k : Nat, k ≤ L.length ∧ s10 = .int .i64 k ∧ Hid (posT t L L.length = posT t L k) ∧ TRow wy w.heap.size (.slice (some ⟨g, 0, none⟩) n1 c4) (L.take k ++ t :: L.drop k) ∧ Below w.heap.size w wy) (fun s10 _ => (intOf s10).toNat)
        case atStart => exact ⟨L.length, Nat.le_refl _, rfl, hide rfl, HR5.out, HE4.out⟩
        case round =>
          clear HR5 HE4

          obtain ⟨k, hk, rfl, HPK, hr, hb⟩ := hrel
          have HR := hide hr
          have HE := hide hb
          clear hr hb
          have HML := hide (show (L.take k ++ t :: L.drop k).length = n1 by rw [List.length_append, List.length_cons, List.length_take, List.length_drop]; have := HN1.out; omega)
          have hkn : (k : Int) < (n1 : Int) := by have := HN1.out; omega
          have HMK := hide (show (L.take k ++ t :: L.drop k)[k]? = some t by rw [List.getElem?_append_right (by rw [List.length_take]; omega), List.length_take, show k - min k L.length = 0 by omega]; rfl)
          by_cases hk0 : k = 0
          · have HX3 := hide (show tabN T (i + 1) = L.take k ++ t :: L.drop k by rw [HX2.out]; unfold insT; rw [HPK.out, hk0, posT])
            have hz : decide ((0 : Int) < (k : Int)) = false := by simp; omega
            have hzn : decide (0 < k) = false := by simp; omega
            clear hk0
            go_upto_region 11 with fail
            go_quiet (fail)
            rename_i nq
            have HR6 := hide (HR.out.drewN nq)
            have HE6 := hide (lec HE.out (belN _ nq))
            go_wp2
            go_roundw
            case rel => exact ⟨i + 1, some ⟨g, 0, none⟩, c4, by omega, by simp, by rw [HX3.out, HML.out], by rw [HX3.out, HML.out]; exact HR6.out, HE6.out⟩
            case measure => simp [intOf]; omega
          · obtain ⟨j, hj⟩ : ∃ j, k = j + 1 := ⟨k - 1, by omega⟩
            have hz : decide ((0 : Int) < (k : Int)) = true := by simp; omega
            have hzn : 0 < k := by omega
            have hki : (0 : Int) < (k : Int) := by omega
            have hw2 : IntKind.i64.wrap ((k : Int) - 1) = (j : Int) := by rw [IntKind.wrap_i64]; omega
            have hwj : IntKind.i64.wrap (j : Int) = (j : Int) := by rw [IntKind.wrap_i64]; omega
            have hwk : IntKind.i64.wrap (k : Int) = (k : Int) := by rw [IntKind.wrap_i64]; omega
            have hjn : (j : Int) < (n1 : Int) := by omega
            have HKJ := hide hj
            obtain ⟨d, hd⟩ : ∃ d, L[j]? = some d := ⟨_, List.getElem?_eq_getElem (by omega)⟩
            have HLJ := hide hd
            have HMJ := hide (show (L.take k ++ t :: L.drop k)[j]? = some d by rw [List.getElem?_append_left (by rw [List.length_take]; omega), List.getElem?_take_of_lt (by omega)]; exact hd)
            have HAK := hide (TRow.at (by have := HR.out; rw [← HML.out] at this; exact this) HMK.out)
            have HAJ := hide (TRow.at (by have := HR.out; rw [← HML.out] at this; exact this) HMJ.out)
            clear hd hk0 hj
            obtain ⟨b0, b1, b2, b3, b4, b5, b6⟩ := HAK.out.tt
            obtain ⟨d0, d1, d2, d3, d4, d5, d6⟩ := HAJ.out.tt
            by_cases hbf : t.num < d.num
            · have hbd : decide (t.num < d.num) = true := by simp [hbf]
              have HPK2 := hide (show posT t L L.length = posT t L j by rw [HPK.out, HKJ.out]; exact posT_go HLJ.out hbf)
              clear hbf
              go_upto_region 11 with fail
              go_quiet (fail)
              rename_i nq
              have HR6 := hide (HR.out.drewN nq)
              have HE6 := hide (lec HE.out (belN _ nq))
              replace HAK := hide (HAK.out.drewN nq)
              replace HAJ := hide (HAJ.out.drewN nq)
              clear b0 b1 b2 b3 b4 b5 b6 d0 d1 d2 d3 d4 d5 d6 HR HE
              generalize World.drewN _ nq = w6 at *
              obtain ⟨b0, b1, b2, b3, b4, b5, b6⟩ := HAK.out.tt
              obtain ⟨d0, d1, d2, d3, d4, d5, d6⟩ := HAJ.out.tt
              have f0 := HAK.out.f (k * 7)
              have f1 := HAK.out.f (k * 7 + 1)
              have f2 := HAK.out.f (k * 7 + 2)
              have f3 := HAK.out.f (k * 7 + 3)
              have f4 := HAK.out.f (k * 7 + 4)
              have f5 := HAK.out.f (k * 7 + 5)
              have f6 := HAK.out.f (k * 7 + 6)
              go_upto_region 13 with fail
              refine wp_region_held_drew (S := fun w' => True) (by kernel_rfl) trivial (fun hHeld => ?_)
              refine wpAnyH_take (i := 0) (v := ?_) rfl (by kernel_rfl) (by kernel_rfl) (by kernel_rfl) (fun _ _ _ h => h) (Or.inl ⟨by rfl, ?_⟩) (by assumption) ?_
              rotate_left
              · (intro w hSw; (try dsimp only at hSw); go_simp; try (with_reducible rfl))
              try simp only [Act.put, List.getElem_toArray, List.getElem_cons_zero, List.getElem_cons_succ, List.setIfInBounds_toArray, List.set_cons_zero, List.set_cons_succ]
              refine wpAnyH_take (i := 1) (v := ?_) rfl (by kernel_rfl) (by kernel_rfl) (by kernel_rfl) (fun _ _ _ h => h) (Or.inl ⟨by rfl, ?_⟩) (by assumption) ?_
              rotate_left
              · (intro w hSw; (try dsimp only at hSw); go_simp; try (with_reducible rfl))
              try simp only [Act.put, List.getElem_toArray, List.getElem_cons_zero, List.getElem_cons_succ, List.setIfInBounds_toArray, List.set_cons_zero, List.set_cons_succ]
              refine wpAnyH_take (i := 2) (v := ?_) rfl (by kernel_rfl) (by kernel_rfl) (by kernel_rfl) (fun _ _ _ h => h) (Or.inl ⟨by rfl, ?_⟩) (by assumption) ?_
              rotate_left
              · (intro w hSw; (try dsimp only at hSw); go_simp; try (with_reducible rfl))
              try simp only [Act.put, List.getElem_toArray, List.getElem_cons_zero, List.getElem_cons_succ, List.setIfInBounds_toArray, List.set_cons_zero, List.set_cons_succ]
              refine wpAnyH_take (i := 3) (v := ?_) rfl (by kernel_rfl) (by kernel_rfl) (by kernel_rfl) (fun _ _ _ h => h) (Or.inl ⟨by rfl, ?_⟩) (by assumption) ?_
              rotate_left
              · (intro w hSw; (try dsimp only at hSw); go_simp; try (with_reducible rfl))
              try simp only [Act.put, List.getElem_toArray, List.getElem_cons_zero, List.getElem_cons_succ, List.setIfInBounds_toArray, List.set_cons_zero, List.set_cons_succ]
              refine wpAnyH_take (i := 4) (v := ?_) rfl (by kernel_rfl) (by kernel_rfl) (by kernel_rfl) (fun _ _ _ h => h) (Or.inl ⟨by rfl, ?_⟩) (by assumption) ?_
              rotate_left
              · (intro w hSw; (try dsimp only at hSw); go_simp; try (with_reducible rfl))
              try simp only [Act.put, List.getElem_toArray, List.getElem_cons_zero, List.getElem_cons_succ, List.setIfInBounds_toArray, List.set_cons_zero, List.set_cons_succ]
              refine wpAnyH_take (i := 5) (v := ?_) rfl (by kernel_rfl) (by kernel_rfl) (by kernel_rfl) (fun _ _ _ h => h) (Or.inl ⟨by rfl, ?_⟩) (by assumption) ?_
              rotate_left
              · (intro w hSw; (try dsimp only at hSw); go_simp; try (with_reducible rfl))
              try simp only [Act.put, List.getElem_toArray, List.getElem_cons_zero, List.getElem_cons_succ, List.setIfInBounds_toArray, List.set_cons_zero, List.set_cons_succ]
              refine wpAnyH_take (i := 6) (v := ?_) rfl (by kernel_rfl) (by kernel_rfl) (by kernel_rfl) (fun _ _ _ h => h) (Or.inl ⟨by rfl, ?_⟩) (by assumption) ?_
              rotate_left
              · (intro w hSw; (try dsimp only at hSw); go_simp; try (with_reducible rfl))
              try simp only [Act.put, List.getElem_toArray, List.getElem_cons_zero, List.getElem_cons_succ, List.setIfInBounds_toArray, List.set_cons_zero, List.set_cons_succ]
              refine wpAnyH_take (i := 7) (v := ?_) rfl (by kernel_rfl) (by kernel_rfl) (by kernel_rfl) (fun _ _ _ h => h) (Or.inl ⟨by rfl, ?_⟩) (by assumption) ?_
              rotate_left
              · (intro w hSw; (try dsimp only at hSw); go_simp; try (with_reducible rfl))
              try simp only [Act.put, List.getElem_toArray, List.getElem_cons_zero, List.getElem_cons_succ, List.setIfInBounds_toArray, List.set_cons_zero, List.set_cons_succ]
              refine wpAnyH_take (i := 8) (v := ?_) rfl (by kernel_rfl) (by kernel_rfl) (by kernel_rfl) (fun _ _ _ h => h) (Or.inl ⟨by rfl, ?_⟩) (by assumption) ?_
              rotate_left
              · (intro w hSw; (try dsimp only at hSw); go_simp; try (with_reducible rfl))
              try simp only [Act.put, List.getElem_toArray, List.getElem_cons_zero, List.getElem_cons_succ, List.setIfInBounds_toArray, List.set_cons_zero, List.set_cons_succ]
              refine wpAnyH_take (i := 10) (v := ?_) rfl (by kernel_rfl) (by kernel_rfl) (by kernel_rfl) (fun _ _ _ h => h) (Or.inl ⟨by rfl, ?_⟩) (by assumption) ?_
              rotate_left
              · (intro w hSw; (try dsimp only at hSw); go_simp; try (with_reducible rfl))
              try simp only [Act.put, List.getElem_toArray, List.getElem_cons_zero, List.getElem_cons_succ, List.setIfInBounds_toArray, List.set_cons_zero, List.set_cons_succ]
              refine wpAnyH_take (i := 11) (v := ?_) rfl (by kernel_rfl) (by kernel_rfl) (by kernel_rfl) (fun _ _ _ h => h) (Or.inl ⟨by rfl, ?_⟩) (by assumption) ?_
              rotate_left
              · (intro w hSw; (try dsimp only at hSw); go_simp; try (with_reducible rfl))
              try simp only [Act.put, List.getElem_toArray, List.getElem_cons_zero, List.getElem_cons_succ, List.setIfInBounds_toArray, List.set_cons_zero, List.set_cons_succ]
              refine wpAnyH_take (i := 12) (v := ?_) rfl (by kernel_rfl) (by kernel_rfl) (by kernel_rfl) (fun _ _ _ h => h) (Or.inl ⟨by rfl, ?_⟩) (by assumption) ?_
              rotate_left
              · (intro w hSw; (try dsimp only at hSw); go_simp; try (with_reducible rfl))
              try simp only [Act.put, List.getElem_toArray, List.getElem_cons_zero, List.getElem_cons_succ, List.setIfInBounds_toArray, List.set_cons_zero, List.set_cons_succ]
              refine wpAnyH_ready (rs := [9, 13]) (by kernel_rfl) (by simp) ?_
              refine (AllReadyH.cons rfl (fun K hK => ?_) (AllReadyH.cons rfl (fun K hK => ?_) AllReadyH.nil))
              · go_simp
                refine hK.out _ _ ?_ (fun hHeld => ?_)
                · trivial
                clear hK K
                try simp only [Act.put, List.getElem_toArray, List.getElem_cons_zero, List.getElem_cons_succ, List.setIfInBounds_toArray, List.set_cons_zero, List.set_cons_succ]
                refine wpAnyH_ready (rs := [13]) (by kernel_rfl) (by simp) ?_
                refine (AllReadyH.cons rfl (fun K hK => ?_) AllReadyH.nil)
                · go_simp
                  refine hK.out _ _ ?_ (fun hHeld => ?_)
                  · trivial
                  clear hK K
                  try simp only [Act.put, List.getElem_toArray, List.getElem_cons_zero, List.getElem_cons_succ, List.setIfInBounds_toArray, List.set_cons_zero, List.set_cons_succ]
                  refine wpAnyH_take (i := 14) (v := ?_) rfl (by kernel_rfl) (by kernel_rfl) (by kernel_rfl) (fun _ _ _ h => h) (Or.inl ⟨by rfl, ?_⟩) (by assumption) ?_
                  rotate_left
                  · (intro w hSw; (try dsimp only at hSw); go_simp; try (with_reducible rfl))
                  try simp only [Act.put, List.getElem_toArray, List.getElem_cons_zero, List.getElem_cons_succ, List.setIfInBounds_toArray, List.set_cons_zero, List.set_cons_succ]
                  refine wpAnyH_ready (rs := [15]) (by kernel_rfl) (by simp) ?_
                  refine (AllReadyH.cons rfl (fun K hK => ?_) AllReadyH.nil)
                  · go_simp
                    rw [show (((((((w6.setCell ⟨g, k * 7, none⟩ (.int .i64 d.num)).setCell ⟨g, k * 7 + 1, none⟩ (.int .i64 d.x)).setCell ⟨g, k * 7 + 2, none⟩ (.int .i64 d.y)).setCell ⟨g, k * 7 + 3, none⟩ (.int .i64 d.co)).setCell ⟨g, k * 7 + 4, none⟩ (.int .i64 d.sp)).setCell ⟨g, k * 7 + 5, none⟩ (.int .i64 d.st)).setCell ⟨g, k * 7 + 6, none⟩ (.int .i64 d.ag)) = w6.setCells g (k * 7) d.vals from rfl]
                    obtain ⟨r1, r2⟩ := HR6.out.fill HML.out.symm (i := k) (by omega) d
                    have HE7 := hide (bel_grownT HE6.out HR6.out (v := .slice (some ⟨g, 0, none⟩) n1 c4) r2)
                    have HR7 := hide r1
                    have HL7 := hide (show ((L.take k ++ t :: L.drop k).set k d).length = n1 by rw [List.length_set]; exact HML.out)
                    have HAJ7 := hide (TRow.at (i := j) (t := d) (by have := HR7.out; rw [← HL7.out] at this; exact this) (by rw [List.getElem?_set_ne (by have := HKJ.out; omega)]; exact HMJ.out))
                    clear r1 r2 b0 b1 b2 b3 b4 b5 b6 d0 d1 d2 d3 d4 d5 d6 f0 f1 f2 f3 f4 f5 f6
                    generalize w6.setCells g (k * 7) d.vals = w7 at *
                    obtain ⟨d0, d1, d2, d3, d4, d5, d6⟩ := HAJ7.out.tt
                    have f0 := HAJ7.out.f (j * 7)
                    have f1 := HAJ7.out.f (j * 7 + 1)
                    have f2 := HAJ7.out.f (j * 7 + 2)
                    have f3 := HAJ7.out.f (j * 7 + 3)
                    have f4 := HAJ7.out.f (j * 7 + 4)
                    have f5 := HAJ7.out.f (j * 7 + 5)
                    have f6 := HAJ7.out.f (j * 7 + 6)
                    refine hK.out _ _ ?_ (fun hHeld => ?_)
                    · trivial
                    clear hK K
                    try simp only [Act.put, List.getElem_toArray, List.getElem_cons_zero, List.getElem_cons_succ, List.setIfInBounds_toArray, List.set_cons_zero, List.set_cons_succ]
                    refine wpAnyH_take (i := 16) (v := ?_) rfl (by kernel_rfl) (by kernel_rfl) (by kernel_rfl) (fun _ _ _ h => h) (Or.inl ⟨by rfl, ?_⟩) (by assumption) ?_
                    rotate_left
                    · (intro w hSw; (try dsimp only at hSw); go_simp; try (with_reducible rfl))
                    try simp only [Act.put, List.getElem_toArray, List.getElem_cons_zero, List.getElem_cons_succ, List.setIfInBounds_toArray, List.set_cons_zero, List.set_cons_succ]
                    refine wpAnyH_ready (rs := [17]) (by kernel_rfl) (by simp) ?_
                    refine (AllReadyH.cons rfl (fun K hK => ?_) AllReadyH.nil)
                    · go_simp
                      rw [show (((((((w7.setCell ⟨g, j * 7, none⟩ (.int .i64 t.num)).setCell ⟨g, j * 7 + 1, none⟩ (.int .i64 t.x)).setCell ⟨g, j * 7 + 2, none⟩ (.int .i64 t.y)).setCell ⟨g, j * 7 + 3, none⟩ (.int .i64 t.co)).setCell ⟨g, j * 7 + 4, none⟩ (.int .i64 t.sp)).setCell ⟨g, j * 7 + 5, none⟩ (.int .i64 t.st)).setCell ⟨g, j * 7 + 6, none⟩ (.int .i64 t.ag)) = w7.setCells g (j * 7) t.vals from rfl]
                      obtain ⟨r1, r2⟩ := HR7.out.fill HL7.out.symm (i := j) (by omega) t
                      have HE8 := hide (bel_grownT HE7.out HR7.out (v := .slice (some ⟨g, 0, none⟩) n1 c4) r2)
                      rw [show ((L.take k ++ t :: L.drop k).set k d).set j t = L.take j ++ t :: L.drop j by rw [HKJ.out]; exact swap_mid L j d t HLJ.out] at r1
                      have HR8 := hide r1
                      clear r1 r2 d0 d1 d2 d3 d4 d5 d6 f0 f1 f2 f3 f4 f5 f6
                      generalize w7.setCells g (j * 7) t.vals = w8 at *
                      refine hK.out _ _ ?_ (fun hHeld => ?_)
                      · trivial
                      clear hK K
                      try simp only [Act.put, List.getElem_toArray, List.getElem_cons_zero, List.getElem_cons_succ, List.setIfInBounds_toArray, List.set_cons_zero, List.set_cons_succ]
                      refine wpAnyH_done (by kernel_rfl) ?_ _
                      go_wp2
                      go_roundw
                      case rel =>
                        exact ⟨j, by have := HKJ.out; omega, rfl, hide HPK2.out, HR8.out.below ((Below.refl _ _).drew), HE8.out.drew⟩
                      case measure => have := HKJ.out; simp [intOf]; omega
              · go_simp
                refine hK.out _ _ ?_ (fun hHeld => ?_)
                · trivial
                clear hK K
                try simp only [Act.put, List.getElem_toArray, List.getElem_cons_zero, List.getElem_cons_succ, List.setIfInBounds_toArray, List.set_cons_zero, List.set_cons_succ]
                refine wpAnyH_ready (rs := [9]) (by kernel_rfl) (by simp) ?_
                refine (AllReadyH.cons rfl (fun K hK => ?_) AllReadyH.nil)
                · go_simp
                  refine hK.out _ _ ?_ (fun hHeld => ?_)
                  · trivial
                  clear hK K
                  try simp only [Act.put, List.getElem_toArray, List.getElem_cons_zero, List.getElem_cons_succ, List.setIfInBounds_toArray, List.set_cons_zero, List.set_cons_succ]
                  refine wpAnyH_take (i := 14) (v := ?_) rfl (by kernel_rfl) (by kernel_rfl) (by kernel_rfl) (fun _ _ _ h => h) (Or.inl ⟨by rfl, ?_⟩) (by assumption) ?_
                  rotate_left
                  · (intro w hSw; (try dsimp only at hSw); go_simp; try (with_reducible rfl))
                  try simp only [Act.put, List.getElem_toArray, List.getElem_cons_zero, List.getElem_cons_succ, List.setIfInBounds_toArray, List.set_cons_zero, List.set_cons_succ]
                  refine wpAnyH_ready (rs := [15]) (by kernel_rfl) (by simp) ?_
                  refine (AllReadyH.cons rfl (fun K hK => ?_) AllReadyH.nil)
                  · go_simp
                    rw [show (((((((w6.setCell ⟨g, k * 7, none⟩ (.int .i64 d.num)).setCell ⟨g, k * 7 + 1, none⟩ (.int .i64 d.x)).setCell ⟨g, k * 7 + 2, none⟩ (.int .i64 d.y)).setCell ⟨g, k * 7 + 3, none⟩ (.int .i64 d.co)).setCell ⟨g, k * 7 + 4, none⟩ (.int .i64 d.sp)).setCell ⟨g, k * 7 + 5, none⟩ (.int .i64 d.st)).setCell ⟨g, k * 7 + 6, none⟩ (.int .i64 d.ag)) = w6.setCells g (k * 7) d.vals from rfl]
                    obtain ⟨r1, r2⟩ := HR6.out.fill HML.out.symm (i := k) (by omega) d
                    have HE7 := hide (bel_grownT HE6.out HR6.out (v := .slice (some ⟨g, 0, none⟩) n1 c4) r2)
                    have HR7 := hide r1
                    have HL7 := hide (show ((L.take k ++ t :: L.drop k).set k d).length = n1 by rw [List.length_set]; exact HML.out)
                    have HAJ7 := hide (TRow.at (i := j) (t := d) (by have := HR7.out; rw [← HL7.out] at this; exact this) (by rw [List.getElem?_set_ne (by have := HKJ.out; omega)]; exact HMJ.out))
                    clear r1 r2 b0 b1 b2 b3 b4 b5 b6 d0 d1 d2 d3 d4 d5 d6 f0 f1 f2 f3 f4 f5 f6
                    generalize w6.setCells g (k * 7) d.vals = w7 at *
                    obtain ⟨d0, d1, d2, d3, d4, d5, d6⟩ := HAJ7.out.tt
                    have f0 := HAJ7.out.f (j * 7)
                    have f1 := HAJ7.out.f (j * 7 + 1)
                    have f2 := HAJ7.out.f (j * 7 + 2)
                    have f3 := HAJ7.out.f (j * 7 + 3)
                    have f4 := HAJ7.out.f (j * 7 + 4)
                    have f5 := HAJ7.out.f (j * 7 + 5)
                    have f6 := HAJ7.out.f (j * 7 + 6)
                    refine hK.out _ _ ?_ (fun hHeld => ?_)
                    · trivial
                    clear hK K
                    try simp only [Act.put, List.getElem_toArray, List.getElem_cons_zero, List.getElem_cons_succ, List.setIfInBounds_toArray, List.set_cons_zero, List.set_cons_succ]
                    refine wpAnyH_take (i := 16) (v := ?_) rfl (by kernel_rfl) (by kernel_rfl) (by kernel_rfl) (fun _ _ _ h => h) (Or.inl ⟨by rfl, ?_⟩) (by assumption) ?_
                    rotate_left
                    · (intro w hSw; (try dsimp only at hSw); go_simp; try (with_reducible rfl))
                    try simp only [Act.put, List.getElem_toArray, List.getElem_cons_zero, List.getElem_cons_succ, List.setIfInBounds_toArray, List.set_cons_zero, List.set_cons_succ]
                    refine wpAnyH_ready (rs := [17]) (by kernel_rfl) (by simp) ?_
                    refine (AllReadyH.cons rfl (fun K hK => ?_) AllReadyH.nil)
                    · go_simp
                      rw [show (((((((w7.setCell ⟨g, j * 7, none⟩ (.int .i64 t.num)).setCell ⟨g, j * 7 + 1, none⟩ (.int .i64 t.x)).setCell ⟨g, j * 7 + 2, none⟩ (.int .i64 t.y)).setCell ⟨g, j * 7 + 3, none⟩ (.int .i64 t.co)).setCell ⟨g, j * 7 + 4, none⟩ (.int .i64 t.sp)).setCell ⟨g, j * 7 + 5, none⟩ (.int .i64 t.st)).setCell ⟨g, j * 7 + 6, none⟩ (.int .i64 t.ag)) = w7.setCells g (j * 7) t.vals from rfl]
                      obtain ⟨r1, r2⟩ := HR7.out.fill HL7.out.symm (i := j) (by omega) t
                      have HE8 := hide (bel_grownT HE7.out HR7.out (v := .slice (some ⟨g, 0, none⟩) n1 c4) r2)
                      rw [show ((L.take k ++ t :: L.drop k).set k d).set j t = L.take j ++ t :: L.drop j by rw [HKJ.out]; exact swap_mid L j d t HLJ.out] at r1
                      have HR8 := hide r1
                      clear r1 r2 d0 d1 d2 d3 d4 d5 d6 f0 f1 f2 f3 f4 f5 f6
                      generalize w7.setCells g (j * 7) t.vals = w8 at *
                      refine hK.out _ _ ?_ (fun hHeld => ?_)
                      · trivial
                      clear hK K
                      try simp only [Act.put, List.getElem_toArray, List.getElem_cons_zero, List.getElem_cons_succ, List.setIfInBounds_toArray, List.set_cons_zero, List.set_cons_succ]
                      refine wpAnyH_done (by kernel_rfl) ?_ _
                      go_wp2
                      go_roundw
                      case rel =>
                        exact ⟨j, by have := HKJ.out; omega, rfl, hide HPK2.out, HR8.out.below ((Below.refl _ _).drew), HE8.out.drew⟩
                      case measure => have := HKJ.out; simp [intOf]; omega
            · have hbd : decide (t.num < d.num) = false := by simp; omega
              have HX3 := hide (show tabN T (i + 1) = L.take k ++ t :: L.drop k by rw [HX2.out]; unfold insT; rw [HPK.out, HKJ.out, posT_stop HLJ.out hbf])
              clear hbf
              go_upto_region 11 with fail
              go_quiet (fail)
              rename_i nq
              have HR6 := hide (HR.out.drewN nq)
              have HE6 := hide (lec HE.out (belN _ nq))
              clear b0 b1 b2 b3 b4 b5 b6 d0 d1 d2 d3 d4 d5 d6
              go_wp2
              go_roundw
              case rel => exact ⟨i + 1, some ⟨g, 0, none⟩, c4, by omega, by simp, by rw [HX3.out, HML.out], by rw [HX3.out, HML.out]; exact HR6.out, HE6.out⟩
              case measure => simp [intOf]; omega
    · obtain rfl : i = 64 := by omega
      rw [show ((64 : Nat) : Int) = 64 from rfl]
      go_wp2
      go_ret
      exact ⟨_, _, rfl, HR.out, HE.out⟩
set_option maxHeartbeats 4000000 in
theorem append_out (w : World) (p : Value) (tm : Int) (htm : tm < 0 ∨ 4 ≤ tm) :
    Calls Try.prog 45 #[p, .slice none 0 0, .int .i64 tm] w (TbPost w []) := by
  go_enter Try.func45, Try.ntmps45
  rcases htm with h | h
  · have h' : decide (tm < 0) = true := by simp [h]
    go_wp2
    go_ret
    exact ⟨none, 0, rfl, World.ownsRow_nil _ _ _ _, Below.refl _ _⟩
  · have h' : decide (tm < 0) = false := by simp; omega
    have h2 : decide (tm < 4) = false := by simp; omega
    go_wp2
    go_ret
    exact ⟨none, 0, rfl, World.ownsRow_nil _ _ _ _, Below.refl _ _⟩
/-- tracks.Board.Table -/
theorem table_any (w : World) (b tm : Nat) (htm : tm < 4) (T : Tbl) (h : TA w b (1 + tm * 754) T) :
    Calls Try.prog 22 #[.pointer (some ⟨b, 0, none⟩), .int .i64 tm] w (TbPost w (tabN T 64)) := by
  have HT := hide h
  clear h
  go_enter Try.func22, Try.ntmps22
  go_wp2_with fail
  refine (append_any _ b tm htm T HT.out).mono ?_
  rintro e w2 ⟨a, c, rfl, hr, hb⟩
  have HP := hide (show TbPost w (tabN T 64) _ w2 from ⟨a, c, rfl, hr, hb⟩)
  clear hr hb
  go_wp2
  go_ret
  exact HP.out
theorem table_out (w : World) (p : Value) (tm : Int) (htm : tm < 0 ∨ 4 ≤ tm) :
    Calls Try.prog 22 #[p, .int .i64 tm] w (TbPost w []) := by
  go_enter Try.func22, Try.ntmps22
  go_wp2_with fail
  refine (append_out _ p tm htm).mono ?_
  rintro e w2 ⟨a, c, rfl, hr, hb⟩
  have HP := hide (show TbPost w [] _ w2 from ⟨a, c, rfl, hr, hb⟩)
  clear hr hb
  go_wp2
  go_ret
  exact HP.out
end Go.Proofs.Qxb6500777a
