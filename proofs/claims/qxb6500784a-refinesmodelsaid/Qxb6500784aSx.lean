import Derived.Test.Qxb6500784aSk
import Derived.Test.Qxb6500784aCn
namespace Go.Proofs.Qxb6500784a
open Go.RowKit

attribute [-simp] Try.isAgg68 Try.sizeOf68 Try.typeInfo68
set_option linter.unusedSimpArgs false in
set_option maxRecDepth 100000 in
set_option maxHeartbeats 8000000 in
theorem sameB_gen (w : World) (b1 o1 b2 o2 : Nat) (l : Box0) (sv : List Box0) (B1 B2 : List Nat) (h1 : BA w b1 o1 l sv B1) (h2 : BA w b2 o2 l sv B2) (hsm : l.out.length ≤ 1000000000000 ∧ l.inb.length ≤ 1000000000000) (hsv : ∀ x, x ∈ sv → x.out.length ≤ 1000000000000 ∧ x.inb.length ≤ 1000000000000) (hsl : sv.length ≤ 1000)
    (hrec : sv ≠ [] → ∀ (w : World) (b1 o1 b2 o2 : Nat) (l : Box0) (B1 B2 : List Nat), BA w b1 o1 l [] B1 → BA w b2 o2 l [] B2 → l.out.length ≤ 1000000000000 ∧ l.inb.length ≤ 1000000000000 → Calls Try.prog 56 #[.pointer (some ⟨b1, o1, none⟩), .pointer (some ⟨b2, o2, none⟩)] w fun e w' => e = .returned (.bool true) ∧ Below w.heap.size w w') :
    Calls Try.prog 56 #[.pointer (some ⟨b1, o1, none⟩), .pointer (some ⟨b2, o2, none⟩)] w fun e w' => e = .returned (.bool true) ∧ Below w.heap.size w w' := by
  have HREC := hide hrec
  have HSV := hide hsv
  clear hrec hsv
  have H1 := hide h1
  have H2 := hide h2
  have HOK := hide h1.ok
  obtain ⟨hsm1, hsm2⟩ := hsm
  have a0 : w.cell? ⟨b1, o1, none⟩ = some (.int .u8 l.ch) := h1.cell (j := 0) (fun _ _ _ => rfl)
  have a3 : w.cell? ⟨b1, o1 + 3, none⟩ = some (.int .i64 l.sn) := h1.cell (j := 3) (fun _ _ _ => rfl)
  have b0' : w.cell? ⟨b2, o2, none⟩ = some (.int .u8 l.ch) := h2.cell (j := 0) (fun _ _ _ => rfl)
  have b3' : w.cell? ⟨b2, o2 + 3, none⟩ = some (.int .i64 l.sn) := h2.cell (j := 3) (fun _ _ _ => rfl)
  clear h1 h2
  go_enter Try.func56, Try.ntmps56
  go_upto_region 1 with fail
  go_quiet (fail)
  have HD2 := hide (below_dn w nq)
  have HA3 := hide (H1.out.below (below_dn w nq))
  have HA4 := hide (H2.out.below (below_dn w nq))
  generalize w.drewN nq = x2 at *
  clear a0 a3 b0' b3' H1 H2
  obtain ⟨oa1, mca1, c1, r1⟩ := HA3.out.outs
  obtain ⟨oa2, mcb1, d1, r2⟩ := HA4.out.outs
  obtain ⟨ia1, mca2, c2, r3⟩ := HA3.out.inbs
  obtain ⟨ia2, mcb2, d2, r4⟩ := HA4.out.inbs
  obtain ⟨sa, sca, c4⟩ := HA3.out.sav
  obtain ⟨sb, scb, d4⟩ := HA4.out.sav
  have HR1 := hide r1
  have HR2 := hide r2
  have HR3 := hide r3
  have HR4 := hide r4
  clear r1 r2 r3 r4
  go_upto_region 3 with fail
  go_quiet (fail)
  have HD3 := hide (lec HD2.out (below_dn x2 nq))
  have HA5 := hide (HA3.out.below (below_dn x2 nq))
  have HA6 := hide (HA4.out.below (below_dn x2 nq))
  have HM1 := hide (own_kept HR1.out (Ex.of (S := fun _ => False) (below_dn x2 nq)) (fun _ _ e => e))
  have HN1 := hide (own_kept HR2.out (Ex.of (S := fun _ => False) (below_dn x2 nq)) (fun _ _ e => e))
  have HM2 := hide (own_kept HR3.out (Ex.of (S := fun _ => False) (below_dn x2 nq)) (fun _ _ e => e))
  have HN2 := hide (own_kept HR4.out (Ex.of (S := fun _ => False) (below_dn x2 nq)) (fun _ _ e => e))
  replace c1 := cellKeep (below_dn x2 nq) c1
  replace c2 := cellKeep (below_dn x2 nq) c2
  replace c4 := cellKeep (below_dn x2 nq) c4
  replace d1 := cellKeep (below_dn x2 nq) d1
  replace d2 := cellKeep (below_dn x2 nq) d2
  replace d4 := cellKeep (below_dn x2 nq) d4
  clear HA3 HA4 HR1 HR2 HR3 HR4
  generalize x2.drewN nq = x3 at *
  have HC0 : Hid (Below x3.heap.size x3 x3) := Below.refl _ _
  go_upto_block 0 with fail
  go_cut [4] (fun _ wx => Below x3.heap.size x3 wx)
  case first =>
    go_wp2
    go_loopw [70] (fun s wr => ∃ i : Nat, i ≤ l.out.length ∧ s = .int .i64 i ∧ Below x3.heap.size x3 wr) (fun s _ => l.out.length - (intOf s).toNat)
    case atStart => exact ⟨0, Nat.zero_le _, rfl, HC0.out⟩
    case round =>
      try clear k1
      obtain ⟨i, hi, rfl, hb⟩ := hrel
      have HB := hide hb
      clear hb
      by_cases hlt : i < l.out.length
      · have e1 : decide ((i : Int) < (l.out.length : Int)) = true := by simp; omega
        have hii : (i : Int) < (l.out.length : Int) := by omega
        obtain ⟨m, hp⟩ : ∃ p, l.out[i]? = some p := ⟨_, List.getElem?_eq_getElem hlt⟩
        obtain ⟨g1, _, hg1⟩ := own_some HM1.out (by omega)
        obtain ⟨g2, _, hg2⟩ := own_some HN1.out (by omega)
        cases hg1
        cases hg2
        have hmo : MsgOk m := HOK.out.o m (List.mem_of_getElem? hp)
        have q1 := msg_at HM1.out HOK.out.o hp
        have q2 := msg_at HN1.out HOK.out.o hp
        have HVm : Hid ((msv m).length = 41) := msv_len hmo
        have he68 : ∀ w, (Op.equalIn 10000 68 (.agg (msv m).toArray) (.agg (msv m).toArray)).run Try.prog w = .ok true w := fun w => by have := eq68 w hmo hmo 9996; simpa using this
        have l1 : g1 < x3.heap.size := (HM1.out.lt g1 rfl).2
        have l2 : g2 < x3.heap.size := (HN1.out.lt g2 rfl).2
        have HS : Hid (wr.drew.cell? ⟨b1, o1 + 1, none⟩ = some (.slice (some ⟨g1, 0, none⟩) l.out.length mca1) ∧ wr.drew.cell? ⟨b2, o2 + 1, none⟩ = some (.slice (some ⟨g2, 0, none⟩) l.out.length mcb1) ∧ wr.drew.rangeAt g1 (i * 41) (msv m) ∧ wr.drew.rangeAt g2 (i * 41) (msv m)) :=
          ⟨cellKeep HB.out.drew c1, cellKeep HB.out.drew d1, range_below q1 l1 HB.out.drew, range_below q2 l2 HB.out.drew⟩
        clear q1 q2 l1 l2 hp hmo
        generalize msv m = Vm at *
        have hz68 := Try.sizeOf68
        go_upto_region 8 with fail
        refine wp_region_held_drew (S := fun w' => w'.cell? ⟨b1, o1 + 1, none⟩ = some (.slice (some ⟨g1, 0, none⟩) l.out.length mca1) ∧ w'.cell? ⟨b2, o2 + 1, none⟩ = some (.slice (some ⟨g2, 0, none⟩) l.out.length mcb1) ∧ w'.rangeAt g1 (i * 41) Vm ∧ w'.rangeAt g2 (i * 41) Vm) (by kernel_rfl) HS.out (fun hHeld => ?_)
        refine wpAnyH_take (i := 0) (v := ?_) rfl (by kernel_rfl) (by kernel_rfl) (by kernel_rfl) (fun _ _ _ h => h) (Or.inl ⟨by rfl, ?_⟩) (by assumption) ?_
        rotate_left
        · (intro w hSw; (try dsimp only at hSw); go_simp; try (with_reducible rfl))
        try simp only [Act.put, List.getElem_toArray, List.getElem_cons_zero, List.getElem_cons_succ, List.setIfInBounds_toArray, List.set_cons_zero, List.set_cons_succ]
        refine wpAnyH_take (i := 1) (v := ?_) rfl (by kernel_rfl) (by kernel_rfl) (by kernel_rfl) (fun _ _ _ h => h) (Or.inl ⟨by rfl, ?_⟩) (by assumption) ?_
        rotate_left
        · (intro w hSw; (try dsimp only at hSw); go_simp; try (with_reducible rfl))
        try simp only [Act.put, List.getElem_toArray, List.getElem_cons_zero, List.getElem_cons_succ, List.setIfInBounds_toArray, List.set_cons_zero, List.set_cons_succ]
        refine wpAnyH_take (i := 2) (v := ?_) rfl (by kernel_rfl) (by kernel_rfl) (by kernel_rfl) (fun _ _ _ h => h) (Or.inl ⟨by rfl, ?_⟩) (by assumption) ?_
        rotate_left
        · (intro w hSw; (try dsimp only at hSw); go_simp; try (with_reducible rfl))
        try simp only [Act.put, List.getElem_toArray, List.getElem_cons_zero, List.getElem_cons_succ, List.setIfInBounds_toArray, List.set_cons_zero, List.set_cons_succ]
        refine wpAnyH_take (i := 3) (v := ?_) rfl (by kernel_rfl) (by kernel_rfl) (by kernel_rfl) (fun _ _ _ h => h) (Or.inl ⟨by rfl, ?_⟩) (by assumption) ?_
        rotate_left
        · (intro w hSw; (try dsimp only at hSw); go_simp; try (with_reducible rfl))
        try simp only [Act.put, List.getElem_toArray, List.getElem_cons_zero, List.getElem_cons_succ, List.setIfInBounds_toArray, List.set_cons_zero, List.set_cons_succ]
        refine wpAnyH_take (i := 4) (v := ?_) rfl (by kernel_rfl) (by kernel_rfl) (by kernel_rfl) (fun _ _ _ h => h) (Or.inl ⟨by rfl, ?_⟩) (by assumption) ?_
        rotate_left
        · (intro w hSw; (try dsimp only at hSw); go_simp; try (with_reducible rfl))
        try simp only [Act.put, List.getElem_toArray, List.getElem_cons_zero, List.getElem_cons_succ, List.setIfInBounds_toArray, List.set_cons_zero, List.set_cons_succ]
        refine wpAnyH_take (i := 5) (v := ?_) rfl (by kernel_rfl) (by kernel_rfl) (by kernel_rfl) (fun _ _ _ h => h) (Or.inl ⟨by rfl, ?_⟩) (by assumption) ?_
        rotate_left
        · (intro w hSw; (try dsimp only at hSw); go_simp; try (with_reducible rfl))
        try simp only [Act.put, List.getElem_toArray, List.getElem_cons_zero, List.getElem_cons_succ, List.setIfInBounds_toArray, List.set_cons_zero, List.set_cons_succ]
        refine wpAnyH_take (i := 6) rfl (by kernel_rfl) (by kernel_rfl) (by kernel_rfl) (fun _ _ _ h => h) (yieldsIf_load_mid (by rfl) 68 (.tmp 78) rfl g1 (i * 41) rfl Vm _ (fun w h => h.2.2.1) Try.underlying68 rfl (by rw [HVm.out]; exact Try.sz68)) (by assumption) ?_
        try simp only [Act.put, List.getElem_toArray, List.getElem_cons_zero, List.getElem_cons_succ, List.setIfInBounds_toArray, List.set_cons_zero, List.set_cons_succ]
        refine wpAnyH_take (i := 7) (v := ?_) rfl (by kernel_rfl) (by kernel_rfl) (by kernel_rfl) (fun _ _ _ h => h) (Or.inl ⟨by rfl, ?_⟩) (by assumption) ?_
        rotate_left
        · (intro w hSw; (try dsimp only at hSw); go_simp; try (with_reducible rfl))
        try simp only [Act.put, List.getElem_toArray, List.getElem_cons_zero, List.getElem_cons_succ, List.setIfInBounds_toArray, List.set_cons_zero, List.set_cons_succ]
        refine wpAnyH_take (i := 8) (v := ?_) rfl (by kernel_rfl) (by kernel_rfl) (by kernel_rfl) (fun _ _ _ h => h) (Or.inl ⟨by rfl, ?_⟩) (by assumption) ?_
        rotate_left
        · (intro w hSw; (try dsimp only at hSw); go_simp; try (with_reducible rfl))
        try simp only [Act.put, List.getElem_toArray, List.getElem_cons_zero, List.getElem_cons_succ, List.setIfInBounds_toArray, List.set_cons_zero, List.set_cons_succ]
        refine wpAnyH_take (i := 9) (v := ?_) rfl (by kernel_rfl) (by kernel_rfl) (by kernel_rfl) (fun _ _ _ h => h) (Or.inl ⟨by rfl, ?_⟩) (by assumption) ?_
        rotate_left
        · (intro w hSw; (try dsimp only at hSw); go_simp; try (with_reducible rfl))
        try simp only [Act.put, List.getElem_toArray, List.getElem_cons_zero, List.getElem_cons_succ, List.setIfInBounds_toArray, List.set_cons_zero, List.set_cons_succ]
        refine wpAnyH_take (i := 10) (v := ?_) rfl (by kernel_rfl) (by kernel_rfl) (by kernel_rfl) (fun _ _ _ h => h) (Or.inl ⟨by rfl, ?_⟩) (by assumption) ?_
        rotate_left
        · (intro w hSw; (try dsimp only at hSw); go_simp; try (with_reducible rfl))
        try simp only [Act.put, List.getElem_toArray, List.getElem_cons_zero, List.getElem_cons_succ, List.setIfInBounds_toArray, List.set_cons_zero, List.set_cons_succ]
        refine wpAnyH_take (i := 11) (v := ?_) rfl (by kernel_rfl) (by kernel_rfl) (by kernel_rfl) (fun _ _ _ h => h) (Or.inl ⟨by rfl, ?_⟩) (by assumption) ?_
        rotate_left
        · (intro w hSw; (try dsimp only at hSw); go_simp; try (with_reducible rfl))
        try simp only [Act.put, List.getElem_toArray, List.getElem_cons_zero, List.getElem_cons_succ, List.setIfInBounds_toArray, List.set_cons_zero, List.set_cons_succ]
        refine wpAnyH_take (i := 12) (v := ?_) rfl (by kernel_rfl) (by kernel_rfl) (by kernel_rfl) (fun _ _ _ h => h) (Or.inl ⟨by rfl, ?_⟩) (by assumption) ?_
        rotate_left
        · (intro w hSw; (try dsimp only at hSw); go_simp; try (with_reducible rfl))
        try simp only [Act.put, List.getElem_toArray, List.getElem_cons_zero, List.getElem_cons_succ, List.setIfInBounds_toArray, List.set_cons_zero, List.set_cons_succ]
        refine wpAnyH_take (i := 13) rfl (by kernel_rfl) (by kernel_rfl) (by kernel_rfl) (fun _ _ _ h => h) (yieldsIf_load_mid (by rfl) 68 (.tmp 85) rfl g2 (i * 41) rfl Vm _ (fun w h => h.2.2.2) Try.underlying68 rfl (by rw [HVm.out]; exact Try.sz68)) (by assumption) ?_
        try simp only [Act.put, List.getElem_toArray, List.getElem_cons_zero, List.getElem_cons_succ, List.setIfInBounds_toArray, List.set_cons_zero, List.set_cons_succ]
        refine wpAnyH_take (i := 14) (v := ?_) rfl (by kernel_rfl) (by kernel_rfl) (by kernel_rfl) (fun _ _ _ h => h) (Or.inl ⟨by rfl, ?_⟩) (by assumption) ?_
        rotate_left
        · (intro w hSw; (try dsimp only at hSw); go_simp; try (with_reducible rfl))
        try simp only [Act.put, List.getElem_toArray, List.getElem_cons_zero, List.getElem_cons_succ, List.setIfInBounds_toArray, List.set_cons_zero, List.set_cons_succ]
        refine wpAnyH_done (by kernel_rfl) ?_ _
        have HB2 := hide HB.out.drew
        clear hHeld HS hz68 he68
        generalize wr.drew = wx at *
        go_wp2
        go_roundw
        case rel => exact ⟨i + 1, by omega, by go_num, HB2.out⟩
        case measure => simp [intOf]; omega
      · obtain rfl : i = l.out.length := by omega
        have e1 : decide ((l.out.length : Int) < (l.out.length : Int)) = false := by simp
        go_wp2
        go_meet
        exact HB.out
  have HC1 := hide hcut
  clear hcut HC0
  try clear k1
  go_upto_region 11 with fail
  have k1 := cellKeep HC1.out c2
  go_upto_block 2 with fail
  go_cut [4] (fun _ wx => Below x3.heap.size x3 wx)
  case first =>
    go_wp2
    go_loopw [94] (fun s wr => ∃ i : Nat, i ≤ l.inb.length ∧ s = .int .i64 i ∧ Below x3.heap.size x3 wr) (fun s _ => l.inb.length - (intOf s).toNat)
    case atStart => exact ⟨0, Nat.zero_le _, rfl, HC1.out⟩
    case round =>
      try clear k1
      obtain ⟨i, hi, rfl, hb⟩ := hrel
      have HB := hide hb
      clear hb
      by_cases hlt : i < l.inb.length
      · have e1 : decide ((i : Int) < (l.inb.length : Int)) = true := by simp; omega
        have hii : (i : Int) < (l.inb.length : Int) := by omega
        obtain ⟨m, hp⟩ : ∃ p, l.inb[i]? = some p := ⟨_, List.getElem?_eq_getElem hlt⟩
        obtain ⟨g1, _, hg1⟩ := own_some HM2.out (by omega)
        obtain ⟨g2, _, hg2⟩ := own_some HN2.out (by omega)
        cases hg1
        cases hg2
        have hmo : MsgOk m := HOK.out.i m (List.mem_of_getElem? hp)
        have q1 := msg_at HM2.out HOK.out.i hp
        have q2 := msg_at HN2.out HOK.out.i hp
        have HVm : Hid ((msv m).length = 41) := msv_len hmo
        have he68 : ∀ w, (Op.equalIn 10000 68 (.agg (msv m).toArray) (.agg (msv m).toArray)).run Try.prog w = .ok true w := fun w => by have := eq68 w hmo hmo 9996; simpa using this
        have l1 : g1 < x3.heap.size := (HM2.out.lt g1 rfl).2
        have l2 : g2 < x3.heap.size := (HN2.out.lt g2 rfl).2
        have HS : Hid (wr.drew.cell? ⟨b1, o1 + 2, none⟩ = some (.slice (some ⟨g1, 0, none⟩) l.inb.length mca2) ∧ wr.drew.cell? ⟨b2, o2 + 2, none⟩ = some (.slice (some ⟨g2, 0, none⟩) l.inb.length mcb2) ∧ wr.drew.rangeAt g1 (i * 41) (msv m) ∧ wr.drew.rangeAt g2 (i * 41) (msv m)) :=
          ⟨cellKeep HB.out.drew c2, cellKeep HB.out.drew d2, range_below q1 l1 HB.out.drew, range_below q2 l2 HB.out.drew⟩
        clear q1 q2 l1 l2 hp hmo
        generalize msv m = Vm at *
        have hz68 := Try.sizeOf68
        go_upto_region 14 with fail
        refine wp_region_held_drew (S := fun w' => w'.cell? ⟨b1, o1 + 2, none⟩ = some (.slice (some ⟨g1, 0, none⟩) l.inb.length mca2) ∧ w'.cell? ⟨b2, o2 + 2, none⟩ = some (.slice (some ⟨g2, 0, none⟩) l.inb.length mcb2) ∧ w'.rangeAt g1 (i * 41) Vm ∧ w'.rangeAt g2 (i * 41) Vm) (by kernel_rfl) HS.out (fun hHeld => ?_)
        refine wpAnyH_take (i := 0) (v := ?_) rfl (by kernel_rfl) (by kernel_rfl) (by kernel_rfl) (fun _ _ _ h => h) (Or.inl ⟨by rfl, ?_⟩) (by assumption) ?_
        rotate_left
        · (intro w hSw; (try dsimp only at hSw); go_simp; try (with_reducible rfl))
        try simp only [Act.put, List.getElem_toArray, List.getElem_cons_zero, List.getElem_cons_succ, List.setIfInBounds_toArray, List.set_cons_zero, List.set_cons_succ]
        refine wpAnyH_take (i := 1) (v := ?_) rfl (by kernel_rfl) (by kernel_rfl) (by kernel_rfl) (fun _ _ _ h => h) (Or.inl ⟨by rfl, ?_⟩) (by assumption) ?_
        rotate_left
        · (intro w hSw; (try dsimp only at hSw); go_simp; try (with_reducible rfl))
        try simp only [Act.put, List.getElem_toArray, List.getElem_cons_zero, List.getElem_cons_succ, List.setIfInBounds_toArray, List.set_cons_zero, List.set_cons_succ]
        refine wpAnyH_take (i := 2) (v := ?_) rfl (by kernel_rfl) (by kernel_rfl) (by kernel_rfl) (fun _ _ _ h => h) (Or.inl ⟨by rfl, ?_⟩) (by assumption) ?_
        rotate_left
        · (intro w hSw; (try dsimp only at hSw); go_simp; try (with_reducible rfl))
        try simp only [Act.put, List.getElem_toArray, List.getElem_cons_zero, List.getElem_cons_succ, List.setIfInBounds_toArray, List.set_cons_zero, List.set_cons_succ]
        refine wpAnyH_take (i := 3) (v := ?_) rfl (by kernel_rfl) (by kernel_rfl) (by kernel_rfl) (fun _ _ _ h => h) (Or.inl ⟨by rfl, ?_⟩) (by assumption) ?_
        rotate_left
        · (intro w hSw; (try dsimp only at hSw); go_simp; try (with_reducible rfl))
        try simp only [Act.put, List.getElem_toArray, List.getElem_cons_zero, List.getElem_cons_succ, List.setIfInBounds_toArray, List.set_cons_zero, List.set_cons_succ]
        refine wpAnyH_take (i := 4) (v := ?_) rfl (by kernel_rfl) (by kernel_rfl) (by kernel_rfl) (fun _ _ _ h => h) (Or.inl ⟨by rfl, ?_⟩) (by assumption) ?_
        rotate_left
        · (intro w hSw; (try dsimp only at hSw); go_simp; try (with_reducible rfl))
        try simp only [Act.put, List.getElem_toArray, List.getElem_cons_zero, List.getElem_cons_succ, List.setIfInBounds_toArray, List.set_cons_zero, List.set_cons_succ]
        refine wpAnyH_take (i := 5) (v := ?_) rfl (by kernel_rfl) (by kernel_rfl) (by kernel_rfl) (fun _ _ _ h => h) (Or.inl ⟨by rfl, ?_⟩) (by assumption) ?_
        rotate_left
        · (intro w hSw; (try dsimp only at hSw); go_simp; try (with_reducible rfl))
        try simp only [Act.put, List.getElem_toArray, List.getElem_cons_zero, List.getElem_cons_succ, List.setIfInBounds_toArray, List.set_cons_zero, List.set_cons_succ]
        refine wpAnyH_take (i := 6) rfl (by kernel_rfl) (by kernel_rfl) (by kernel_rfl) (fun _ _ _ h => h) (yieldsIf_load_mid (by rfl) 68 (.tmp 102) rfl g1 (i * 41) rfl Vm _ (fun w h => h.2.2.1) Try.underlying68 rfl (by rw [HVm.out]; exact Try.sz68)) (by assumption) ?_
        try simp only [Act.put, List.getElem_toArray, List.getElem_cons_zero, List.getElem_cons_succ, List.setIfInBounds_toArray, List.set_cons_zero, List.set_cons_succ]
        refine wpAnyH_take (i := 7) (v := ?_) rfl (by kernel_rfl) (by kernel_rfl) (by kernel_rfl) (fun _ _ _ h => h) (Or.inl ⟨by rfl, ?_⟩) (by assumption) ?_
        rotate_left
        · (intro w hSw; (try dsimp only at hSw); go_simp; try (with_reducible rfl))
        try simp only [Act.put, List.getElem_toArray, List.getElem_cons_zero, List.getElem_cons_succ, List.setIfInBounds_toArray, List.set_cons_zero, List.set_cons_succ]
        refine wpAnyH_take (i := 8) (v := ?_) rfl (by kernel_rfl) (by kernel_rfl) (by kernel_rfl) (fun _ _ _ h => h) (Or.inl ⟨by rfl, ?_⟩) (by assumption) ?_
        rotate_left
        · (intro w hSw; (try dsimp only at hSw); go_simp; try (with_reducible rfl))
        try simp only [Act.put, List.getElem_toArray, List.getElem_cons_zero, List.getElem_cons_succ, List.setIfInBounds_toArray, List.set_cons_zero, List.set_cons_succ]
        refine wpAnyH_take (i := 9) (v := ?_) rfl (by kernel_rfl) (by kernel_rfl) (by kernel_rfl) (fun _ _ _ h => h) (Or.inl ⟨by rfl, ?_⟩) (by assumption) ?_
        rotate_left
        · (intro w hSw; (try dsimp only at hSw); go_simp; try (with_reducible rfl))
        try simp only [Act.put, List.getElem_toArray, List.getElem_cons_zero, List.getElem_cons_succ, List.setIfInBounds_toArray, List.set_cons_zero, List.set_cons_succ]
        refine wpAnyH_take (i := 10) (v := ?_) rfl (by kernel_rfl) (by kernel_rfl) (by kernel_rfl) (fun _ _ _ h => h) (Or.inl ⟨by rfl, ?_⟩) (by assumption) ?_
        rotate_left
        · (intro w hSw; (try dsimp only at hSw); go_simp; try (with_reducible rfl))
        try simp only [Act.put, List.getElem_toArray, List.getElem_cons_zero, List.getElem_cons_succ, List.setIfInBounds_toArray, List.set_cons_zero, List.set_cons_succ]
        refine wpAnyH_take (i := 11) (v := ?_) rfl (by kernel_rfl) (by kernel_rfl) (by kernel_rfl) (fun _ _ _ h => h) (Or.inl ⟨by rfl, ?_⟩) (by assumption) ?_
        rotate_left
        · (intro w hSw; (try dsimp only at hSw); go_simp; try (with_reducible rfl))
        try simp only [Act.put, List.getElem_toArray, List.getElem_cons_zero, List.getElem_cons_succ, List.setIfInBounds_toArray, List.set_cons_zero, List.set_cons_succ]
        refine wpAnyH_take (i := 12) (v := ?_) rfl (by kernel_rfl) (by kernel_rfl) (by kernel_rfl) (fun _ _ _ h => h) (Or.inl ⟨by rfl, ?_⟩) (by assumption) ?_
        rotate_left
        · (intro w hSw; (try dsimp only at hSw); go_simp; try (with_reducible rfl))
        try simp only [Act.put, List.getElem_toArray, List.getElem_cons_zero, List.getElem_cons_succ, List.setIfInBounds_toArray, List.set_cons_zero, List.set_cons_succ]
        refine wpAnyH_take (i := 13) rfl (by kernel_rfl) (by kernel_rfl) (by kernel_rfl) (fun _ _ _ h => h) (yieldsIf_load_mid (by rfl) 68 (.tmp 109) rfl g2 (i * 41) rfl Vm _ (fun w h => h.2.2.2) Try.underlying68 rfl (by rw [HVm.out]; exact Try.sz68)) (by assumption) ?_
        try simp only [Act.put, List.getElem_toArray, List.getElem_cons_zero, List.getElem_cons_succ, List.setIfInBounds_toArray, List.set_cons_zero, List.set_cons_succ]
        refine wpAnyH_take (i := 14) (v := ?_) rfl (by kernel_rfl) (by kernel_rfl) (by kernel_rfl) (fun _ _ _ h => h) (Or.inl ⟨by rfl, ?_⟩) (by assumption) ?_
        rotate_left
        · (intro w hSw; (try dsimp only at hSw); go_simp; try (with_reducible rfl))
        try simp only [Act.put, List.getElem_toArray, List.getElem_cons_zero, List.getElem_cons_succ, List.setIfInBounds_toArray, List.set_cons_zero, List.set_cons_succ]
        refine wpAnyH_done (by kernel_rfl) ?_ _
        have HB2 := hide HB.out.drew
        clear hHeld HS hz68 he68
        generalize wr.drew = wx at *
        go_wp2
        go_roundw
        case rel => exact ⟨i + 1, by omega, by go_num, HB2.out⟩
        case measure => simp [intOf]; omega
      · obtain rfl : i = l.inb.length := by omega
        have e1 : decide ((l.inb.length : Int) < (l.inb.length : Int)) = false := by simp
        go_wp2
        go_meet
        exact HB.out
  have HC2 := hide hcut
  clear hcut HC1
  try clear k1
  have k1 := cellKeep HC2.out c4
  go_wp2
  go_loopw [118] (fun s118 wr => ∃ i : Nat, i ≤ sv.length ∧ s118 = .int .i64 i ∧ Below x3.heap.size x3 wr) (fun s118 _ => sv.length - (intOf s118).toNat)
  case atStart => exact ⟨0, Nat.zero_le _, rfl, HC2.out⟩
  case round =>
    clear k1
    obtain ⟨i, hi, rfl, hb⟩ := hrel
    have HB := hide hb
    clear hb
    by_cases hlt : i < sv.length
    · have e1 : decide ((i : Int) < (sv.length : Int)) = true := by simp; omega
      have hii : (i : Int) < (sv.length : Int) := by omega
      obtain ⟨x, hx⟩ : ∃ x, sv[i]? = some x := ⟨_, List.getElem?_eq_getElem hlt⟩
      obtain ⟨g1, k1, Bx1, f1, L1⟩ := HA5.out.ck hx
      obtain ⟨g2, k2, Bx2, f2, L2⟩ := HA6.out.ck hx
      rw [c4] at f1
      rw [d4] at f2
      cases f1
      cases f2
      have HK : Hid (∀ y, Below x3.heap.size x3 y → Calls Try.prog 56 #[.pointer (some ⟨g1, i * 5, none⟩), .pointer (some ⟨g2, i * 5, none⟩)] y fun e w' => e = .returned (.bool true) ∧ Below y.heap.size y w') := fun y hy => HREC.out (by rintro rfl; cases hx) y g1 _ g2 _ x Bx1 Bx2 (L1.below hy) (L2.below hy) (HSV.out x (List.mem_of_getElem? hx))
      clear L1 L2 hx HREC HSV HM1 HM2 HN1 HN2 HA5 HA6 HC2 c1 c2 d1 d2
      go_upto_region 20 with fail
      refine wp_region_held_drew (S := fun w' => w'.cell? ⟨b1, o1 + 4, none⟩ = some (.slice (some ⟨g1, 0, none⟩) sv.length sca) ∧ w'.cell? ⟨b2, o2 + 4, none⟩ = some (.slice (some ⟨g2, 0, none⟩) sv.length scb) ∧ Below x3.heap.size x3 w') (by kernel_rfl) ⟨cellKeep HB.out.drew c4, cellKeep HB.out.drew d4, HB.out.drew⟩ (fun hHeld => ?_)
      refine wpAnyH_take (i := 0) (v := ?_) rfl (by kernel_rfl) (by kernel_rfl) (by kernel_rfl) (fun _ _ _ h => h) (Or.inl ⟨by rfl, ?_⟩) (by assumption) ?_
      rotate_left
      · (intro w hSw; (try dsimp only at hSw); go_simp; try (with_reducible rfl))
      try simp only [Act.put, List.getElem_toArray, List.getElem_cons_zero, List.getElem_cons_succ, List.setIfInBounds_toArray, List.set_cons_zero, List.set_cons_succ]
      refine wpAnyH_take (i := 1) (v := ?_) rfl (by kernel_rfl) (by kernel_rfl) (by kernel_rfl) (fun _ _ _ h => h) (Or.inl ⟨by rfl, ?_⟩) (by assumption) ?_
      rotate_left
      · (intro w hSw; (try dsimp only at hSw); go_simp; try (with_reducible rfl))
      try simp only [Act.put, List.getElem_toArray, List.getElem_cons_zero, List.getElem_cons_succ, List.setIfInBounds_toArray, List.set_cons_zero, List.set_cons_succ]
      refine wpAnyH_take (i := 2) (v := ?_) rfl (by kernel_rfl) (by kernel_rfl) (by kernel_rfl) (fun _ _ _ h => h) (Or.inl ⟨by rfl, ?_⟩) (by assumption) ?_
      rotate_left
      · (intro w hSw; (try dsimp only at hSw); go_simp; try (with_reducible rfl))
      try simp only [Act.put, List.getElem_toArray, List.getElem_cons_zero, List.getElem_cons_succ, List.setIfInBounds_toArray, List.set_cons_zero, List.set_cons_succ]
      refine wpAnyH_take (i := 3) (v := ?_) rfl (by kernel_rfl) (by kernel_rfl) (by kernel_rfl) (fun _ _ _ h => h) (Or.inl ⟨by rfl, ?_⟩) (by assumption) ?_
      rotate_left
      · (intro w hSw; (try dsimp only at hSw); go_simp; try (with_reducible rfl))
      try simp only [Act.put, List.getElem_toArray, List.getElem_cons_zero, List.getElem_cons_succ, List.setIfInBounds_toArray, List.set_cons_zero, List.set_cons_succ]
      refine wpAnyH_take (i := 4) (v := ?_) rfl (by kernel_rfl) (by kernel_rfl) (by kernel_rfl) (fun _ _ _ h => h) (Or.inl ⟨by rfl, ?_⟩) (by assumption) ?_
      rotate_left
      · (intro w hSw; (try dsimp only at hSw); go_simp; try (with_reducible rfl))
      try simp only [Act.put, List.getElem_toArray, List.getElem_cons_zero, List.getElem_cons_succ, List.setIfInBounds_toArray, List.set_cons_zero, List.set_cons_succ]
      refine wpAnyH_take (i := 5) (v := ?_) rfl (by kernel_rfl) (by kernel_rfl) (by kernel_rfl) (fun _ _ _ h => h) (Or.inl ⟨by rfl, ?_⟩) (by assumption) ?_
      rotate_left
      · (intro w hSw; (try dsimp only at hSw); go_simp; try (with_reducible rfl))
      try simp only [Act.put, List.getElem_toArray, List.getElem_cons_zero, List.getElem_cons_succ, List.setIfInBounds_toArray, List.set_cons_zero, List.set_cons_succ]
      refine wpAnyH_take (i := 6) (v := ?_) rfl (by kernel_rfl) (by kernel_rfl) (by kernel_rfl) (fun _ _ _ h => h) (Or.inl ⟨by rfl, ?_⟩) (by assumption) ?_
      rotate_left
      · (intro w hSw; (try dsimp only at hSw); go_simp; try (with_reducible rfl))
      try simp only [Act.put, List.getElem_toArray, List.getElem_cons_zero, List.getElem_cons_succ, List.setIfInBounds_toArray, List.set_cons_zero, List.set_cons_succ]
      refine wpAnyH_take (i := 7) (v := ?_) rfl (by kernel_rfl) (by kernel_rfl) (by kernel_rfl) (fun _ _ _ h => h) (Or.inl ⟨by rfl, ?_⟩) (by assumption) ?_
      rotate_left
      · (intro w hSw; (try dsimp only at hSw); go_simp; try (with_reducible rfl))
      try simp only [Act.put, List.getElem_toArray, List.getElem_cons_zero, List.getElem_cons_succ, List.setIfInBounds_toArray, List.set_cons_zero, List.set_cons_succ]
      refine wpAnyH_take (i := 8) (v := ?_) rfl (by kernel_rfl) (by kernel_rfl) (by kernel_rfl) (fun _ _ _ h => h) (Or.inl ⟨by rfl, ?_⟩) (by assumption) ?_
      rotate_left
      · (intro w hSw; (try dsimp only at hSw); go_simp; try (with_reducible rfl))
      try simp only [Act.put, List.getElem_toArray, List.getElem_cons_zero, List.getElem_cons_succ, List.setIfInBounds_toArray, List.set_cons_zero, List.set_cons_succ]
      refine wpAnyH_take (i := 9) (v := ?_) rfl (by kernel_rfl) (by kernel_rfl) (by kernel_rfl) (fun _ _ _ h => h) (Or.inl ⟨by rfl, ?_⟩) (by assumption) ?_
      rotate_left
      · (intro w hSw; (try dsimp only at hSw); go_simp; try (with_reducible rfl))
      try simp only [Act.put, List.getElem_toArray, List.getElem_cons_zero, List.getElem_cons_succ, List.setIfInBounds_toArray, List.set_cons_zero, List.set_cons_succ]
      refine wpAnyH_take (i := 10) (v := ?_) rfl (by kernel_rfl) (by kernel_rfl) (by kernel_rfl) (fun _ _ _ h => h) (Or.inl ⟨by rfl, ?_⟩) (by assumption) ?_
      rotate_left
      · (intro w hSw; (try dsimp only at hSw); go_simp; try (with_reducible rfl))
      try simp only [Act.put, List.getElem_toArray, List.getElem_cons_zero, List.getElem_cons_succ, List.setIfInBounds_toArray, List.set_cons_zero, List.set_cons_succ]
      refine wpAnyH_take (i := 11) (v := ?_) rfl (by kernel_rfl) (by kernel_rfl) (by kernel_rfl) (fun _ _ _ h => h) (Or.inl ⟨by rfl, ?_⟩) (by assumption) ?_
      rotate_left
      · (intro w hSw; (try dsimp only at hSw); go_simp; try (with_reducible rfl))
      try simp only [Act.put, List.getElem_toArray, List.getElem_cons_zero, List.getElem_cons_succ, List.setIfInBounds_toArray, List.set_cons_zero, List.set_cons_succ]
      refine wpAnyH_ready (rs := [12]) (by kernel_rfl) (by simp) ?_
      refine (AllReadyH.cons rfl (fun K hK => ?_) AllReadyH.nil)
      refine step_call rfl 56 #[.pointer (some ⟨g1, i * 5, none⟩), .pointer (some ⟨g2, i * 5, none⟩)] (by simp [go_sem]) (HK.out _ hHeld.2.2) ?_
      rintro e wq ⟨rfl, hbq⟩
      have HBQ := hide (lec hHeld.2.2 hbq)
      clear hbq
      refine ⟨_, rfl, ?_⟩
      refine hK.out _ _ ?_ (fun hHeld => ?_)
      · exact ⟨cellKeep HBQ.out c4, cellKeep HBQ.out d4, HBQ.out⟩
      clear hK K
      try simp only [Act.put, List.getElem_toArray, List.getElem_cons_zero, List.getElem_cons_succ, List.setIfInBounds_toArray, List.set_cons_zero, List.set_cons_succ]
      refine wpAnyH_take (i := 13) (v := ?_) rfl (by kernel_rfl) (by kernel_rfl) (by kernel_rfl) (fun _ _ _ h => h) (Or.inl ⟨by rfl, ?_⟩) (by assumption) ?_
      rotate_left
      · (intro w hSw; (try dsimp only at hSw); go_simp; try (with_reducible rfl))
      try simp only [Act.put, List.getElem_toArray, List.getElem_cons_zero, List.getElem_cons_succ, List.setIfInBounds_toArray, List.set_cons_zero, List.set_cons_succ]
      refine wpAnyH_done (by kernel_rfl) ?_ _
      have HB2 := hide hHeld.2.2
      clear hHeld
      go_wp2
      go_roundw
      case rel => exact ⟨i + 1, by omega, by go_num, HB2.out⟩
      case measure => simp [intOf]; omega
    · obtain rfl : i = sv.length := by omega
      have e1 : decide ((sv.length : Int) < (sv.length : Int)) = false := by simp
      have HF := hide (lec HD3.out HB.out)
      go_wp2
      go_ret
      exact ⟨rfl, HF.out⟩
theorem sameB_flat (w : World) (b1 o1 b2 o2 : Nat) (l : Box0) (B1 B2 : List Nat) (h1 : BA w b1 o1 l [] B1) (h2 : BA w b2 o2 l [] B2) (hsm : l.out.length ≤ 1000000000000 ∧ l.inb.length ≤ 1000000000000) :
    Calls Try.prog 56 #[.pointer (some ⟨b1, o1, none⟩), .pointer (some ⟨b2, o2, none⟩)] w fun e w' => e = .returned (.bool true) ∧ Below w.heap.size w w' :=
  sameB_gen w b1 o1 b2 o2 l [] B1 B2 h1 h2 hsm (fun x hx => by cases hx) (by simp) (fun h => absurd rfl h)
/-- mailboxm.Same of equal boxes -/
theorem sameB_any (w : World) (b1 o1 b2 o2 : Nat) (l : Box0) (sv : List Box0) (B1 B2 : List Nat) (h1 : BA w b1 o1 l sv B1) (h2 : BA w b2 o2 l sv B2) (hsm : l.out.length ≤ 1000000000000 ∧ l.inb.length ≤ 1000000000000) (hsv : ∀ x, x ∈ sv → x.out.length ≤ 1000000000000 ∧ x.inb.length ≤ 1000000000000) (hsl : sv.length ≤ 1000) :
    Calls Try.prog 56 #[.pointer (some ⟨b1, o1, none⟩), .pointer (some ⟨b2, o2, none⟩)] w fun e w' => e = .returned (.bool true) ∧ Below w.heap.size w w' :=
  sameB_gen w b1 o1 b2 o2 l sv B1 B2 h1 h2 hsm hsv hsl (fun _ => sameB_flat)
end Go.Proofs.Qxb6500784a
