import Derived.Test.Qxb6500784aBu0
namespace Go.Proofs.Qxb6500784a
open Go.RowKit

attribute [-simp] Try.isAgg68 Try.sizeOf68 Try.typeInfo68
set_option linter.unusedSimpArgs false in
set_option maxRecDepth 100000 in
set_option maxHeartbeats 8000000 in
theorem burns_any (w : World) (b o ba oa bb ob Bo Bf : Nat) (L IA IB : List Msg) (O F : Nat → Int) (h : RowAt w b (o + 1) L (fun k => k = Bo ∨ k = Bf)) (hA : RowAt w ba (oa + 2) IA (fun k => k = Bo ∨ k = Bf)) (hB : RowAt w bb (ob + 2) IB (fun k => k = Bo ∨ k = Bf)) (hO : AR w Bo O) (hF : AR w Bf F) (hne : Bo ≠ Bf) (htk : ∀ m, m ∈ L → fld m 0 = 2 → fld m 6 < 4) :
    Calls Try.prog 39 #[.pointer (some ⟨b, o, none⟩), .pointer (some ⟨ba, oa, none⟩), .pointer (some ⟨bb, ob, none⟩), .pointer (some ⟨Bo, 0, none⟩), .pointer (some ⟨Bf, 0, none⟩)] w fun e w' => e = .returned (.tuple #[]) ∧ Ex (fun k => k = Bo ∨ k = Bf) w w' ∧ AR w' Bo (L.foldl outF O) ∧ AR w' Bf (L.foldl (flyF IA IB) F) := by
  have HLX := hide h
  have HAX := hide hA
  have HBX := hide hB
  have HO0 := hide hO
  have HF0 := hide hF
  have HNE := hide hne
  have HTK := hide htk
  obtain ⟨va, vc, c1, r1, s1⟩ := h.x
  have hle := own_le r1
  have HR1 := hide r1
  have HS1 := hide s1
  clear h hA hB hO hF hne htk r1 s1
  go_enter Try.func39, Try.ntmps39
  go_wp2
  clear c1
  go_loopw [17] (fun s17 wr => ∃ i : Nat, i ≤ L.length ∧ s17 = .int .i64 i ∧ Ex (fun k => k = Bo ∨ k = Bf) w wr ∧ AR wr Bo ((L.take i).foldl outF O) ∧ AR wr Bf ((L.take i).foldl (flyF IA IB) F)) (fun s17 _ => L.length - (intOf s17).toNat)
  case atStart => exact ⟨0, Nat.zero_le _, rfl, Ex.refl _ _, HO0.out, HF0.out⟩
  case round =>
    obtain ⟨i, hi, rfl, hx, ho, hf⟩ := hrel
    have HX := hide hx
    have HOR := hide ho
    have HFR := hide hf
    clear hx ho hf HO0 HF0
    by_cases hlt : i < L.length
    · have d1 : decide ((i : Int) < (L.length : Int)) = true := by simp; omega
      have hii : (i : Int) < (L.length : Int) := by omega
      obtain ⟨m, hm⟩ : ∃ m, L[i]? = some m := ⟨_, List.getElem?_eq_getElem hlt⟩
      have hmm := List.mem_of_getElem? hm
      have HMO := hide (HLX.out.m m hmm)
      have HTO : Hid ((L.take (i + 1)).foldl outF O = outF ((L.take i).foldl outF O) m) := by show _ = _; rw [List.take_add_one, hm, List.foldl_append]; rfl
      have HTF : Hid ((L.take (i + 1)).foldl (flyF IA IB) F = flyF IA IB ((L.take i).foldl (flyF IA IB) F) m) := by show _ = _; rw [List.take_add_one, hm, List.foldl_append]; rfl
      have hr2 := own_kept HR1.out HX.out HS1.out
      obtain ⟨g, _, hg⟩ := own_some hr2 (by omega)
      cases hg
      have HVR := hide (msg_at hr2 HLX.out.m hm)
      have h6 := fld_r HMO.out (j := 6) (by omega)
      have htk4 := HTK.out m hmm
      obtain ⟨tk, hto6⟩ : ∃ t : Nat, (fld m 6).toNat = t := ⟨_, rfl⟩
      have h6i : fld m 6 = (tk : Int) := by omega
      obtain ⟨am, hto7⟩ : ∃ a, fld m 7 = a := ⟨_, rfl⟩
      obtain ⟨tz, hto2⟩ : ∃ a, fld m 2 = a := ⟨_, rfl⟩
      obtain ⟨kd, hto0⟩ : ∃ a, fld m 0 = a := ⟨_, rfl⟩
      have HV0 : Hid ((msv m)[0]? = some (.int .u8 kd)) := by rw [← hto0]; exact fld_at HMO.out (by omega)
      have HV2 : Hid ((msv m)[2]? = some (.int .u8 tz)) := by rw [← hto2]; exact fld_at HMO.out (by omega)
      have HV6 : Hid ((msv m)[6]? = some (.int .u8 tk)) := by rw [← h6i]; exact fld_at HMO.out (by omega)
      have HV7 : Hid ((msv m)[7]? = some (.int .u64 am)) := by rw [← hto7]; exact fld_at HMO.out (by omega)
      have HVl : Hid ((msv m).length = 41) := msv_len HMO.out
      have HVo : Hid (∀ u ∈ msv m, u.oneCell' = true) := kvs_one _ _
      obtain ⟨V, hV⟩ : ∃ V, msv m = V := ⟨_, rfl⟩
      have HVe := hide hV
      rw [hV] at HVR HV0 HV2 HV6 HV7 HVl HVo
      generalize (L.take i).foldl outF O = O1 at *
      generalize (L.take i).foldl (flyF IA IB) F = F1 at *
      clear hV hm hmm hr2
      go_upto_region 2 with fail
      go_wp2_with fail
      simp only [Try.sizeOf68, Result.andThen]
      rw [Oper.upon_value]
      go_wp2_with fail
      simp only [Try.isAgg68, Try.sizeOf68, Result.andThen, ↓reduceIte, ldC wr g (i * 41) V 41 HVl.out HVR.out]
      rw [Oper.upon_value]
      go_wp2_with fail
      simp only [Try.sizeOf68, Result.andThen, HVl.out, ↓reduceIte, stNew wr 68 #[.int .u8 0, .int .u8 0, .int .u8 0, .int .u8 0, .int .u8 0, .int .u64 0, .int .u8 0, .int .u64 0, .int .u8 0, .int .u8 0, .int .u8 0, .int .u8 0, .int .u8 0, .int .u8 0, .int .u8 0, .int .u8 0, .int .u8 0, .int .u8 0, .int .u8 0, .int .u8 0, .int .u8 0, .int .u8 0, .int .u8 0, .int .u8 0, .int .u8 0, .int .u8 0, .int .u8 0, .int .u8 0, .int .u8 0, .int .u8 0, .int .u8 0, .int .u8 0, .int .u8 0, .int .u8 0, .int .u8 0, .int .u8 0, .int .u8 0, .int .u8 0, .int .u8 0, .int .u8 0, .int .u8 0] V 41 Try.sz68 rfl HVl.out HVo.out]
      rw [Oper.upon_skip]
      simp only [Act.put]
      have hbn := be1 wr (.cells V.toArray 68)
      have HX2 := hide (HX.out.trans2 (Ex.of (S := fun _ => False) hbn) (fun _ e => e.elim))
      have HRO := hide (HOR.out.below hbn)
      have HRF := hide (HFR.out.below hbn)
      have HER := hide (newR wr V 68)
      obtain ⟨E, hE⟩ : ∃ E, wr.heap.size = E := ⟨_, rfl⟩
      have HEl : Hid (E < (wr.alloc (.cells V.toArray 68)).heap.size) := by show _ < _; simp [hE]
      rw [hE] at HER ⊢
      generalize wr.alloc (.cells V.toArray 68) = wz at *
      clear hE hbn HVR HVo HX HOR HFR
      have e0 : wz.cell? ⟨E, 0, none⟩ = some (.int .u8 kd) := by have := HER.out 0 _ HV0.out; rwa [Nat.zero_add] at this
      have e2 : wz.cell? ⟨E, 2, none⟩ = some (.int .u8 tz) := by have := HER.out 2 _ HV2.out; rwa [Nat.zero_add] at this
      have hz68 := Try.sizeOf68
      by_cases hk2 : fld m 0 = 2
      case neg =>
        rw [hto0] at hk2
        have hk2 : ¬ fld m 0 = 2 := by rw [hto0]; exact hk2
        have hk3 : ¬ kd = 2 := by rw [← hto0]; exact hk2
        have HOe : Hid (outF O1 m = O1) := if_neg (fun e => hk2 e.1)
        have HFe : Hid (flyF IA IB F1 m = F1) := if_neg (fun e => hk2 e.1)
        have d0 : (kd != 2) = true := by simp [hk3]
        have HXF := hide HX2.out
        rw [HOe.out] at HTO
        rw [HFe.out] at HTF
        go_wp2
        go_roundw
        case rel => exact ⟨i + 1, by omega, by go_num, HXF.out, by rw [HTO.out]; exact HRO.out, by rw [HTF.out]; exact HRF.out⟩
        case measure => simp [intOf]; omega
      have hk2' := hk2
      have htk := htk4 hk2
      replace htk : tk < 4 := by omega
      have htki : (tk : Int) < 4 := by omega
      rw [hto0] at hk2
      subst hk2
      by_cases ht3 : fld m 2 = 3
      case pos =>
        have ht3' := ht3
        rw [hto2] at ht3
        subst ht3
        have HOe : Hid (outF O1 m = addAt O1 tk am) := by show _ = _; unfold outF; rw [if_pos ⟨hk2', ht3'⟩, hto6, hto7]
        have HFe : Hid (flyF IA IB F1 m = F1) := if_neg (fun e => by rcases e.2 with z | z <;> omega)
        have e2 : wz.cell? ⟨E, 2, none⟩ = some (.int .u8 3) := by have := HER.out 2 _ HV2.out; rwa [Nat.zero_add] at this
        have e6 : wz.cell? ⟨E, 6, none⟩ = some (.int .u8 tk) := by have := HER.out 6 _ HV6.out; rwa [Nat.zero_add] at this
        have e7 : wz.cell? ⟨E, 7, none⟩ = some (.int .u64 am) := by have := HER.out 7 _ HV7.out; rwa [Nat.zero_add] at this
        have cO := HRO.out.c tk htk
        have fO := HRO.out.f tk htk
        obtain ⟨x0, hx0⟩ : ∃ x, O1 tk = x := ⟨_, rfl⟩
        rw [hx0] at cO
        obtain ⟨x1, hx1⟩ : ∃ x, w64 (x0 + am) = x := ⟨_, rfl⟩
        have hwx : IntKind.u64.wrap (x0 + am) = x1 := by rw [IntKind.wrap_u64, ← hx1]; rfl
        have HNA := hide (HRO.out.set (k := tk) am)
        rw [hx0, hx1] at HNA
        have HNB := hide (HRF.out.ex (Z := fun k => k = Bo) ((Ex.refl (fun k => k = Bo) _).set (j := tk) rfl (.int .u64 x1)) (by have := HNE.out; omega))
        have HXF := hide ((HX2.out.set (j := tk) (.inl rfl) (.int .u64 x1)))
        clear hx0 hx1
        go_upto_region 5 with fail
        go_region
        replace HNA := hide (HNA.out.below ((Below.refl _ _).drew))
        replace HNB := hide (HNB.out.below ((Below.refl _ _).drew))
        replace HXF := hide (HXF.out.drew)
        rw [HOe.out] at HTO
        rw [HFe.out] at HTF
        go_wp2
        go_roundw
        case rel => exact ⟨i + 1, by omega, by go_num, HXF.out, by rw [HTO.out]; exact HNA.out, by rw [HTF.out]; exact HNB.out⟩
        case measure => simp [intOf]; omega
      by_cases ht1 : fld m 2 = 1
      case pos =>
        have ht2 := ht1
        rw [hto2] at ht1
        subst ht1
        by_cases hin : m ∈ IA
        case pos =>
          have HOe : Hid (outF O1 m = O1) := if_neg (fun e => by omega)
          have HFe : Hid (flyF IA IB F1 m = F1) := if_neg (fun e => by rcases e.2 with z | z; exact z.2 hin; omega)
          obtain ⟨qa, qc, q1, q2, q3⟩ := (HAX.out.ex HX2.out.drew).x
          have HCL : Hid (Calls Try.prog 37 #[.slice qa IA.length qc, .agg V.toArray] wz.drew fun e w' => e = .returned (.bool true) ∧ Below wz.drew.heap.size wz.drew w') := by
            have := among_any wz.drew (.slice qa IA.length qc) IA m q2 HAX.out.m HMO.out
            rw [decide_eq_true hin, HVe.out] at this
            exact this
          go_upto_region 6 with fail
          refine wp_region_held_drew (S := fun (w' : World) => w'.cell? ⟨E, 2, none⟩ = some (.int .u8 1) ∧ w'.cell? ⟨ba, oa + 2, none⟩ = some (.slice qa IA.length qc) ∧ w'.rangeAt E 0 V) (by kernel_rfl) ⟨e2, q1, HER.out⟩ (fun hHeld => ?_)
          clear q1 q2 q3
          refine wpAnyH_take (i := 0) (v := ?_) rfl (by kernel_rfl) (by kernel_rfl) (by kernel_rfl) (fun _ _ _ h => h) (Or.inl ⟨by rfl, ?_⟩) (by assumption) ?_
          rotate_left
          · (intro w hSw; (try dsimp only at hSw); go_simp; try (with_reducible rfl))
          try simp only [Act.put, List.getElem_toArray, List.getElem_cons_zero, List.getElem_cons_succ, List.setIfInBounds_toArray, List.set_cons_zero, List.set_cons_succ]
          refine wpAnyH_take (i := 1) (v := ?_) rfl (by kernel_rfl) (by kernel_rfl) (by kernel_rfl) (fun _ _ _ h => h) (Or.inl ⟨by rfl, ?_⟩) (by assumption) ?_
          rotate_left
          · (intro w hSw; (try dsimp only at hSw); go_simp; try (with_reducible rfl))
          try simp only [Act.put, List.getElem_toArray, List.getElem_cons_zero, List.getElem_cons_succ, List.setIfInBounds_toArray, List.set_cons_zero, List.set_cons_succ]
          refine wpAnyH_take (i := 2) (v := ?_) rfl (by kernel_rfl) (by kernel_rfl) (by kernel_rfl) (fun _ _ _ h => h) (Or.inl ⟨by rfl, ?_⟩) (by assumption) ?_
          rotate_left
          · (intro w hSw; (try dsimp only at hSw); go_simp; try (with_reducible rfl))
          try simp only [Act.put, List.getElem_toArray, List.getElem_cons_zero, List.getElem_cons_succ, List.setIfInBounds_toArray, List.set_cons_zero, List.set_cons_succ]
          refine wpAnyH_take (i := 3) (v := ?_) rfl (by kernel_rfl) (by kernel_rfl) (by kernel_rfl) (fun _ _ _ h => h) (Or.inl ⟨by rfl, ?_⟩) (by assumption) ?_
          rotate_left
          · (intro w hSw; (try dsimp only at hSw); go_simp; try (with_reducible rfl))
          try simp only [Act.put, List.getElem_toArray, List.getElem_cons_zero, List.getElem_cons_succ, List.setIfInBounds_toArray, List.set_cons_zero, List.set_cons_succ]
          refine wpAnyH_take (i := 4) (v := ?_) rfl (by kernel_rfl) (by kernel_rfl) (by kernel_rfl) (fun _ _ _ h => h) (Or.inl ⟨by rfl, ?_⟩) (by assumption) ?_
          rotate_left
          · (intro w hSw; (try dsimp only at hSw); go_simp; try (with_reducible rfl))
          try simp only [Act.put, List.getElem_toArray, List.getElem_cons_zero, List.getElem_cons_succ, List.setIfInBounds_toArray, List.set_cons_zero, List.set_cons_succ]
          refine wpAnyH_take (i := 5) (v := ?_) rfl (by kernel_rfl) (by kernel_rfl) (by kernel_rfl) (fun _ _ _ h => h) (Or.inl ⟨by rfl, ?_⟩) (by assumption) ?_
          rotate_left
          · (intro w hSw; (try dsimp only at hSw); go_simp; try (with_reducible rfl))
          try simp only [Act.put, List.getElem_toArray, List.getElem_cons_zero, List.getElem_cons_succ, List.setIfInBounds_toArray, List.set_cons_zero, List.set_cons_succ]
          refine wpAnyH_take (i := 6) (v := ?_) rfl (by kernel_rfl) (by kernel_rfl) (by kernel_rfl) (fun _ _ _ h => h) (Or.inl ⟨by rfl, ?_⟩) (by assumption) ?_
          rotate_left
          · (intro w hSw; (try dsimp only at hSw); go_simp; try (with_reducible rfl))
          try simp only [Act.put, List.getElem_toArray, List.getElem_cons_zero, List.getElem_cons_succ, List.setIfInBounds_toArray, List.set_cons_zero, List.set_cons_succ]
          refine wpAnyH_take (i := 7) (v := ?_) rfl (by kernel_rfl) (by kernel_rfl) (by kernel_rfl) (fun _ _ _ h => h) (Or.inl ⟨by rfl, ?_⟩) (by assumption) ?_
          rotate_left
          · (intro w hSw; (try dsimp only at hSw); go_simp; try (with_reducible rfl))
          try simp only [Act.put, List.getElem_toArray, List.getElem_cons_zero, List.getElem_cons_succ, List.setIfInBounds_toArray, List.set_cons_zero, List.set_cons_succ]
          refine wpAnyH_take (i := 8) rfl (by kernel_rfl) (by kernel_rfl) (by kernel_rfl) (fun _ _ _ h => h) (yieldsIf_load_mid (by rfl) 68 (.tmp 11) rfl E (0) rfl V _ (fun w h => h.2.2) Try.underlying68 rfl (by rw [HVl.out]; exact Try.sz68)) (by assumption) ?_
          try simp only [Act.put, List.getElem_toArray, List.getElem_cons_zero, List.getElem_cons_succ, List.setIfInBounds_toArray, List.set_cons_zero, List.set_cons_succ]
          refine wpAnyH_ready (rs := [9]) (by kernel_rfl) (by simp) ?_
          refine (AllReadyH.cons rfl (fun K hK => ?_) AllReadyH.nil)
          refine step_call_g (by rfl) 37 #[.slice qa IA.length qc, .agg V.toArray] (by simp [go_sem]) HCL.out ?_
          rintro e wq ⟨rfl, hbq⟩
          have HBq := hide hbq
          clear hbq
          refine ⟨_, rfl, ?_⟩
          refine hK.out _ _ ?_ (fun hHeld => ?_)
          · exact ⟨cellKeep HBq.out hHeld.1, cellKeep HBq.out hHeld.2.1, range_below hHeld.2.2 (World.block_lt_of_cell? _ _ hHeld.1) HBq.out⟩
          clear hK K
          try simp only [Act.put, List.getElem_toArray, List.getElem_cons_zero, List.getElem_cons_succ, List.setIfInBounds_toArray, List.set_cons_zero, List.set_cons_succ]
          refine wpAnyH_take (i := 10) (v := ?_) rfl (by kernel_rfl) (by kernel_rfl) (by kernel_rfl) (fun _ _ _ h => h) (Or.inl ⟨by rfl, ?_⟩) (by assumption) ?_
          rotate_left
          · (intro w hSw; (try dsimp only at hSw); go_simp; try (with_reducible rfl))
          try simp only [Act.put, List.getElem_toArray, List.getElem_cons_zero, List.getElem_cons_succ, List.setIfInBounds_toArray, List.set_cons_zero, List.set_cons_succ]
          refine wpAnyH_take (i := 11) (v := ?_) rfl (by kernel_rfl) (by kernel_rfl) (by kernel_rfl) (fun _ _ _ h => h) (Or.inl ⟨by rfl, ?_⟩) (by assumption) ?_
          rotate_left
          · (intro w hSw; (try dsimp only at hSw); go_simp; try (with_reducible rfl))
          try simp only [Act.put, List.getElem_toArray, List.getElem_cons_zero, List.getElem_cons_succ, List.setIfInBounds_toArray, List.set_cons_zero, List.set_cons_succ]
          refine wpAnyH_take (i := 12) (v := ?_) rfl (by kernel_rfl) (by kernel_rfl) (by kernel_rfl) (fun _ _ _ h => h) (Or.inl ⟨by rfl, ?_⟩) (by assumption) ?_
          rotate_left
          · (intro w hSw; (try dsimp only at hSw); go_simp; try (with_reducible rfl))
          try simp only [Act.put, List.getElem_toArray, List.getElem_cons_zero, List.getElem_cons_succ, List.setIfInBounds_toArray, List.set_cons_zero, List.set_cons_succ]
          refine wpAnyH_done (by kernel_rfl) ?_ _
          clear hHeld
          replace HX2 := hide (HX2.out.drew.trans2 (Ex.of (S := fun _ => False) HBq.out) (fun _ e => e.elim))
          replace HRO := hide ((HRO.out.below ((Below.refl _ _).drew)).below HBq.out)
          replace HRF := hide ((HRF.out.below ((Below.refl _ _).drew)).below HBq.out)
          replace HER := hide (range_below (show wz.drew.rangeAt E 0 V from HER.out) (show E < wz.drew.heap.size from HEl.out) HBq.out)
          clear HBq HCL
          obtain ⟨wx, hwx0⟩ : ∃ W', W' = wq := ⟨_, rfl⟩
          subst hwx0
          have e2 : wx.cell? ⟨E, 2, none⟩ = some (.int .u8 1) := by have := HER.out 2 _ HV2.out; rwa [Nat.zero_add] at this
          go_upto_region 8 with fail
          refine wp_region_held_drew (S := fun (w' : World) => w'.cell? ⟨E, 2, none⟩ = some (.int .u8 1)) (by kernel_rfl) e2 (fun hHeld => ?_)
          refine wpAnyH_take (i := 0) (v := ?_) rfl (by kernel_rfl) (by kernel_rfl) (by kernel_rfl) (fun _ _ _ h => h) (Or.inl ⟨by rfl, ?_⟩) (by assumption) ?_
          rotate_left
          · (intro w hSw; (try dsimp only at hSw); go_simp; try (with_reducible rfl))
          try simp only [Act.put, List.getElem_toArray, List.getElem_cons_zero, List.getElem_cons_succ, List.setIfInBounds_toArray, List.set_cons_zero, List.set_cons_succ]
          refine wpAnyH_take (i := 1) (v := ?_) rfl (by kernel_rfl) (by kernel_rfl) (by kernel_rfl) (fun _ _ _ h => h) (Or.inl ⟨by rfl, ?_⟩) (by assumption) ?_
          rotate_left
          · (intro w hSw; (try dsimp only at hSw); go_simp; try (with_reducible rfl))
          try simp only [Act.put, List.getElem_toArray, List.getElem_cons_zero, List.getElem_cons_succ, List.setIfInBounds_toArray, List.set_cons_zero, List.set_cons_succ]
          refine wpAnyH_take (i := 2) (v := ?_) rfl (by kernel_rfl) (by kernel_rfl) (by kernel_rfl) (fun _ _ _ h => h) (Or.inl ⟨by rfl, ?_⟩) (by assumption) ?_
          rotate_left
          · (intro w hSw; (try dsimp only at hSw); go_simp; try (with_reducible rfl))
          try simp only [Act.put, List.getElem_toArray, List.getElem_cons_zero, List.getElem_cons_succ, List.setIfInBounds_toArray, List.set_cons_zero, List.set_cons_succ]
          refine wpAnyH_take (i := 3) (v := ?_) rfl (by kernel_rfl) (by kernel_rfl) (by kernel_rfl) (fun _ _ _ h => h) (Or.inl ⟨by rfl, ?_⟩) (by assumption) ?_
          rotate_left
          · (intro w hSw; (try dsimp only at hSw); go_simp; try (with_reducible rfl))
          try simp only [Act.put, List.getElem_toArray, List.getElem_cons_zero, List.getElem_cons_succ, List.setIfInBounds_toArray, List.set_cons_zero, List.set_cons_succ]
          refine wpAnyH_take (i := 4) (v := undef) rfl (by kernel_rfl) (by kernel_rfl) (by kernel_rfl) (fun _ _ _ h => h) (Or.inr ⟨by rfl, rfl⟩) (by assumption) ?_
          try simp only [Act.put, List.getElem_toArray, List.getElem_cons_zero, List.getElem_cons_succ, List.setIfInBounds_toArray, List.set_cons_zero, List.set_cons_succ]
          refine wpAnyH_take (i := 5) (v := undef) rfl (by kernel_rfl) (by kernel_rfl) (by kernel_rfl) (fun _ _ _ h => h) (Or.inr ⟨by rfl, rfl⟩) (by assumption) ?_
          try simp only [Act.put, List.getElem_toArray, List.getElem_cons_zero, List.getElem_cons_succ, List.setIfInBounds_toArray, List.set_cons_zero, List.set_cons_succ]
          refine wpAnyH_take (i := 6) (v := undef) rfl (by kernel_rfl) (by kernel_rfl) (by kernel_rfl) (fun _ _ _ h => h) (Or.inr ⟨by rfl, rfl⟩) (by assumption) ?_
          try simp only [Act.put, List.getElem_toArray, List.getElem_cons_zero, List.getElem_cons_succ, List.setIfInBounds_toArray, List.set_cons_zero, List.set_cons_succ]
          refine wpAnyH_take (i := 7) (v := undef) rfl (by kernel_rfl) (by kernel_rfl) (by kernel_rfl) (fun _ _ _ h => h) (Or.inr ⟨by rfl, rfl⟩) (by assumption) ?_
          try simp only [Act.put, List.getElem_toArray, List.getElem_cons_zero, List.getElem_cons_succ, List.setIfInBounds_toArray, List.set_cons_zero, List.set_cons_succ]
          refine wpAnyH_take (i := 8) (v := undef) rfl (by kernel_rfl) (by kernel_rfl) (by kernel_rfl) (fun _ _ _ h => h) (Or.inr ⟨by rfl, rfl⟩) (by assumption) ?_
          try simp only [Act.put, List.getElem_toArray, List.getElem_cons_zero, List.getElem_cons_succ, List.setIfInBounds_toArray, List.set_cons_zero, List.set_cons_succ]
          refine wpAnyH_take (i := 9) (v := undef) rfl (by kernel_rfl) (by kernel_rfl) (by kernel_rfl) (fun _ _ _ h => h) (Or.inr ⟨by rfl, rfl⟩) (by assumption) ?_
          try simp only [Act.put, List.getElem_toArray, List.getElem_cons_zero, List.getElem_cons_succ, List.setIfInBounds_toArray, List.set_cons_zero, List.set_cons_succ]
          refine wpAnyH_take (i := 10) (v := undef) rfl (by kernel_rfl) (by kernel_rfl) (by kernel_rfl) (fun _ _ _ h => h) (Or.inr ⟨by rfl, rfl⟩) (by assumption) ?_
          try simp only [Act.put, List.getElem_toArray, List.getElem_cons_zero, List.getElem_cons_succ, List.setIfInBounds_toArray, List.set_cons_zero, List.set_cons_succ]
          refine wpAnyH_take (i := 11) (v := ?_) rfl (by kernel_rfl) (by kernel_rfl) (by kernel_rfl) (fun _ _ _ h => h) (Or.inl ⟨by rfl, ?_⟩) (by assumption) ?_
          rotate_left
          · (intro w hSw; (try dsimp only at hSw); go_simp; try (with_reducible rfl))
          try simp only [Act.put, List.getElem_toArray, List.getElem_cons_zero, List.getElem_cons_succ, List.setIfInBounds_toArray, List.set_cons_zero, List.set_cons_succ]
          refine wpAnyH_take (i := 12) (v := ?_) rfl (by kernel_rfl) (by kernel_rfl) (by kernel_rfl) (fun _ _ _ h => h) (Or.inl ⟨by rfl, ?_⟩) (by assumption) ?_
          rotate_left
          · (intro w hSw; (try dsimp only at hSw); go_simp; try (with_reducible rfl))
          try simp only [Act.put, List.getElem_toArray, List.getElem_cons_zero, List.getElem_cons_succ, List.setIfInBounds_toArray, List.set_cons_zero, List.set_cons_succ]
          refine wpAnyH_done (by kernel_rfl) ?_ _
          clear hHeld
          replace HX2 := hide HX2.out.drew
          replace HRO := hide (HRO.out.below ((Below.refl _ _).drew))
          replace HRF := hide (HRF.out.below ((Below.refl _ _).drew))
          replace HER := hide (show wx.drew.rangeAt E 0 V from HER.out)
          generalize wx.drew = wx at *
          have HXF := hide HX2.out
          rw [HOe.out] at HTO
          rw [HFe.out] at HTF
          go_wp2
          go_roundw
          case rel => exact ⟨i + 1, by omega, by go_num, HXF.out, by rw [HTO.out]; exact HRO.out, by rw [HTF.out]; exact HRF.out⟩
          case measure => simp [intOf]; omega
        case neg =>
          have HOe : Hid (outF O1 m = O1) := if_neg (fun e => by omega)
          have HFe : Hid (flyF IA IB F1 m = addAt F1 tk am) := by show _ = _; unfold flyF; rw [if_pos ⟨hk2', .inl ⟨ht2, hin⟩⟩, hto6, hto7]
          obtain ⟨qa, qc, q1, q2, q3⟩ := (HAX.out.ex HX2.out.drew).x
          have HCL : Hid (Calls Try.prog 37 #[.slice qa IA.length qc, .agg V.toArray] wz.drew fun e w' => e = .returned (.bool false) ∧ Below wz.drew.heap.size wz.drew w') := by
            have := among_any wz.drew (.slice qa IA.length qc) IA m q2 HAX.out.m HMO.out
            rw [decide_eq_false hin, HVe.out] at this
            exact this
          go_upto_region 6 with fail
          refine wp_region_held_drew (S := fun (w' : World) => w'.cell? ⟨E, 2, none⟩ = some (.int .u8 1) ∧ w'.cell? ⟨ba, oa + 2, none⟩ = some (.slice qa IA.length qc) ∧ w'.rangeAt E 0 V) (by kernel_rfl) ⟨e2, q1, HER.out⟩ (fun hHeld => ?_)
          clear q1 q2 q3
          refine wpAnyH_take (i := 0) (v := ?_) rfl (by kernel_rfl) (by kernel_rfl) (by kernel_rfl) (fun _ _ _ h => h) (Or.inl ⟨by rfl, ?_⟩) (by assumption) ?_
          rotate_left
          · (intro w hSw; (try dsimp only at hSw); go_simp; try (with_reducible rfl))
          try simp only [Act.put, List.getElem_toArray, List.getElem_cons_zero, List.getElem_cons_succ, List.setIfInBounds_toArray, List.set_cons_zero, List.set_cons_succ]
          refine wpAnyH_take (i := 1) (v := ?_) rfl (by kernel_rfl) (by kernel_rfl) (by kernel_rfl) (fun _ _ _ h => h) (Or.inl ⟨by rfl, ?_⟩) (by assumption) ?_
          rotate_left
          · (intro w hSw; (try dsimp only at hSw); go_simp; try (with_reducible rfl))
          try simp only [Act.put, List.getElem_toArray, List.getElem_cons_zero, List.getElem_cons_succ, List.setIfInBounds_toArray, List.set_cons_zero, List.set_cons_succ]
          refine wpAnyH_take (i := 2) (v := ?_) rfl (by kernel_rfl) (by kernel_rfl) (by kernel_rfl) (fun _ _ _ h => h) (Or.inl ⟨by rfl, ?_⟩) (by assumption) ?_
          rotate_left
          · (intro w hSw; (try dsimp only at hSw); go_simp; try (with_reducible rfl))
          try simp only [Act.put, List.getElem_toArray, List.getElem_cons_zero, List.getElem_cons_succ, List.setIfInBounds_toArray, List.set_cons_zero, List.set_cons_succ]
          refine wpAnyH_take (i := 3) (v := ?_) rfl (by kernel_rfl) (by kernel_rfl) (by kernel_rfl) (fun _ _ _ h => h) (Or.inl ⟨by rfl, ?_⟩) (by assumption) ?_
          rotate_left
          · (intro w hSw; (try dsimp only at hSw); go_simp; try (with_reducible rfl))
          try simp only [Act.put, List.getElem_toArray, List.getElem_cons_zero, List.getElem_cons_succ, List.setIfInBounds_toArray, List.set_cons_zero, List.set_cons_succ]
          refine wpAnyH_take (i := 4) (v := ?_) rfl (by kernel_rfl) (by kernel_rfl) (by kernel_rfl) (fun _ _ _ h => h) (Or.inl ⟨by rfl, ?_⟩) (by assumption) ?_
          rotate_left
          · (intro w hSw; (try dsimp only at hSw); go_simp; try (with_reducible rfl))
          try simp only [Act.put, List.getElem_toArray, List.getElem_cons_zero, List.getElem_cons_succ, List.setIfInBounds_toArray, List.set_cons_zero, List.set_cons_succ]
          refine wpAnyH_take (i := 5) (v := ?_) rfl (by kernel_rfl) (by kernel_rfl) (by kernel_rfl) (fun _ _ _ h => h) (Or.inl ⟨by rfl, ?_⟩) (by assumption) ?_
          rotate_left
          · (intro w hSw; (try dsimp only at hSw); go_simp; try (with_reducible rfl))
          try simp only [Act.put, List.getElem_toArray, List.getElem_cons_zero, List.getElem_cons_succ, List.setIfInBounds_toArray, List.set_cons_zero, List.set_cons_succ]
          refine wpAnyH_take (i := 6) (v := ?_) rfl (by kernel_rfl) (by kernel_rfl) (by kernel_rfl) (fun _ _ _ h => h) (Or.inl ⟨by rfl, ?_⟩) (by assumption) ?_
          rotate_left
          · (intro w hSw; (try dsimp only at hSw); go_simp; try (with_reducible rfl))
          try simp only [Act.put, List.getElem_toArray, List.getElem_cons_zero, List.getElem_cons_succ, List.setIfInBounds_toArray, List.set_cons_zero, List.set_cons_succ]
          refine wpAnyH_take (i := 7) (v := ?_) rfl (by kernel_rfl) (by kernel_rfl) (by kernel_rfl) (fun _ _ _ h => h) (Or.inl ⟨by rfl, ?_⟩) (by assumption) ?_
          rotate_left
          · (intro w hSw; (try dsimp only at hSw); go_simp; try (with_reducible rfl))
          try simp only [Act.put, List.getElem_toArray, List.getElem_cons_zero, List.getElem_cons_succ, List.setIfInBounds_toArray, List.set_cons_zero, List.set_cons_succ]
          refine wpAnyH_take (i := 8) rfl (by kernel_rfl) (by kernel_rfl) (by kernel_rfl) (fun _ _ _ h => h) (yieldsIf_load_mid (by rfl) 68 (.tmp 11) rfl E (0) rfl V _ (fun w h => h.2.2) Try.underlying68 rfl (by rw [HVl.out]; exact Try.sz68)) (by assumption) ?_
          try simp only [Act.put, List.getElem_toArray, List.getElem_cons_zero, List.getElem_cons_succ, List.setIfInBounds_toArray, List.set_cons_zero, List.set_cons_succ]
          refine wpAnyH_ready (rs := [9]) (by kernel_rfl) (by simp) ?_
          refine (AllReadyH.cons rfl (fun K hK => ?_) AllReadyH.nil)
          refine step_call_g (by rfl) 37 #[.slice qa IA.length qc, .agg V.toArray] (by simp [go_sem]) HCL.out ?_
          rintro e wq ⟨rfl, hbq⟩
          have HBq := hide hbq
          clear hbq
          refine ⟨_, rfl, ?_⟩
          refine hK.out _ _ ?_ (fun hHeld => ?_)
          · exact ⟨cellKeep HBq.out hHeld.1, cellKeep HBq.out hHeld.2.1, range_below hHeld.2.2 (World.block_lt_of_cell? _ _ hHeld.1) HBq.out⟩
          clear hK K
          try simp only [Act.put, List.getElem_toArray, List.getElem_cons_zero, List.getElem_cons_succ, List.setIfInBounds_toArray, List.set_cons_zero, List.set_cons_succ]
          refine wpAnyH_take (i := 10) (v := ?_) rfl (by kernel_rfl) (by kernel_rfl) (by kernel_rfl) (fun _ _ _ h => h) (Or.inl ⟨by rfl, ?_⟩) (by assumption) ?_
          rotate_left
          · (intro w hSw; (try dsimp only at hSw); go_simp; try (with_reducible rfl))
          try simp only [Act.put, List.getElem_toArray, List.getElem_cons_zero, List.getElem_cons_succ, List.setIfInBounds_toArray, List.set_cons_zero, List.set_cons_succ]
          refine wpAnyH_take (i := 11) (v := ?_) rfl (by kernel_rfl) (by kernel_rfl) (by kernel_rfl) (fun _ _ _ h => h) (Or.inl ⟨by rfl, ?_⟩) (by assumption) ?_
          rotate_left
          · (intro w hSw; (try dsimp only at hSw); go_simp; try (with_reducible rfl))
          try simp only [Act.put, List.getElem_toArray, List.getElem_cons_zero, List.getElem_cons_succ, List.setIfInBounds_toArray, List.set_cons_zero, List.set_cons_succ]
          refine wpAnyH_take (i := 12) (v := ?_) rfl (by kernel_rfl) (by kernel_rfl) (by kernel_rfl) (fun _ _ _ h => h) (Or.inl ⟨by rfl, ?_⟩) (by assumption) ?_
          rotate_left
          · (intro w hSw; (try dsimp only at hSw); go_simp; try (with_reducible rfl))
          try simp only [Act.put, List.getElem_toArray, List.getElem_cons_zero, List.getElem_cons_succ, List.setIfInBounds_toArray, List.set_cons_zero, List.set_cons_succ]
          refine wpAnyH_done (by kernel_rfl) ?_ _
          clear hHeld
          replace HX2 := hide (HX2.out.drew.trans2 (Ex.of (S := fun _ => False) HBq.out) (fun _ e => e.elim))
          replace HRO := hide ((HRO.out.below ((Below.refl _ _).drew)).below HBq.out)
          replace HRF := hide ((HRF.out.below ((Below.refl _ _).drew)).below HBq.out)
          replace HER := hide (range_below (show wz.drew.rangeAt E 0 V from HER.out) (show E < wz.drew.heap.size from HEl.out) HBq.out)
          clear HBq HCL
          obtain ⟨wx, hwx0⟩ : ∃ W', W' = wq := ⟨_, rfl⟩
          subst hwx0
          have e2 : wx.cell? ⟨E, 2, none⟩ = some (.int .u8 1) := by have := HER.out 2 _ HV2.out; rwa [Nat.zero_add] at this
          have e6 : wx.cell? ⟨E, 6, none⟩ = some (.int .u8 tk) := by have := HER.out 6 _ HV6.out; rwa [Nat.zero_add] at this
          have e7 : wx.cell? ⟨E, 7, none⟩ = some (.int .u64 am) := by have := HER.out 7 _ HV7.out; rwa [Nat.zero_add] at this
          have cO := HRF.out.c tk htk
          have fO := HRF.out.f tk htk
          obtain ⟨x0, hx0⟩ : ∃ x, F1 tk = x := ⟨_, rfl⟩
          rw [hx0] at cO
          obtain ⟨x1, hx1⟩ : ∃ x, w64 (x0 + am) = x := ⟨_, rfl⟩
          have hwx : IntKind.u64.wrap (x0 + am) = x1 := by rw [IntKind.wrap_u64, ← hx1]; rfl
          have HNA := hide (HRF.out.set (k := tk) am)
          rw [hx0, hx1] at HNA
          have HNB := hide (HRO.out.ex (Z := fun k => k = Bf) ((Ex.refl (fun k => k = Bf) _).set (j := tk) rfl (.int .u64 x1)) (by have := HNE.out; omega))
          have HXF := hide ((HX2.out.set (j := tk) (.inr rfl) (.int .u64 x1)))
          clear hx0 hx1
          go_upto_region 7 with fail
          go_region
          replace HNA := hide (HNA.out.below ((Below.refl _ _).drew))
          replace HNB := hide (HNB.out.below ((Below.refl _ _).drew))
          replace HXF := hide (HXF.out.drew)
          rw [HOe.out] at HTO
          rw [HFe.out] at HTF
          go_wp2
          go_roundw
          case rel => exact ⟨i + 1, by omega, by go_num, HXF.out, by rw [HTO.out]; exact HNB.out, by rw [HTF.out]; exact HNA.out⟩
          case measure => simp [intOf]; omega
      by_cases ht4 : fld m 2 = 2
      case pos =>
        have ht2 := ht4
        rw [hto2] at ht4
        subst ht4
        by_cases hin : m ∈ IB
        case pos =>
          have HOe : Hid (outF O1 m = O1) := if_neg (fun e => by omega)
          have HFe : Hid (flyF IA IB F1 m = F1) := if_neg (fun e => by rcases e.2 with z | z; omega; exact z.2 hin)
          go_upto_region 6 with fail
          refine wp_region_held_drew (S := fun (w' : World) => w'.cell? ⟨E, 2, none⟩ = some (.int .u8 2)) (by kernel_rfl) e2 (fun hHeld => ?_)
          refine wpAnyH_take (i := 0) (v := ?_) rfl (by kernel_rfl) (by kernel_rfl) (by kernel_rfl) (fun _ _ _ h => h) (Or.inl ⟨by rfl, ?_⟩) (by assumption) ?_
          rotate_left
          · (intro w hSw; (try dsimp only at hSw); go_simp; try (with_reducible rfl))
          try simp only [Act.put, List.getElem_toArray, List.getElem_cons_zero, List.getElem_cons_succ, List.setIfInBounds_toArray, List.set_cons_zero, List.set_cons_succ]
          refine wpAnyH_take (i := 1) (v := ?_) rfl (by kernel_rfl) (by kernel_rfl) (by kernel_rfl) (fun _ _ _ h => h) (Or.inl ⟨by rfl, ?_⟩) (by assumption) ?_
          rotate_left
          · (intro w hSw; (try dsimp only at hSw); go_simp; try (with_reducible rfl))
          try simp only [Act.put, List.getElem_toArray, List.getElem_cons_zero, List.getElem_cons_succ, List.setIfInBounds_toArray, List.set_cons_zero, List.set_cons_succ]
          refine wpAnyH_take (i := 2) (v := ?_) rfl (by kernel_rfl) (by kernel_rfl) (by kernel_rfl) (fun _ _ _ h => h) (Or.inl ⟨by rfl, ?_⟩) (by assumption) ?_
          rotate_left
          · (intro w hSw; (try dsimp only at hSw); go_simp; try (with_reducible rfl))
          try simp only [Act.put, List.getElem_toArray, List.getElem_cons_zero, List.getElem_cons_succ, List.setIfInBounds_toArray, List.set_cons_zero, List.set_cons_succ]
          refine wpAnyH_take (i := 3) (v := ?_) rfl (by kernel_rfl) (by kernel_rfl) (by kernel_rfl) (fun _ _ _ h => h) (Or.inl ⟨by rfl, ?_⟩) (by assumption) ?_
          rotate_left
          · (intro w hSw; (try dsimp only at hSw); go_simp; try (with_reducible rfl))
          try simp only [Act.put, List.getElem_toArray, List.getElem_cons_zero, List.getElem_cons_succ, List.setIfInBounds_toArray, List.set_cons_zero, List.set_cons_succ]
          refine wpAnyH_take (i := 4) (v := undef) rfl (by kernel_rfl) (by kernel_rfl) (by kernel_rfl) (fun _ _ _ h => h) (Or.inr ⟨by rfl, rfl⟩) (by assumption) ?_
          try simp only [Act.put, List.getElem_toArray, List.getElem_cons_zero, List.getElem_cons_succ, List.setIfInBounds_toArray, List.set_cons_zero, List.set_cons_succ]
          refine wpAnyH_take (i := 5) (v := undef) rfl (by kernel_rfl) (by kernel_rfl) (by kernel_rfl) (fun _ _ _ h => h) (Or.inr ⟨by rfl, rfl⟩) (by assumption) ?_
          try simp only [Act.put, List.getElem_toArray, List.getElem_cons_zero, List.getElem_cons_succ, List.setIfInBounds_toArray, List.set_cons_zero, List.set_cons_succ]
          refine wpAnyH_take (i := 6) (v := undef) rfl (by kernel_rfl) (by kernel_rfl) (by kernel_rfl) (fun _ _ _ h => h) (Or.inr ⟨by rfl, rfl⟩) (by assumption) ?_
          try simp only [Act.put, List.getElem_toArray, List.getElem_cons_zero, List.getElem_cons_succ, List.setIfInBounds_toArray, List.set_cons_zero, List.set_cons_succ]
          refine wpAnyH_take (i := 7) (v := undef) rfl (by kernel_rfl) (by kernel_rfl) (by kernel_rfl) (fun _ _ _ h => h) (Or.inr ⟨by rfl, rfl⟩) (by assumption) ?_
          try simp only [Act.put, List.getElem_toArray, List.getElem_cons_zero, List.getElem_cons_succ, List.setIfInBounds_toArray, List.set_cons_zero, List.set_cons_succ]
          refine wpAnyH_take (i := 8) (v := undef) rfl (by kernel_rfl) (by kernel_rfl) (by kernel_rfl) (fun _ _ _ h => h) (Or.inr ⟨by rfl, rfl⟩) (by assumption) ?_
          try simp only [Act.put, List.getElem_toArray, List.getElem_cons_zero, List.getElem_cons_succ, List.setIfInBounds_toArray, List.set_cons_zero, List.set_cons_succ]
          refine wpAnyH_take (i := 9) (v := undef) rfl (by kernel_rfl) (by kernel_rfl) (by kernel_rfl) (fun _ _ _ h => h) (Or.inr ⟨by rfl, rfl⟩) (by assumption) ?_
          try simp only [Act.put, List.getElem_toArray, List.getElem_cons_zero, List.getElem_cons_succ, List.setIfInBounds_toArray, List.set_cons_zero, List.set_cons_succ]
          refine wpAnyH_take (i := 10) (v := undef) rfl (by kernel_rfl) (by kernel_rfl) (by kernel_rfl) (fun _ _ _ h => h) (Or.inr ⟨by rfl, rfl⟩) (by assumption) ?_
          try simp only [Act.put, List.getElem_toArray, List.getElem_cons_zero, List.getElem_cons_succ, List.setIfInBounds_toArray, List.set_cons_zero, List.set_cons_succ]
          refine wpAnyH_take (i := 11) (v := ?_) rfl (by kernel_rfl) (by kernel_rfl) (by kernel_rfl) (fun _ _ _ h => h) (Or.inl ⟨by rfl, ?_⟩) (by assumption) ?_
          rotate_left
          · (intro w hSw; (try dsimp only at hSw); go_simp; try (with_reducible rfl))
          try simp only [Act.put, List.getElem_toArray, List.getElem_cons_zero, List.getElem_cons_succ, List.setIfInBounds_toArray, List.set_cons_zero, List.set_cons_succ]
          refine wpAnyH_take (i := 12) (v := ?_) rfl (by kernel_rfl) (by kernel_rfl) (by kernel_rfl) (fun _ _ _ h => h) (Or.inl ⟨by rfl, ?_⟩) (by assumption) ?_
          rotate_left
          · (intro w hSw; (try dsimp only at hSw); go_simp; try (with_reducible rfl))
          try simp only [Act.put, List.getElem_toArray, List.getElem_cons_zero, List.getElem_cons_succ, List.setIfInBounds_toArray, List.set_cons_zero, List.set_cons_succ]
          refine wpAnyH_done (by kernel_rfl) ?_ _
          clear hHeld
          replace HX2 := hide HX2.out.drew
          replace HRO := hide (HRO.out.below ((Below.refl _ _).drew))
          replace HRF := hide (HRF.out.below ((Below.refl _ _).drew))
          replace HER := hide (show wz.drew.rangeAt E 0 V from HER.out)
          generalize wz.drew = wx at *
          have HEl : Hid (E < wx.heap.size) := World.block_lt_of_cell? _ _ (HER.out 2 _ HV2.out)
          have e2 : wx.cell? ⟨E, 2, none⟩ = some (.int .u8 2) := by have := HER.out 2 _ HV2.out; rwa [Nat.zero_add] at this
          obtain ⟨qa, qc, q1, q2, q3⟩ := (HBX.out.ex HX2.out.drew).x
          have HCL : Hid (Calls Try.prog 37 #[.slice qa IB.length qc, .agg V.toArray] wx.drew fun e w' => e = .returned (.bool true) ∧ Below wx.drew.heap.size wx.drew w') := by
            have := among_any wx.drew (.slice qa IB.length qc) IB m q2 HBX.out.m HMO.out
            rw [decide_eq_true hin, HVe.out] at this
            exact this
          go_upto_region 8 with fail
          refine wp_region_held_drew (S := fun (w' : World) => w'.cell? ⟨E, 2, none⟩ = some (.int .u8 2) ∧ w'.cell? ⟨bb, ob + 2, none⟩ = some (.slice qa IB.length qc) ∧ w'.rangeAt E 0 V) (by kernel_rfl) ⟨e2, q1, HER.out⟩ (fun hHeld => ?_)
          clear q1 q2 q3
          refine wpAnyH_take (i := 0) (v := ?_) rfl (by kernel_rfl) (by kernel_rfl) (by kernel_rfl) (fun _ _ _ h => h) (Or.inl ⟨by rfl, ?_⟩) (by assumption) ?_
          rotate_left
          · (intro w hSw; (try dsimp only at hSw); go_simp; try (with_reducible rfl))
          try simp only [Act.put, List.getElem_toArray, List.getElem_cons_zero, List.getElem_cons_succ, List.setIfInBounds_toArray, List.set_cons_zero, List.set_cons_succ]
          refine wpAnyH_take (i := 1) (v := ?_) rfl (by kernel_rfl) (by kernel_rfl) (by kernel_rfl) (fun _ _ _ h => h) (Or.inl ⟨by rfl, ?_⟩) (by assumption) ?_
          rotate_left
          · (intro w hSw; (try dsimp only at hSw); go_simp; try (with_reducible rfl))
          try simp only [Act.put, List.getElem_toArray, List.getElem_cons_zero, List.getElem_cons_succ, List.setIfInBounds_toArray, List.set_cons_zero, List.set_cons_succ]
          refine wpAnyH_take (i := 2) (v := ?_) rfl (by kernel_rfl) (by kernel_rfl) (by kernel_rfl) (fun _ _ _ h => h) (Or.inl ⟨by rfl, ?_⟩) (by assumption) ?_
          rotate_left
          · (intro w hSw; (try dsimp only at hSw); go_simp; try (with_reducible rfl))
          try simp only [Act.put, List.getElem_toArray, List.getElem_cons_zero, List.getElem_cons_succ, List.setIfInBounds_toArray, List.set_cons_zero, List.set_cons_succ]
          refine wpAnyH_take (i := 3) (v := ?_) rfl (by kernel_rfl) (by kernel_rfl) (by kernel_rfl) (fun _ _ _ h => h) (Or.inl ⟨by rfl, ?_⟩) (by assumption) ?_
          rotate_left
          · (intro w hSw; (try dsimp only at hSw); go_simp; try (with_reducible rfl))
          try simp only [Act.put, List.getElem_toArray, List.getElem_cons_zero, List.getElem_cons_succ, List.setIfInBounds_toArray, List.set_cons_zero, List.set_cons_succ]
          refine wpAnyH_take (i := 4) (v := ?_) rfl (by kernel_rfl) (by kernel_rfl) (by kernel_rfl) (fun _ _ _ h => h) (Or.inl ⟨by rfl, ?_⟩) (by assumption) ?_
          rotate_left
          · (intro w hSw; (try dsimp only at hSw); go_simp; try (with_reducible rfl))
          try simp only [Act.put, List.getElem_toArray, List.getElem_cons_zero, List.getElem_cons_succ, List.setIfInBounds_toArray, List.set_cons_zero, List.set_cons_succ]
          refine wpAnyH_take (i := 5) (v := ?_) rfl (by kernel_rfl) (by kernel_rfl) (by kernel_rfl) (fun _ _ _ h => h) (Or.inl ⟨by rfl, ?_⟩) (by assumption) ?_
          rotate_left
          · (intro w hSw; (try dsimp only at hSw); go_simp; try (with_reducible rfl))
          try simp only [Act.put, List.getElem_toArray, List.getElem_cons_zero, List.getElem_cons_succ, List.setIfInBounds_toArray, List.set_cons_zero, List.set_cons_succ]
          refine wpAnyH_take (i := 6) (v := ?_) rfl (by kernel_rfl) (by kernel_rfl) (by kernel_rfl) (fun _ _ _ h => h) (Or.inl ⟨by rfl, ?_⟩) (by assumption) ?_
          rotate_left
          · (intro w hSw; (try dsimp only at hSw); go_simp; try (with_reducible rfl))
          try simp only [Act.put, List.getElem_toArray, List.getElem_cons_zero, List.getElem_cons_succ, List.setIfInBounds_toArray, List.set_cons_zero, List.set_cons_succ]
          refine wpAnyH_take (i := 7) (v := ?_) rfl (by kernel_rfl) (by kernel_rfl) (by kernel_rfl) (fun _ _ _ h => h) (Or.inl ⟨by rfl, ?_⟩) (by assumption) ?_
          rotate_left
          · (intro w hSw; (try dsimp only at hSw); go_simp; try (with_reducible rfl))
          try simp only [Act.put, List.getElem_toArray, List.getElem_cons_zero, List.getElem_cons_succ, List.setIfInBounds_toArray, List.set_cons_zero, List.set_cons_succ]
          refine wpAnyH_take (i := 8) rfl (by kernel_rfl) (by kernel_rfl) (by kernel_rfl) (fun _ _ _ h => h) (yieldsIf_load_mid (by rfl) 68 (.tmp 11) rfl E (0) rfl V _ (fun w h => h.2.2) Try.underlying68 rfl (by rw [HVl.out]; exact Try.sz68)) (by assumption) ?_
          try simp only [Act.put, List.getElem_toArray, List.getElem_cons_zero, List.getElem_cons_succ, List.setIfInBounds_toArray, List.set_cons_zero, List.set_cons_succ]
          refine wpAnyH_ready (rs := [9]) (by kernel_rfl) (by simp) ?_
          refine (AllReadyH.cons rfl (fun K hK => ?_) AllReadyH.nil)
          refine step_call_g (by rfl) 37 #[.slice qa IB.length qc, .agg V.toArray] (by simp [go_sem]) HCL.out ?_
          rintro e wq ⟨rfl, hbq⟩
          have HBq := hide hbq
          clear hbq
          refine ⟨_, rfl, ?_⟩
          refine hK.out _ _ ?_ (fun hHeld => ?_)
          · exact ⟨cellKeep HBq.out hHeld.1, cellKeep HBq.out hHeld.2.1, range_below hHeld.2.2 (World.block_lt_of_cell? _ _ hHeld.1) HBq.out⟩
          clear hK K
          try simp only [Act.put, List.getElem_toArray, List.getElem_cons_zero, List.getElem_cons_succ, List.setIfInBounds_toArray, List.set_cons_zero, List.set_cons_succ]
          refine wpAnyH_take (i := 10) (v := ?_) rfl (by kernel_rfl) (by kernel_rfl) (by kernel_rfl) (fun _ _ _ h => h) (Or.inl ⟨by rfl, ?_⟩) (by assumption) ?_
          rotate_left
          · (intro w hSw; (try dsimp only at hSw); go_simp; try (with_reducible rfl))
          try simp only [Act.put, List.getElem_toArray, List.getElem_cons_zero, List.getElem_cons_succ, List.setIfInBounds_toArray, List.set_cons_zero, List.set_cons_succ]
          refine wpAnyH_take (i := 11) (v := ?_) rfl (by kernel_rfl) (by kernel_rfl) (by kernel_rfl) (fun _ _ _ h => h) (Or.inl ⟨by rfl, ?_⟩) (by assumption) ?_
          rotate_left
          · (intro w hSw; (try dsimp only at hSw); go_simp; try (with_reducible rfl))
          try simp only [Act.put, List.getElem_toArray, List.getElem_cons_zero, List.getElem_cons_succ, List.setIfInBounds_toArray, List.set_cons_zero, List.set_cons_succ]
          refine wpAnyH_take (i := 12) (v := ?_) rfl (by kernel_rfl) (by kernel_rfl) (by kernel_rfl) (fun _ _ _ h => h) (Or.inl ⟨by rfl, ?_⟩) (by assumption) ?_
          rotate_left
          · (intro w hSw; (try dsimp only at hSw); go_simp; try (with_reducible rfl))
          try simp only [Act.put, List.getElem_toArray, List.getElem_cons_zero, List.getElem_cons_succ, List.setIfInBounds_toArray, List.set_cons_zero, List.set_cons_succ]
          refine wpAnyH_done (by kernel_rfl) ?_ _
          clear hHeld
          replace HX2 := hide (HX2.out.drew.trans2 (Ex.of (S := fun _ => False) HBq.out) (fun _ e => e.elim))
          replace HRO := hide ((HRO.out.below ((Below.refl _ _).drew)).below HBq.out)
          replace HRF := hide ((HRF.out.below ((Below.refl _ _).drew)).below HBq.out)
          replace HER := hide (range_below (show wx.drew.rangeAt E 0 V from HER.out) (show E < wx.drew.heap.size from HEl.out) HBq.out)
          clear HBq HCL
          obtain ⟨wx, hwx0⟩ : ∃ W', W' = wq := ⟨_, rfl⟩
          subst hwx0
          have HXF := hide HX2.out
          rw [HOe.out] at HTO
          rw [HFe.out] at HTF
          go_wp2
          go_roundw
          case rel => exact ⟨i + 1, by omega, by go_num, HXF.out, by rw [HTO.out]; exact HRO.out, by rw [HTF.out]; exact HRF.out⟩
          case measure => simp [intOf]; omega
        case neg =>
          have HOe : Hid (outF O1 m = O1) := if_neg (fun e => by omega)
          have HFe : Hid (flyF IA IB F1 m = addAt F1 tk am) := by show _ = _; unfold flyF; rw [if_pos ⟨hk2', .inr ⟨ht2, hin⟩⟩, hto6, hto7]
          go_upto_region 6 with fail
          refine wp_region_held_drew (S := fun (w' : World) => w'.cell? ⟨E, 2, none⟩ = some (.int .u8 2)) (by kernel_rfl) e2 (fun hHeld => ?_)
          refine wpAnyH_take (i := 0) (v := ?_) rfl (by kernel_rfl) (by kernel_rfl) (by kernel_rfl) (fun _ _ _ h => h) (Or.inl ⟨by rfl, ?_⟩) (by assumption) ?_
          rotate_left
          · (intro w hSw; (try dsimp only at hSw); go_simp; try (with_reducible rfl))
          try simp only [Act.put, List.getElem_toArray, List.getElem_cons_zero, List.getElem_cons_succ, List.setIfInBounds_toArray, List.set_cons_zero, List.set_cons_succ]
          refine wpAnyH_take (i := 1) (v := ?_) rfl (by kernel_rfl) (by kernel_rfl) (by kernel_rfl) (fun _ _ _ h => h) (Or.inl ⟨by rfl, ?_⟩) (by assumption) ?_
          rotate_left
          · (intro w hSw; (try dsimp only at hSw); go_simp; try (with_reducible rfl))
          try simp only [Act.put, List.getElem_toArray, List.getElem_cons_zero, List.getElem_cons_succ, List.setIfInBounds_toArray, List.set_cons_zero, List.set_cons_succ]
          refine wpAnyH_take (i := 2) (v := ?_) rfl (by kernel_rfl) (by kernel_rfl) (by kernel_rfl) (fun _ _ _ h => h) (Or.inl ⟨by rfl, ?_⟩) (by assumption) ?_
          rotate_left
          · (intro w hSw; (try dsimp only at hSw); go_simp; try (with_reducible rfl))
          try simp only [Act.put, List.getElem_toArray, List.getElem_cons_zero, List.getElem_cons_succ, List.setIfInBounds_toArray, List.set_cons_zero, List.set_cons_succ]
          refine wpAnyH_take (i := 3) (v := ?_) rfl (by kernel_rfl) (by kernel_rfl) (by kernel_rfl) (fun _ _ _ h => h) (Or.inl ⟨by rfl, ?_⟩) (by assumption) ?_
          rotate_left
          · (intro w hSw; (try dsimp only at hSw); go_simp; try (with_reducible rfl))
          try simp only [Act.put, List.getElem_toArray, List.getElem_cons_zero, List.getElem_cons_succ, List.setIfInBounds_toArray, List.set_cons_zero, List.set_cons_succ]
          refine wpAnyH_take (i := 4) (v := undef) rfl (by kernel_rfl) (by kernel_rfl) (by kernel_rfl) (fun _ _ _ h => h) (Or.inr ⟨by rfl, rfl⟩) (by assumption) ?_
          try simp only [Act.put, List.getElem_toArray, List.getElem_cons_zero, List.getElem_cons_succ, List.setIfInBounds_toArray, List.set_cons_zero, List.set_cons_succ]
          refine wpAnyH_take (i := 5) (v := undef) rfl (by kernel_rfl) (by kernel_rfl) (by kernel_rfl) (fun _ _ _ h => h) (Or.inr ⟨by rfl, rfl⟩) (by assumption) ?_
          try simp only [Act.put, List.getElem_toArray, List.getElem_cons_zero, List.getElem_cons_succ, List.setIfInBounds_toArray, List.set_cons_zero, List.set_cons_succ]
          refine wpAnyH_take (i := 6) (v := undef) rfl (by kernel_rfl) (by kernel_rfl) (by kernel_rfl) (fun _ _ _ h => h) (Or.inr ⟨by rfl, rfl⟩) (by assumption) ?_
          try simp only [Act.put, List.getElem_toArray, List.getElem_cons_zero, List.getElem_cons_succ, List.setIfInBounds_toArray, List.set_cons_zero, List.set_cons_succ]
          refine wpAnyH_take (i := 7) (v := undef) rfl (by kernel_rfl) (by kernel_rfl) (by kernel_rfl) (fun _ _ _ h => h) (Or.inr ⟨by rfl, rfl⟩) (by assumption) ?_
          try simp only [Act.put, List.getElem_toArray, List.getElem_cons_zero, List.getElem_cons_succ, List.setIfInBounds_toArray, List.set_cons_zero, List.set_cons_succ]
          refine wpAnyH_take (i := 8) (v := undef) rfl (by kernel_rfl) (by kernel_rfl) (by kernel_rfl) (fun _ _ _ h => h) (Or.inr ⟨by rfl, rfl⟩) (by assumption) ?_
          try simp only [Act.put, List.getElem_toArray, List.getElem_cons_zero, List.getElem_cons_succ, List.setIfInBounds_toArray, List.set_cons_zero, List.set_cons_succ]
          refine wpAnyH_take (i := 9) (v := undef) rfl (by kernel_rfl) (by kernel_rfl) (by kernel_rfl) (fun _ _ _ h => h) (Or.inr ⟨by rfl, rfl⟩) (by assumption) ?_
          try simp only [Act.put, List.getElem_toArray, List.getElem_cons_zero, List.getElem_cons_succ, List.setIfInBounds_toArray, List.set_cons_zero, List.set_cons_succ]
          refine wpAnyH_take (i := 10) (v := undef) rfl (by kernel_rfl) (by kernel_rfl) (by kernel_rfl) (fun _ _ _ h => h) (Or.inr ⟨by rfl, rfl⟩) (by assumption) ?_
          try simp only [Act.put, List.getElem_toArray, List.getElem_cons_zero, List.getElem_cons_succ, List.setIfInBounds_toArray, List.set_cons_zero, List.set_cons_succ]
          refine wpAnyH_take (i := 11) (v := ?_) rfl (by kernel_rfl) (by kernel_rfl) (by kernel_rfl) (fun _ _ _ h => h) (Or.inl ⟨by rfl, ?_⟩) (by assumption) ?_
          rotate_left
          · (intro w hSw; (try dsimp only at hSw); go_simp; try (with_reducible rfl))
          try simp only [Act.put, List.getElem_toArray, List.getElem_cons_zero, List.getElem_cons_succ, List.setIfInBounds_toArray, List.set_cons_zero, List.set_cons_succ]
          refine wpAnyH_take (i := 12) (v := ?_) rfl (by kernel_rfl) (by kernel_rfl) (by kernel_rfl) (fun _ _ _ h => h) (Or.inl ⟨by rfl, ?_⟩) (by assumption) ?_
          rotate_left
          · (intro w hSw; (try dsimp only at hSw); go_simp; try (with_reducible rfl))
          try simp only [Act.put, List.getElem_toArray, List.getElem_cons_zero, List.getElem_cons_succ, List.setIfInBounds_toArray, List.set_cons_zero, List.set_cons_succ]
          refine wpAnyH_done (by kernel_rfl) ?_ _
          clear hHeld
          replace HX2 := hide HX2.out.drew
          replace HRO := hide (HRO.out.below ((Below.refl _ _).drew))
          replace HRF := hide (HRF.out.below ((Below.refl _ _).drew))
          replace HER := hide (show wz.drew.rangeAt E 0 V from HER.out)
          generalize wz.drew = wx at *
          have HEl : Hid (E < wx.heap.size) := World.block_lt_of_cell? _ _ (HER.out 2 _ HV2.out)
          have e2 : wx.cell? ⟨E, 2, none⟩ = some (.int .u8 2) := by have := HER.out 2 _ HV2.out; rwa [Nat.zero_add] at this
          obtain ⟨qa, qc, q1, q2, q3⟩ := (HBX.out.ex HX2.out.drew).x
          have HCL : Hid (Calls Try.prog 37 #[.slice qa IB.length qc, .agg V.toArray] wx.drew fun e w' => e = .returned (.bool false) ∧ Below wx.drew.heap.size wx.drew w') := by
            have := among_any wx.drew (.slice qa IB.length qc) IB m q2 HBX.out.m HMO.out
            rw [decide_eq_false hin, HVe.out] at this
            exact this
          go_upto_region 8 with fail
          refine wp_region_held_drew (S := fun (w' : World) => w'.cell? ⟨E, 2, none⟩ = some (.int .u8 2) ∧ w'.cell? ⟨bb, ob + 2, none⟩ = some (.slice qa IB.length qc) ∧ w'.rangeAt E 0 V) (by kernel_rfl) ⟨e2, q1, HER.out⟩ (fun hHeld => ?_)
          clear q1 q2 q3
          refine wpAnyH_take (i := 0) (v := ?_) rfl (by kernel_rfl) (by kernel_rfl) (by kernel_rfl) (fun _ _ _ h => h) (Or.inl ⟨by rfl, ?_⟩) (by assumption) ?_
          rotate_left
          · (intro w hSw; (try dsimp only at hSw); go_simp; try (with_reducible rfl))
          try simp only [Act.put, List.getElem_toArray, List.getElem_cons_zero, List.getElem_cons_succ, List.setIfInBounds_toArray, List.set_cons_zero, List.set_cons_succ]
          refine wpAnyH_take (i := 1) (v := ?_) rfl (by kernel_rfl) (by kernel_rfl) (by kernel_rfl) (fun _ _ _ h => h) (Or.inl ⟨by rfl, ?_⟩) (by assumption) ?_
          rotate_left
          · (intro w hSw; (try dsimp only at hSw); go_simp; try (with_reducible rfl))
          try simp only [Act.put, List.getElem_toArray, List.getElem_cons_zero, List.getElem_cons_succ, List.setIfInBounds_toArray, List.set_cons_zero, List.set_cons_succ]
          refine wpAnyH_take (i := 2) (v := ?_) rfl (by kernel_rfl) (by kernel_rfl) (by kernel_rfl) (fun _ _ _ h => h) (Or.inl ⟨by rfl, ?_⟩) (by assumption) ?_
          rotate_left
          · (intro w hSw; (try dsimp only at hSw); go_simp; try (with_reducible rfl))
          try simp only [Act.put, List.getElem_toArray, List.getElem_cons_zero, List.getElem_cons_succ, List.setIfInBounds_toArray, List.set_cons_zero, List.set_cons_succ]
          refine wpAnyH_take (i := 3) (v := ?_) rfl (by kernel_rfl) (by kernel_rfl) (by kernel_rfl) (fun _ _ _ h => h) (Or.inl ⟨by rfl, ?_⟩) (by assumption) ?_
          rotate_left
          · (intro w hSw; (try dsimp only at hSw); go_simp; try (with_reducible rfl))
          try simp only [Act.put, List.getElem_toArray, List.getElem_cons_zero, List.getElem_cons_succ, List.setIfInBounds_toArray, List.set_cons_zero, List.set_cons_succ]
          refine wpAnyH_take (i := 4) (v := ?_) rfl (by kernel_rfl) (by kernel_rfl) (by kernel_rfl) (fun _ _ _ h => h) (Or.inl ⟨by rfl, ?_⟩) (by assumption) ?_
          rotate_left
          · (intro w hSw; (try dsimp only at hSw); go_simp; try (with_reducible rfl))
          try simp only [Act.put, List.getElem_toArray, List.getElem_cons_zero, List.getElem_cons_succ, List.setIfInBounds_toArray, List.set_cons_zero, List.set_cons_succ]
          refine wpAnyH_take (i := 5) (v := ?_) rfl (by kernel_rfl) (by kernel_rfl) (by kernel_rfl) (fun _ _ _ h => h) (Or.inl ⟨by rfl, ?_⟩) (by assumption) ?_
          rotate_left
          · (intro w hSw; (try dsimp only at hSw); go_simp; try (with_reducible rfl))
          try simp only [Act.put, List.getElem_toArray, List.getElem_cons_zero, List.getElem_cons_succ, List.setIfInBounds_toArray, List.set_cons_zero, List.set_cons_succ]
          refine wpAnyH_take (i := 6) (v := ?_) rfl (by kernel_rfl) (by kernel_rfl) (by kernel_rfl) (fun _ _ _ h => h) (Or.inl ⟨by rfl, ?_⟩) (by assumption) ?_
          rotate_left
          · (intro w hSw; (try dsimp only at hSw); go_simp; try (with_reducible rfl))
          try simp only [Act.put, List.getElem_toArray, List.getElem_cons_zero, List.getElem_cons_succ, List.setIfInBounds_toArray, List.set_cons_zero, List.set_cons_succ]
          refine wpAnyH_take (i := 7) (v := ?_) rfl (by kernel_rfl) (by kernel_rfl) (by kernel_rfl) (fun _ _ _ h => h) (Or.inl ⟨by rfl, ?_⟩) (by assumption) ?_
          rotate_left
          · (intro w hSw; (try dsimp only at hSw); go_simp; try (with_reducible rfl))
          try simp only [Act.put, List.getElem_toArray, List.getElem_cons_zero, List.getElem_cons_succ, List.setIfInBounds_toArray, List.set_cons_zero, List.set_cons_succ]
          refine wpAnyH_take (i := 8) rfl (by kernel_rfl) (by kernel_rfl) (by kernel_rfl) (fun _ _ _ h => h) (yieldsIf_load_mid (by rfl) 68 (.tmp 11) rfl E (0) rfl V _ (fun w h => h.2.2) Try.underlying68 rfl (by rw [HVl.out]; exact Try.sz68)) (by assumption) ?_
          try simp only [Act.put, List.getElem_toArray, List.getElem_cons_zero, List.getElem_cons_succ, List.setIfInBounds_toArray, List.set_cons_zero, List.set_cons_succ]
          refine wpAnyH_ready (rs := [9]) (by kernel_rfl) (by simp) ?_
          refine (AllReadyH.cons rfl (fun K hK => ?_) AllReadyH.nil)
          refine step_call_g (by rfl) 37 #[.slice qa IB.length qc, .agg V.toArray] (by simp [go_sem]) HCL.out ?_
          rintro e wq ⟨rfl, hbq⟩
          have HBq := hide hbq
          clear hbq
          refine ⟨_, rfl, ?_⟩
          refine hK.out _ _ ?_ (fun hHeld => ?_)
          · exact ⟨cellKeep HBq.out hHeld.1, cellKeep HBq.out hHeld.2.1, range_below hHeld.2.2 (World.block_lt_of_cell? _ _ hHeld.1) HBq.out⟩
          clear hK K
          try simp only [Act.put, List.getElem_toArray, List.getElem_cons_zero, List.getElem_cons_succ, List.setIfInBounds_toArray, List.set_cons_zero, List.set_cons_succ]
          refine wpAnyH_take (i := 10) (v := ?_) rfl (by kernel_rfl) (by kernel_rfl) (by kernel_rfl) (fun _ _ _ h => h) (Or.inl ⟨by rfl, ?_⟩) (by assumption) ?_
          rotate_left
          · (intro w hSw; (try dsimp only at hSw); go_simp; try (with_reducible rfl))
          try simp only [Act.put, List.getElem_toArray, List.getElem_cons_zero, List.getElem_cons_succ, List.setIfInBounds_toArray, List.set_cons_zero, List.set_cons_succ]
          refine wpAnyH_take (i := 11) (v := ?_) rfl (by kernel_rfl) (by kernel_rfl) (by kernel_rfl) (fun _ _ _ h => h) (Or.inl ⟨by rfl, ?_⟩) (by assumption) ?_
          rotate_left
          · (intro w hSw; (try dsimp only at hSw); go_simp; try (with_reducible rfl))
          try simp only [Act.put, List.getElem_toArray, List.getElem_cons_zero, List.getElem_cons_succ, List.setIfInBounds_toArray, List.set_cons_zero, List.set_cons_succ]
          refine wpAnyH_take (i := 12) (v := ?_) rfl (by kernel_rfl) (by kernel_rfl) (by kernel_rfl) (fun _ _ _ h => h) (Or.inl ⟨by rfl, ?_⟩) (by assumption) ?_
          rotate_left
          · (intro w hSw; (try dsimp only at hSw); go_simp; try (with_reducible rfl))
          try simp only [Act.put, List.getElem_toArray, List.getElem_cons_zero, List.getElem_cons_succ, List.setIfInBounds_toArray, List.set_cons_zero, List.set_cons_succ]
          refine wpAnyH_done (by kernel_rfl) ?_ _
          clear hHeld
          replace HX2 := hide (HX2.out.drew.trans2 (Ex.of (S := fun _ => False) HBq.out) (fun _ e => e.elim))
          replace HRO := hide ((HRO.out.below ((Below.refl _ _).drew)).below HBq.out)
          replace HRF := hide ((HRF.out.below ((Below.refl _ _).drew)).below HBq.out)
          replace HER := hide (range_below (show wx.drew.rangeAt E 0 V from HER.out) (show E < wx.drew.heap.size from HEl.out) HBq.out)
          clear HBq HCL
          obtain ⟨wx, hwx0⟩ : ∃ W', W' = wq := ⟨_, rfl⟩
          subst hwx0
          have e2 : wx.cell? ⟨E, 2, none⟩ = some (.int .u8 2) := by have := HER.out 2 _ HV2.out; rwa [Nat.zero_add] at this
          have e6 : wx.cell? ⟨E, 6, none⟩ = some (.int .u8 tk) := by have := HER.out 6 _ HV6.out; rwa [Nat.zero_add] at this
          have e7 : wx.cell? ⟨E, 7, none⟩ = some (.int .u64 am) := by have := HER.out 7 _ HV7.out; rwa [Nat.zero_add] at this
          have cO := HRF.out.c tk htk
          have fO := HRF.out.f tk htk
          obtain ⟨x0, hx0⟩ : ∃ x, F1 tk = x := ⟨_, rfl⟩
          rw [hx0] at cO
          obtain ⟨x1, hx1⟩ : ∃ x, w64 (x0 + am) = x := ⟨_, rfl⟩
          have hwx : IntKind.u64.wrap (x0 + am) = x1 := by rw [IntKind.wrap_u64, ← hx1]; rfl
          have HNA := hide (HRF.out.set (k := tk) am)
          rw [hx0, hx1] at HNA
          have HNB := hide (HRO.out.ex (Z := fun k => k = Bf) ((Ex.refl (fun k => k = Bf) _).set (j := tk) rfl (.int .u64 x1)) (by have := HNE.out; omega))
          have HXF := hide ((HX2.out.set (j := tk) (.inr rfl) (.int .u64 x1)))
          clear hx0 hx1
          go_upto_region 9 with fail
          go_region
          replace HNA := hide (HNA.out.below ((Below.refl _ _).drew))
          replace HNB := hide (HNB.out.below ((Below.refl _ _).drew))
          replace HXF := hide (HXF.out.drew)
          rw [HOe.out] at HTO
          rw [HFe.out] at HTF
          go_wp2
          go_roundw
          case rel => exact ⟨i + 1, by omega, by go_num, HXF.out, by rw [HTO.out]; exact HNB.out, by rw [HTF.out]; exact HNA.out⟩
          case measure => simp [intOf]; omega
      case neg =>
        have HOe : Hid (outF O1 m = O1) := if_neg (fun e => by omega)
        have HFe : Hid (flyF IA IB F1 m = F1) := if_neg (fun e => by rcases e.2 with z | z <;> omega)
        have d1 : (tz == 1) = false := by simp; omega
        have d2 : (tz == 2) = false := by simp; omega
        have d3 : (tz == 3) = false := by simp; omega
        go_upto_region 6 with fail
        refine wp_region_held_drew (S := fun (w' : World) => w'.cell? ⟨E, 2, none⟩ = some (.int .u8 tz)) (by kernel_rfl) e2 (fun hHeld => ?_)
        refine wpAnyH_take (i := 0) (v := ?_) rfl (by kernel_rfl) (by kernel_rfl) (by kernel_rfl) (fun _ _ _ h => h) (Or.inl ⟨by rfl, ?_⟩) (by assumption) ?_
        rotate_left
        · (intro w hSw; (try dsimp only at hSw); go_simp; try (with_reducible rfl))
        try simp only [Act.put, List.getElem_toArray, List.getElem_cons_zero, List.getElem_cons_succ, List.setIfInBounds_toArray, List.set_cons_zero, List.set_cons_succ]
        refine wpAnyH_take (i := 1) (v := ?_) rfl (by kernel_rfl) (by kernel_rfl) (by kernel_rfl) (fun _ _ _ h => h) (Or.inl ⟨by rfl, ?_⟩) (by assumption) ?_
        rotate_left
        · (intro w hSw; (try dsimp only at hSw); go_simp; try (with_reducible rfl))
        try simp only [Act.put, List.getElem_toArray, List.getElem_cons_zero, List.getElem_cons_succ, List.setIfInBounds_toArray, List.set_cons_zero, List.set_cons_succ]
        refine wpAnyH_take (i := 2) (v := ?_) rfl (by kernel_rfl) (by kernel_rfl) (by kernel_rfl) (fun _ _ _ h => h) (Or.inl ⟨by rfl, ?_⟩) (by assumption) ?_
        rotate_left
        · (intro w hSw; (try dsimp only at hSw); go_simp; try (with_reducible rfl))
        try simp only [Act.put, List.getElem_toArray, List.getElem_cons_zero, List.getElem_cons_succ, List.setIfInBounds_toArray, List.set_cons_zero, List.set_cons_succ]
        refine wpAnyH_take (i := 3) (v := ?_) rfl (by kernel_rfl) (by kernel_rfl) (by kernel_rfl) (fun _ _ _ h => h) (Or.inl ⟨by rfl, ?_⟩) (by assumption) ?_
        rotate_left
        · (intro w hSw; (try dsimp only at hSw); go_simp; try (with_reducible rfl))
        try simp only [Act.put, List.getElem_toArray, List.getElem_cons_zero, List.getElem_cons_succ, List.setIfInBounds_toArray, List.set_cons_zero, List.set_cons_succ]
        refine wpAnyH_take (i := 4) (v := undef) rfl (by kernel_rfl) (by kernel_rfl) (by kernel_rfl) (fun _ _ _ h => h) (Or.inr ⟨by rfl, rfl⟩) (by assumption) ?_
        try simp only [Act.put, List.getElem_toArray, List.getElem_cons_zero, List.getElem_cons_succ, List.setIfInBounds_toArray, List.set_cons_zero, List.set_cons_succ]
        refine wpAnyH_take (i := 5) (v := undef) rfl (by kernel_rfl) (by kernel_rfl) (by kernel_rfl) (fun _ _ _ h => h) (Or.inr ⟨by rfl, rfl⟩) (by assumption) ?_
        try simp only [Act.put, List.getElem_toArray, List.getElem_cons_zero, List.getElem_cons_succ, List.setIfInBounds_toArray, List.set_cons_zero, List.set_cons_succ]
        refine wpAnyH_take (i := 6) (v := undef) rfl (by kernel_rfl) (by kernel_rfl) (by kernel_rfl) (fun _ _ _ h => h) (Or.inr ⟨by rfl, rfl⟩) (by assumption) ?_
        try simp only [Act.put, List.getElem_toArray, List.getElem_cons_zero, List.getElem_cons_succ, List.setIfInBounds_toArray, List.set_cons_zero, List.set_cons_succ]
        refine wpAnyH_take (i := 7) (v := undef) rfl (by kernel_rfl) (by kernel_rfl) (by kernel_rfl) (fun _ _ _ h => h) (Or.inr ⟨by rfl, rfl⟩) (by assumption) ?_
        try simp only [Act.put, List.getElem_toArray, List.getElem_cons_zero, List.getElem_cons_succ, List.setIfInBounds_toArray, List.set_cons_zero, List.set_cons_succ]
        refine wpAnyH_take (i := 8) (v := undef) rfl (by kernel_rfl) (by kernel_rfl) (by kernel_rfl) (fun _ _ _ h => h) (Or.inr ⟨by rfl, rfl⟩) (by assumption) ?_
        try simp only [Act.put, List.getElem_toArray, List.getElem_cons_zero, List.getElem_cons_succ, List.setIfInBounds_toArray, List.set_cons_zero, List.set_cons_succ]
        refine wpAnyH_take (i := 9) (v := undef) rfl (by kernel_rfl) (by kernel_rfl) (by kernel_rfl) (fun _ _ _ h => h) (Or.inr ⟨by rfl, rfl⟩) (by assumption) ?_
        try simp only [Act.put, List.getElem_toArray, List.getElem_cons_zero, List.getElem_cons_succ, List.setIfInBounds_toArray, List.set_cons_zero, List.set_cons_succ]
        refine wpAnyH_take (i := 10) (v := undef) rfl (by kernel_rfl) (by kernel_rfl) (by kernel_rfl) (fun _ _ _ h => h) (Or.inr ⟨by rfl, rfl⟩) (by assumption) ?_
        try simp only [Act.put, List.getElem_toArray, List.getElem_cons_zero, List.getElem_cons_succ, List.setIfInBounds_toArray, List.set_cons_zero, List.set_cons_succ]
        refine wpAnyH_take (i := 11) (v := ?_) rfl (by kernel_rfl) (by kernel_rfl) (by kernel_rfl) (fun _ _ _ h => h) (Or.inl ⟨by rfl, ?_⟩) (by assumption) ?_
        rotate_left
        · (intro w hSw; (try dsimp only at hSw); go_simp; try (with_reducible rfl))
        try simp only [Act.put, List.getElem_toArray, List.getElem_cons_zero, List.getElem_cons_succ, List.setIfInBounds_toArray, List.set_cons_zero, List.set_cons_succ]
        refine wpAnyH_take (i := 12) (v := ?_) rfl (by kernel_rfl) (by kernel_rfl) (by kernel_rfl) (fun _ _ _ h => h) (Or.inl ⟨by rfl, ?_⟩) (by assumption) ?_
        rotate_left
        · (intro w hSw; (try dsimp only at hSw); go_simp; try (with_reducible rfl))
        try simp only [Act.put, List.getElem_toArray, List.getElem_cons_zero, List.getElem_cons_succ, List.setIfInBounds_toArray, List.set_cons_zero, List.set_cons_succ]
        refine wpAnyH_done (by kernel_rfl) ?_ _
        clear hHeld
        replace HX2 := hide HX2.out.drew
        replace HRO := hide (HRO.out.below ((Below.refl _ _).drew))
        replace HRF := hide (HRF.out.below ((Below.refl _ _).drew))
        replace HER := hide (show wz.drew.rangeAt E 0 V from HER.out)
        generalize wz.drew = wx at *
        have e2 : wx.cell? ⟨E, 2, none⟩ = some (.int .u8 tz) := by have := HER.out 2 _ HV2.out; rwa [Nat.zero_add] at this
        go_upto_region 8 with fail
        refine wp_region_held_drew (S := fun (w' : World) => w'.cell? ⟨E, 2, none⟩ = some (.int .u8 tz)) (by kernel_rfl) e2 (fun hHeld => ?_)
        refine wpAnyH_take (i := 0) (v := ?_) rfl (by kernel_rfl) (by kernel_rfl) (by kernel_rfl) (fun _ _ _ h => h) (Or.inl ⟨by rfl, ?_⟩) (by assumption) ?_
        rotate_left
        · (intro w hSw; (try dsimp only at hSw); go_simp; try (with_reducible rfl))
        try simp only [Act.put, List.getElem_toArray, List.getElem_cons_zero, List.getElem_cons_succ, List.setIfInBounds_toArray, List.set_cons_zero, List.set_cons_succ]
        refine wpAnyH_take (i := 1) (v := ?_) rfl (by kernel_rfl) (by kernel_rfl) (by kernel_rfl) (fun _ _ _ h => h) (Or.inl ⟨by rfl, ?_⟩) (by assumption) ?_
        rotate_left
        · (intro w hSw; (try dsimp only at hSw); go_simp; try (with_reducible rfl))
        try simp only [Act.put, List.getElem_toArray, List.getElem_cons_zero, List.getElem_cons_succ, List.setIfInBounds_toArray, List.set_cons_zero, List.set_cons_succ]
        refine wpAnyH_take (i := 2) (v := ?_) rfl (by kernel_rfl) (by kernel_rfl) (by kernel_rfl) (fun _ _ _ h => h) (Or.inl ⟨by rfl, ?_⟩) (by assumption) ?_
        rotate_left
        · (intro w hSw; (try dsimp only at hSw); go_simp; try (with_reducible rfl))
        try simp only [Act.put, List.getElem_toArray, List.getElem_cons_zero, List.getElem_cons_succ, List.setIfInBounds_toArray, List.set_cons_zero, List.set_cons_succ]
        refine wpAnyH_take (i := 3) (v := ?_) rfl (by kernel_rfl) (by kernel_rfl) (by kernel_rfl) (fun _ _ _ h => h) (Or.inl ⟨by rfl, ?_⟩) (by assumption) ?_
        rotate_left
        · (intro w hSw; (try dsimp only at hSw); go_simp; try (with_reducible rfl))
        try simp only [Act.put, List.getElem_toArray, List.getElem_cons_zero, List.getElem_cons_succ, List.setIfInBounds_toArray, List.set_cons_zero, List.set_cons_succ]
        refine wpAnyH_take (i := 4) (v := undef) rfl (by kernel_rfl) (by kernel_rfl) (by kernel_rfl) (fun _ _ _ h => h) (Or.inr ⟨by rfl, rfl⟩) (by assumption) ?_
        try simp only [Act.put, List.getElem_toArray, List.getElem_cons_zero, List.getElem_cons_succ, List.setIfInBounds_toArray, List.set_cons_zero, List.set_cons_succ]
        refine wpAnyH_take (i := 5) (v := undef) rfl (by kernel_rfl) (by kernel_rfl) (by kernel_rfl) (fun _ _ _ h => h) (Or.inr ⟨by rfl, rfl⟩) (by assumption) ?_
        try simp only [Act.put, List.getElem_toArray, List.getElem_cons_zero, List.getElem_cons_succ, List.setIfInBounds_toArray, List.set_cons_zero, List.set_cons_succ]
        refine wpAnyH_take (i := 6) (v := undef) rfl (by kernel_rfl) (by kernel_rfl) (by kernel_rfl) (fun _ _ _ h => h) (Or.inr ⟨by rfl, rfl⟩) (by assumption) ?_
        try simp only [Act.put, List.getElem_toArray, List.getElem_cons_zero, List.getElem_cons_succ, List.setIfInBounds_toArray, List.set_cons_zero, List.set_cons_succ]
        refine wpAnyH_take (i := 7) (v := undef) rfl (by kernel_rfl) (by kernel_rfl) (by kernel_rfl) (fun _ _ _ h => h) (Or.inr ⟨by rfl, rfl⟩) (by assumption) ?_
        try simp only [Act.put, List.getElem_toArray, List.getElem_cons_zero, List.getElem_cons_succ, List.setIfInBounds_toArray, List.set_cons_zero, List.set_cons_succ]
        refine wpAnyH_take (i := 8) (v := undef) rfl (by kernel_rfl) (by kernel_rfl) (by kernel_rfl) (fun _ _ _ h => h) (Or.inr ⟨by rfl, rfl⟩) (by assumption) ?_
        try simp only [Act.put, List.getElem_toArray, List.getElem_cons_zero, List.getElem_cons_succ, List.setIfInBounds_toArray, List.set_cons_zero, List.set_cons_succ]
        refine wpAnyH_take (i := 9) (v := undef) rfl (by kernel_rfl) (by kernel_rfl) (by kernel_rfl) (fun _ _ _ h => h) (Or.inr ⟨by rfl, rfl⟩) (by assumption) ?_
        try simp only [Act.put, List.getElem_toArray, List.getElem_cons_zero, List.getElem_cons_succ, List.setIfInBounds_toArray, List.set_cons_zero, List.set_cons_succ]
        refine wpAnyH_take (i := 10) (v := undef) rfl (by kernel_rfl) (by kernel_rfl) (by kernel_rfl) (fun _ _ _ h => h) (Or.inr ⟨by rfl, rfl⟩) (by assumption) ?_
        try simp only [Act.put, List.getElem_toArray, List.getElem_cons_zero, List.getElem_cons_succ, List.setIfInBounds_toArray, List.set_cons_zero, List.set_cons_succ]
        refine wpAnyH_take (i := 11) (v := ?_) rfl (by kernel_rfl) (by kernel_rfl) (by kernel_rfl) (fun _ _ _ h => h) (Or.inl ⟨by rfl, ?_⟩) (by assumption) ?_
        rotate_left
        · (intro w hSw; (try dsimp only at hSw); go_simp; try (with_reducible rfl))
        try simp only [Act.put, List.getElem_toArray, List.getElem_cons_zero, List.getElem_cons_succ, List.setIfInBounds_toArray, List.set_cons_zero, List.set_cons_succ]
        refine wpAnyH_take (i := 12) (v := ?_) rfl (by kernel_rfl) (by kernel_rfl) (by kernel_rfl) (fun _ _ _ h => h) (Or.inl ⟨by rfl, ?_⟩) (by assumption) ?_
        rotate_left
        · (intro w hSw; (try dsimp only at hSw); go_simp; try (with_reducible rfl))
        try simp only [Act.put, List.getElem_toArray, List.getElem_cons_zero, List.getElem_cons_succ, List.setIfInBounds_toArray, List.set_cons_zero, List.set_cons_succ]
        refine wpAnyH_done (by kernel_rfl) ?_ _
        clear hHeld
        replace HX2 := hide HX2.out.drew
        replace HRO := hide (HRO.out.below ((Below.refl _ _).drew))
        replace HRF := hide (HRF.out.below ((Below.refl _ _).drew))
        replace HER := hide (show wx.drew.rangeAt E 0 V from HER.out)
        generalize wx.drew = wx at *
        have HXF := hide HX2.out
        rw [HOe.out] at HTO
        rw [HFe.out] at HTF
        go_wp2
        go_roundw
        case rel => exact ⟨i + 1, by omega, by go_num, HXF.out, by rw [HTO.out]; exact HRO.out, by rw [HTF.out]; exact HRF.out⟩
        case measure => simp [intOf]; omega
    · obtain rfl : i = L.length := by omega
      have d1 : decide ((L.length : Int) < (L.length : Int)) = false := by simp
      rw [List.take_length] at HOR HFR
      go_wp2
      exact ⟨rfl, .tuple #[], by simp [results, Try.results39], rfl, HX.out, HOR.out, HFR.out⟩
end Go.Proofs.Qxb6500784a
