import Derived.Test.Qxb6500784aCn
import Derived.Test.Qxb6500784aRq
namespace Go.Proofs.Qxb6500784a
open Go.RowKit

attribute [-simp] Try.isAgg68 Try.sizeOf68 Try.typeInfo68
set_option linter.unusedSimpArgs false in
set_option maxRecDepth 100000 in
set_option maxHeartbeats 8000000 in
theorem among_any (w : World) (v : Value) (L : List Msg) (m : Msg) (h : w.ownsRow 0 68 41 v L.length (L.flatMap msv)) (hL : ∀ x, x ∈ L → MsgOk x) (hm : MsgOk m) :
    Calls Try.prog 37 #[v, .agg (msv m).toArray] w fun e w' => e = .returned (Value.bool (decide (m ∈ L))) ∧ Below w.heap.size w w' := by
  have hle := own_le h
  obtain ⟨va, vc, rfl⟩ := own_form h
  have HV := hide h
  have HL := hide hL
  have HM := hide hm
  clear h hL hm
  obtain ⟨G, hG⟩ : ∃ G, Value.bool (decide (m ∈ L)) = G := ⟨_, rfl⟩
  rw [hG]
  have HG := hide hG
  clear hG
  obtain ⟨U, hU⟩ : ∃ U, msv m = U := ⟨_, rfl⟩
  have HU := hide hU
  have HUl : Hid (U.length = 41) := by rw [← hU]; exact msv_len HM.out
  rw [hU]
  clear hU
  go_enter Try.func37, Try.ntmps37
  go_upto_region 1 with fail
  have HB0 := hide (be1 w (.cells U.toArray 68))
  have HR0 := hide (newR w U 68)
  obtain ⟨A, hA⟩ : ∃ A, w.heap.size = A := ⟨_, rfl⟩
  have HAl : Hid (A < (w.alloc (.cells U.toArray 68)).heap.size) := by show _ < _; simp [hA]
  rw [hA] at HR0 ⊢
  clear hA
  generalize w.alloc (.cells U.toArray 68) = x0 at *
  go_wp2
  go_loopw [9] (fun s9 wr => ∃ i : Nat, i ≤ L.length ∧ s9 = .int .i64 i ∧ Below x0.heap.size x0 wr ∧ ∀ (j : Nat) (x : Msg), j < i → L[j]? = some x → x ≠ m) (fun s9 _ => L.length - (intOf s9).toNat)
  case atStart => exact ⟨0, Nat.zero_le _, rfl, Below.refl _ _, fun j x hj => absurd hj (Nat.not_lt_zero _)⟩
  case round =>
    obtain ⟨i, hi, rfl, hb, hno⟩ := hrel
    have HB := hide hb
    clear hb
    have HBW := hide (lec HB0.out HB.out)
    by_cases hlt : i < L.length
    · have d1 : decide ((i : Int) < (L.length : Int)) = true := by simp; omega
      have hii : (i : Int) < (L.length : Int) := by omega
      obtain ⟨x, hx⟩ : ∃ x, L[i]? = some x := ⟨_, List.getElem?_eq_getElem hlt⟩
      obtain ⟨g, _, hg⟩ := own_some HV.out (by omega)
      cases hg
      have hxo := HL.out x (List.mem_of_getElem? hx)
      have HXR := hide (range_below (msg_at HV.out HL.out hx) (HV.out.lt g rfl).2 HBW.out)
      have HXl : Hid ((msv x).length = 41) := msv_len hxo
      have HXo : Hid (∀ u ∈ msv x, u.oneCell' = true) := kvs_one _ _
      have HAR := hide (range_below HR0.out HAl.out HB.out)
      have hAl2 : A < wr.heap.size := Nat.lt_of_lt_of_le HAl.out HB.out.size
      obtain ⟨q, hq⟩ : ∃ q : Bool, decide (x = m) = q := ⟨_, rfl⟩
      have he : ∀ w, (Op.equalIn 10000 68 (.agg (msv x).toArray) (.agg U.toArray)).run Try.prog w = .ok q w := fun w => by rw [← HU.out, ← hq]; exact eq68 w hxo HM.out 9996
      have HQ := hide hq
      have HX := hide hx
      clear hxo
      clear hq hx
      generalize msv x = V at *
      go_upto_region 3 with fail
      go_wp2_with fail
      simp only [Try.sizeOf68, Result.andThen]
      rw [Oper.upon_value]
      go_wp2_with fail
      simp only [Try.isAgg68, Try.sizeOf68, Result.andThen, ↓reduceIte, ldC wr g (i * 41) V 41 HXl.out HXR.out]
      rw [Oper.upon_value]
      go_wp2_with fail
      simp only [Try.sizeOf68, Result.andThen, HXl.out, ↓reduceIte, stNew wr 68 #[.int .u8 0, .int .u8 0, .int .u8 0, .int .u8 0, .int .u8 0, .int .u64 0, .int .u8 0, .int .u64 0, .int .u8 0, .int .u8 0, .int .u8 0, .int .u8 0, .int .u8 0, .int .u8 0, .int .u8 0, .int .u8 0, .int .u8 0, .int .u8 0, .int .u8 0, .int .u8 0, .int .u8 0, .int .u8 0, .int .u8 0, .int .u8 0, .int .u8 0, .int .u8 0, .int .u8 0, .int .u8 0, .int .u8 0, .int .u8 0, .int .u8 0, .int .u8 0, .int .u8 0, .int .u8 0, .int .u8 0, .int .u8 0, .int .u8 0, .int .u8 0, .int .u8 0, .int .u8 0, .int .u8 0] V 41 Try.sz68 rfl HXl.out HXo.out]
      rw [Oper.upon_skip]
      simp only [Act.put]
      have HB2 := hide (lec HB.out (be1 wr (.cells V.toArray 68)))
      have HB3 := hide (lec HB0.out HB2.out)
      have HR2 := hide (newR wr V 68)
      have HAR2 := hide (range_below HAR.out hAl2 (be1 wr (.cells V.toArray 68)))
      obtain ⟨E, hE⟩ : ∃ E, wr.heap.size = E := ⟨_, rfl⟩
      rw [hE] at HR2 ⊢
      generalize wr.alloc (.cells V.toArray 68) = wz at *
      clear hE hAl2 HXR HAR HXo
      go_wp2_with fail
      simp only [Try.isAgg68, Try.sizeOf68, Result.andThen, ↓reduceIte, ldC wz E 0 V 41 HXl.out HR2.out]
      rw [Oper.upon_value]
      go_wp2_with fail
      simp only [Try.isAgg68, Try.sizeOf68, Result.andThen, ↓reduceIte, ldC wz A 0 U 41 HUl.out HAR2.out]
      rw [Oper.upon_value]
      cases q
      · have HNO := hide hno
        clear hno
        go_wp2
        go_roundw
        case rel => exact ⟨i + 1, by omega, by go_num, HB2.out, fun j y hj hy => by
          rcases Nat.lt_or_ge j i with z | z
          · exact HNO.out j y z hy
          · have : j = i := by omega
            subst this
            rw [HX.out] at hy
            cases hy
            simpa using HQ.out⟩
        case measure => simp [intOf]; omega
      · have HE : Hid (G = .bool true) := by
          show _ = _
          rw [← HG.out, decide_eq_true]
          have : x = m := by simpa using HQ.out
          rw [← this]
          exact List.mem_of_getElem? HX.out
        go_wp2
        go_ret
        exact ⟨by rw [HE.out]; rfl, HB3.out⟩
    · obtain rfl : i = L.length := by omega
      have d1 : decide ((L.length : Int) < (L.length : Int)) = false := by simp
      have HE : Hid (G = .bool false) := by
        show _ = _
        rw [← HG.out, decide_eq_false]
        intro e
        obtain ⟨j, hj⟩ := List.mem_iff_getElem?.1 e
        exact hno j m (List.getElem?_eq_some_iff.1 hj).1 hj rfl
      clear hno
      go_wp2
      go_ret
      exact ⟨by rw [HE.out]; rfl, HBW.out⟩
set_option linter.unusedSimpArgs false in
set_option maxRecDepth 100000 in
set_option maxHeartbeats 8000000 in
theorem times_any (w : World) (v : Value) (L : List Msg) (m : Msg) (h : w.ownsRow 0 68 41 v L.length (L.flatMap msv)) (hL : ∀ x, x ∈ L → MsgOk x) (hm : MsgOk m) :
    Calls Try.prog 38 #[v, .agg (msv m).toArray] w fun e w' => e = .returned (Value.int .i64 (L.count m : Nat)) ∧ Below w.heap.size w w' := by
  have hle := own_le h
  obtain ⟨va, vc, rfl⟩ := own_form h
  have HV := hide h
  have HL := hide hL
  have HM := hide hm
  clear h hL hm
  obtain ⟨G, hG⟩ : ∃ G, Value.int .i64 (L.count m : Nat) = G := ⟨_, rfl⟩
  rw [hG]
  have HG := hide hG
  clear hG
  obtain ⟨U, hU⟩ : ∃ U, msv m = U := ⟨_, rfl⟩
  have HU := hide hU
  have HUl : Hid (U.length = 41) := by rw [← hU]; exact msv_len HM.out
  rw [hU]
  clear hU
  go_enter Try.func38, Try.ntmps38
  go_upto_region 1 with fail
  have HB0 := hide (be1 w (.cells U.toArray 68))
  have HR0 := hide (newR w U 68)
  obtain ⟨A, hA⟩ : ∃ A, w.heap.size = A := ⟨_, rfl⟩
  have HAl : Hid (A < (w.alloc (.cells U.toArray 68)).heap.size) := by show _ < _; simp [hA]
  rw [hA] at HR0 ⊢
  clear hA
  generalize w.alloc (.cells U.toArray 68) = x0 at *
  go_wp2
  go_loopw [5, 10] (fun s5 s10 wr => ∃ i : Nat, i ≤ L.length ∧ s10 = .int .i64 i ∧ Below x0.heap.size x0 wr ∧ s5 = .int .i64 ((L.take i).count m : Nat)) (fun _ s10 _ => L.length - (intOf s10).toNat)
  case atStart => exact ⟨0, Nat.zero_le _, rfl, Below.refl _ _, rfl⟩
  case round =>
    obtain ⟨i, hi, rfl, hb, rfl⟩ := hrel
    have HB := hide hb
    clear hb
    have HBW := hide (lec HB0.out HB.out)
    by_cases hlt : i < L.length
    · have d1 : decide ((i : Int) < (L.length : Int)) = true := by simp; omega
      have hii : (i : Int) < (L.length : Int) := by omega
      obtain ⟨x, hx⟩ : ∃ x, L[i]? = some x := ⟨_, List.getElem?_eq_getElem hlt⟩
      obtain ⟨g, _, hg⟩ := own_some HV.out (by omega)
      cases hg
      have hxo := HL.out x (List.mem_of_getElem? hx)
      have HXR := hide (range_below (msg_at HV.out HL.out hx) (HV.out.lt g rfl).2 HBW.out)
      have HXl : Hid ((msv x).length = 41) := msv_len hxo
      have HXo : Hid (∀ u ∈ msv x, u.oneCell' = true) := kvs_one _ _
      have HAR := hide (range_below HR0.out HAl.out HB.out)
      have hAl2 : A < wr.heap.size := Nat.lt_of_lt_of_le HAl.out HB.out.size
      obtain ⟨q, hq⟩ : ∃ q : Bool, decide (x = m) = q := ⟨_, rfl⟩
      have he : ∀ w, (Op.equalIn 10000 68 (.agg (msv x).toArray) (.agg U.toArray)).run Try.prog w = .ok q w := fun w => by rw [← HU.out, ← hq]; exact eq68 w hxo HM.out 9996
      have HQ := hide hq
      have HX := hide hx
      clear hxo
      have HT : Hid ((L.take (i + 1)).count m = (L.take i).count m + (if x = m then 1 else 0)) := by
        show _ = _
        rw [List.take_add_one, hx, List.count_append]
        by_cases e : x = m
        · simp [e]
        · simp [e]
      have hn0 : (L.take i).count m ≤ i := Nat.le_trans (List.count_le_length) (by rw [List.length_take]; omega)
      generalize (L.take i).count m = n0 at *
      clear hq hx
      generalize msv x = V at *
      go_upto_region 4 with fail
      go_wp2_with fail
      simp only [Try.sizeOf68, Result.andThen]
      rw [Oper.upon_value]
      go_wp2_with fail
      simp only [Try.isAgg68, Try.sizeOf68, Result.andThen, ↓reduceIte, ldC wr g (i * 41) V 41 HXl.out HXR.out]
      rw [Oper.upon_value]
      go_wp2_with fail
      simp only [Try.sizeOf68, Result.andThen, HXl.out, ↓reduceIte, stNew wr 68 #[.int .u8 0, .int .u8 0, .int .u8 0, .int .u8 0, .int .u8 0, .int .u64 0, .int .u8 0, .int .u64 0, .int .u8 0, .int .u8 0, .int .u8 0, .int .u8 0, .int .u8 0, .int .u8 0, .int .u8 0, .int .u8 0, .int .u8 0, .int .u8 0, .int .u8 0, .int .u8 0, .int .u8 0, .int .u8 0, .int .u8 0, .int .u8 0, .int .u8 0, .int .u8 0, .int .u8 0, .int .u8 0, .int .u8 0, .int .u8 0, .int .u8 0, .int .u8 0, .int .u8 0, .int .u8 0, .int .u8 0, .int .u8 0, .int .u8 0, .int .u8 0, .int .u8 0, .int .u8 0, .int .u8 0] V 41 Try.sz68 rfl HXl.out HXo.out]
      rw [Oper.upon_skip]
      simp only [Act.put]
      have HB2 := hide (lec HB.out (be1 wr (.cells V.toArray 68)))
      have HB3 := hide (lec HB0.out HB2.out)
      have HR2 := hide (newR wr V 68)
      have HAR2 := hide (range_below HAR.out hAl2 (be1 wr (.cells V.toArray 68)))
      obtain ⟨E, hE⟩ : ∃ E, wr.heap.size = E := ⟨_, rfl⟩
      rw [hE] at HR2 ⊢
      generalize wr.alloc (.cells V.toArray 68) = wz at *
      clear hE hAl2 HXR HAR HXo
      go_wp2_with fail
      simp only [Try.isAgg68, Try.sizeOf68, Result.andThen, ↓reduceIte, ldC wz E 0 V 41 HXl.out HR2.out]
      rw [Oper.upon_value]
      go_wp2_with fail
      simp only [Try.isAgg68, Try.sizeOf68, Result.andThen, ↓reduceIte, ldC wz A 0 U 41 HUl.out HAR2.out]
      rw [Oper.upon_value]
      cases q
      · have e2 : (L.take (i + 1)).count m = n0 := by rw [HT.out, if_neg (by simpa using HQ.out)]; rfl
        have HE2 := hide e2
        clear e2
        go_wp2
        go_roundw
        case rel => exact ⟨i + 1, by omega, by go_num, HB2.out, by rw [HE2.out]⟩
        case measure => simp [intOf]; omega
      · have e2 : (L.take (i + 1)).count m = n0 + 1 := by rw [HT.out, if_pos (by simpa using HQ.out)]
        have HE2 := hide e2
        clear e2
        go_wp2
        go_roundw
        case rel => exact ⟨i + 1, by omega, by go_num, HB2.out, by rw [HE2.out]; go_num⟩
        case measure => simp [intOf]; omega
    · obtain rfl : i = L.length := by omega
      have d1 : decide ((L.length : Int) < (L.length : Int)) = false := by simp
      have HE : Hid (G = .int .i64 ((L.take L.length).count m : Nat)) := by
        show _ = _
        rw [← HG.out, List.take_length]
      go_wp2
      go_ret
      exact ⟨by rw [HE.out]; rfl, HBW.out⟩
end Go.Proofs.Qxb6500784a
