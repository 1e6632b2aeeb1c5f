import Derived.Test.Qxb6500784aSi3
import Derived.Test.Qxb6500784aMalf
namespace Go.Proofs.Qxb6500784a
open Go.RowKit

/-! ### A well-formed bundle -/
theorem Try.inf95 : (Try.prog.info? 95).map (fun i => (i.zero, i.size, i.bytes)) = some (some (.agg Try.zeroCells95), 86, 184) := by kernel_rfl
structure WfL (i : Nat) (r : List Value) : Prop where
  l : r.length = 86
  o : ∀ u ∈ r, u.oneCell' = true
  a : r[0]? = some (.int .u8 i)
  c : ∃ c : Int, (c = 1 ∨ c = 2) ∧ r[1]? = some (.int .u8 c) ∧ r[3]? = some (.int .u8 c)
  n : r[85]? = some nilS
structure WfI (w : World) (A : Nat) (wr : World) (s : Value) (k : Nat) (R : List (List Value)) : Prop where
  be : Below A w wr
  sz : A + 3 ≤ wr.heap.size
  c1 : wr.cell? ⟨A + 1, 0, none⟩ = some nilS
  f1 : wr.frozen? ⟨A + 1, 0, none⟩ = false
  c2 : wr.cell? ⟨A + 2, 0, none⟩ = some s
  f2 : wr.frozen? ⟨A + 2, 0, none⟩ = false
  ow : wr.ownsRow (A + 3) 95 86 s k R.flatten
  ln : R.length = k
  wf : ∀ i r, R[i]? = some r → WfL i r
theorem WfI.below {w wr wx : World} {A k : Nat} {s : Value} {R : List (List Value)} (h : WfI w A wr s k R) (b : Below wr.heap.size wr wx) : WfI w A wx s k R := by
  have h3 := h.sz
  refine ⟨h.be.trans (b.mono (by omega)), Nat.le_trans h.sz b.size, cellKeep b h.c1, ?_, cellKeep b h.c2, ?_, own_kept h.ow (Ex.of (S := fun _ => False) b) (fun _ _ e => e), h.ln, h.wf⟩
  · rw [World.frozen?_of_block (b.block _ (show A + 1 < wr.heap.size by omega))]; exact h.f1
  · rw [World.frozen?_of_block (b.block _ (show A + 2 < wr.heap.size by omega))]; exact h.f2
theorem WfI.setE {w wr : World} {A k E : Nat} {s : Value} {R : List (List Value)} (h : WfI w A wr s k R) (hE : A + 3 ≤ E) (hs : s.ownBlock ≠ some E) (j : Nat) (u : Value) : WfI w A (wr.setCell ⟨E, j, none⟩ u) s k R := by
  have ex : Ex (fun k => k = E) wr (wr.setCell ⟨E, j, none⟩ u) := (Ex.refl (fun k => k = E) wr).set rfl u
  refine ⟨h.be.setCell (p := ⟨E, j, none⟩) (by show A ≤ E; omega) u, by simpa using h.sz, ?_, ?_, ?_, ?_, own_kept h.ow ex (fun k hk e => hs (e ▸ hk)), h.ln, h.wf⟩
  · rw [set_cell_ne _ _ _ _ _ _ (by omega)]; exact h.c1
  · rw [set_frozen]; exact h.f1
  · rw [set_cell_ne _ _ _ _ _ _ (by omega)]; exact h.c2
  · rw [set_frozen]; exact h.f2
theorem WfI.grow {w wr wx : World} {A k : Nat} {s s' : Value} {R : List (List Value)} {r : List Value} (h : WfI w A wr s k R) (hr : WfL k r) (ho : wx.ownsRow (A + 3) 95 86 s' (k + 1) (R.flatten ++ r)) (hg : wr.grownBy wx s.ownBlock) : WfI w A (wx.setCell ⟨A + 2, 0, none⟩ s') s' (k + 1) (R ++ [r]) := by
  have h3 := h.sz
  have hnb : ∀ j, s.ownBlock = some j → A + 3 ≤ j := fun j hj => (h.ow.lt j hj).1
  have hb : ∀ j, j < A + 3 → wx.heap[j]? = wr.heap[j]? := fun j hj => hg.block j (by omega) (fun e => by have := hnb j e.symm; omega)
  have ex : Ex (fun k => k = A + 2) wx (wx.setCell ⟨A + 2, 0, none⟩ s') := (Ex.refl (fun k => k = A + 2) wx).set rfl s'
  have hB : Below A w wx := h.be.trans ((Ex.ofGrown (S := fun j => s.ownBlock = some j) hg (fun k e => e.symm)).below (by omega) (fun j hj e => by have := hnb j e; omega))
  have c2 : wx.cell? ⟨A + 2, 0, none⟩ = some s := by rw [World.cell?_of_block (hb (A + 2) (by omega))]; exact h.c2
  refine ⟨hB.setCell (p := ⟨A + 2, 0, none⟩) (by show A ≤ A + 2; omega) s', by have := hg.size; simp; omega, ?_, ?_, World.cell?_setCell_same _ _ _ c2, ?_, ?_, by simp [h.ln], fun i q hq => ?_⟩
  · rw [set_cell_ne _ _ _ _ _ _ (by omega), World.cell?_of_block (hb (A + 1) (by omega))]; exact h.c1
  · rw [set_frozen, World.frozen?_of_block (hb (A + 1) (by omega))]; exact h.f1
  · rw [set_frozen, World.frozen?_of_block (hb (A + 2) (by omega))]; exact h.f2
  · rw [List.flatten_append, show [r].flatten = r by simp]
    exact own_kept ho ex (fun j hj e => by have := (ho.lt j hj).1; omega)
  · rcases Nat.lt_or_ge i R.length with z | z
    · rw [List.getElem?_append_left z] at hq; exact h.wf i q hq
    · have hi : i = R.length := by
        have := (List.getElem?_eq_some_iff.1 hq).1
        simp at this; omega
      subst hi
      rw [List.getElem?_append_right (Nat.le_refl _)] at hq
      simp at hq
      rw [← hq, h.ln]; exact hr
/-- The leg that stands for no leg at all, and the legs that make a bundle too long. -/
def defT (c : Int) : List Value := .int .u8 0 :: .int .u8 c :: (kvs (fun j => txk (j + 2)) (List.replicate 81 0))
def defL (i c : Int) : List Value := .int .u8 i :: .int .u8 c :: (defT c ++ [nilS])
theorem built_T (c : Int) : Try.prog.built 92 [(1, .int .u8 c)] = some (defT c).toArray := by kernel_rfl
theorem built_L0 (c : Int) : Try.prog.built 95 [(1, .int .u8 c), (2, .agg (defT c).toArray)] = some (defL 0 c).toArray := by kernel_rfl
theorem built_L (i c : Int) : Try.prog.built 95 [(0, .int .u8 i), (1, .int .u8 c), (2, .agg (defT c).toArray)] = some (defL i c).toArray := by kernel_rfl
theorem defT_len (c : Int) : (defT c).length = 83 := by simp [defT, kvs_len]
theorem defL_wf (i : Nat) {c : Int} (hc : c = 1 ∨ c = 2) : WfL i (defL i c) := by
  refine ⟨by simp [defL, defT_len], fun u hu => ?_, rfl, ⟨c, hc, rfl, rfl⟩, ?_⟩
  · simp only [defL, defT, List.mem_cons, List.mem_append, List.not_mem_nil, or_false] at hu
    rcases hu with rfl | rfl | (rfl | rfl | hu) | rfl <;> first | rfl | exact kvs_one _ _ u hu
  · show (Value.int .u8 i :: .int .u8 c :: (defT c ++ [nilS]))[85]? = _
    simp only [List.getElem?_cons_succ]
    rw [List.getElem?_append_right (by rw [defT_len]; omega), defT_len]
    rfl
def WfPost (w : World) (e : Ending) (w' : World) : Prop :=
  ∃ (s : Value) (m : Nat) (R : List (List Value)), e = .returned (.agg #[s]) ∧ Below w.heap.size w w' ∧ w'.ownsRow w.heap.size 95 86 s (m + 1) R.flatten ∧ m < 7 ∧ R.length = m + 1 ∧ ∀ i r, R[i]? = some r → WfL i r
theorem wfl_sets {i : Nat} {V : List Value} {c : Int} (hl : V.length = 86) (ho : ∀ u ∈ V, u.oneCell' = true) (h1 : V[1]? = some (.int .u8 c)) (hc : c = 1 ∨ c = 2) : WfL i (((V.set 0 (.int .u8 i)).set 3 (.int .u8 c)).set 85 nilS) := by
  refine ⟨by simp [hl], fun u hu => ?_, ?_, ⟨c, hc, ?_, ?_⟩, ?_⟩
  · rcases List.mem_or_eq_of_mem_set hu with hu | rfl
    · rcases List.mem_or_eq_of_mem_set hu with hu | rfl
      · rcases List.mem_or_eq_of_mem_set hu with hu | rfl
        · exact ho u hu
        · rfl
      · rfl
    · rfl
  · rw [List.getElem?_set_ne (by omega), List.getElem?_set_ne (by omega), List.getElem?_set_self (by omega)]
  · rw [List.getElem?_set_ne (by omega), List.getElem?_set_ne (by omega), List.getElem?_set_ne (by omega)]; exact h1
  · rw [List.getElem?_set_ne (by omega), List.getElem?_set_self (by simp; omega)]
  · rw [List.getElem?_set_self (by simp; omega)]
theorem range_one {w : World} {b o : Nat} {v : Value} (h : w.cell? ⟨b, o, none⟩ = some v) : w.rangeAt b o [v] := fun j u hj => by
  match j, hj with
  | 0, hj => cases hj; exact h
  | j + 1, hj => simp at hj
theorem wf_fin {w wx : World} {A m : Nat} {s : Value} {R : List (List Value)} (h : WfI w A wx s (m + 1) R) (hA : w.heap.size = A) (hm : m < 7) : WfPost w (.returned (.agg #[s])) (wx.setCell ⟨A + 1, 0, none⟩ s) := by
  have ex : Ex (fun k => k = A + 1) wx (wx.setCell ⟨A + 1, 0, none⟩ s) := (Ex.refl (fun k => k = A + 1) wx).set rfl s
  refine ⟨s, m, R, rfl, ?_, ?_, hm, h.ln, h.wf⟩
  · rw [hA]; exact h.be.setCell (p := ⟨A + 1, 0, none⟩) (by show A ≤ A + 1; omega) s
  · rw [hA]
    have := own_kept h.ow ex (fun j hj e => by have := (h.ow.lt j hj).1; omega)
    exact ⟨this.1, this.2.imp id (fun ⟨g, cap, cur, a, b, r⟩ => ⟨g, cap, cur, a, by omega, r⟩)⟩
attribute [-simp] Try.isAgg95 Try.sizeOf95 Try.typeInfo95
set_option linter.unusedSimpArgs false in
set_option maxRecDepth 100000 in
set_option maxHeartbeats 8000000 in
theorem wellFormed_any (w : World) (a : Option Addr) (n cap : Nat) (L : Nat → Leg) (hn : n ≤ 9223372036854775807) (hL : LegsAt w a n L) (hO : ∀ q, q < n → (legL (L q)).length = 86 ∧ ∀ u ∈ legL (L q), u.oneCell' = true) :
    Calls Try.prog 27 #[.agg #[.slice a n cap]] w (WfPost w) := by
  have HL := hide hL
  have HO := hide hO
  clear hL hO
  obtain ⟨i9, hi9, hz9, hy9, hb9⟩ := info_parts Try.inf95
  have HI := hide (show Try.prog.info? 95 = some i9 ∧ i9.zero = some (.agg Try.zeroCells95) ∧ i9.size = 86 ∧ i9.bytes = 184 from ⟨hi9, hz9, hy9, hb9⟩)
  clear hi9 hz9 hy9 hb9
  obtain ⟨A, hA⟩ : ∃ A, w.heap.size = A := ⟨_, rfl⟩
  have HA := hide hA
  obtain ⟨Q, hQ⟩ : ∃ Q, WfPost w = Q := ⟨_, rfl⟩
  rw [hQ]
  have HQ := hide hQ
  clear hQ
  go_enter Try.func27, Try.ntmps27
  go_upto_region 2 with fail
  have HI0 : Hid (WfI w A (((w.alloc (.cells #[.slice a n cap] 27)).alloc (.cells #[nilS] 27)).alloc (.cells #[nilS] 27)) nilS 0 []) := by
    refine ⟨?_, by simp [← hA], ?_, ?_, ?_, ?_, World.ownsRow_nil _ _ _ _, rfl, fun i r hr => by simp at hr⟩
    · rw [← hA]; exact (((Below.refl _ _).alloc (Nat.le_refl _) _).alloc (by simp) _).alloc (by simp; omega) _
    · rw [← hA]; simp [go_sem]
    · rw [← hA]; simp [go_sem]
    · rw [← hA]; simp [go_sem]
    · rw [← hA]; simp [go_sem]
  have c0 : (((w.alloc (.cells #[.slice a n cap] 27)).alloc (.cells #[nilS] 27)).alloc (.cells #[nilS] 27)).cell? ⟨A, 0, none⟩ = some (.slice a n cap) := by rw [← hA]; simp [go_sem]
  generalize ((w.alloc (.cells #[.slice a n cap] 27)).alloc (.cells #[nilS] 27)).alloc (.cells #[nilS] 27) = w3 at *
  clear hA
  go_upto_block 0 with fail
  go_cut [4] (fun _ wx => ∃ (s : Value) (m : Nat) (R : List (List Value)), WfI w A wx s m R ∧ m ≤ 7)
  case first =>
    go_wp2
    clear c0
    go_loopw [9] (fun s9 wr => ∃ (i : Nat) (s : Value) (R : List (List Value)), i ≤ n ∧ i ≤ 7 ∧ s9 = .int .i64 i ∧ WfI w A wr s i R) (fun s9 _ => n - (intOf s9).toNat)
    case atStart => exact ⟨0, nilS, [], Nat.zero_le _, by omega, rfl, HI0.out⟩
    case round =>
      obtain ⟨i, s, R, hi, hi7, rfl, hw⟩ := hrel
      have HW0 := hide hw
      clear hw
      by_cases hlt : i < n
      · have d1 : decide ((i : Int) < (n : Int)) = true := by simp; omega
        have hii : (i : Int) < (n : Int) := by omega
        have hbw : Below w.heap.size w wr := by rw [HA.out]; exact HW0.out.be
        obtain ⟨lb, off, ha, hcs, hlk⟩ := (HL.out.below hbw) i hlt
        subst ha
        have HRV : Hid (wr.rangeAt lb (off + i * 86) (legL (L i))) := legRange hcs
        have HVl := hide (HO.out i hlt).1
        have HVo := hide (HO.out i hlt).2
        obtain ⟨V0, hv0⟩ : ∃ u, (legL (L i))[0]? = some u := ⟨_, legL_at _ (by omega)⟩
        obtain ⟨V3, hv3⟩ : ∃ u, (legL (L i))[3]? = some u := ⟨_, legL_at _ (by omega)⟩
        obtain ⟨V85, hv85⟩ : ∃ u, (legL (L i))[85]? = some u := ⟨_, legL_at _ (by omega)⟩
        have hv1 : (legL (L i))[1]? = some (.int .u8 (L i).ch) := by rw [legL_at _ (by omega), hlk.v1]
        have HV0 := hide hv0
        have HV1 := hide hv1
        have HV3 := hide hv3
        have HV85 := hide hv85
        clear hv0 hv1 hv3 hv85 hcs hlk hbw
        generalize (L i).ch = cc at *
        generalize legL (L i) = V at *
        go_upto_region 4 with fail
        go_wp2_with fail
        simp only [Try.sizeOf95, Result.andThen]
        rw [Oper.upon_value]
        go_wp2_with fail
        simp only [Try.isAgg95, Try.sizeOf95, Result.andThen, ↓reduceIte, ldC wr lb (off + i * 86) V 86 HVl.out HRV.out]
        rw [Oper.upon_value]
        go_wp2_with fail
        simp only [Try.sizeOf95, Result.andThen, HVl.out, ↓reduceIte, stNew wr 95 Try.zeroCells95 V 86 Try.sz95 Try.zs95 HVl.out HVo.out]
        rw [Oper.upon_skip]
        simp only [Act.put]
        have HW := hide (HW0.out.below (be1 wr (.cells V.toArray 95)))
        have HRE := hide (newR wr V 95)
        have HTE := hide (newT wr V 95)
        have HEE := hide HW0.out.sz
        have HSE : Hid (s.ownBlock ≠ some wr.heap.size) := fun e => by have := (HW0.out.ow.lt _ e).2; omega
        rw [HVl.out] at HTE
        obtain ⟨E, hE⟩ : ∃ E, wr.heap.size = E := ⟨_, rfl⟩
        rw [hE] at HRE HTE HEE HSE ⊢
        clear hE HRV
        generalize wr.alloc (.cells V.toArray 95) = wz at *
        clear HW0
        by_cases h7 : i = 7
        · subst h7
          go_wp2
          go_meet
          exact ⟨s, 7, R, HW.out, by omega⟩
        · have e7 : decide ((7 : Int) ≤ (i : Int)) = false := by simp; omega
          have c1 : wz.cell? ⟨E, 1, none⟩ = some (.int .u8 cc) := by have := HRE.out 1 _ HV1.out; rwa [Nat.zero_add] at this
          have f1 : wz.frozen? ⟨E, 1, none⟩ = false := by have := (HTE.out 1 (by omega)).2; simpa using this
          by_cases k1 : cc = 1
          · subst k1
            go_upto_region 8 with fail
            clear c1 f1
            have HW9 := hide HW.out
            have HTE9 := hide HTE.out
            have c0 : wz.cell? ⟨E, 0, none⟩ = some V0 := by have := HRE.out 0 _ HV0.out; rwa [Nat.zero_add] at this
            have f0 : wz.frozen? ⟨E, 0, none⟩ = false := by have := (HTE.out 0 (by omega)).2; simpa using this
            go_upto_region 9 with fail
            have HRE1 : Hid ((wz.setCell ⟨E, 0, none⟩ (.int .u8 i)).rangeAt E 0 (V.set 0 (.int .u8 i))) := by have := range_set HRE.out 0 (.int .u8 i); rw [Nat.zero_add] at this; exact this
            have HTE10 := hide (there_set HTE9.out ⟨E, 0, none⟩ (.int .u8 i))
            have HW10 := hide (HW9.out.setE HEE.out HSE.out 0 (.int .u8 i))
            generalize wz.setCell ⟨E, 0, none⟩ (.int .u8 i) = wa at *
            clear c0 f0
            have c1 : wa.cell? ⟨E, 1, none⟩ = some (.int .u8 1) := by have := HRE1.out 1 _ (by rw [List.getElem?_set_ne (by omega)]; exact HV1.out); rwa [Nat.zero_add] at this
            have c3 : wa.cell? ⟨E, 3, none⟩ = some V3 := by have := HRE1.out 3 _ (by rw [List.getElem?_set_ne (by omega)]; exact HV3.out); rwa [Nat.zero_add] at this
            have f3 : wa.frozen? ⟨E, 3, none⟩ = false := by have := (HTE10.out 3 (by omega)).2; simpa using this
            go_upto_region 10 with fail
            have HRE2 : Hid ((wa.setCell ⟨E, 3, none⟩ (.int .u8 1)).rangeAt E 0 ((V.set 0 (.int .u8 i)).set 3 (.int .u8 1))) := by have := range_set HRE1.out 3 (.int .u8 1); rw [Nat.zero_add] at this; exact this
            have HTE11 := hide (there_set HTE10.out ⟨E, 3, none⟩ (.int .u8 1))
            have HW11 := hide (HW10.out.setE HEE.out HSE.out 3 (.int .u8 1))
            generalize wa.setCell ⟨E, 3, none⟩ (.int .u8 1) = wb at *
            clear c1 c3 f3
            have c85 : wb.cell? ⟨E, 85, none⟩ = some V85 := by have := HRE2.out 85 _ (by rw [List.getElem?_set_ne (by omega), List.getElem?_set_ne (by omega)]; exact HV85.out); rwa [Nat.zero_add] at this
            have f85 : wb.frozen? ⟨E, 85, none⟩ = false := by have := (HTE11.out 85 (by omega)).2; simpa using this
            go_upto_region 11 with fail
            have HRE3 : Hid ((wb.setCell ⟨E, 85, none⟩ (nilS)).rangeAt E 0 (((V.set 0 (.int .u8 i)).set 3 (.int .u8 1)).set 85 (nilS))) := by have := range_set HRE2.out 85 (nilS); rw [Nat.zero_add] at this; exact this
            have HTE12 := hide (there_set HTE11.out ⟨E, 85, none⟩ (nilS))
            have HW12 := hide (HW11.out.setE HEE.out HSE.out 85 (nilS))
            generalize wb.setCell ⟨E, 85, none⟩ (nilS) = wd at *
            clear c85 f85
            have HUW : Hid (WfL i (((V.set 0 (.int .u8 i)).set 3 (.int .u8 1)).set 85 nilS)) := wfl_sets (c := 1) HVl.out HVo.out HV1.out (by omega)
            obtain ⟨U, hU⟩ : ∃ U, ((V.set 0 (.int .u8 i)).set 3 (.int .u8 1)).set 85 nilS = U := ⟨_, rfl⟩
            rw [hU] at HRE3 HUW
            have HUl := hide HUW.out.l
            have HUo := hide HUW.out.o
            have c2 : wd.cell? ⟨A + 2, 0, none⟩ = some s := HW12.out.c2
            have f2 : wd.frozen? ⟨A + 2, 0, none⟩ = false := HW12.out.f2
            clear HW HW9 HW10 HW11 HTE HTE9 HTE10 HTE11 HTE12 HRE HRE1 HRE2 hU HV0 HV1 HV3 HV85 HVl HVo
            go_wp2_with fail
            simp only [Try.isAgg95, Try.sizeOf95, Result.andThen, ↓reduceIte, ldC wd E 0 U 86 HUl.out HRE3.out]
            rw [Oper.upon_value]
            go_upto_region 12 with (first | (at_builtin; refine wpList_append_own _ rfl (.tmp 34) (.tmp 36) 25 rfl (A + 3) 95 i9 _ 86 184 Try.underlying25 HI.out.1 HI.out.2.1 HI.out.2.2.1 HI.out.2.2.2 Try.zs95 (by decide) s i R.flatten rfl HOW.out ⟨wd.heap.size, 0, none⟩ 1 1 U rfl (by rw [HUl.out]) (fun j u hj => by have := newR wd U 95 j u hj; rw [Addr.add_mid]; exact this) HUo.out (by unfold maxLen; omega) (by omega) (by have := HSZ.out; omega) ?_; intro s' wf hown hgrow _; have c2' : wf.cell? ⟨A + 2, 0, none⟩ = some s := (by rw [World.cell?_of_block (hgrow.block _ (show A + 2 < _ from HA2.out) (fun e => HSB.out e.symm))]; exact HC2.out); have f2' : wf.frozen? ⟨A + 2, 0, none⟩ = false := (by rw [World.frozen?_of_block (hgrow.block _ (show A + 2 < _ from HA2.out) (fun e => HSB.out e.symm))]; exact HF2.out); obtain ⟨ga, gc, rfl⟩ := own_form hown; have HOF := hide hown; have HGR := hide hgrow; clear hown hgrow) | (refine wpList_plain rfl (fun K hK => wp_buildS 25 95 (.tmp 35) rfl U rfl i9 _ 86 184 Try.underlying25 HI.out.1 HI.out.2.1 HI.out.2.2.1 HI.out.2.2.2 HUl.out (by decide) (by decide) (hK _ _ ?_)); have HWE := hide (HW12.out.below (be1 wd (.cells U.toArray 95))); have HOW := hide HWE.out.ow; have HSZ := hide HWE.out.sz; have HC2 := hide HWE.out.c2; have HF2 := hide HWE.out.f2; have HA2 : Hid (A + 2 < (wd.alloc (.cells U.toArray 95)).heap.size) := (by have := HWE.out.sz; show _ < _; omega); have HSB : Hid (s.ownBlock ≠ some (A + 2)) := (fun e => by have := (HWE.out.ow.lt _ e).1; omega); simp only []))
            have HWN := hide (HWE.out.grow HUW.out HOF.out HGR.out)
            generalize wf.setCell ⟨A + 2, 0, none⟩ (.slice ga (i + 1) gc) = wg at *
            clear HWE HOF HGR HW12 HRE3 c2' f2' c2 f2 HUW HUl HUo HOW HSZ HC2 HF2 HA2 HSB
            go_wp2
            go_roundw
            case rel => exact ⟨i + 1, _, R ++ [U], by omega, by omega, by go_num, HWN.out⟩
            case measure => simp [intOf]; omega
          · by_cases k2 : cc = 2
            · subst k2
              go_upto_region 8 with fail
              clear c1 f1
              have HW9 := hide HW.out
              have HTE9 := hide HTE.out
              have c0 : wz.cell? ⟨E, 0, none⟩ = some V0 := by have := HRE.out 0 _ HV0.out; rwa [Nat.zero_add] at this
              have f0 : wz.frozen? ⟨E, 0, none⟩ = false := by have := (HTE.out 0 (by omega)).2; simpa using this
              go_upto_region 9 with fail
              have HRE1 : Hid ((wz.setCell ⟨E, 0, none⟩ (.int .u8 i)).rangeAt E 0 (V.set 0 (.int .u8 i))) := by have := range_set HRE.out 0 (.int .u8 i); rw [Nat.zero_add] at this; exact this
              have HTE10 := hide (there_set HTE9.out ⟨E, 0, none⟩ (.int .u8 i))
              have HW10 := hide (HW9.out.setE HEE.out HSE.out 0 (.int .u8 i))
              generalize wz.setCell ⟨E, 0, none⟩ (.int .u8 i) = wa at *
              clear c0 f0
              have c1 : wa.cell? ⟨E, 1, none⟩ = some (.int .u8 2) := by have := HRE1.out 1 _ (by rw [List.getElem?_set_ne (by omega)]; exact HV1.out); rwa [Nat.zero_add] at this
              have c3 : wa.cell? ⟨E, 3, none⟩ = some V3 := by have := HRE1.out 3 _ (by rw [List.getElem?_set_ne (by omega)]; exact HV3.out); rwa [Nat.zero_add] at this
              have f3 : wa.frozen? ⟨E, 3, none⟩ = false := by have := (HTE10.out 3 (by omega)).2; simpa using this
              go_upto_region 10 with fail
              have HRE2 : Hid ((wa.setCell ⟨E, 3, none⟩ (.int .u8 2)).rangeAt E 0 ((V.set 0 (.int .u8 i)).set 3 (.int .u8 2))) := by have := range_set HRE1.out 3 (.int .u8 2); rw [Nat.zero_add] at this; exact this
              have HTE11 := hide (there_set HTE10.out ⟨E, 3, none⟩ (.int .u8 2))
              have HW11 := hide (HW10.out.setE HEE.out HSE.out 3 (.int .u8 2))
              generalize wa.setCell ⟨E, 3, none⟩ (.int .u8 2) = wb at *
              clear c1 c3 f3
              have c85 : wb.cell? ⟨E, 85, none⟩ = some V85 := by have := HRE2.out 85 _ (by rw [List.getElem?_set_ne (by omega), List.getElem?_set_ne (by omega)]; exact HV85.out); rwa [Nat.zero_add] at this
              have f85 : wb.frozen? ⟨E, 85, none⟩ = false := by have := (HTE11.out 85 (by omega)).2; simpa using this
              go_upto_region 11 with fail
              have HRE3 : Hid ((wb.setCell ⟨E, 85, none⟩ (nilS)).rangeAt E 0 (((V.set 0 (.int .u8 i)).set 3 (.int .u8 2)).set 85 (nilS))) := by have := range_set HRE2.out 85 (nilS); rw [Nat.zero_add] at this; exact this
              have HTE12 := hide (there_set HTE11.out ⟨E, 85, none⟩ (nilS))
              have HW12 := hide (HW11.out.setE HEE.out HSE.out 85 (nilS))
              generalize wb.setCell ⟨E, 85, none⟩ (nilS) = wd at *
              clear c85 f85
              have HUW : Hid (WfL i (((V.set 0 (.int .u8 i)).set 3 (.int .u8 2)).set 85 nilS)) := wfl_sets (c := 2) HVl.out HVo.out HV1.out (by omega)
              obtain ⟨U, hU⟩ : ∃ U, ((V.set 0 (.int .u8 i)).set 3 (.int .u8 2)).set 85 nilS = U := ⟨_, rfl⟩
              rw [hU] at HRE3 HUW
              have HUl := hide HUW.out.l
              have HUo := hide HUW.out.o
              have c2 : wd.cell? ⟨A + 2, 0, none⟩ = some s := HW12.out.c2
              have f2 : wd.frozen? ⟨A + 2, 0, none⟩ = false := HW12.out.f2
              clear HW HW9 HW10 HW11 HTE HTE9 HTE10 HTE11 HTE12 HRE HRE1 HRE2 hU HV0 HV1 HV3 HV85 HVl HVo
              go_wp2_with fail
              simp only [Try.isAgg95, Try.sizeOf95, Result.andThen, ↓reduceIte, ldC wd E 0 U 86 HUl.out HRE3.out]
              rw [Oper.upon_value]
              go_upto_region 12 with (first | (at_builtin; refine wpList_append_own _ rfl (.tmp 34) (.tmp 36) 25 rfl (A + 3) 95 i9 _ 86 184 Try.underlying25 HI.out.1 HI.out.2.1 HI.out.2.2.1 HI.out.2.2.2 Try.zs95 (by decide) s i R.flatten rfl HOW.out ⟨wd.heap.size, 0, none⟩ 1 1 U rfl (by rw [HUl.out]) (fun j u hj => by have := newR wd U 95 j u hj; rw [Addr.add_mid]; exact this) HUo.out (by unfold maxLen; omega) (by omega) (by have := HSZ.out; omega) ?_; intro s' wf hown hgrow _; have c2' : wf.cell? ⟨A + 2, 0, none⟩ = some s := (by rw [World.cell?_of_block (hgrow.block _ (show A + 2 < _ from HA2.out) (fun e => HSB.out e.symm))]; exact HC2.out); have f2' : wf.frozen? ⟨A + 2, 0, none⟩ = false := (by rw [World.frozen?_of_block (hgrow.block _ (show A + 2 < _ from HA2.out) (fun e => HSB.out e.symm))]; exact HF2.out); obtain ⟨ga, gc, rfl⟩ := own_form hown; have HOF := hide hown; have HGR := hide hgrow; clear hown hgrow) | (refine wpList_plain rfl (fun K hK => wp_buildS 25 95 (.tmp 35) rfl U rfl i9 _ 86 184 Try.underlying25 HI.out.1 HI.out.2.1 HI.out.2.2.1 HI.out.2.2.2 HUl.out (by decide) (by decide) (hK _ _ ?_)); have HWE := hide (HW12.out.below (be1 wd (.cells U.toArray 95))); have HOW := hide HWE.out.ow; have HSZ := hide HWE.out.sz; have HC2 := hide HWE.out.c2; have HF2 := hide HWE.out.f2; have HA2 : Hid (A + 2 < (wd.alloc (.cells U.toArray 95)).heap.size) := (by have := HWE.out.sz; show _ < _; omega); have HSB : Hid (s.ownBlock ≠ some (A + 2)) := (fun e => by have := (HWE.out.ow.lt _ e).1; omega); simp only []))
              have HWN := hide (HWE.out.grow HUW.out HOF.out HGR.out)
              generalize wf.setCell ⟨A + 2, 0, none⟩ (.slice ga (i + 1) gc) = wg at *
              clear HWE HOF HGR HW12 HRE3 c2' f2' c2 f2 HUW HUl HUo HOW HSZ HC2 HF2 HA2 HSB
              go_wp2
              go_roundw
              case rel => exact ⟨i + 1, _, R ++ [U], by omega, by omega, by go_num, HWN.out⟩
              case measure => simp [intOf]; omega
            · have e1 : (cc != 1) = true := by simp [k1]
              have e2 : (cc != 2) = true := by simp [k2]
              go_upto_region 8 with fail
              clear c1 f1 e1 e2 k1 k2
              have HRE : Hid ((wz.setCell ⟨E, 1, none⟩ (.int .u8 1)).rangeAt E 0 (V.set 1 (.int .u8 1))) := by have := range_set HRE.out 1 (.int .u8 1); rw [Nat.zero_add] at this; exact this
              have HTE := hide (there_set HTE.out ⟨E, 1, none⟩ (.int .u8 1))
              have HW := hide (HW.out.setE HEE.out HSE.out 1 (.int .u8 1))
              have HVo : Hid (∀ u ∈ V.set 1 (.int .u8 1), u.oneCell' = true) := fun u hu => (List.mem_or_eq_of_mem_set hu).elim (HVo.out u) (fun e => by rw [e]; rfl)
              have HV0 : Hid ((V.set 1 (.int .u8 1))[0]? = some V0) := by show _ = _; rw [List.getElem?_set_ne (by omega)]; exact HV0.out
              have HV1 : Hid ((V.set 1 (.int .u8 1))[1]? = some (.int .u8 1)) := by show _ = _; rw [List.getElem?_set_self (by rw [HVl.out]; omega)]
              have HV3 : Hid ((V.set 1 (.int .u8 1))[3]? = some V3) := by show _ = _; rw [List.getElem?_set_ne (by omega)]; exact HV3.out
              have HV85 : Hid ((V.set 1 (.int .u8 1))[85]? = some V85) := by show _ = _; rw [List.getElem?_set_ne (by omega)]; exact HV85.out
              have HVl : Hid ((V.set 1 (.int .u8 1)).length = 86) := by show _ = _; rw [List.length_set]; exact HVl.out
              generalize V.set 1 (.int .u8 1) = V at *
              generalize wz.setCell ⟨E, 1, none⟩ (.int .u8 1) = wz at *
              have HW9 := hide HW.out
              have HTE9 := hide HTE.out
              have c0 : wz.cell? ⟨E, 0, none⟩ = some V0 := by have := HRE.out 0 _ HV0.out; rwa [Nat.zero_add] at this
              have f0 : wz.frozen? ⟨E, 0, none⟩ = false := by have := (HTE.out 0 (by omega)).2; simpa using this
              go_upto_region 9 with fail
              have HRE1 : Hid ((wz.setCell ⟨E, 0, none⟩ (.int .u8 i)).rangeAt E 0 (V.set 0 (.int .u8 i))) := by have := range_set HRE.out 0 (.int .u8 i); rw [Nat.zero_add] at this; exact this
              have HTE10 := hide (there_set HTE9.out ⟨E, 0, none⟩ (.int .u8 i))
              have HW10 := hide (HW9.out.setE HEE.out HSE.out 0 (.int .u8 i))
              generalize wz.setCell ⟨E, 0, none⟩ (.int .u8 i) = wa at *
              clear c0 f0
              have c1 : wa.cell? ⟨E, 1, none⟩ = some (.int .u8 1) := by have := HRE1.out 1 _ (by rw [List.getElem?_set_ne (by omega)]; exact HV1.out); rwa [Nat.zero_add] at this
              have c3 : wa.cell? ⟨E, 3, none⟩ = some V3 := by have := HRE1.out 3 _ (by rw [List.getElem?_set_ne (by omega)]; exact HV3.out); rwa [Nat.zero_add] at this
              have f3 : wa.frozen? ⟨E, 3, none⟩ = false := by have := (HTE10.out 3 (by omega)).2; simpa using this
              go_upto_region 10 with fail
              have HRE2 : Hid ((wa.setCell ⟨E, 3, none⟩ (.int .u8 1)).rangeAt E 0 ((V.set 0 (.int .u8 i)).set 3 (.int .u8 1))) := by have := range_set HRE1.out 3 (.int .u8 1); rw [Nat.zero_add] at this; exact this
              have HTE11 := hide (there_set HTE10.out ⟨E, 3, none⟩ (.int .u8 1))
              have HW11 := hide (HW10.out.setE HEE.out HSE.out 3 (.int .u8 1))
              generalize wa.setCell ⟨E, 3, none⟩ (.int .u8 1) = wb at *
              clear c1 c3 f3
              have c85 : wb.cell? ⟨E, 85, none⟩ = some V85 := by have := HRE2.out 85 _ (by rw [List.getElem?_set_ne (by omega), List.getElem?_set_ne (by omega)]; exact HV85.out); rwa [Nat.zero_add] at this
              have f85 : wb.frozen? ⟨E, 85, none⟩ = false := by have := (HTE11.out 85 (by omega)).2; simpa using this
              go_upto_region 11 with fail
              have HRE3 : Hid ((wb.setCell ⟨E, 85, none⟩ (nilS)).rangeAt E 0 (((V.set 0 (.int .u8 i)).set 3 (.int .u8 1)).set 85 (nilS))) := by have := range_set HRE2.out 85 (nilS); rw [Nat.zero_add] at this; exact this
              have HTE12 := hide (there_set HTE11.out ⟨E, 85, none⟩ (nilS))
              have HW12 := hide (HW11.out.setE HEE.out HSE.out 85 (nilS))
              generalize wb.setCell ⟨E, 85, none⟩ (nilS) = wd at *
              clear c85 f85
              have HUW : Hid (WfL i (((V.set 0 (.int .u8 i)).set 3 (.int .u8 1)).set 85 nilS)) := wfl_sets (c := 1) HVl.out HVo.out HV1.out (by omega)
              obtain ⟨U, hU⟩ : ∃ U, ((V.set 0 (.int .u8 i)).set 3 (.int .u8 1)).set 85 nilS = U := ⟨_, rfl⟩
              rw [hU] at HRE3 HUW
              have HUl := hide HUW.out.l
              have HUo := hide HUW.out.o
              have c2 : wd.cell? ⟨A + 2, 0, none⟩ = some s := HW12.out.c2
              have f2 : wd.frozen? ⟨A + 2, 0, none⟩ = false := HW12.out.f2
              clear HW HW9 HW10 HW11 HTE HTE9 HTE10 HTE11 HTE12 HRE HRE1 HRE2 hU HV0 HV1 HV3 HV85 HVl HVo
              go_wp2_with fail
              simp only [Try.isAgg95, Try.sizeOf95, Result.andThen, ↓reduceIte, ldC wd E 0 U 86 HUl.out HRE3.out]
              rw [Oper.upon_value]
              go_upto_region 12 with (first | (at_builtin; refine wpList_append_own _ rfl (.tmp 34) (.tmp 36) 25 rfl (A + 3) 95 i9 _ 86 184 Try.underlying25 HI.out.1 HI.out.2.1 HI.out.2.2.1 HI.out.2.2.2 Try.zs95 (by decide) s i R.flatten rfl HOW.out ⟨wd.heap.size, 0, none⟩ 1 1 U rfl (by rw [HUl.out]) (fun j u hj => by have := newR wd U 95 j u hj; rw [Addr.add_mid]; exact this) HUo.out (by unfold maxLen; omega) (by omega) (by have := HSZ.out; omega) ?_; intro s' wf hown hgrow _; have c2' : wf.cell? ⟨A + 2, 0, none⟩ = some s := (by rw [World.cell?_of_block (hgrow.block _ (show A + 2 < _ from HA2.out) (fun e => HSB.out e.symm))]; exact HC2.out); have f2' : wf.frozen? ⟨A + 2, 0, none⟩ = false := (by rw [World.frozen?_of_block (hgrow.block _ (show A + 2 < _ from HA2.out) (fun e => HSB.out e.symm))]; exact HF2.out); obtain ⟨ga, gc, rfl⟩ := own_form hown; have HOF := hide hown; have HGR := hide hgrow; clear hown hgrow) | (refine wpList_plain rfl (fun K hK => wp_buildS 25 95 (.tmp 35) rfl U rfl i9 _ 86 184 Try.underlying25 HI.out.1 HI.out.2.1 HI.out.2.2.1 HI.out.2.2.2 HUl.out (by decide) (by decide) (hK _ _ ?_)); have HWE := hide (HW12.out.below (be1 wd (.cells U.toArray 95))); have HOW := hide HWE.out.ow; have HSZ := hide HWE.out.sz; have HC2 := hide HWE.out.c2; have HF2 := hide HWE.out.f2; have HA2 : Hid (A + 2 < (wd.alloc (.cells U.toArray 95)).heap.size) := (by have := HWE.out.sz; show _ < _; omega); have HSB : Hid (s.ownBlock ≠ some (A + 2)) := (fun e => by have := (HWE.out.ow.lt _ e).1; omega); simp only []))
              have HWN := hide (HWE.out.grow HUW.out HOF.out HGR.out)
              generalize wf.setCell ⟨A + 2, 0, none⟩ (.slice ga (i + 1) gc) = wg at *
              clear HWE HOF HGR HW12 HRE3 c2' f2' c2 f2 HUW HUl HUo HOW HSZ HC2 HF2 HA2 HSB
              go_wp2
              go_roundw
              case rel => exact ⟨i + 1, _, R ++ [U], by omega, by omega, by go_num, HWN.out⟩
              case measure => simp [intOf]; omega
      · obtain rfl : i = n := by omega
        have d1 : decide ((i : Int) < (i : Int)) = false := by simp
        go_wp2
        go_meet
        exact ⟨s, i, R, HW0.out, hi7⟩
  obtain ⟨s, m, R, hw, hm7⟩ := hcut
  obtain ⟨ga, gc, rfl⟩ := own_form hw.ow
  have HW := hide hw
  have c2 : wc.cell? ⟨A + 2, 0, none⟩ = some (.slice ga m gc) := hw.c2
  clear hw
  by_cases hm0 : m = 0
  · subst hm0
    have hR : R = [] := List.eq_nil_of_length_eq_zero HW.out.ln
    subst hR
    have HDW := hide (defL_wf 0 (c := 2) (.inr rfl))
    have HDl := hide HDW.out.l
    have HDo := hide HDW.out.o
    have f2 : wc.frozen? ⟨A + 2, 0, none⟩ = false := HW.out.f2
    have HB1 := hide (built_T 2)
    have HB2 := hide (built_L0 2)
    obtain ⟨U, hU⟩ : ∃ U, defL ((0 : Nat) : Int) 2 = U := ⟨_, rfl⟩
    rw [hU] at HDW HDl HDo
    rw [show defL 0 2 = U from hU] at HB2
    clear hU
    generalize (defT 2).toArray = Tz at *
    go_upto_region 14 with fail
    refine wp_region_lit ?_
    refine wpL_run rfl (.pointer (some ⟨A + 2, 0, none⟩)) wc (by simp [go_sem]) ?_
    refine wpL_run rfl (.slice ga 0 gc) wc (by simp [go_sem, c2]) ?_
    refine wpL_build rfl 92 _ rfl Tz (by exact HB1.out) ?_
    refine wpL_build rfl 95 _ rfl U.toArray (by exact HB2.out) ?_
    refine wpList_plain rfl (fun K hK => wp_buildS 25 95 (.tmp 47) rfl U rfl i9 _ 86 184 Try.underlying25 HI.out.1 HI.out.2.1 HI.out.2.2.1 HI.out.2.2.2 HDl.out (by decide) (by decide) (hK _ _ ?_))
    have HWE := hide (HW.out.below (be1 wc (.cells U.toArray 95)))
    have HSB : Hid ((Value.slice ga 0 gc).ownBlock ≠ some (A + 2)) := (fun e => by have := (HWE.out.ow.lt _ e).1; omega)
    have HA2 : Hid (A + 2 < (wc.alloc (.cells U.toArray 95)).heap.size) := (by have := HWE.out.sz; show _ < _; omega)
    have HNW := hide (newR wc U 95)
    obtain ⟨Y, hY⟩ : ∃ Y, wc.heap.size = Y := ⟨_, rfl⟩
    rw [hY] at HNW ⊢
    clear hY
    generalize wc.alloc (.cells U.toArray 95) = wv at *
    refine wpList_append_own wv rfl (.tmp 45) (.tmp 48) 25 rfl (A + 3) 95 i9 _ 86 184 Try.underlying25 HI.out.1 HI.out.2.1 HI.out.2.2.1 HI.out.2.2.2 Try.zs95 (by decide) (.slice ga 0 gc) 0 [] rfl HWE.out.ow ⟨Y, 0, none⟩ 1 1 U rfl (by rw [HDl.out]) (fun j u hj => by have := HNW.out j u hj; rw [Addr.add_mid]; exact this) HDo.out (by unfold maxLen; omega) (by omega) (by have := HWE.out.sz; omega) ?_
    intro s' wf hown hgrow _
    obtain ⟨gb, gd, rfl⟩ := own_form hown
    have HWN := hide (HWE.out.grow HDW.out hown hgrow)
    have c2' : wf.cell? ⟨A + 2, 0, none⟩ = some (.slice ga 0 gc) := by rw [World.cell?_of_block (hgrow.block _ (show A + 2 < _ from HA2.out) (fun e => HSB.out e.symm))]; exact HWE.out.c2
    have f2' : wf.frozen? ⟨A + 2, 0, none⟩ = false := by rw [World.frozen?_of_block (hgrow.block _ (show A + 2 < _ from HA2.out) (fun e => HSB.out e.symm))]; exact HWE.out.f2
    clear hown hgrow HWE HW c2 f2 HDW HDl HDo HA2 HSB HNW
    refine wpL_run rfl (.pointer (some ⟨A + 2, 0, none⟩)) wf (by simp [go_sem]) ?_
    simp only [Act.put]
    go_upto_region 15 with fail
    rw [show (0 + 1 : Nat) = 1 from rfl] at HWN
    generalize wf.setCell ⟨A + 2, 0, none⟩ (.slice gb 1 gd) = wg at *
    clear c2' f2'
    have k1 : wg.cell? ⟨A + 1, 0, none⟩ = some nilS := HWN.out.c1
    have k2 : wg.frozen? ⟨A + 1, 0, none⟩ = false := HWN.out.f1
    have k3 : wg.cell? ⟨A + 2, 0, none⟩ = some (.slice gb 1 gd) := HWN.out.c2
    have HPO := hide (wf_fin HWN.out HA.out (by omega))
    rw [HQ.out] at HPO
    go_wp2_with fail
    exact bodyPost_ret (v := .agg #[.slice gb 1 gd]) (res_cell Try.results27 rfl (run_loadVar_mid _ (A + 1) 0 27 [.slice gb 1 gd] _ (range_one (World.cell?_setCell_same _ _ _ k1)) Try.underlying27 rfl (by kernel_rfl))) rfl HPO.out
  · obtain ⟨m, rfl⟩ : ∃ k, m = k + 1 := ⟨m - 1, by omega⟩
    have k1 : wc.cell? ⟨A + 1, 0, none⟩ = some nilS := HW.out.c1
    have k2 : wc.frozen? ⟨A + 1, 0, none⟩ = false := HW.out.f1
    have HPO := hide (wf_fin HW.out HA.out (by omega))
    rw [HQ.out] at HPO
    have e0 : (((m + 1 : Nat) : Int) == 0) = false := by simp; omega
    go_wp2_with fail
    exact bodyPost_ret (v := .agg #[.slice ga (m + 1) gc]) (res_cell Try.results27 rfl (run_loadVar_mid _ (A + 1) 0 27 [.slice ga (m + 1) gc] _ (range_one (World.cell?_setCell_same _ _ _ k1)) Try.underlying27 rfl (by kernel_rfl))) rfl HPO.out
end Go.Proofs.Qxb6500784a
