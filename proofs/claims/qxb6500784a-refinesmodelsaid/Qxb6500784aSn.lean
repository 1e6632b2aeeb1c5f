import Derived.Test.Qxb6500784aGr
namespace Go.Proofs.Qxb6500784a
open Go.RowKit

theorem Try.sz68 : (Try.prog.info? 68).map (·.size) = some 41 := by kernel_rfl
theorem z68 : (msv (List.replicate 41 0)).toArray = #[.int .u8 0, .int .u8 0, .int .u8 0, .int .u8 0, .int .u8 0, .int .u64 0, .int .u8 0, .int .u64 0, .int .u8 0, .int .u8 0, .int .u8 0, .int .u8 0, .int .u8 0, .int .u8 0, .int .u8 0, .int .u8 0, .int .u8 0, .int .u8 0, .int .u8 0, .int .u8 0, .int .u8 0, .int .u8 0, .int .u8 0, .int .u8 0, .int .u8 0, .int .u8 0, .int .u8 0, .int .u8 0, .int .u8 0, .int .u8 0, .int .u8 0, .int .u8 0, .int .u8 0, .int .u8 0, .int .u8 0, .int .u8 0, .int .u8 0, .int .u8 0, .int .u8 0, .int .u8 0, .int .u8 0] := by kernel_rfl
theorem msv_len {m : Msg} (h : MsgOk m) : (msv m).length = 41 := by rw [msv, kvs_len, h.l]
theorem zOk : MsgOk (List.replicate 41 0) := ⟨by simp, fun j x hj => by
  rw [List.getElem?_replicate] at hj
  split at hj
  · cases hj
    refine ⟨by omega, ?_⟩
    unfold lim
    split <;> omega
  · cases hj⟩
theorem kvs_set (k : Nat → IntKind) (m : List Int) (j : Nat) (x : Int) : (kvs k m).set j (.int (k j) x) = kvs k (m.set j x) := by
  apply List.ext_getElem?
  intro i
  rw [List.getElem?_set, kvs_at, kvs_at, List.getElem?_set, kvs_len]
  by_cases e : j = i
  · subst e
    simp only [if_true]
    by_cases h : j < m.length
    · simp [h]
    · simp [h]
  · simp [e]
theorem msg_set {m : Msg} (h : MsgOk m) {x : Int} (h0 : 0 ≤ x) (h1 : x < 18446744073709551616) : MsgOk (m.set 5 x) := ⟨by simp [h.l], fun j y hj => by
  rw [List.getElem?_set] at hj
  split at hj
  · rename_i e
    subst e
    split at hj
    · cases hj; exact ⟨h0, h1⟩
    · cases hj
  · exact h.r j y hj⟩
/-- Box.Send's message. -/
def stamp (x : Box0) (m : Msg) : Msg := m.set 5 (x.out.length : Int)
def sentB (x : Box0) (m : Msg) : Box0 := { x with out := x.out ++ [stamp x m], sn := x.sn + 1 }
attribute [-simp] Try.isAgg68 Try.sizeOf68 Try.typeInfo68
set_option linter.unusedSimpArgs false in
set_option maxRecDepth 100000 in
set_option maxHeartbeats 4000000 in
/-- Box.Send -/
theorem send_any (w : World) (b o : Nat) (x : Box0) (sv : List Box0) (B : List Nat) (m : Msg) (h : BA w b o x sv B) (hm : MsgOk m) (hn : x.sn < 32) (hl : x.out.length ≤ 900000000000) :
    Calls Try.prog 62 #[.pointer (some ⟨b, o, none⟩), .agg (msv m).toArray] w (BStep w b o B (.tuple #[.agg (msv (stamp x m)).toArray, .int .i64 0]) (sentB x m) sv) := by
  have HM := hide hm
  have HBA := hide h
  have c3 : w.cell? ⟨b, o + 3, none⟩ = some (.int .i64 x.sn) := h.cell (fun _ _ _ => rfl)
  have HOK := hide h.ok
  obtain ⟨sw, u, v, s, h1, h2, h3, h4, h5, h6⟩ := h
  have HSW := hide h1
  have HCA := hide h2
  have HSO := hide h4
  have HBL := hide h5
  have HBB := hide h6
  clear h1 h2 h4 h5 h6 hm
  have HU : Hid (w.ownsRow 0 68 41 u x.out.length (x.out.flatMap msv)) := HCA.out.cv.fl.2 0 _ u rfl rfl
  obtain ⟨ua, uc, hue⟩ := own_form HU.out
  obtain ⟨n, hnn⟩ : ∃ n, x.out.length = n := ⟨_, rfl⟩
  rw [hnn] at hue hl HU
  subst hue
  have c1 : w.cell? ⟨b, o + 1, none⟩ = some (.slice ua n uc) := HCA.out.rg 1 _ rfl
  have HN := hide hnn
  clear hnn
  obtain ⟨i1, hi1, hz1, hy1, hb1⟩ := info_parts Try.inf68
  have HI1 := hide (show Try.prog.info? 68 = some i1 ∧ i1.zero = some (.agg (msv (List.replicate 41 0)).toArray) ∧ i1.size = 41 ∧ i1.bytes = 72 from ⟨hi1, hz1, hy1, hb1⟩)
  clear hi1 hz1 hy1 hb1
  obtain ⟨V, hV⟩ : ∃ V, msv m = V := ⟨_, rfl⟩
  obtain ⟨U, hU⟩ : ∃ U, msv (stamp x m) = U := ⟨_, rfl⟩
  have HVl : Hid (V.length = 41) := by rw [← hV]; exact msv_len HM.out
  have HUV : Hid (V.set 5 (.int .u64 n) = U) := by rw [← hV, ← hU, stamp, HN.out]; exact kvs_set mkd m 5 n
  have HUl : Hid (U.length = 41) := by show U.length = 41; rw [← HUV.out]; simp [HVl.out]
  have HU1 : Hid (∀ z ∈ U, z.oneCell' = true) := by rw [← hU]; exact kvs_one _ _
  have HV5 : Hid (V[5]? = some (.int .u64 (fld m 5))) := by rw [← hV]; exact fld_at HM.out (by omega)
  have HSM : Hid (MsgOk (stamp x m)) := msg_set HM.out (by omega) (by rw [HN.out]; omega)
  rw [hV]
  have HUe := hide hU
  clear hV
  obtain ⟨R, hR⟩ : ∃ R, BStep w b o B (.tuple #[.agg U.toArray, .int .i64 0]) (sentB x m) sv = R := ⟨_, rfl⟩
  rw [hU, hR]
  have HR := hide hR
  clear hR hU
  obtain ⟨sn, hsn⟩ : ∃ sn, x.sn = sn := ⟨_, rfl⟩
  have HSN : Hid (x.sn = sn ∧ 0 ≤ sn ∧ sn < 32) := ⟨hsn, by rw [← hsn]; exact HOK.out.s.1, by rw [← hsn]; exact hn⟩
  rw [hsn] at c3 hn
  clear hsn
  have d : decide (32 ≤ sn) = false := by simp; omega
  go_enter Try.func62, Try.ntmps62
  go_upto_region 1 with fail
  obtain ⟨A, hA⟩ : ∃ A, w.heap.size = A := ⟨_, rfl⟩
  have HA := hide hA
  have R1 := hide (World.rangeAt_alloc (newR w V 68) (.cells #[.int .u8 0, .int .u8 0, .int .u8 0, .int .u8 0, .int .u8 0, .int .u64 0, .int .u8 0, .int .u64 0, .int .u8 0, .int .u8 0, .int .u8 0, .int .u8 0, .int .u8 0, .int .u8 0, .int .u8 0, .int .u8 0, .int .u8 0, .int .u8 0, .int .u8 0, .int .u8 0, .int .u8 0, .int .u8 0, .int .u8 0, .int .u8 0, .int .u8 0, .int .u8 0, .int .u8 0, .int .u8 0, .int .u8 0, .int .u8 0, .int .u8 0, .int .u8 0, .int .u8 0, .int .u8 0, .int .u8 0, .int .u8 0, .int .u8 0, .int .u8 0, .int .u8 0, .int .u8 0, .int .u8 0] 68))
  have RT := hide (World.there_alloc (newT w V 68) (.cells #[.int .u8 0, .int .u8 0, .int .u8 0, .int .u8 0, .int .u8 0, .int .u64 0, .int .u8 0, .int .u64 0, .int .u8 0, .int .u8 0, .int .u8 0, .int .u8 0, .int .u8 0, .int .u8 0, .int .u8 0, .int .u8 0, .int .u8 0, .int .u8 0, .int .u8 0, .int .u8 0, .int .u8 0, .int .u8 0, .int .u8 0, .int .u8 0, .int .u8 0, .int .u8 0, .int .u8 0, .int .u8 0, .int .u8 0, .int .u8 0, .int .u8 0, .int .u8 0, .int .u8 0, .int .u8 0, .int .u8 0, .int .u8 0, .int .u8 0, .int .u8 0, .int .u8 0, .int .u8 0, .int .u8 0] 68))
  have T1 := hide (newTz (w.alloc (.cells V.toArray 68)) #[.int .u8 0, .int .u8 0, .int .u8 0, .int .u8 0, .int .u8 0, .int .u64 0, .int .u8 0, .int .u64 0, .int .u8 0, .int .u8 0, .int .u8 0, .int .u8 0, .int .u8 0, .int .u8 0, .int .u8 0, .int .u8 0, .int .u8 0, .int .u8 0, .int .u8 0, .int .u8 0, .int .u8 0, .int .u8 0, .int .u8 0, .int .u8 0, .int .u8 0, .int .u8 0, .int .u8 0, .int .u8 0, .int .u8 0, .int .u8 0, .int .u8 0, .int .u8 0, .int .u8 0, .int .u8 0, .int .u8 0, .int .u8 0, .int .u8 0, .int .u8 0, .int .u8 0, .int .u8 0, .int .u8 0] 68)
  have B1 := hide (be2 w (.cells V.toArray 68) (.cells #[.int .u8 0, .int .u8 0, .int .u8 0, .int .u8 0, .int .u8 0, .int .u64 0, .int .u8 0, .int .u64 0, .int .u8 0, .int .u8 0, .int .u8 0, .int .u8 0, .int .u8 0, .int .u8 0, .int .u8 0, .int .u8 0, .int .u8 0, .int .u8 0, .int .u8 0, .int .u8 0, .int .u8 0, .int .u8 0, .int .u8 0, .int .u8 0, .int .u8 0, .int .u8 0, .int .u8 0, .int .u8 0, .int .u8 0, .int .u8 0, .int .u8 0, .int .u8 0, .int .u8 0, .int .u8 0, .int .u8 0, .int .u8 0, .int .u8 0, .int .u8 0, .int .u8 0, .int .u8 0, .int .u8 0] 68))
  rw [show (w.alloc (.cells V.toArray 68)).heap.size = A + 1 by simp [hA]] at T1
  rw [hA] at R1 RT B1 ⊢
  generalize (w.alloc (.cells V.toArray 68)).alloc (.cells #[.int .u8 0, .int .u8 0, .int .u8 0, .int .u8 0, .int .u8 0, .int .u64 0, .int .u8 0, .int .u64 0, .int .u8 0, .int .u8 0, .int .u8 0, .int .u8 0, .int .u8 0, .int .u8 0, .int .u8 0, .int .u8 0, .int .u8 0, .int .u8 0, .int .u8 0, .int .u8 0, .int .u8 0, .int .u8 0, .int .u8 0, .int .u8 0, .int .u8 0, .int .u8 0, .int .u8 0, .int .u8 0, .int .u8 0, .int .u8 0, .int .u8 0, .int .u8 0, .int .u8 0, .int .u8 0, .int .u8 0, .int .u8 0, .int .u8 0, .int .u8 0, .int .u8 0, .int .u8 0, .int .u8 0] 68) = w1 at *
  have hT41 : (#[.int .u8 0, .int .u8 0, .int .u8 0, .int .u8 0, .int .u8 0, .int .u64 0, .int .u8 0, .int .u64 0, .int .u8 0, .int .u8 0, .int .u8 0, .int .u8 0, .int .u8 0, .int .u8 0, .int .u8 0, .int .u8 0, .int .u8 0, .int .u8 0, .int .u8 0, .int .u8 0, .int .u8 0, .int .u8 0, .int .u8 0, .int .u8 0, .int .u8 0, .int .u8 0, .int .u8 0, .int .u8 0, .int .u8 0, .int .u8 0, .int .u8 0, .int .u8 0, .int .u8 0, .int .u8 0, .int .u8 0, .int .u8 0, .int .u8 0, .int .u8 0, .int .u8 0, .int .u8 0, .int .u8 0] : Array Value).size = 41 := rfl
  rw [hT41] at T1
  clear hA hT41
  rw [HVl.out] at RT
  have k3 := cellKeep (show Below w.heap.size w w1 by rw [HA.out]; exact B1.out) c3
  have k1 := cellKeep (show Below w.heap.size w w1 by rw [HA.out]; exact B1.out) c1
  have m5 : w1.cell? ⟨A, 5, none⟩ = some (.int .u64 (fld m 5)) := by have := R1.out 5 _ HV5.out; simpa using this
  have g5 : w1.frozen? ⟨A, 5, none⟩ = false := by have := (RT.out 5 (by omega)).2; simpa using this
  clear c1 c3
  go_upto_region 4 with fail
  have RA2 : Hid ((w1.setCell ⟨A, 5, none⟩ (.int .u64 n)).rangeAt A 0 U) := by
    have := range_set R1.out 5 (.int .u64 n)
    rw [Nat.zero_add, HUV.out] at this
    exact this
  have T2 := hide (there_set T1.out ⟨A, 5, none⟩ (.int .u64 n))
  have B2 : Hid (Below w.heap.size w (w1.setCell ⟨A, 5, none⟩ (.int .u64 n))) := by rw [HA.out]; exact B1.out.setCell (p := ⟨A, 5, none⟩) (Nat.le_refl _) _
  have E2 : Hid (A + 2 ≤ (w1.setCell ⟨A, 5, none⟩ (.int .u64 n)).heap.size) := by
    have := World.block_lt_of_cell? _ _ ((Option.isSome_iff_exists.1 (T1.out 0 (by omega)).1).choose_spec)
    show A + 2 ≤ _
    simp at this ⊢
    omega
  generalize w1.setCell ⟨A, 5, none⟩ (.int .u64 n) = w2 at *
  clear R1 RT T1 B1 m5 g5 k1 k3 w1
  have HC2 := hide (HCA.out.below HBL.out B2.out)
  have c1 : w2.cell? ⟨b, o + 1, none⟩ = some (.slice ua n uc) := HC2.out.rg 1 _ rfl
  have HAb : Hid (A ≠ b ∧ A + 1 ≠ b) := by have h1 := HBL.out; have h2 := HA.out; exact ⟨by omega, by omega⟩
  refine wp_region_held_drew (S := fun w' => w'.rangeAt A 0 U) (by kernel_rfl) RA2.out (fun hHeld => ?_)

  refine wpAnyH_take (i := 0) (v := ?_) rfl (by kernel_rfl) (by kernel_rfl) (by kernel_rfl) (fun _ _ _ h => h) (Or.inl ⟨by rfl, ?_⟩) (by assumption) ?_
  rotate_left
  · (intro w hSw; (try dsimp only at hSw); go_simp; try (with_reducible rfl))
  try simp only [Act.put, List.getElem_toArray, List.getElem_cons_zero, List.getElem_cons_succ, List.setIfInBounds_toArray, List.set_cons_zero, List.set_cons_succ]
  refine wpAnyH_take (i := 1) (v := ?_) rfl (by kernel_rfl) (by kernel_rfl) (by kernel_rfl) (fun _ _ _ h => h) (Or.inl ⟨by rfl, ?_⟩) (by assumption) ?_
  rotate_left
  · (intro w hSw; (try dsimp only at hSw); go_simp; try (with_reducible rfl))
  try simp only [Act.put, List.getElem_toArray, List.getElem_cons_zero, List.getElem_cons_succ, List.setIfInBounds_toArray, List.set_cons_zero, List.set_cons_succ]
  refine wpAnyH_take (i := 2) (v := ?_) rfl (by kernel_rfl) (by kernel_rfl) (by kernel_rfl) (fun _ _ _ h => h) (Or.inl ⟨by rfl, ?_⟩) (by assumption) ?_
  rotate_left
  · (intro w hSw; (try dsimp only at hSw); go_simp; try (with_reducible rfl))
  try simp only [Act.put, List.getElem_toArray, List.getElem_cons_zero, List.getElem_cons_succ, List.setIfInBounds_toArray, List.set_cons_zero, List.set_cons_succ]
  refine wpAnyH_take (i := 3) (v := ?_) rfl (by kernel_rfl) (by kernel_rfl) (by kernel_rfl) (fun _ _ _ h => h) (Or.inl ⟨by rfl, ?_⟩) (by assumption) ?_
  rotate_left
  · (intro w hSw; (try dsimp only at hSw); go_simp; try (with_reducible rfl))
  try simp only [Act.put, List.getElem_toArray, List.getElem_cons_zero, List.getElem_cons_succ, List.setIfInBounds_toArray, List.set_cons_zero, List.set_cons_succ]
  refine wpAnyH_take (i := 5) rfl (by kernel_rfl) (by kernel_rfl) (by kernel_rfl) (fun _ _ _ h => h) (yieldsIf_load_mid (by rfl) 68 (.tmp 3) rfl A 0 rfl U _ (fun w hSw => hSw) Try.underlying68 rfl (by rw [HUl.out]; exact Try.sz68)) (by assumption) ?_
  try simp only [Act.put, List.getElem_toArray, List.getElem_cons_zero, List.getElem_cons_succ, List.setIfInBounds_toArray, List.set_cons_zero, List.set_cons_succ]
  refine wpAnyH_ready (rs := [4, 6]) (by kernel_rfl) (by simp) ?_
  refine (AllReadyH.cons rfl (fun K hK => ?_) (AllReadyH.cons rfl (fun K hK => ?_) AllReadyH.nil))
  · go_simp
    refine hK.out _ _ ?_ (fun hHeld => ?_)
    · first | exact RA2.out | exact range_below RA2.out (Nat.lt_of_lt_of_le (by omega : A < A + 2) E2.out) HB4.out
    clear hK K
    try simp only [Act.put, List.getElem_toArray, List.getElem_cons_zero, List.getElem_cons_succ, List.setIfInBounds_toArray, List.set_cons_zero, List.set_cons_succ]
    refine wpAnyH_ready (rs := [6]) (by kernel_rfl) (by simp) ?_
    refine (AllReadyH.cons rfl (fun K hK => ?_) AllReadyH.nil)
    refine step_buildS rfl 51 68 (.tmp 24) rfl U rfl i1 _ 41 72 Try.underlying51 HI1.out.1 HI1.out.2.1 HI1.out.2.2.1 HI1.out.2.2.2 HUl.out (by decide) (by decide) ?_
    have b4 := (Below.trans (B := w2.heap.size) ((Below.refl w2.heap.size w2).drew) (be1 w2.drew (.cells U.toArray 68)))
    have HB4 := hide b4
    have HC4 := hide (HC2.out.below (Nat.lt_of_lt_of_le HBL.out B2.out.size) b4)
    have HZ4 := hide (newR w2.drew U 68)
    have c4 : (w2.drew.alloc (.cells U.toArray 68)).cell? ⟨b, o + 1, none⟩ = some (.slice ua n uc) := HC4.out.rg 1 _ rfl
    clear b4
    refine hK.out _ _ ?_ (fun hHeld => ?_)
    · exact range_below RA2.out (Nat.lt_of_lt_of_le (by omega : A < A + 2) E2.out) HB4.out
    clear hK K
    try simp only [Act.put, List.getElem_toArray, List.getElem_cons_zero, List.getElem_cons_succ, List.setIfInBounds_toArray, List.set_cons_zero, List.set_cons_succ]
    generalize w2.drew.alloc (.cells U.toArray 68) = w4 at *
    refine wpAnyH_ready (rs := [7]) (by kernel_rfl) (by simp) ?_
    refine (AllReadyH.cons rfl (fun K hK => ?_) AllReadyH.nil)
    refine step_append_lies _ rfl (.tmp 23) (.tmp 25) 51 rfl 0 68 i1 _ 41 72 Try.underlying51 HI1.out.1 HI1.out.2.1 HI1.out.2.2.1 HI1.out.2.2.2 (by simp [Value.cells, msv, kvs_len]) (by decide) (.slice ua n uc) n (x.out.flatMap msv) rfl (by have := HC4.out.cv.fl.2 0 _ _ rfl rfl; rw [← HN.out]; rw [HN.out] at this ⊢; exact this) ⟨w2.drew.heap.size, 0, none⟩ 1 1 U rfl (by rw [HUl.out]) (fun j u hj => by rw [Addr.add_mid]; exact HZ4.out j u hj) HU1.out (by decide) (by unfold maxLen; omega) (by omega) (Nat.zero_le _) _ rfl ?_
    intro g2 cap2 w5 hown hgrow hat hlt2
    have hat2 : ∀ j, (Value.slice (some ⟨g2, 0, none⟩) (n + 1) cap2).ownBlock = some j → (Value.slice ua n uc).ownBlock = some j ∨ w4.heap.size ≤ j := fun j hj => by
      have e : g2 = j := by simpa [Value.ownBlock] using hj
      subst e
      exact hat.imp id fun z => by rw [z]; exact Nat.le_refl _
    have HC5 : Hid (CV w5 54 5 (sentB x m).fl (boxW sw) [.slice (some ⟨g2, 0, none⟩) (n + 1) cap2, v] s) := by
      refine CV.grow (p := []) (q := [v]) (rp := []) (r := ⟨68, 41, x.out.length, x.out.flatMap msv⟩) (rq := [⟨68, 41, x.inb.length, x.inb.flatMap msv⟩]) (r' := ⟨68, 41, (x.out ++ [stamp x m]).length, (x.out ++ [stamp x m]).flatMap msv⟩) HC4.out.cv rfl rfl rfl hgrow ?_ hat2
      rw [List.length_append, List.flatMap_append, HN.out, show [stamp x m].flatMap msv = msv (stamp x m) by simp, HUe.out]
      exact hown
    have hub : (Value.slice ua n uc).ownBlock ≠ some b := fun e => HBB.out (HCA.out.bl ▸ mem_blks.2 ⟨_, by simp, e⟩)
    have huB : ∀ j, (Value.slice ua n uc).ownBlock = some j → j ∈ B := fun j e => HCA.out.bl ▸ mem_blks.2 ⟨_, by simp, e⟩
    have huA : ∀ j, (Value.slice ua n uc).ownBlock = some j → j < A := fun j e => by have := HCA.out.lt (huB j e); have := HA.out; omega
    have exg := Ex.ofGrown (S := fun k => (Value.slice ua n uc).ownBlock = some k) hgrow (fun k e => e.symm)
    have HS4 : Hid (A + 2 ≤ w4.heap.size) := Nat.le_trans E2.out HB4.out.size
    have HRA5 : Hid (w5.rangeAt A 0 U) := range_ex (range_below RA2.out (by have := E2.out; omega) HB4.out) (by have := HS4.out; omega) exg (fun e => by have := huA _ e; omega)
    have HT5 : Hid (w5.there (A + 1) 0 41) := there_ex (there_below T2.out (by have := E2.out; omega) HB4.out) (by have := HS4.out; omega) exg (fun e => by have := huA _ e; omega)
    have HCg5 := hide ((Cg.below (o := o) (n := 5) (B := B) (lec B2.out HB4.out) HBL.out).grown hgrow (fun j hj => .inl (huB j hj)) HBL.out hub)
    have hb4 : b < w4.heap.size := World.block_lt_of_cell? _ _ c4
    have HTH5 : Hid (w5.there b o 5) := there_ex HC4.out.th hb4 exg hub
    have HRG5 : Hid (w5.rangeAt b o (x.vals (.slice ua n uc) v s)) := range_ex HC4.out.rg hb4 exg hub
    have HSUB : Hid (∀ j, j ∈ blks ([Value.slice (some ⟨g2, 0, none⟩) (n + 1) cap2, v] ++ s :: (boxW sw).flatMap (·.2)) → j ∈ B ∨ A + 2 ≤ j) := fun j hj => by
      rcases grow_sub (w := w4) (p := []) (q := [v]) hat2 hj with z | z
      · exact .inl (HCA.out.bl ▸ z)
      · right; have := HS4.out; omega
    have c5 : w5.cell? ⟨b, o + 1, none⟩ = some (.slice ua n uc) := HRG5.out 1 _ rfl
    have f5 : w5.frozen? ⟨b, o + 1, none⟩ = false := (HTH5.out 1 (by omega)).2
    clear hown hgrow hat hlt2 hat2 exg c4 hub huB huA hb4
    refine hK.out _ _ ?_ (fun hHeld => ?_)
    · exact HRA5.out
    clear hK K
    try simp only [Act.put, List.getElem_toArray, List.getElem_cons_zero, List.getElem_cons_succ, List.setIfInBounds_toArray, List.set_cons_zero, List.set_cons_succ]
    refine wpAnyH_take (i := 8) (v := ?_) rfl (by kernel_rfl) (by kernel_rfl) (by kernel_rfl) (fun _ _ _ h => h) (Or.inl ⟨by rfl, ?_⟩) (by assumption) ?_
    rotate_left
    · (intro w hSw; (try dsimp only at hSw); go_simp; try (with_reducible rfl))
    try simp only [Act.put, List.getElem_toArray, List.getElem_cons_zero, List.getElem_cons_succ, List.setIfInBounds_toArray, List.set_cons_zero, List.set_cons_succ]
    refine wpAnyH_take (i := 9) (v := ?_) rfl (by kernel_rfl) (by kernel_rfl) (by kernel_rfl) (fun _ _ _ h => h) (Or.inl ⟨by rfl, ?_⟩) (by assumption) ?_
    rotate_left
    · (intro w hSw; (try dsimp only at hSw); go_simp; try (with_reducible rfl))
    try simp only [Act.put, List.getElem_toArray, List.getElem_cons_zero, List.getElem_cons_succ, List.setIfInBounds_toArray, List.set_cons_zero, List.set_cons_succ]
    refine wpAnyH_ready (rs := [10]) (by kernel_rfl) (by simp) ?_
    refine (AllReadyH.cons rfl (fun K hK => ?_) AllReadyH.nil)
    go_simp
    refine hK.out _ _ ?_ (fun hHeld => ?_)
    · exact range_set_ne HRA5.out HAb.out.1 _ _
    clear hK K
    try simp only [Act.put, List.getElem_toArray, List.getElem_cons_zero, List.getElem_cons_succ, List.setIfInBounds_toArray, List.set_cons_zero, List.set_cons_succ]
    refine wpAnyH_done (by kernel_rfl) ?_ _
    have HRG6 := hide (range_set HRG5.out 1 (.slice (some ⟨g2, 0, none⟩) (n + 1) cap2))
    have HTH6 := hide (there_set HTH5.out ⟨b, o + 1, none⟩ (.slice (some ⟨g2, 0, none⟩) (n + 1) cap2))
    have HRA6 := hide (range_set_ne HRA5.out HAb.out.1 (o + 1) (.slice (some ⟨g2, 0, none⟩) (n + 1) cap2))
    have HT6 := hide (there_set HT5.out ⟨b, o + 1, none⟩ (.slice (some ⟨g2, 0, none⟩) (n + 1) cap2))
    have HCg6 := hide (HCg5.out.set (j := 1) (by omega) (.slice (some ⟨g2, 0, none⟩) (n + 1) cap2))
    have HC6 : Hid (CV (w5.setCell ⟨b, o + 1, none⟩ (.slice (some ⟨g2, 0, none⟩) (n + 1) cap2)) 54 5 (sentB x m).fl (boxW sw) [.slice (some ⟨g2, 0, none⟩) (n + 1) cap2, v] s) := HC5.out.keep (S := fun k => k = b) ((Ex.refl (fun k => k = b) _).set rfl _) (fun j hj e => by
      rcases HSUB.out j hj with z | z
      · exact HBB.out (e ▸ z)
      · have := HBL.out; have := HA.out; omega)
    generalize w5.setCell ⟨b, o + 1, none⟩ (.slice (some ⟨g2, 0, none⟩) (n + 1) cap2) = w6 at *
    clear HRG5 HTH5 HRA5 HT5 HCg5 HC5 c5 f5
    have c6 : w6.cell? ⟨b, o + 3, none⟩ = some (.int .i64 sn) := by rw [← HSN.out.1]; exact HRG6.out 3 _ rfl
    have f6 : w6.frozen? ⟨b, o + 3, none⟩ = false := (HTH6.out 3 (by omega)).2
    have hsn0 : 0 ≤ sn := HSN.out.2.1
    go_upto_region 6 with fail
    have HRG7 : Hid ((w6.setCell ⟨b, o + 3, none⟩ (.int .i64 (sn + 1))).rangeAt b o ((sentB x m).vals (.slice (some ⟨g2, 0, none⟩) (n + 1) cap2) v s)) := by
      have := range_set HRG6.out 3 (.int .i64 (sn + 1))
      rw [← HSN.out.1] at this ⊢
      exact this
    have HTH7 := hide (there_set HTH6.out ⟨b, o + 3, none⟩ (.int .i64 (sn + 1)))
    have HRA7 := hide (range_set_ne HRA6.out HAb.out.1 (o + 3) (.int .i64 (sn + 1)))
    have HT7 := hide (there_set HT6.out ⟨b, o + 3, none⟩ (.int .i64 (sn + 1)))
    have HCg7 := hide (HCg6.out.set (j := 3) (by omega) (.int .i64 (sn + 1)))
    have HC7 : Hid (CV (w6.setCell ⟨b, o + 3, none⟩ (.int .i64 (sn + 1))) 54 5 (sentB x m).fl (boxW sw) [.slice (some ⟨g2, 0, none⟩) (n + 1) cap2, v] s) := HC6.out.keep (S := fun k => k = b) ((Ex.refl (fun k => k = b) _).set rfl _) (fun j hj e => by
      rcases HSUB.out j hj with z | z
      · exact HBB.out (e ▸ z)
      · have := HBL.out; have := HA.out; omega)
    generalize w6.setCell ⟨b, o + 3, none⟩ (.int .i64 (sn + 1)) = w7 at *
    clear HRG6 HTH6 HRA6 HT6 HCg6 HC6 c6 f6
    go_wp2_with fail
    simp only [Try.isAgg68, Try.sizeOf68, Result.andThen, ↓reduceIte, ldC w7 A 0 U 41 HUl.out HRA7.out]
    rw [Oper.upon_value]
    go_wp2_with fail
    simp only [Try.sizeOf68, Result.andThen, HUl.out, ↓reduceIte, stC w7 (A + 1) 0 U (by rw [HUl.out]; exact HT7.out) HU1.out]
    rw [Oper.upon_skip]
    have HRZ := hide (World.rangeAt_setCells_same w7 (A + 1) 0 U (by rw [HUl.out]; exact HT7.out))
    have ex8 : Ex (fun j => j = A + 1) w7 (w7.setCells (A + 1) 0 U) := Ex.sets (S := fun j => j = A + 1) rfl U 0 w7 (Ex.refl _ _)
    have HRR : Hid (R (.returned (.tuple #[.agg U.toArray, .int .i64 0])) (w7.setCells (A + 1) 0 U)) := by
      rw [← HR.out]
      have hb7 : b < w7.heap.size := Nat.lt_of_lt_of_le HBL.out HCg7.out.ex.size
      refine ⟨rfl, ?_, _, ⟨sw, .slice (some ⟨g2, 0, none⟩) (n + 1) cap2, v, s, HSW.out, ⟨HC7.out.keep ex8 (fun j hj e => ?_), range_ex HRG7.out hb7 ex8 HAb.out.2.symm, there_ex HTH7.out hb7 ex8 HAb.out.2.symm, rfl⟩, ?_, HSO.out, Nat.lt_of_lt_of_le hb7 ex8.size, fun hj => ?_⟩, fun j hj => ?_⟩
      · refine HCg7.out.grown (row := some (A + 1)) ⟨ex8.os, ex8.tape, ex8.output, ex8.size, fun k hk hne => ex8.block k hk (fun e => hne (by rw [e]))⟩ (fun j hj => ?_) HBL.out (fun e => ?_)
        · have : A + 1 = j := by simpa using hj
          right; have := HA.out; omega
        · have : A + 1 = b := by simpa using e
          exact HAb.out.2 this
      · rcases HSUB.out j hj with z | z
        · have := HCA.out.lt z; have := HA.out; omega
        · omega
      · have ok := HOK.out
        refine ⟨ok.c, ?_, fun y hy => ?_, ok.i⟩
        · have h0 := HSN.out
          show 0 ≤ x.sn + 1 ∧ x.sn + 1 ≤ 32
          omega
        · rcases List.mem_append.1 hy with hy | hy
          · exact ok.o y hy
          · have e : y = stamp x m := by simpa using hy
            rw [e]; exact HSM.out
      · rcases HSUB.out b hj with z | z
        · exact HBB.out z
        · have := HBL.out; have := HA.out; omega
      · rcases HSUB.out j hj with z | z
        · exact .inl z
        · right; have := HA.out; omega
    clear ex8
    generalize w7.setCells (A + 1) 0 U = w8 at *
    go_wp2_with fail
    exact bodyPost_ret (v := .tuple #[.agg U.toArray, .int .i64 0]) (res_cell_tmp Try.results62 rfl rfl (run_loadVar_mid w8 (A + 1) 0 68 U _ HRZ.out Try.underlying68 rfl (by rw [HUl.out]; exact Try.sz68))) rfl HRR.out
  · refine step_buildS rfl 51 68 (.tmp 24) rfl U rfl i1 _ 41 72 Try.underlying51 HI1.out.1 HI1.out.2.1 HI1.out.2.2.1 HI1.out.2.2.2 HUl.out (by decide) (by decide) ?_
    have b4 := (Below.trans (B := w2.heap.size) ((Below.refl w2.heap.size w2).drew) (be1 w2.drew (.cells U.toArray 68)))
    have HB4 := hide b4
    have HC4 := hide (HC2.out.below (Nat.lt_of_lt_of_le HBL.out B2.out.size) b4)
    have HZ4 := hide (newR w2.drew U 68)
    have c4 : (w2.drew.alloc (.cells U.toArray 68)).cell? ⟨b, o + 1, none⟩ = some (.slice ua n uc) := HC4.out.rg 1 _ rfl
    clear b4
    refine hK.out _ _ ?_ (fun hHeld => ?_)
    · exact range_below RA2.out (Nat.lt_of_lt_of_le (by omega : A < A + 2) E2.out) HB4.out
    clear hK K
    try simp only [Act.put, List.getElem_toArray, List.getElem_cons_zero, List.getElem_cons_succ, List.setIfInBounds_toArray, List.set_cons_zero, List.set_cons_succ]
    generalize w2.drew.alloc (.cells U.toArray 68) = w4 at *
    refine wpAnyH_ready (rs := [4]) (by kernel_rfl) (by simp) ?_
    refine (AllReadyH.cons rfl (fun K hK => ?_) AllReadyH.nil)
    go_simp
    refine hK.out _ _ ?_ (fun hHeld => ?_)
    · first | exact RA2.out | exact range_below RA2.out (Nat.lt_of_lt_of_le (by omega : A < A + 2) E2.out) HB4.out
    clear hK K
    try simp only [Act.put, List.getElem_toArray, List.getElem_cons_zero, List.getElem_cons_succ, List.setIfInBounds_toArray, List.set_cons_zero, List.set_cons_succ]
    refine wpAnyH_ready (rs := [7]) (by kernel_rfl) (by simp) ?_
    refine (AllReadyH.cons rfl (fun K hK => ?_) AllReadyH.nil)
    refine step_append_lies _ rfl (.tmp 23) (.tmp 25) 51 rfl 0 68 i1 _ 41 72 Try.underlying51 HI1.out.1 HI1.out.2.1 HI1.out.2.2.1 HI1.out.2.2.2 (by simp [Value.cells, msv, kvs_len]) (by decide) (.slice ua n uc) n (x.out.flatMap msv) rfl (by have := HC4.out.cv.fl.2 0 _ _ rfl rfl; rw [← HN.out]; rw [HN.out] at this ⊢; exact this) ⟨w2.drew.heap.size, 0, none⟩ 1 1 U rfl (by rw [HUl.out]) (fun j u hj => by rw [Addr.add_mid]; exact HZ4.out j u hj) HU1.out (by decide) (by unfold maxLen; omega) (by omega) (Nat.zero_le _) _ rfl ?_
    intro g2 cap2 w5 hown hgrow hat hlt2
    have hat2 : ∀ j, (Value.slice (some ⟨g2, 0, none⟩) (n + 1) cap2).ownBlock = some j → (Value.slice ua n uc).ownBlock = some j ∨ w4.heap.size ≤ j := fun j hj => by
      have e : g2 = j := by simpa [Value.ownBlock] using hj
      subst e
      exact hat.imp id fun z => by rw [z]; exact Nat.le_refl _
    have HC5 : Hid (CV w5 54 5 (sentB x m).fl (boxW sw) [.slice (some ⟨g2, 0, none⟩) (n + 1) cap2, v] s) := by
      refine CV.grow (p := []) (q := [v]) (rp := []) (r := ⟨68, 41, x.out.length, x.out.flatMap msv⟩) (rq := [⟨68, 41, x.inb.length, x.inb.flatMap msv⟩]) (r' := ⟨68, 41, (x.out ++ [stamp x m]).length, (x.out ++ [stamp x m]).flatMap msv⟩) HC4.out.cv rfl rfl rfl hgrow ?_ hat2
      rw [List.length_append, List.flatMap_append, HN.out, show [stamp x m].flatMap msv = msv (stamp x m) by simp, HUe.out]
      exact hown
    have hub : (Value.slice ua n uc).ownBlock ≠ some b := fun e => HBB.out (HCA.out.bl ▸ mem_blks.2 ⟨_, by simp, e⟩)
    have huB : ∀ j, (Value.slice ua n uc).ownBlock = some j → j ∈ B := fun j e => HCA.out.bl ▸ mem_blks.2 ⟨_, by simp, e⟩
    have huA : ∀ j, (Value.slice ua n uc).ownBlock = some j → j < A := fun j e => by have := HCA.out.lt (huB j e); have := HA.out; omega
    have exg := Ex.ofGrown (S := fun k => (Value.slice ua n uc).ownBlock = some k) hgrow (fun k e => e.symm)
    have HS4 : Hid (A + 2 ≤ w4.heap.size) := Nat.le_trans E2.out HB4.out.size
    have HRA5 : Hid (w5.rangeAt A 0 U) := range_ex (range_below RA2.out (by have := E2.out; omega) HB4.out) (by have := HS4.out; omega) exg (fun e => by have := huA _ e; omega)
    have HT5 : Hid (w5.there (A + 1) 0 41) := there_ex (there_below T2.out (by have := E2.out; omega) HB4.out) (by have := HS4.out; omega) exg (fun e => by have := huA _ e; omega)
    have HCg5 := hide ((Cg.below (o := o) (n := 5) (B := B) (lec B2.out HB4.out) HBL.out).grown hgrow (fun j hj => .inl (huB j hj)) HBL.out hub)
    have hb4 : b < w4.heap.size := World.block_lt_of_cell? _ _ c4
    have HTH5 : Hid (w5.there b o 5) := there_ex HC4.out.th hb4 exg hub
    have HRG5 : Hid (w5.rangeAt b o (x.vals (.slice ua n uc) v s)) := range_ex HC4.out.rg hb4 exg hub
    have HSUB : Hid (∀ j, j ∈ blks ([Value.slice (some ⟨g2, 0, none⟩) (n + 1) cap2, v] ++ s :: (boxW sw).flatMap (·.2)) → j ∈ B ∨ A + 2 ≤ j) := fun j hj => by
      rcases grow_sub (w := w4) (p := []) (q := [v]) hat2 hj with z | z
      · exact .inl (HCA.out.bl ▸ z)
      · right; have := HS4.out; omega
    have c5 : w5.cell? ⟨b, o + 1, none⟩ = some (.slice ua n uc) := HRG5.out 1 _ rfl
    have f5 : w5.frozen? ⟨b, o + 1, none⟩ = false := (HTH5.out 1 (by omega)).2
    clear hown hgrow hat hlt2 hat2 exg c4 hub huB huA hb4
    refine hK.out _ _ ?_ (fun hHeld => ?_)
    · exact HRA5.out
    clear hK K
    try simp only [Act.put, List.getElem_toArray, List.getElem_cons_zero, List.getElem_cons_succ, List.setIfInBounds_toArray, List.set_cons_zero, List.set_cons_succ]
    refine wpAnyH_take (i := 8) (v := ?_) rfl (by kernel_rfl) (by kernel_rfl) (by kernel_rfl) (fun _ _ _ h => h) (Or.inl ⟨by rfl, ?_⟩) (by assumption) ?_
    rotate_left
    · (intro w hSw; (try dsimp only at hSw); go_simp; try (with_reducible rfl))
    try simp only [Act.put, List.getElem_toArray, List.getElem_cons_zero, List.getElem_cons_succ, List.setIfInBounds_toArray, List.set_cons_zero, List.set_cons_succ]
    refine wpAnyH_take (i := 9) (v := ?_) rfl (by kernel_rfl) (by kernel_rfl) (by kernel_rfl) (fun _ _ _ h => h) (Or.inl ⟨by rfl, ?_⟩) (by assumption) ?_
    rotate_left
    · (intro w hSw; (try dsimp only at hSw); go_simp; try (with_reducible rfl))
    try simp only [Act.put, List.getElem_toArray, List.getElem_cons_zero, List.getElem_cons_succ, List.setIfInBounds_toArray, List.set_cons_zero, List.set_cons_succ]
    refine wpAnyH_ready (rs := [10]) (by kernel_rfl) (by simp) ?_
    refine (AllReadyH.cons rfl (fun K hK => ?_) AllReadyH.nil)
    go_simp
    refine hK.out _ _ ?_ (fun hHeld => ?_)
    · exact range_set_ne HRA5.out HAb.out.1 _ _
    clear hK K
    try simp only [Act.put, List.getElem_toArray, List.getElem_cons_zero, List.getElem_cons_succ, List.setIfInBounds_toArray, List.set_cons_zero, List.set_cons_succ]
    refine wpAnyH_done (by kernel_rfl) ?_ _
    have HRG6 := hide (range_set HRG5.out 1 (.slice (some ⟨g2, 0, none⟩) (n + 1) cap2))
    have HTH6 := hide (there_set HTH5.out ⟨b, o + 1, none⟩ (.slice (some ⟨g2, 0, none⟩) (n + 1) cap2))
    have HRA6 := hide (range_set_ne HRA5.out HAb.out.1 (o + 1) (.slice (some ⟨g2, 0, none⟩) (n + 1) cap2))
    have HT6 := hide (there_set HT5.out ⟨b, o + 1, none⟩ (.slice (some ⟨g2, 0, none⟩) (n + 1) cap2))
    have HCg6 := hide (HCg5.out.set (j := 1) (by omega) (.slice (some ⟨g2, 0, none⟩) (n + 1) cap2))
    have HC6 : Hid (CV (w5.setCell ⟨b, o + 1, none⟩ (.slice (some ⟨g2, 0, none⟩) (n + 1) cap2)) 54 5 (sentB x m).fl (boxW sw) [.slice (some ⟨g2, 0, none⟩) (n + 1) cap2, v] s) := HC5.out.keep (S := fun k => k = b) ((Ex.refl (fun k => k = b) _).set rfl _) (fun j hj e => by
      rcases HSUB.out j hj with z | z
      · exact HBB.out (e ▸ z)
      · have := HBL.out; have := HA.out; omega)
    generalize w5.setCell ⟨b, o + 1, none⟩ (.slice (some ⟨g2, 0, none⟩) (n + 1) cap2) = w6 at *
    clear HRG5 HTH5 HRA5 HT5 HCg5 HC5 c5 f5
    have c6 : w6.cell? ⟨b, o + 3, none⟩ = some (.int .i64 sn) := by rw [← HSN.out.1]; exact HRG6.out 3 _ rfl
    have f6 : w6.frozen? ⟨b, o + 3, none⟩ = false := (HTH6.out 3 (by omega)).2
    have hsn0 : 0 ≤ sn := HSN.out.2.1
    go_upto_region 6 with fail
    have HRG7 : Hid ((w6.setCell ⟨b, o + 3, none⟩ (.int .i64 (sn + 1))).rangeAt b o ((sentB x m).vals (.slice (some ⟨g2, 0, none⟩) (n + 1) cap2) v s)) := by
      have := range_set HRG6.out 3 (.int .i64 (sn + 1))
      rw [← HSN.out.1] at this ⊢
      exact this
    have HTH7 := hide (there_set HTH6.out ⟨b, o + 3, none⟩ (.int .i64 (sn + 1)))
    have HRA7 := hide (range_set_ne HRA6.out HAb.out.1 (o + 3) (.int .i64 (sn + 1)))
    have HT7 := hide (there_set HT6.out ⟨b, o + 3, none⟩ (.int .i64 (sn + 1)))
    have HCg7 := hide (HCg6.out.set (j := 3) (by omega) (.int .i64 (sn + 1)))
    have HC7 : Hid (CV (w6.setCell ⟨b, o + 3, none⟩ (.int .i64 (sn + 1))) 54 5 (sentB x m).fl (boxW sw) [.slice (some ⟨g2, 0, none⟩) (n + 1) cap2, v] s) := HC6.out.keep (S := fun k => k = b) ((Ex.refl (fun k => k = b) _).set rfl _) (fun j hj e => by
      rcases HSUB.out j hj with z | z
      · exact HBB.out (e ▸ z)
      · have := HBL.out; have := HA.out; omega)
    generalize w6.setCell ⟨b, o + 3, none⟩ (.int .i64 (sn + 1)) = w7 at *
    clear HRG6 HTH6 HRA6 HT6 HCg6 HC6 c6 f6
    go_wp2_with fail
    simp only [Try.isAgg68, Try.sizeOf68, Result.andThen, ↓reduceIte, ldC w7 A 0 U 41 HUl.out HRA7.out]
    rw [Oper.upon_value]
    go_wp2_with fail
    simp only [Try.sizeOf68, Result.andThen, HUl.out, ↓reduceIte, stC w7 (A + 1) 0 U (by rw [HUl.out]; exact HT7.out) HU1.out]
    rw [Oper.upon_skip]
    have HRZ := hide (World.rangeAt_setCells_same w7 (A + 1) 0 U (by rw [HUl.out]; exact HT7.out))
    have ex8 : Ex (fun j => j = A + 1) w7 (w7.setCells (A + 1) 0 U) := Ex.sets (S := fun j => j = A + 1) rfl U 0 w7 (Ex.refl _ _)
    have HRR : Hid (R (.returned (.tuple #[.agg U.toArray, .int .i64 0])) (w7.setCells (A + 1) 0 U)) := by
      rw [← HR.out]
      have hb7 : b < w7.heap.size := Nat.lt_of_lt_of_le HBL.out HCg7.out.ex.size
      refine ⟨rfl, ?_, _, ⟨sw, .slice (some ⟨g2, 0, none⟩) (n + 1) cap2, v, s, HSW.out, ⟨HC7.out.keep ex8 (fun j hj e => ?_), range_ex HRG7.out hb7 ex8 HAb.out.2.symm, there_ex HTH7.out hb7 ex8 HAb.out.2.symm, rfl⟩, ?_, HSO.out, Nat.lt_of_lt_of_le hb7 ex8.size, fun hj => ?_⟩, fun j hj => ?_⟩
      · refine HCg7.out.grown (row := some (A + 1)) ⟨ex8.os, ex8.tape, ex8.output, ex8.size, fun k hk hne => ex8.block k hk (fun e => hne (by rw [e]))⟩ (fun j hj => ?_) HBL.out (fun e => ?_)
        · have : A + 1 = j := by simpa using hj
          right; have := HA.out; omega
        · have : A + 1 = b := by simpa using e
          exact HAb.out.2 this
      · rcases HSUB.out j hj with z | z
        · have := HCA.out.lt z; have := HA.out; omega
        · omega
      · have ok := HOK.out
        refine ⟨ok.c, ?_, fun y hy => ?_, ok.i⟩
        · have h0 := HSN.out
          show 0 ≤ x.sn + 1 ∧ x.sn + 1 ≤ 32
          omega
        · rcases List.mem_append.1 hy with hy | hy
          · exact ok.o y hy
          · have e : y = stamp x m := by simpa using hy
            rw [e]; exact HSM.out
      · rcases HSUB.out b hj with z | z
        · exact HBB.out z
        · have := HBL.out; have := HA.out; omega
      · rcases HSUB.out j hj with z | z
        · exact .inl z
        · right; have := HA.out; omega
    clear ex8
    generalize w7.setCells (A + 1) 0 U = w8 at *
    go_wp2_with fail
    exact bodyPost_ret (v := .tuple #[.agg U.toArray, .int .i64 0]) (res_cell_tmp Try.results62 rfl rfl (run_loadVar_mid w8 (A + 1) 0 68 U _ HRZ.out Try.underlying68 rfl (by rw [HUl.out]; exact Try.sz68))) rfl HRR.out
end Go.Proofs.Qxb6500784a
