import Derived.Test.Qxb6500773aGreatMj
namespace Go.Proofs.Qxb6500773aGreat
open Go.RowKit

/-- the text of the literals -/
def pcB (C : List Int) : List Int := C.flatMap (fun d => decI d ++ [32])
def pcP (C : List Int) : List Int := pcB C ++ [48, 10]
theorem pcB_succ {C : List Int} {i : Nat} {d : Int} (h : C[i]? = some d) : pcB (C.take (i + 1)) = pcB (C.take i) ++ ((if d < 0 then [45] else []) ++ (lowD d.natAbs).reverse ++ [32]) := by
  unfold pcB
  rw [List.take_add_one, h]
  simp [List.flatMap_append, decI]
set_option linter.unusedSimpArgs false in
set_option maxRecDepth 100000 in
set_option maxHeartbeats 8000000 in
/-- cnfm.PrintClause -/
theorem printClauseM_any (w : World) (ac : Option Addr) (cc : Nat) (C : List Int) (hC : IL w ac C) (hl : C.length ≤ 1000000000) (hd : ∀ x ∈ C, I64 x) :
    Calls Tryz.prog 86 #[.slice ac C.length cc] w (MuPost w (pcP C)) := by
  obtain ⟨i0, hi0, hz0, hz1, hz2⟩ := info_of Tryz.info5
  have HI := hide (And.intro hi0 (And.intro hz0 (And.intro hz1 hz2)))
  clear hi0 hz0 hz1 hz2
  have HC := hide hC
  have HD := hide hd
  clear hC hd
  have HPo : Hid (∀ i a2 m c2 w', C.length ≤ i → (pcB (C.take i)).length = m → w'.ownsRow w.heap.size 5 1 (.slice a2 (m + 2) c2) (m + 2) (rowU (pcB (C.take i)) ++ [.int .u8 48, .int .u8 10]) → Ex (fun _ => False) w w' → MuPost w (pcP C) (.returned (.slice a2 (m + 2) c2)) w') := fun i a2 m c2 w' hi hm hr he => by
    have e : C.take i = C := List.take_of_length_le hi
    rw [e] at hm hr
    have e2 : (pcP C).length = m + 2 := by unfold pcP; rw [List.length_append, hm]; rfl
    refine ⟨a2, c2, by rw [e2], ?_, he⟩
    rw [e2]
    unfold pcP
    unfold rowU at hr ⊢
    rw [List.map_append]
    exact hr
  obtain ⟨R, hR⟩ : ∃ R, MuPost w (pcP C) = R := ⟨_, rfl⟩
  rw [hR] at HPo ⊢
  clear hR
  obtain ⟨n, hn⟩ : ∃ n, C.length = n := ⟨_, rfl⟩
  have HN := hide hn
  rw [hn] at hl HPo ⊢
  clear hn
  have HR0 := hide (own_empty w w.heap.size 5 (Nat.le_refl _))
  have HE0 : Hid (Ex (fun _ => False) w (w.alloc (.cells #[] 5))) := (Ex.refl _ w).alloc _
  go_enter Tryz.func86, Tryz.ntmps86
  go_upto_region 2 with fail
  generalize w.alloc (.cells #[] 5) = w1 at *
  generalize hg0 : w.heap.size = B0 at *
  have HB0 := hide hg0
  clear hg0
  go_wp2_with fail
  go_loopw [3, 5, 9] (fun s3 _ s9 wx => ∃ (i m c2 : Nat) (a2 : Option Addr), s9 = .int .i64 i ∧ s3 = .slice a2 m c2 ∧ i ≤ n ∧ m ≤ 22 * i ∧ Hid ((pcB (C.take i)).length = m) ∧ Hid (wx.ownsRow B0 5 1 (.slice a2 m c2) m (rowU (pcB (C.take i)))) ∧ Hid (Ex (fun _ => False) w wx)) (fun _ _ s9 _ => n - (intOf s9).toNat)
  case atStart => exact ⟨0, 0, 0, _, rfl, rfl, Nat.zero_le _, Nat.le_refl _, rfl, HR0, HE0⟩
  case round =>
    clear HR0 HE0
    obtain ⟨i, m, c2, a2, rfl, rfl, hi, hmi, HM, HR, HE⟩ := hrel
    have hw1 : wrap64 ((i : Int) + 1) = ((i + 1 : Nat) : Int) := by unfold wrap64; omega
    by_cases hlt : i < n
    · have hib : decide ((i : Int) < (n : Int)) = true := decide_eq_true (by omega)
      have hii : (i : Int) < (n : Int) := by omega
      obtain ⟨d, hx⟩ : ∃ x, C[i]? = some x := ⟨_, List.getElem?_eq_getElem (by rw [HN.out]; exact hlt)⟩
      obtain ⟨g, o, ea, x0⟩ := (HC.out.keep HE.out (fun _ _ _ z => z)) i d hx
      subst ea
      have HTK := hide (pcB_succ hx)
      have HDD : Hid (I64 d) := HD.out d (List.mem_of_getElem? hx)
      have HNA : Hid (d.natAbs < 2 ^ 63) := by have := HDD.out; unfold I64 at this; show _ < _; omega
      have HAB : Hid (absP d = ((d.natAbs : Nat) : Int)) := by show _ = _; unfold absP; split <;> omega
      have HYL : Hid (0 < (lowD d.natAbs).reverse.length ∧ (lowD d.natAbs).reverse.length ≤ 20) := by show _ ∧ _; rw [List.length_reverse]; exact ⟨lowD_len _, lowD_20 HNA.out⟩
      clear hx
      generalize pcB (C.take i) = X at *
      by_cases hd0 : d < 0
      · have hdb : decide (d < 0) = true := decide_eq_true hd0
        rw [if_pos hd0] at HTK
        have HWp := hide (own_kept HR.out (Ex.of (S := fun _ => False) (be1 wr (.cells #[.int .u8 45] 5))) (fun _ _ e => e))
        have HSZp : Hid (B0 ≤ (wr.alloc (.cells #[.int .u8 45] 5)).heap.size) := by rw [← HB0.out]; exact Nat.le_trans HE.out.size (be1 wr _).size
        have HNCp : Hid (∀ (j : Nat) (u : Value), [Value.int .u8 45][j]? = some u → (wr.alloc (.cells #[.int .u8 45] 5)).cell? ((⟨wr.heap.size, 0, none⟩ : Addr).add j) = some u) := fun j u hj => new_cells wr [.int .u8 45] 5 j u hj
        have HXp : Hid (Ex (fun _ => False) w (wr.alloc (.cells #[.int .u8 45] 5))) := HE.out.alloc _
        go_upto_region 7 with (at_builtin; go_loud (refine wpList_append_lies _ rfl (.tmp 15) (.tmp 16) 35 rfl B0 5 i0 _ 1 1 Tryz.underlying35 HI.out.1 HI.out.2.1 HI.out.2.2.1 HI.out.2.2.2 rfl (by decide) (.slice a2 m c2) (m) (rowU X) rfl HWp.out ⟨wr.heap.size, 0, none⟩ 1 1 [.int .u8 45] rfl rfl HNCp.out (fun u hu => by simp at hu; subst hu; rfl) (by decide) (by unfold maxLen; omega) (by omega) HSZp.out _ rfl ?_; intro gp capp wp hr hg hat hlt2; have HRp := hide hr; have HEp : Hid (Ex (fun _ => False) w wp) := HXp.out.trans2 (Ex.ofGrown hg (S := fun k => Value.ownBlock (.slice a2 m c2) = some k) (fun k z => z.symm)) (fun j z => .inr (by rw [HB0.out]; exact (HR.out.lt j z).1)); clear hr hg hat hlt2))
        clear HWp HSZp HNCp HXp HR HE
        have c76 := hide (varOf_any wp d HDD.out)
        have c134 := hide (decimalM_any d.natAbs HNA.out wp)
        rw [HAB.out] at c76
        generalize (lowD d.natAbs).reverse = Y at *
        generalize ((d.natAbs : Nat) : Int) = ab at *
        go_wp2_with fail
        refine c76.out.mono ?_
        rintro e wz ⟨rfl, hw⟩
        rw [hw]
        clear hw wz c76
        go_wp2_with fail
        refine c134.out.mono ?_
        rintro e wd ⟨a5, c5, rfl, hr5, he5⟩
        clear c134
        have HRd := hide (own_kept HRp.out he5 (fun _ _ e => e))
        have HEd : Hid (Ex (fun _ => False) w wd) := HEp.out.trans2 he5 (fun _ z => z.elim)
        obtain ⟨g5, cap5, e5, -, -⟩ := hr5.form HYL.out.1
        injection e5 with e5 _ e6
        subst e5 e6
        have HNd : Hid (∀ (j : Nat) (u : Value), (rowU Y)[j]? = some u → wd.cell? ((⟨g5, 0, none⟩ : Addr).add j) = some u) := hr5.cells rfl
        have HSd : Hid (B0 ≤ wd.heap.size) := by rw [← HB0.out]; exact HEd.out.size
        have HYY : Hid ((rowU Y).length = Y.length * 1) := by show _ = _; unfold rowU; rw [List.length_map, Nat.mul_one]
        obtain ⟨k, hk⟩ : ∃ k, Y.length = k := ⟨_, rfl⟩
        rw [hk] at HYL HYY ⊢
        have HK := hide hk
        clear hk hr5 he5
        obtain ⟨hk1, hk2⟩ := HYL.out
        clear HRp HEp
        go_upto_region 8 with (at_builtin; go_loud (refine wpList_append_lies _ rfl (.tmp 18) (.tmp 21) 35 rfl B0 5 i0 _ 1 1 Tryz.underlying35 HI.out.1 HI.out.2.1 HI.out.2.2.1 HI.out.2.2.2 rfl (by decide) (.slice (some ⟨gp, 0, none⟩) (m + 1) capp) (m + 1) (rowU X ++ [.int .u8 45]) rfl HRd.out ⟨g5, 0, none⟩ k c5 (rowU Y) rfl HYY.out HNd.out (fun u hu => by unfold rowU at hu; obtain ⟨z, _, rfl⟩ := List.mem_map.mp hu; rfl) hk1 (by unfold maxLen; omega) (by omega) HSd.out _ rfl ?_; intro gq capq wq hr hg hat hlt2; have HRq := hide hr; have HEq : Hid (Ex (fun _ => False) w wq) := HEd.out.trans2 (Ex.ofGrown hg (S := fun k => Value.ownBlock (.slice (some ⟨gp, 0, none⟩) (m + 1) capp) = some k) (fun k z => z.symm)) (fun j z => .inr (by rw [HB0.out]; exact (HRd.out.lt j z).1)); clear hr hg hat hlt2))
        clear HRd HEd HNd HSd HYY HYL
        obtain ⟨m1, hm1⟩ : ∃ z, (m + 1) + k = z := ⟨_, rfl⟩
        rw [hm1] at HRq ⊢
        have hmb : m1 ≤ 22 * i + 21 := by omega
        have HWs := hide (own_kept HRq.out (Ex.of (S := fun _ => False) (be1 wq (.cells #[.int .u8 32] 5))) (fun _ _ e => e))
        have HSZs : Hid (B0 ≤ (wq.alloc (.cells #[.int .u8 32] 5)).heap.size) := by rw [← HB0.out]; exact Nat.le_trans HEq.out.size (be1 wq _).size
        have HNCs : Hid (∀ (j : Nat) (u : Value), [Value.int .u8 32][j]? = some u → (wq.alloc (.cells #[.int .u8 32] 5)).cell? ((⟨wq.heap.size, 0, none⟩ : Addr).add j) = some u) := fun j u hj => new_cells wq [.int .u8 32] 5 j u hj
        have HXs : Hid (Ex (fun _ => False) w (wq.alloc (.cells #[.int .u8 32] 5))) := HEq.out.alloc _
        go_upto_region 9 with (at_builtin; go_loud (refine wpList_append_lies _ rfl (.tmp 23) (.tmp 24) 35 rfl B0 5 i0 _ 1 1 Tryz.underlying35 HI.out.1 HI.out.2.1 HI.out.2.2.1 HI.out.2.2.2 rfl (by decide) (.slice (some ⟨gq, 0, none⟩) m1 capq) (m1) ((rowU X ++ [.int .u8 45]) ++ rowU Y) rfl HWs.out ⟨wq.heap.size, 0, none⟩ 1 1 [.int .u8 32] rfl rfl HNCs.out (fun u hu => by simp at hu; subst hu; rfl) (by decide) (by unfold maxLen; omega) (by omega) HSZs.out _ rfl ?_; intro gs caps ws hr hg hat hlt2; have HRs := hide hr; have HEs : Hid (Ex (fun _ => False) w ws) := HXs.out.trans2 (Ex.ofGrown hg (S := fun k => Value.ownBlock (.slice (some ⟨gq, 0, none⟩) m1 capq) = some k) (fun k z => z.symm)) (fun j z => .inr (by rw [HB0.out]; exact (HRq.out.lt j z).1)); clear hr hg hat hlt2))
        clear HWs HSZs HNCs HXs HRq HEq
        have HM2 : Hid ((pcB (C.take (i + 1))).length = m1 + 1) := by show _ = _; rw [HTK.out, ← hm1]; simp only [List.length_append, List.length_cons, List.length_nil, HM.out, HK.out]; omega
        have HR4 : Hid (ws.ownsRow B0 5 1 (.slice (some ⟨gs, 0, none⟩) (m1 + 1) caps) (m1 + 1) (rowU (pcB (C.take (i + 1))))) := by rw [HTK.out]; unfold rowU at HRs ⊢; simp only [List.map_append, List.map_cons, List.map_nil, List.append_assoc, List.nil_append] at HRs ⊢; exact HRs.out
        clear HRs HM HK HTK hm1
        go_wp2
        go_roundw
        case rel => exact ⟨i + 1, m1 + 1, _, _, by go_num, rfl, by omega, by omega, HM2, HR4, HEs⟩
        case measure => (simp [intOf]; try omega)
      · have hdb : decide (d < 0) = false := decide_eq_false hd0
        rw [if_neg hd0] at HTK
        have c76 := hide (varOf_any wr d HDD.out)
        have c134 := hide (decimalM_any d.natAbs HNA.out wr)
        rw [HAB.out] at c76
        generalize (lowD d.natAbs).reverse = Y at *
        generalize ((d.natAbs : Nat) : Int) = ab at *
        go_wp2_with fail
        refine c76.out.mono ?_
        rintro e wz ⟨rfl, hw⟩
        rw [hw]
        clear hw wz c76
        go_wp2_with fail
        refine c134.out.mono ?_
        rintro e wd ⟨a5, c5, rfl, hr5, he5⟩
        clear c134
        have HRd := hide (own_kept HR.out he5 (fun _ _ e => e))
        have HEd : Hid (Ex (fun _ => False) w wd) := HE.out.trans2 he5 (fun _ z => z.elim)
        obtain ⟨g5, cap5, e5, -, -⟩ := hr5.form HYL.out.1
        injection e5 with e5 _ e6
        subst e5 e6
        have HNd : Hid (∀ (j : Nat) (u : Value), (rowU Y)[j]? = some u → wd.cell? ((⟨g5, 0, none⟩ : Addr).add j) = some u) := hr5.cells rfl
        have HSd : Hid (B0 ≤ wd.heap.size) := by rw [← HB0.out]; exact HEd.out.size
        have HYY : Hid ((rowU Y).length = Y.length * 1) := by show _ = _; unfold rowU; rw [List.length_map, Nat.mul_one]
        obtain ⟨k, hk⟩ : ∃ k, Y.length = k := ⟨_, rfl⟩
        rw [hk] at HYL HYY ⊢
        have HK := hide hk
        clear hk hr5 he5
        obtain ⟨hk1, hk2⟩ := HYL.out
        clear HR HE
        go_upto_region 8 with (at_builtin; go_loud (refine wpList_append_lies _ rfl (.tmp 18) (.tmp 21) 35 rfl B0 5 i0 _ 1 1 Tryz.underlying35 HI.out.1 HI.out.2.1 HI.out.2.2.1 HI.out.2.2.2 rfl (by decide) (.slice a2 m c2) m (rowU X) rfl HRd.out ⟨g5, 0, none⟩ k c5 (rowU Y) rfl HYY.out HNd.out (fun u hu => by unfold rowU at hu; obtain ⟨z, _, rfl⟩ := List.mem_map.mp hu; rfl) hk1 (by unfold maxLen; omega) (by omega) HSd.out _ rfl ?_; intro gq capq wq hr hg hat hlt2; have HRq := hide hr; have HEq : Hid (Ex (fun _ => False) w wq) := HEd.out.trans2 (Ex.ofGrown hg (S := fun k => Value.ownBlock (.slice a2 m c2) = some k) (fun k z => z.symm)) (fun j z => .inr (by rw [HB0.out]; exact (HRd.out.lt j z).1)); clear hr hg hat hlt2))
        clear HRd HEd HNd HSd HYY HYL
        obtain ⟨m1, hm1⟩ : ∃ z, m + k = z := ⟨_, rfl⟩
        rw [hm1] at HRq ⊢
        have hmb : m1 ≤ 22 * i + 21 := by omega
        have HWs := hide (own_kept HRq.out (Ex.of (S := fun _ => False) (be1 wq (.cells #[.int .u8 32] 5))) (fun _ _ e => e))
        have HSZs : Hid (B0 ≤ (wq.alloc (.cells #[.int .u8 32] 5)).heap.size) := by rw [← HB0.out]; exact Nat.le_trans HEq.out.size (be1 wq _).size
        have HNCs : Hid (∀ (j : Nat) (u : Value), [Value.int .u8 32][j]? = some u → (wq.alloc (.cells #[.int .u8 32] 5)).cell? ((⟨wq.heap.size, 0, none⟩ : Addr).add j) = some u) := fun j u hj => new_cells wq [.int .u8 32] 5 j u hj
        have HXs : Hid (Ex (fun _ => False) w (wq.alloc (.cells #[.int .u8 32] 5))) := HEq.out.alloc _
        go_upto_region 9 with (at_builtin; go_loud (refine wpList_append_lies _ rfl (.tmp 23) (.tmp 24) 35 rfl B0 5 i0 _ 1 1 Tryz.underlying35 HI.out.1 HI.out.2.1 HI.out.2.2.1 HI.out.2.2.2 rfl (by decide) (.slice (some ⟨gq, 0, none⟩) m1 capq) (m1) ((rowU X) ++ rowU Y) rfl HWs.out ⟨wq.heap.size, 0, none⟩ 1 1 [.int .u8 32] rfl rfl HNCs.out (fun u hu => by simp at hu; subst hu; rfl) (by decide) (by unfold maxLen; omega) (by omega) HSZs.out _ rfl ?_; intro gs caps ws hr hg hat hlt2; have HRs := hide hr; have HEs : Hid (Ex (fun _ => False) w ws) := HXs.out.trans2 (Ex.ofGrown hg (S := fun k => Value.ownBlock (.slice (some ⟨gq, 0, none⟩) m1 capq) = some k) (fun k z => z.symm)) (fun j z => .inr (by rw [HB0.out]; exact (HRq.out.lt j z).1)); clear hr hg hat hlt2))
        clear HWs HSZs HNCs HXs HRq HEq
        have HM2 : Hid ((pcB (C.take (i + 1))).length = m1 + 1) := by show _ = _; rw [HTK.out, ← hm1]; simp only [List.length_append, List.length_cons, List.length_nil, HM.out, HK.out]; omega
        have HR4 : Hid (ws.ownsRow B0 5 1 (.slice (some ⟨gs, 0, none⟩) (m1 + 1) caps) (m1 + 1) (rowU (pcB (C.take (i + 1))))) := by rw [HTK.out]; unfold rowU at HRs ⊢; simp only [List.map_append, List.map_cons, List.map_nil, List.append_assoc, List.nil_append] at HRs ⊢; exact HRs.out
        clear HRs HM HK HTK hm1
        go_wp2
        go_roundw
        case rel => exact ⟨i + 1, m1 + 1, _, _, by go_num, rfl, by omega, by omega, HM2, HR4, HEs⟩
        case measure => (simp [intOf]; try omega)
    · have hib : decide ((i : Int) < (n : Int)) = false := decide_eq_false (by omega)
      have HPO := hide (fun a c w' => HPo.out i a m c w' (by omega) HM.out)
      clear HM HPo
      generalize pcB (C.take i) = X at *
      have HWt := hide (own_kept HR.out (Ex.of (S := fun _ => False) (be1 wr (.cells #[.int .u8 48, .int .u8 10] 5))) (fun _ _ e => e))
      have HSZt : Hid (B0 ≤ (wr.alloc (.cells #[.int .u8 48, .int .u8 10] 5)).heap.size) := by rw [← HB0.out]; exact Nat.le_trans HE.out.size (be1 wr _).size
      have HNCt : Hid (∀ (j : Nat) (u : Value), [Value.int .u8 48, .int .u8 10][j]? = some u → (wr.alloc (.cells #[.int .u8 48, .int .u8 10] 5)).cell? ((⟨wr.heap.size, 0, none⟩ : Addr).add j) = some u) := fun j u hj => new_cells wr [.int .u8 48, .int .u8 10] 5 j u hj
      have HXt : Hid (Ex (fun _ => False) w (wr.alloc (.cells #[.int .u8 48, .int .u8 10] 5))) := HE.out.alloc _
      go_wp2_with (at_builtin; go_loud (refine wpList_append_lies _ rfl (.tmp 27) (.tmp 28) 35 rfl B0 5 i0 _ 1 1 Tryz.underlying35 HI.out.1 HI.out.2.1 HI.out.2.2.1 HI.out.2.2.2 rfl (by decide) (.slice a2 m c2) (m) (rowU X) rfl HWt.out ⟨wr.heap.size, 0, none⟩ 2 2 [.int .u8 48, .int .u8 10] rfl rfl HNCt.out (fun u hu => by simp at hu; rcases hu with hu | hu <;> (subst hu; rfl)) (by decide) (by unfold maxLen; omega) (by omega) HSZt.out _ rfl ?_; intro gt capt wt hr hg hat hlt2; have HRt := hide hr; have HEt : Hid (Ex (fun _ => False) w wt) := HXt.out.trans2 (Ex.ofGrown hg (S := fun k => Value.ownBlock (.slice a2 m c2) = some k) (fun k z => z.symm)) (fun j z => .inr (by rw [HB0.out]; exact (HR.out.lt j z).1)); clear hr hg hat hlt2))
      clear HWt HSZt HNCt HXt HR HE
      exact HPO.out _ _ _ HRt.out HEt.out
end Go.Proofs.Qxb6500773aGreat
