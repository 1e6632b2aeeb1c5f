import Derived.Test.Qxb6500773aGreatMd
namespace Go.Proofs.Qxb6500773aGreat
open Go.RowKit

/-- the different members in the order Before -/
def srS (F : List Int) (d : Int) : List Int := if memP F d = true then F else F.filter (fun x => bfP x d) ++ [d] ++ F.filter (fun x => bfP d x)
def srP (C : List Int) : List Int := C.foldl srS []
theorem srP_succ {C : List Int} {i : Nat} {x : Int} (h : C[i]? = some x) : srP (C.take (i + 1)) = srS (srP (C.take i)) x := by
  unfold srP
  rw [List.take_add_one, h]
  simp [List.foldl_append]
/-- at two different numbers not both tests hold -/
theorem bfP_asym (x y : Int) : ¬ (bfP x y = true ∧ bfP y x = true) := by
  unfold bfP
  rintro ⟨h1, h2⟩
  split at h1
  · rename_i e
    rw [if_pos e.symm] at h2
    have := of_decide_eq_true h1
    have := of_decide_eq_true h2
    omega
  · rename_i e
    rw [if_neg (fun z => e z.symm)] at h2
    have := of_decide_eq_true h1
    have := of_decide_eq_true h2
    omega
theorem filt2 (d : Int) : ∀ F : List Int, (F.filter (fun x => bfP x d)).length + (F.filter (fun x => bfP d x)).length ≤ F.length
  | [] => by simp
  | x :: F => by
    have ih := filt2 d F
    have := bfP_asym x d
    cases h1 : bfP x d <;> cases h2 : bfP d x <;> simp_all <;> omega
theorem srS_len (F : List Int) (d : Int) : (srS F d).length ≤ F.length + 1 := by
  unfold srS
  split
  · omega
  · have := filt2 d F
    simp only [List.length_append, List.length_cons, List.length_nil]
    omega
theorem srP_len (C : List Int) : ∀ i, (srP (C.take i)).length ≤ i
  | 0 => by simp [srP]
  | i + 1 => by
    have ih := srP_len C i
    cases h : C[i]? with
    | none =>
      have : C.take (i + 1) = C.take i := by rw [List.take_add_one, h]; simp
      rw [this]; omega
    | some x =>
      rw [srP_succ h]
      have := srS_len (srP (C.take i)) x
      omega
theorem srP_mem (C : List Int) : ∀ i, ∀ x ∈ srP (C.take i), x ∈ C
  | 0 => by simp [srP]
  | i + 1 => by
    have ih := srP_mem C i
    cases h : C[i]? with
    | none =>
      have : C.take (i + 1) = C.take i := by rw [List.take_add_one, h]; simp
      rw [this]; exact ih
    | some x =>
      rw [srP_succ h]
      intro y hy
      unfold srS at hy
      split at hy
      · exact ih y hy
      · simp only [List.mem_append, List.mem_filter, List.mem_singleton] at hy
        rcases hy with (⟨hy, _⟩ | rfl) | ⟨hy, _⟩
        · exact ih y hy
        · exact List.mem_of_getElem? h
        · exact ih y hy
theorem filt_one {f : Int → Bool} {F : List Int} {j : Nat} {x : Int} (h : F[j]? = some x) : (F.take (j + 1)).filter f = (F.take j).filter f ++ (if f x = true then [x] else []) := by
  rw [List.take_add_one, h, List.filter_append]
  cases hf : f x <;> simp [hf]
theorem filt_len {f : Int → Bool} (F : List Int) (j : Nat) : ((F.take j).filter f).length ≤ j := Nat.le_trans (List.length_filter_le _ _) (by rw [List.length_take]; omega)
set_option linter.unusedSimpArgs false in
set_option maxRecDepth 100000 in
set_option maxHeartbeats 8000000 in
/-- cnfm.Sorted -/
theorem sortedM_any (w : World) (ac : Option Addr) (cc : Nat) (C : List Int) (hC : IL w ac C) (hl : C.length ≤ 100000000) (hd : ∀ x ∈ C, -9223372036854775807 ≤ x ∧ x ≤ 9223372036854775807) :
    Calls Tryz.prog 87 #[.slice ac C.length cc] w (MlPost w (srP C)) := by
  obtain ⟨i0, hi0, hz0, hz1, hz2⟩ := info_of Tryz.info3
  have HI := hide (And.intro hi0 (And.intro hz0 (And.intro hz1 hz2)))
  clear hi0 hz0 hz1 hz2
  have HC := hide hC
  have HD := hide hd
  clear hC hd
  have HLP := hide (srP_len C)
  have HMP := hide (srP_mem C)
  have HPo : Hid (∀ i a2 m c2 w', C.length ≤ i → (srP (C.take i)).length = m → w'.ownsRow w.heap.size 3 1 (.slice a2 m c2) m (row64 (srP (C.take i))) → Ex (fun _ => False) w w' → MlPost w (srP C) (.returned (.slice a2 m c2)) w') := fun i a2 m c2 w' hi hm hr he => by
    have e : C.take i = C := List.take_of_length_le hi
    rw [e] at hm hr
    subst hm
    exact ⟨a2, c2, rfl, hr, he⟩
  obtain ⟨R, hR⟩ : ∃ R, MlPost w (srP C) = R := ⟨_, rfl⟩
  rw [hR] at HPo ⊢
  clear hR
  obtain ⟨n, hn⟩ : ∃ n, C.length = n := ⟨_, rfl⟩
  have HN := hide hn
  rw [hn] at hl HPo ⊢
  clear hn
  have HR0 := hide (own_empty w w.heap.size 3 (Nat.le_refl _))
  have HE0 : Hid (Ex (fun _ => False) w (w.alloc (.cells #[] 3))) := (Ex.refl _ w).alloc _
  go_enter Tryz.func87, Tryz.ntmps87
  go_upto_region 2 with fail
  generalize w.alloc (.cells #[] 3) = w1 at *
  generalize hg0 : w.heap.size = B0 at *
  have HB0 := hide hg0
  clear hg0
  go_wp2_with fail
  go_loopw [3, 5, 6, 8, 10, 14] (fun s3 _ _ _ _ s14 wx => ∃ (i m c2 : Nat) (a2 : Option Addr), s14 = .int .i64 i ∧ s3 = .slice a2 m c2 ∧ i ≤ n ∧ m ≤ i ∧ Hid ((srP (C.take i)).length = m) ∧ Hid (wx.ownsRow B0 3 1 (.slice a2 m c2) m (row64 (srP (C.take i)))) ∧ Hid (Ex (fun _ => False) w wx)) (fun _ _ _ _ _ s14 _ => n - (intOf s14).toNat)
  case atStart => exact ⟨0, 0, 0, _, rfl, rfl, Nat.zero_le _, Nat.le_refl _, rfl, HR0, HE0⟩
  case round =>
    clear HR0 HE0
    obtain ⟨i, m, c2, a2, rfl, rfl, hi, hmi, HM, HR, HE⟩ := hrel
    have hw1 : wrap64 ((i : Int) + 1) = ((i + 1 : Nat) : Int) := by unfold wrap64; omega
    by_cases hlt : i < n
    · have hib : decide ((i : Int) < (n : Int)) = true := decide_eq_true (by omega)
      have hii : (i : Int) < (n : Int) := by omega
      obtain ⟨d, hx⟩ : ∃ x, C[i]? = some x := ⟨_, List.getElem?_eq_getElem (by rw [HN.out]; exact hlt)⟩
      obtain ⟨g, o, ea, x0⟩ := (HC.out.keep HE.out (fun _ _ _ z => z)) i d hx
      subst ea
      have HFS := hide (srP_succ hx)
      have HLF := hide (HLP.out i)
      have HLF2 := hide (HLP.out (i + 1))
      have HMF := hide (HMP.out i)
      have HXM : Hid (d ∈ C) := List.mem_of_getElem? hx
      have c133 := hide (member_any wr a2 c2 (srP (C.take i)) d (row_il HR.out) (by rw [HM.out]; omega))
      rw [HM.out] at c133
      clear hx
      unfold srS at HFS
      generalize srP (C.take i) = F at *
      obtain ⟨F2, hF2⟩ : ∃ z, srP (C.take (i + 1)) = z := ⟨_, rfl⟩
      have HF2 := hide hF2
      rw [hF2] at HFS HLF2
      clear hF2
      cases hmm : memP F d
      · rw [hmm] at HFS c133
        rw [if_neg (by simp)] at HFS
        clear hmm
        generalize hgw : wr = wo at *
        clear hgw
        have HR1 := hide (own_empty wo wo.heap.size 3 (Nat.le_refl _))
        have HE1 : Hid (Ex (fun _ => False) wo (wo.alloc (.cells #[] 3))) := (Ex.refl _ wo).alloc _
        have HRo := hide HR.out
        have HEo := hide HE.out
        clear HR HE
        go_wp2_with fail
        refine c133.out.mono ?_
        rintro e wz ⟨rfl, hw⟩
        rw [hw]
        clear hw wz c133
        go_upto_region 7 with fail
        generalize wo.alloc (.cells #[] 3) = w2 at *
        obtain ⟨B1, hg1⟩ : ∃ z, wo.heap.size = z := ⟨_, rfl⟩
        rw [hg1] at HR1 ⊢
        have HB1 := hide hg1
        clear hg1
        go_wp2_with fail
        go_loopw [6, 8, 24] (fun s6 _ s24 wx => ∃ (j m1 c3 : Nat) (a3 : Option Addr), s24 = .int .i64 j ∧ s6 = .slice a3 m1 c3 ∧ j ≤ m ∧ m1 ≤ j ∧ Hid (((F.take j).filter (fun x => bfP x d)).length = m1) ∧ Hid (wx.ownsRow B1 3 1 (.slice a3 m1 c3) m1 (row64 ((F.take j).filter (fun x => bfP x d)))) ∧ Hid (Ex (fun _ => False) wo wx)) (fun _ _ s24 _ => m - (intOf s24).toNat)
        case atStart => exact ⟨0, 0, 0, _, rfl, rfl, Nat.zero_le _, Nat.le_refl _, rfl, HR1, HE1⟩
        case round =>
          clear HR1 HE1
          obtain ⟨j, m1, c3, a3, rfl, rfl, hj, hmj, HM1, HR, HE⟩ := hrel
          have hw2 : wrap64 ((j : Int) + 1) = ((j + 1 : Nat) : Int) := by unfold wrap64; omega
          by_cases hjt : j < m
          · have hjb : decide ((j : Int) < (m : Int)) = true := decide_eq_true (by omega)
            have hjj : (j : Int) < (m : Int) := by omega
            obtain ⟨y, hy⟩ : ∃ y, F[j]? = some y := ⟨_, List.getElem?_eq_getElem (by rw [HM.out]; exact hjt)⟩
            obtain ⟨g1, o1, ea1, y0⟩ := ((row_il HRo.out).keep HE.out (fun _ _ _ z => z)) j y hy
            subst ea1
            have HFJ := hide (filt_one (f := fun x => bfP x d) hy)
            have c135 := hide (before_any wr y d (HD.out y (HMF.out y (List.mem_of_getElem? hy))) (HD.out d HXM.out))
            clear hy
            obtain ⟨G2, hG2⟩ : ∃ z, (F.take (j + 1)).filter (fun x => bfP x d) = z := ⟨_, rfl⟩
            rw [hG2] at HFJ
            have HG2 := hide hG2
            clear hG2
            generalize (F.take j).filter (fun x => bfP x d) = G at *
            generalize bfP y d = bb at *
            go_wp2_with fail
            refine c135.out.mono ?_
            rintro e wz ⟨rfl, hw⟩
            rw [hw]
            clear hw wz c135
            cases bb
            · rw [if_neg (by simp), List.append_nil] at HFJ
              go_wp2
              go_roundw
              case rel => exact ⟨j + 1, m1, _, _, by go_num, rfl, by omega, by omega, (by show _ = _; rw [HG2.out, HFJ.out]; exact HM1.out), (by show World.ownsRow _ _ _ _ _ _ _; rw [HG2.out, HFJ.out]; exact HR.out), HE⟩
              case measure => (simp [intOf]; try omega)
            · rw [if_pos rfl] at HFJ
              have HW := hide (own_kept HR.out (Ex.of (S := fun _ => False) (be1 wr (.cells #[.int .i64 y] 3))) (fun _ _ e => e))
              have HSZ : Hid (B1 ≤ (wr.alloc (.cells #[.int .i64 y] 3)).heap.size) := by rw [← HB1.out]; exact Nat.le_trans HE.out.size (be1 wr _).size
              have HNC : Hid (∀ (j : Nat) (u : Value), [Value.int .i64 y][j]? = some u → (wr.alloc (.cells #[.int .i64 y] 3)).cell? ((⟨wr.heap.size, 0, none⟩ : Addr).add j) = some u) := fun j u hj => new_cells wr [.int .i64 y] 3 j u hj
              have HE1 : Hid (Ex (fun _ => False) wo (wr.alloc (.cells #[.int .i64 y] 3))) := HE.out.alloc _
              go_upto_region 12 with (at_builtin; go_loud (refine wpList_append_lies _ rfl (.tmp 31) (.tmp 33) 30 rfl B1 3 i0 _ 1 8 Tryz.underlying30 HI.out.1 HI.out.2.1 HI.out.2.2.1 HI.out.2.2.2 rfl (by decide) (.slice a3 m1 c3) m1 (row64 G) rfl HW.out ⟨wr.heap.size, 0, none⟩ 1 1 [.int .i64 y] rfl rfl HNC.out (fun u hu => by simp at hu; subst hu; rfl) (by decide) (by skip; unfold maxLen; omega) (by skip; omega) HSZ.out _ rfl ?_; intro g3 cap3 w3 hr hg hat hlt2; have HR3 := hide hr; have HE3 : Hid (Ex (fun _ => False) wo w3) := HE1.out.trans2 (Ex.ofGrown hg (S := fun k => Value.ownBlock (.slice a3 m1 c3) = some k) (fun k z => z.symm)) (fun j z => .inr (by rw [HB1.out]; exact (HR.out.lt j z).1)); clear hr hg hat hlt2))
              replace HR3 : Hid (w3.ownsRow B1 3 1 (.slice (some ⟨g3, 0, none⟩) (m1 + 1) cap3) (m1 + 1) (row64 G2)) := by rw [HFJ.out]; unfold row64 at HR3 ⊢; rw [List.map_append]; exact HR3.out
              have HM2 : Hid (G2.length = m1 + 1) := by show _ = _; rw [HFJ.out, List.length_append, HM1.out]; rfl
              clear HW HSZ HNC HE1 HR HE HM1 HFJ
              go_wp2
              go_roundw
              case rel => exact ⟨j + 1, m1 + 1, _, _, by go_num, rfl, by omega, by omega, (by show _ = _; rw [HG2.out]; exact HM2.out), (by show World.ownsRow _ _ _ _ _ _ _; rw [HG2.out]; exact HR3.out), HE3⟩
              case measure => (simp [intOf]; try omega)
          · have hjb : decide ((j : Int) < (m : Int)) = false := decide_eq_false (by omega)
            have e : F.take j = F := List.take_of_length_le (by rw [HM.out]; omega)
            rw [e] at HM1 HR
            clear e
            generalize F.filter (fun x => bfP x d) = G at *
            have HW := hide (own_kept HR.out (Ex.of (S := fun _ => False) (be1 wr (.cells #[.int .i64 d] 3))) (fun _ _ e => e))
            have HSZ : Hid (B1 ≤ (wr.alloc (.cells #[.int .i64 d] 3)).heap.size) := by rw [← HB1.out]; exact Nat.le_trans HE.out.size (be1 wr _).size
            have HNC : Hid (∀ (j : Nat) (u : Value), [Value.int .i64 d][j]? = some u → (wr.alloc (.cells #[.int .i64 d] 3)).cell? ((⟨wr.heap.size, 0, none⟩ : Addr).add j) = some u) := fun j u hj => new_cells wr [.int .i64 d] 3 j u hj
            have HE1 : Hid (Ex (fun _ => False) wo (wr.alloc (.cells #[.int .i64 d] 3))) := HE.out.alloc _
            go_upto_region 14 with (at_builtin; go_loud (refine wpList_append_lies _ rfl (.tmp 36) (.tmp 38) 30 rfl B1 3 i0 _ 1 8 Tryz.underlying30 HI.out.1 HI.out.2.1 HI.out.2.2.1 HI.out.2.2.2 rfl (by decide) (.slice a3 m1 c3) m1 (row64 G) rfl HW.out ⟨wr.heap.size, 0, none⟩ 1 1 [.int .i64 d] rfl rfl HNC.out (fun u hu => by simp at hu; subst hu; rfl) (by decide) (by skip; unfold maxLen; omega) (by skip; omega) HSZ.out _ rfl ?_; intro g3 cap3 w3 hr hg hat hlt2; have HR3 := hide hr; have HE3 : Hid (Ex (fun _ => False) wo w3) := HE1.out.trans2 (Ex.ofGrown hg (S := fun k => Value.ownBlock (.slice a3 m1 c3) = some k) (fun k z => z.symm)) (fun j z => .inr (by rw [HB1.out]; exact (HR.out.lt j z).1)); clear hr hg hat hlt2))
            replace HR3 : Hid (w3.ownsRow B1 3 1 (.slice (some ⟨g3, 0, none⟩) (m1 + 1) cap3) (m1 + 1) (row64 (G ++ [d]))) := by unfold row64 at HR3 ⊢; rw [List.map_append]; exact HR3.out
            clear HW HSZ HNC HE1 HR HE
            go_wp2_with fail
            go_loopw [6, 10, 42] (fun s6 _ s42 wx => ∃ (k m2 c4 : Nat) (a4 : Option Addr), s42 = .int .i64 k ∧ s6 = .slice a4 (m1 + 1 + m2) c4 ∧ k ≤ m ∧ m2 ≤ k ∧ Hid (((F.take k).filter (fun x => bfP d x)).length = m2) ∧ Hid (wx.ownsRow B1 3 1 (.slice a4 (m1 + 1 + m2) c4) (m1 + 1 + m2) (row64 (G ++ [d] ++ (F.take k).filter (fun x => bfP d x)))) ∧ Hid (Ex (fun _ => False) wo wx)) (fun _ _ s42 _ => m - (intOf s42).toNat)
            case atStart => exact ⟨0, 0, _, _, rfl, rfl, Nat.zero_le _, Nat.le_refl _, rfl, (by show World.ownsRow _ _ _ _ _ _ _; rw [List.take_zero, List.filter_nil, List.append_nil]; exact HR3.out), HE3⟩
            case round =>
              clear HR3 HE3
              obtain ⟨k, m2, c4, a4, rfl, rfl, hk, hmk, HM2, HR, HE⟩ := hrel
              have hw3 : wrap64 ((k : Int) + 1) = ((k + 1 : Nat) : Int) := by unfold wrap64; omega
              by_cases hkt : k < m
              · have hkb : decide ((k : Int) < (m : Int)) = true := decide_eq_true (by omega)
                have hkk : (k : Int) < (m : Int) := by omega
                obtain ⟨y, hy⟩ : ∃ y, F[k]? = some y := ⟨_, List.getElem?_eq_getElem (by rw [HM.out]; exact hkt)⟩
                obtain ⟨g1, o1, ea1, y0⟩ := ((row_il HRo.out).keep HE.out (fun _ _ _ z => z)) k y hy
                subst ea1
                have HFJ := hide (filt_one (f := fun x => bfP d x) hy)
                have c135 := hide (before_any wr d y (HD.out d HXM.out) (HD.out y (HMF.out y (List.mem_of_getElem? hy))))
                clear hy
                obtain ⟨K2, hK2⟩ : ∃ z, (F.take (k + 1)).filter (fun x => bfP d x) = z := ⟨_, rfl⟩
                rw [hK2] at HFJ
                have HK2 := hide hK2
                clear hK2
                generalize (F.take k).filter (fun x => bfP d x) = K at *
                generalize bfP d y = bb at *
                go_wp2_with fail
                refine c135.out.mono ?_
                rintro e wz ⟨rfl, hw⟩
                rw [hw]
                clear hw wz c135
                cases bb
                · rw [if_neg (by simp), List.append_nil] at HFJ
                  go_wp2
                  go_roundw
                  case rel => exact ⟨k + 1, m2, _, _, by go_num, rfl, by omega, by omega, (by show _ = _; rw [HK2.out, HFJ.out]; exact HM2.out), (by show World.ownsRow _ _ _ _ _ _ _; rw [HK2.out, HFJ.out]; exact HR.out), HE⟩
                  case measure => (simp [intOf]; try omega)
                · rw [if_pos rfl] at HFJ
                  obtain ⟨mm, hmm⟩ : ∃ z, m1 + 1 + m2 = z := ⟨_, rfl⟩
                  rw [hmm] at HR ⊢
                  have HMM := hide hmm
                  have hmmB : mm ≤ 100000000 + 100000000 + 100000000 := by omega
                  clear hmm
                  have HW := hide (own_kept HR.out (Ex.of (S := fun _ => False) (be1 wr (.cells #[.int .i64 y] 3))) (fun _ _ e => e))
                  have HSZ : Hid (B1 ≤ (wr.alloc (.cells #[.int .i64 y] 3)).heap.size) := by rw [← HB1.out]; exact Nat.le_trans HE.out.size (be1 wr _).size
                  have HNC : Hid (∀ (j : Nat) (u : Value), [Value.int .i64 y][j]? = some u → (wr.alloc (.cells #[.int .i64 y] 3)).cell? ((⟨wr.heap.size, 0, none⟩ : Addr).add j) = some u) := fun j u hj => new_cells wr [.int .i64 y] 3 j u hj
                  have HE1 : Hid (Ex (fun _ => False) wo (wr.alloc (.cells #[.int .i64 y] 3))) := HE.out.alloc _
                  go_upto_region 19 with (at_builtin; go_loud (refine wpList_append_lies _ rfl (.tmp 49) (.tmp 51) 30 rfl B1 3 i0 _ 1 8 Tryz.underlying30 HI.out.1 HI.out.2.1 HI.out.2.2.1 HI.out.2.2.2 rfl (by decide) (.slice a4 mm c4) mm (row64 (G ++ [d] ++ K)) rfl HW.out ⟨wr.heap.size, 0, none⟩ 1 1 [.int .i64 y] rfl rfl HNC.out (fun u hu => by simp at hu; subst hu; rfl) (by decide) (by skip; unfold maxLen; omega) (by skip; omega) HSZ.out _ rfl ?_; intro g3 cap3 w3 hr hg hat hlt2; have HR3 := hide hr; have HE3 : Hid (Ex (fun _ => False) wo w3) := HE1.out.trans2 (Ex.ofGrown hg (S := fun k => Value.ownBlock (.slice a4 mm c4) = some k) (fun k z => z.symm)) (fun j z => .inr (by rw [HB1.out]; exact (HR.out.lt j z).1)); clear hr hg hat hlt2))
                  replace HR3 : Hid (w3.ownsRow B1 3 1 (.slice (some ⟨g3, 0, none⟩) (m1 + 1 + (m2 + 1)) cap3) (m1 + 1 + (m2 + 1)) (row64 (G ++ [d] ++ K2))) := by rw [HFJ.out, ← List.append_assoc, ← Nat.add_assoc, HMM.out]; unfold row64 at HR3 ⊢; rw [List.map_append (l₁ := G ++ [d] ++ K)]; exact HR3.out
                  have HM3 : Hid (K2.length = m2 + 1) := by show _ = _; rw [HFJ.out, List.length_append, HM2.out]; rfl
                  clear HW HSZ HNC HE1 HR HE HM2 HFJ
                  go_wp2
                  go_roundw
                  case rel => exact ⟨k + 1, m2 + 1, _, _, by go_num, (by rw [← Nat.add_assoc, HMM.out]), by omega, by omega, (by show _ = _; rw [HK2.out]; exact HM3.out), (by show World.ownsRow _ _ _ _ _ _ _; rw [HK2.out]; exact HR3.out), HE3⟩
                  case measure => (simp [intOf]; try omega)
              · have hkb : decide ((k : Int) < (m : Int)) = false := decide_eq_false (by omega)
                have e : F.take k = F := List.take_of_length_le (by rw [HM.out]; omega)
                rw [e] at HM2 HR
                clear e
                generalize F.filter (fun x => bfP d x) = K at *
                obtain ⟨mm, hmm⟩ : ∃ z, m1 + 1 + m2 = z := ⟨_, rfl⟩
                rw [hmm] at HR ⊢
                have HMM : Hid (F2.length = mm) := by show _ = _; rw [HFS.out, List.length_append, List.length_append, HM1.out, HM2.out, ← hmm]; rfl
                have hmb : mm ≤ i + 1 := by rw [← HMM.out]; exact HLF2.out
                clear hmm
                have HR4 : Hid (wr.ownsRow B0 3 1 (.slice a4 mm c4) mm (row64 F2)) := by rw [HFS.out]; exact own_base (by rw [← HB0.out, ← HB1.out]; exact HEo.out.size) HR.out
                have HE4 : Hid (Ex (fun _ => False) w wr) := HEo.out.trans2 HE.out (fun _ z => z.elim)
                clear HR HE HM1 HM2 HFS
                go_wp2
                go_roundw
                case rel => exact ⟨i + 1, mm, _, _, by go_num, rfl, by omega, hmb, (by show _ = _; rw [HF2.out]; exact HMM.out), (by show World.ownsRow _ _ _ _ _ _ _; rw [HF2.out]; exact HR4.out), HE4⟩
                case measure => (simp [intOf]; try omega)
      · rw [hmm] at HFS c133
        rw [if_pos rfl] at HFS
        go_wp2_with fail
        refine c133.out.mono ?_
        rintro e wz ⟨rfl, hw⟩
        rw [hw]
        clear hw wz c133
        go_wp2
        go_roundw
        case rel => exact ⟨i + 1, m, _, _, by go_num, rfl, by omega, by omega, (by show _ = _; rw [HF2.out, HFS.out]; exact HM.out), (by show World.ownsRow _ _ _ _ _ _ _; rw [HF2.out, HFS.out]; exact HR.out), HE⟩
        case measure => (simp [intOf]; try omega)
    · have hib : decide ((i : Int) < (n : Int)) = false := decide_eq_false (by omega)
      have HPO := hide (HPo.out i a2 m c2 wr (by omega) HM.out HR.out HE.out)
      clear HM HR HPo
      go_wp2_with (with_reducible refine bodyPost_ret (v := .slice a2 m c2) ?hr ?hd ?hp)
      case hr => simp [results, Tryz.results87, go_sem]
      case hd => rfl
      case hp => exact HPO.out
end Go.Proofs.Qxb6500773aGreat
