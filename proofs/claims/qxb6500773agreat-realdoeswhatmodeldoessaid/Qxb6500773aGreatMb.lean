import Derived.Test.Qxb6500773aGreatMa
namespace Go.Proofs.Qxb6500773aGreat
open Go.RowKit

def row64 (X : List Int) : List Value := X.map (Value.int .i64)
def MlPost (w : World) (X : List Int) (e : Ending) (w' : World) : Prop :=
  ∃ a c, e = .returned (.slice a X.length c) ∧ w'.ownsRow w.heap.size 3 1 (.slice a X.length c) X.length (row64 X) ∧ Ex (fun _ => False) w w'
theorem row_il {w : World} {B : Nat} {a : Option Addr} {n c : Nat} {X : List Int} (h : w.ownsRow B 3 1 (.slice a n c) n (row64 X)) : IL w a X := fun j x hx => by
  obtain ⟨g, c', e, hc, -⟩ := row_cell h (i := j) (u := .int .i64 x) (by unfold row64; rw [List.getElem?_map, hx]; rfl)
  cases e
  exact ⟨g, 0, rfl, by rw [Nat.zero_add]; exact hc⟩
theorem own_empty (w : World) (B t : Nat) (hB : B ≤ w.heap.size) : (w.alloc (.cells #[] t)).ownsRow B t 1 (.slice (some ⟨w.heap.size, 0, none⟩) 0 0) 0 [] := by
  have := World.ownsRow_lit (base := B) (e := t) (size := 1) w #[] 0 hB (by unfold maxLen; omega) rfl
  exact this
set_option linter.unusedSimpArgs false in
set_option maxRecDepth 100000 in
set_option maxHeartbeats 8000000 in
/-- cnfm.Copy -/
theorem copyM_any (w : World) (a : Option Addr) (c : Nat) (X : List Int) (h : IL w a X) (hl : X.length ≤ 1000000000) :
    Calls Tryz.prog 75 #[.slice a X.length c] w (MlPost w (X)) := by
  obtain ⟨i0, hi0, hz0, hz1, hz2⟩ := info_of Tryz.info3
  have HI := hide (And.intro hi0 (And.intro hz0 (And.intro hz1 hz2)))
  clear hi0 hz0 hz1 hz2
  have HX := hide h
  clear h
  have HPo : Hid (∀ i a2 m c2 w', X.length ≤ i → (X.take i).length = m → w'.ownsRow w.heap.size 3 1 (.slice a2 m c2) m (row64 (X.take i)) → Ex (fun _ => False) w w' → MlPost w (X) (.returned (.slice a2 m c2)) w') := fun i a2 m c2 w' hi hm hr he => by
    have e : X.take i = X := List.take_of_length_le hi
    rw [e] at hm hr
    subst hm
    exact ⟨a2, c2, rfl, hr, he⟩
  obtain ⟨R, hR⟩ : ∃ R, MlPost w (X) = R := ⟨_, rfl⟩
  rw [hR] at HPo ⊢
  clear hR
  obtain ⟨n, hn⟩ : ∃ n, X.length = n := ⟨_, rfl⟩
  have HN := hide hn
  rw [hn] at hl HPo ⊢
  clear hn
  have HR0 := hide (own_empty w w.heap.size 3 (Nat.le_refl _))
  have HE0 : Hid (Ex (fun _ => False) w (w.alloc (.cells #[] 3))) := (Ex.refl _ w).alloc _
  go_enter Tryz.func75, Tryz.ntmps75
  go_upto_region 2 with fail
  generalize w.alloc (.cells #[] 3) = w1 at *
  generalize hg0 : w.heap.size = B0 at *
  have HB0 := hide hg0
  clear hg0
  go_wp2_with fail
  go_loopw [3, 5, 9] (fun s3 _ s9 wx => ∃ (i m c2 : Nat) (a2 : Option Addr), s9 = .int .i64 i ∧ s3 = .slice a2 m c2 ∧ i ≤ n ∧ m ≤ i ∧ Hid ((X.take i).length = m) ∧ Hid (wx.ownsRow B0 3 1 (.slice a2 m c2) m (row64 (X.take i))) ∧ Hid (Ex (fun _ => False) w wx)) (fun s3 _ s9 _ => n - (intOf s9).toNat)
  case atStart => exact ⟨0, 0, 0, _, rfl, rfl, Nat.zero_le _, Nat.le_refl _, rfl, HR0, HE0⟩
  case round =>
    clear HR0 HE0
    obtain ⟨i, m, c2, a2, rfl, rfl, hi, hmi, HM, HR, HEw⟩ := hrel
    have HE := HEw
    have hw1 : wrap64 ((i : Int) + 1) = ((i + 1 : Nat) : Int) := by unfold wrap64; omega
    by_cases hlt : i < n
    · have hib : decide ((i : Int) < (n : Int)) = true := decide_eq_true (by omega)
      have hii : (i : Int) < (n : Int) := by omega
      obtain ⟨x, hx⟩ : ∃ x, X[i]? = some x := ⟨_, List.getElem?_eq_getElem (by rw [HN.out]; exact hlt)⟩
      obtain ⟨g, o, ea, x0⟩ := (HX.out.keep HE.out (fun _ _ _ z => z)) i x hx
      subst ea
      have HTK : Hid (X.take (i + 1) = X.take i ++ [x]) := by show _ = _; rw [List.take_add_one, hx]; rfl
      have HXM : Hid (x ∈ X) := List.mem_of_getElem? hx
      clear hx
      have HM2 : Hid ((X.take (i + 1)).length = m + 1) := by show _ = _; rw [HTK.out, List.length_append, HM.out]; rfl
      have HW := hide (own_kept HR.out (Ex.of (S := fun _ => False) (be1 wr (.cells #[.int .i64 x] 3))) (fun _ _ e => e))
      have HSZ : Hid (B0 ≤ (wr.alloc (.cells #[.int .i64 x] 3)).heap.size) := by rw [← HB0.out]; exact Nat.le_trans HE.out.size (be1 wr _).size
      have HNC : Hid (∀ (j : Nat) (u : Value), [Value.int .i64 x][j]? = some u → (wr.alloc (.cells #[.int .i64 x] 3)).cell? ((⟨wr.heap.size, 0, none⟩ : Addr).add j) = some u) := fun j u hj => new_cells wr [.int .i64 x] 3 j u hj
      have HE1 : Hid (Ex (fun _ => False) w (wr.alloc (.cells #[.int .i64 x] 3))) := HE.out.alloc _
      go_upto_region 6 with (at_builtin; go_loud (refine wpList_append_lies _ rfl (.tmp 13) (.tmp 15) 30 rfl B0 3 i0 _ 1 8 Tryz.underlying30 HI.out.1 HI.out.2.1 HI.out.2.2.1 HI.out.2.2.2 rfl (by decide) (.slice a2 m c2) m (row64 (X.take i)) rfl HW.out ⟨wr.heap.size, 0, none⟩ 1 1 [.int .i64 x] rfl rfl HNC.out (fun u hu => by simp at hu; subst hu; rfl) (by decide) (by skip; unfold maxLen; omega) (by skip; omega) HSZ.out _ rfl ?_; intro g3 cap3 w3 hr hg hat hlt2; have HR3 := hide hr; have HE3 : Hid (Ex (fun _ => False) w w3) := HE1.out.trans2 (Ex.ofGrown hg (S := fun k => Value.ownBlock (.slice a2 m c2) = some k) (fun k z => z.symm)) (fun j z => .inr (by rw [HB0.out]; exact (HR.out.lt j z).1)); clear hr hg hat hlt2))
      replace HR3 : Hid (w3.ownsRow B0 3 1 (.slice (some ⟨g3, 0, none⟩) (m + 1) cap3) (m + 1) (row64 (X.take (i + 1)))) := by rw [HTK.out]; unfold row64 at HR3 ⊢; rw [List.map_append]; exact HR3.out
      clear HW HSZ HNC HE1 HR HE HEw HM
      go_wp2
      go_roundw
      case rel => exact ⟨i + 1, m + 1, _, _, by go_num, rfl, by omega, by omega, HM2, HR3, HE3⟩
      case measure => (simp [intOf]; try omega)
    · have hib : decide ((i : Int) < (n : Int)) = false := decide_eq_false (by omega)
      have HPO := hide (HPo.out i a2 m c2 wr (by omega) HM.out HR.out HE.out)
      clear HM HR HPo
      go_wp2_with (with_reducible refine bodyPost_ret (v := .slice a2 m c2) ?hr ?hd ?hp)
      case hr => simp [results, Tryz.results75, go_sem]
      case hd => rfl
      case hp => exact HPO.out
set_option linter.unusedSimpArgs false in
set_option maxRecDepth 100000 in
set_option maxHeartbeats 8000000 in
/-- cnfm.Unassign -/
theorem unassign_any (w : World) (a : Option Addr) (c : Nat) (X : List Int) (v : Int) (h : IL w a X) (hl : X.length ≤ 1000000000) (hd : ∀ x ∈ X, -9223372036854775807 ≤ x ∧ x ≤ 9223372036854775807) :
    Calls Tryz.prog 79 #[.slice a X.length c, .int .i64 v] w (MlPost w (X.filter (fun y => absP y != v))) := by
  obtain ⟨i0, hi0, hz0, hz1, hz2⟩ := info_of Tryz.info3
  have HI := hide (And.intro hi0 (And.intro hz0 (And.intro hz1 hz2)))
  clear hi0 hz0 hz1 hz2
  have HX := hide h
  clear h
  have HD := hide hd
  clear hd
  have HPo : Hid (∀ i a2 m c2 w', X.length ≤ i → ((X.take i).filter (fun y => absP y != v)).length = m → w'.ownsRow w.heap.size 3 1 (.slice a2 m c2) m (row64 ((X.take i).filter (fun y => absP y != v))) → Ex (fun _ => False) w w' → MlPost w (X.filter (fun y => absP y != v)) (.returned (.slice a2 m c2)) w') := fun i a2 m c2 w' hi hm hr he => by
    have e : X.take i = X := List.take_of_length_le hi
    rw [e] at hm hr
    subst hm
    exact ⟨a2, c2, rfl, hr, he⟩
  obtain ⟨R, hR⟩ : ∃ R, MlPost w (X.filter (fun y => absP y != v)) = R := ⟨_, rfl⟩
  rw [hR] at HPo ⊢
  clear hR
  obtain ⟨n, hn⟩ : ∃ n, X.length = n := ⟨_, rfl⟩
  have HN := hide hn
  rw [hn] at hl HPo ⊢
  clear hn
  have HR0 := hide (own_empty w w.heap.size 3 (Nat.le_refl _))
  have HE0 : Hid (Ex (fun _ => False) w (w.alloc (.cells #[] 3))) := (Ex.refl _ w).alloc _
  go_enter Tryz.func79, Tryz.ntmps79
  go_upto_region 2 with fail
  generalize w.alloc (.cells #[] 3) = w1 at *
  generalize hg0 : w.heap.size = B0 at *
  have HB0 := hide hg0
  clear hg0
  go_wp2_with fail
  go_loopw [5, 7, 11] (fun s5 _ s11 wx => ∃ (i m c2 : Nat) (a2 : Option Addr), s11 = .int .i64 i ∧ s5 = .slice a2 m c2 ∧ i ≤ n ∧ m ≤ i ∧ Hid (((X.take i).filter (fun y => absP y != v)).length = m) ∧ Hid (wx.ownsRow B0 3 1 (.slice a2 m c2) m (row64 ((X.take i).filter (fun y => absP y != v)))) ∧ Hid (Ex (fun _ => False) w wx)) (fun s5 _ s11 _ => n - (intOf s11).toNat)
  case atStart => exact ⟨0, 0, 0, _, rfl, rfl, Nat.zero_le _, Nat.le_refl _, rfl, HR0, HE0⟩
  case round =>
    clear HR0 HE0
    obtain ⟨i, m, c2, a2, rfl, rfl, hi, hmi, HM, HR, HEw⟩ := hrel
    have HE := HEw
    have hw1 : wrap64 ((i : Int) + 1) = ((i + 1 : Nat) : Int) := by unfold wrap64; omega
    by_cases hlt : i < n
    · have hib : decide ((i : Int) < (n : Int)) = true := decide_eq_true (by omega)
      have hii : (i : Int) < (n : Int) := by omega
      obtain ⟨x, hx⟩ : ∃ x, X[i]? = some x := ⟨_, List.getElem?_eq_getElem (by rw [HN.out]; exact hlt)⟩
      obtain ⟨g, o, ea, x0⟩ := (HX.out.keep HE.out (fun _ _ _ z => z)) i x hx
      subst ea
      have HTK : Hid (X.take (i + 1) = X.take i ++ [x]) := by show _ = _; rw [List.take_add_one, hx]; rfl
      have HXM : Hid (x ∈ X) := List.mem_of_getElem? hx
      clear hx
      have c76 := hide (varOf_any wr x (by have := HD.out x HXM.out; omega))
      obtain ⟨ab, hab⟩ : ∃ z, absP x = z := ⟨_, rfl⟩
      have HAB := hide hab
      rw [hab] at c76
      clear hab
      go_wp2_with fail
      refine c76.out.mono ?_
      rintro e wz ⟨rfl, hw⟩
      rw [hw]
      clear hw wz c76
      by_cases hav : ab = v
      · have hvb : (ab != v) = false := by simp [hav]
        have HF : Hid ((X.take (i + 1)).filter (fun y => absP y != v) = (X.take i).filter (fun y => absP y != v)) := by show _ = _; rw [HTK.out, List.filter_append, List.filter_cons, HAB.out, hvb]; simp
        have HM2 : Hid (((X.take (i + 1)).filter (fun y => absP y != v)).length = m) := by show _ = _; rw [HF.out]; exact HM.out
        have HR2 : Hid (wr.ownsRow B0 3 1 (.slice a2 m c2) m (row64 ((X.take (i + 1)).filter (fun y => absP y != v)))) := by rw [HF.out]; exact HR.out
        clear hav HF HM HR HTK
        go_wp2
        go_roundw
        case rel => exact ⟨i + 1, m, _, _, by go_num, rfl, by omega, by omega, HM2, HR2, HE⟩
        case measure => (simp [intOf]; try omega)
      · have hvb : (ab != v) = true := by simp [hav]
        have HF : Hid ((X.take (i + 1)).filter (fun y => absP y != v) = (X.take i).filter (fun y => absP y != v) ++ [x]) := by show _ = _; rw [HTK.out, List.filter_append, List.filter_cons, HAB.out, hvb]; simp
        have HM2 : Hid (((X.take (i + 1)).filter (fun y => absP y != v)).length = m + 1) := by show _ = _; rw [HF.out, List.length_append, HM.out]; rfl
        clear hav
        have HW := hide (own_kept HR.out (Ex.of (S := fun _ => False) (be1 wr (.cells #[.int .i64 x] 3))) (fun _ _ e => e))
        have HSZ : Hid (B0 ≤ (wr.alloc (.cells #[.int .i64 x] 3)).heap.size) := by rw [← HB0.out]; exact Nat.le_trans HE.out.size (be1 wr _).size
        have HNC : Hid (∀ (j : Nat) (u : Value), [Value.int .i64 x][j]? = some u → (wr.alloc (.cells #[.int .i64 x] 3)).cell? ((⟨wr.heap.size, 0, none⟩ : Addr).add j) = some u) := fun j u hj => new_cells wr [.int .i64 x] 3 j u hj
        have HE1 : Hid (Ex (fun _ => False) w (wr.alloc (.cells #[.int .i64 x] 3))) := HE.out.alloc _
        go_upto_region 7 with (at_builtin; go_loud (refine wpList_append_lies _ rfl (.tmp 19) (.tmp 21) 30 rfl B0 3 i0 _ 1 8 Tryz.underlying30 HI.out.1 HI.out.2.1 HI.out.2.2.1 HI.out.2.2.2 rfl (by decide) (.slice a2 m c2) m (row64 ((X.take i).filter (fun y => absP y != v))) rfl HW.out ⟨wr.heap.size, 0, none⟩ 1 1 [.int .i64 x] rfl rfl HNC.out (fun u hu => by simp at hu; subst hu; rfl) (by decide) (by skip; unfold maxLen; omega) (by skip; omega) HSZ.out _ rfl ?_; intro g3 cap3 w3 hr hg hat hlt2; have HR3 := hide hr; have HE3 : Hid (Ex (fun _ => False) w w3) := HE1.out.trans2 (Ex.ofGrown hg (S := fun k => Value.ownBlock (.slice a2 m c2) = some k) (fun k z => z.symm)) (fun j z => .inr (by rw [HB0.out]; exact (HR.out.lt j z).1)); clear hr hg hat hlt2))
        replace HR3 : Hid (w3.ownsRow B0 3 1 (.slice (some ⟨g3, 0, none⟩) (m + 1) cap3) (m + 1) (row64 ((X.take (i + 1)).filter (fun y => absP y != v)))) := by rw [HF.out]; unfold row64 at HR3 ⊢; rw [List.map_append]; exact HR3.out
        clear HW HSZ HNC HE1 HR HE HEw HM HF
        go_wp2
        go_roundw
        case rel => exact ⟨i + 1, m + 1, _, _, by go_num, rfl, by omega, by omega, HM2, HR3, HE3⟩
        case measure => (simp [intOf]; try omega)
    · have hib : decide ((i : Int) < (n : Int)) = false := decide_eq_false (by omega)
      have HPO := hide (HPo.out i a2 m c2 wr (by omega) HM.out HR.out HE.out)
      clear HM HR HPo
      go_wp2_with (with_reducible refine bodyPost_ret (v := .slice a2 m c2) ?hr ?hd ?hp)
      case hr => simp [results, Tryz.results79, go_sem]
      case hd => rfl
      case hp => exact HPO.out
def asgP (A : List Int) (d : Int) : List Int := A.filter (fun y => absP y != absP d) ++ [d]
set_option linter.unusedSimpArgs false in
set_option maxRecDepth 100000 in
set_option maxHeartbeats 8000000 in
/-- cnfm.Assign -/
theorem assignM_any (w : World) (a : Option Addr) (c : Nat) (X : List Int) (d : Int) (h : IL w a X) (hl : X.length ≤ 100000000) (hd : ∀ x ∈ X, -9223372036854775807 ≤ x ∧ x ≤ 9223372036854775807) (hdd : -9223372036854775807 ≤ d ∧ d ≤ 9223372036854775807) :
    Calls Tryz.prog 78 #[.slice a X.length c, .int .i64 d] w (MlPost w (asgP X d)) := by
  obtain ⟨i0, hi0, hz0, hz1, hz2⟩ := info_of Tryz.info3
  have HI := hide (And.intro hi0 (And.intro hz0 (And.intro hz1 hz2)))
  clear hi0 hz0 hz1 hz2
  have c1 := hide (varOf_any w d hdd)
  have c2 := hide (unassign_any w a c X (absP d) h (by omega) hd)
  have HLN : Hid ((X.filter (fun y => absP y != absP d)).length ≤ 100000000) := by
    show _ ≤ _
    exact Nat.le_trans (List.length_filter_le _ _) hl
  have HPo : Hid (∀ a2 m c2 w', (asgP X d).length = m → w'.ownsRow w.heap.size 3 1 (.slice a2 m c2) m (row64 (asgP X d)) → Ex (fun _ => False) w w' → MlPost w (asgP X d) (.returned (.slice a2 m c2)) w') := fun a2 m c2 w' hm hr he => by
    subst hm
    exact ⟨a2, c2, rfl, hr, he⟩
  have HAS : Hid (asgP X d = X.filter (fun y => absP y != absP d) ++ [d]) := rfl
  generalize MlPost w (asgP X d) = R at *
  generalize asgP X d = Y at *
  generalize X.filter (fun y => absP y != absP d) = F at *
  generalize absP d = ad at *
  clear h hd hdd
  go_enter Tryz.func78, Tryz.ntmps78
  go_wp2_with fail
  refine c1.out.mono ?_
  rintro e wz ⟨rfl, hw⟩
  rw [hw]
  clear hw wz c1
  go_wp2_with fail
  refine c2.out.mono ?_
  rintro e wr ⟨a2, c3, rfl, hr, he⟩
  have HR := hide hr
  have HE := hide he
  clear hr he c2
  obtain ⟨m, hm⟩ : ∃ z, F.length = z := ⟨_, rfl⟩
  have HM := hide hm
  rw [hm] at HR HLN ⊢
  clear hm
  have HW := hide (own_kept HR.out (Ex.of (S := fun _ => False) (be1 wr (.cells #[.int .i64 d] 3))) (fun _ _ e => e))
  have HSZ : Hid (w.heap.size ≤ (wr.alloc (.cells #[.int .i64 d] 3)).heap.size) := Nat.le_trans HE.out.size (be1 wr _).size
  have HNC : Hid (∀ (j : Nat) (u : Value), [Value.int .i64 d][j]? = some u → (wr.alloc (.cells #[.int .i64 d] 3)).cell? ((⟨wr.heap.size, 0, none⟩ : Addr).add j) = some u) := fun j u hj => new_cells wr [.int .i64 d] 3 j u hj
  have HE1 : Hid (Ex (fun _ => False) w (wr.alloc (.cells #[.int .i64 d] 3))) := HE.out.alloc _
  go_wp2_with (at_builtin; go_loud (refine wpList_append_lies _ rfl (.tmp 8) (.tmp 10) 30 rfl w.heap.size 3 i0 _ 1 8 Tryz.underlying30 HI.out.1 HI.out.2.1 HI.out.2.2.1 HI.out.2.2.2 rfl (by decide) (.slice a2 m c3) m (row64 F) rfl HW.out ⟨wr.heap.size, 0, none⟩ 1 1 [.int .i64 d] rfl rfl HNC.out (fun u hu => by simp at hu; subst hu; rfl) (by decide) (by have := HLN.out; unfold maxLen; omega) (by have := HLN.out; omega) HSZ.out _ rfl ?_; intro g3 cap3 w3 hr hg hat hlt2; have HR3 := hide hr; have HE3 : Hid (Ex (fun _ => False) w w3) := HE1.out.trans2 (Ex.ofGrown hg (S := fun k => Value.ownBlock (.slice a2 m c3) = some k) (fun k z => z.symm)) (fun j z => .inr (HR.out.lt j z).1); clear hr hg hat hlt2))
  have HPO := hide (HPo.out (some ⟨g3, 0, none⟩) (m + 1) cap3 w3 (by rw [HAS.out, List.length_append, HM.out]; rfl) (by rw [HAS.out]; unfold row64 at HR3 ⊢; rw [List.map_append]; exact HR3.out) HE3.out)
  exact HPO.out
end Go.Proofs.Qxb6500773aGreat
