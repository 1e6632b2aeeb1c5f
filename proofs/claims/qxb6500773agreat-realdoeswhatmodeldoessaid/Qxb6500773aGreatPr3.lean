import Derived.Test.Qxb6500773aGreatPr2
import Derived.Deep.CutBlock
namespace Go.Proofs.Qxb6500773aGreat
set_option maxRecDepth 100000
open Go.RowKit

theorem lowD_le : ∀ (k n : Nat), n < 10 ^ (k + 1) → (lowD n).length ≤ k + 1
  | 0, n, h => by rw [lowD_one (by simp at h; omega)]; simp
  | k + 1, n, h => by
    by_cases h10 : 10 ≤ n
    · rw [lowD_big h10, List.length_cons]
      have := lowD_le k (n / 10) (by rw [Nat.pow_succ] at h; omega)
      omega
    · rw [lowD_one h10]; simp
theorem decI_len {n : Int} (h : -16777215 ≤ n ∧ n ≤ 16777215) : (decI n).length ≤ 9 := by
  unfold decI
  have := lowD_le 7 n.natAbs (by omega)
  rw [List.length_append, List.length_reverse]
  split <;> simp <;> omega
theorem dimP_rng {l : Int} (h : LitOk l) : -16777215 ≤ dimP l ∧ dimP l ≤ 16777215 := by
  unfold dimP
  unfold LitOk at h
  split <;> omega
/-- The text of some literals, and of a clause, and of a step. -/
def litsT (C : List Int) : List Int := C.flatMap fun l => decI (dimP l) ++ [32]
def clT (C : List Int) : List Int := litsT C ++ [48, 10]
def stT (d : Bool) (C : List Int) : List Int := (if d = true then [100, 32] else []) ++ clT C
theorem litsT_snoc (C : List Int) (l : Int) : litsT (C ++ [l]) = litsT C ++ (decI (dimP l) ++ [32]) := by simp [litsT]
theorem litsT_len : ∀ {C : List Int}, (∀ x ∈ C, LitOk x) → (litsT C).length ≤ 10 * C.length
  | [], _ => by simp [litsT]
  | l :: C, h => by
    have h1 := decI_len (dimP_rng (h l (by simp)))
    have h2 := litsT_len (C := C) (fun x hx => h x (by simp [hx]))
    show (decI (dimP l) ++ [32] ++ litsT C).length ≤ _
    rw [List.length_append, List.length_append, List.length_cons]
    simp only [List.length_cons, List.length_nil]
    omega
theorem stT_len {C : List Int} (h : ∀ x ∈ C, LitOk x) (d : Bool) : (stT d C).length ≤ 10 * C.length + 4 := by
  unfold stT clT
  have := litsT_len h
  rw [List.length_append, List.length_append]
  simp only [List.length_cons, List.length_nil]
  split <;> simp <;> omega
set_option linter.unusedSimpArgs false in
set_option maxRecDepth 100000 in
set_option maxHeartbeats 4000000 in
/-- cnf.AppendClause -/
theorem appendClause_any (w : World) (B : Nat) (v : Value) (X : List Int) (a' : Option Addr) (c' : Nat) (C : List Int) (h : BB w B v X) (hB : B ≤ w.heap.size) (hcl : CL w a' C) (hap : ∀ g o, a' = some ⟨g, o, none⟩ → v.ownBlock ≠ some g) (hok : ∀ x ∈ C, LitOk x) (hX : X.length + 10 * C.length ≤ 100000000) :
    Calls Tryz.prog 47 #[v, .slice a' C.length c'] w (ApPost w B v (X ++ clT C)) := by
  obtain ⟨i0, hi0, hz0, hz1, hz2⟩ := info_of Tryz.info5
  have HI := hide (And.intro hi0 (And.intro hz0 (And.intro hz1 hz2)))
  clear hi0 hz0 hz1 hz2
  suffices H : ∀ v0, v0 = v → Calls Tryz.prog 47 #[v, .slice a' C.length c'] w (ApPost w B v0 (X ++ clT C)) from H v rfl
  intro v0 hv0
  have HBB0 := hide (show BG w B v0 w v X from by rw [hv0]; exact BG.refl h)
  have HCL := hide (show ∀ w' v' Y, BG w B v0 w' v' Y → CL w' a' C from fun w' v' Y hb => hcl.keep hb.ex (fun g o e z => hap g o e (by rw [← hv0]; exact z)))
  clear hv0 hcl hap
  have HBS0 := hide hB
  have HX0 := hide hX
  have HOK := hide hok
  obtain ⟨Y, hY⟩ : ∃ Y, X ++ clT C = Y := ⟨_, rfl⟩
  rw [hY]
  have HY := hide hY
  clear hY
  obtain ⟨a, c, rfl⟩ := own_form h
  clear h hB hX hok
  go_enter Tryz.func47, Tryz.ntmps47
  go_wp2
  go_loopw [0, 6, 9] (fun s0 _ s9 wx => ∃ (a2 : Option Addr) (c2 : Nat) (Q : List Int) (i : Nat), s0 = .slice a2 Q.length c2 ∧ s9 = .int .i64 i ∧ i ≤ C.length ∧ Hid (Q = X ++ litsT (C.take i)) ∧ BG w B v0 wx (.slice a2 Q.length c2) Q) (fun _ _ s9 _ => C.length - (intOf s9).toNat)
  case atStart => exact ⟨a, c, X, 0, rfl, rfl, Nat.zero_le _, hide (by simp [litsT]), HBB0.out⟩
  case round =>
    clear HBB0
    obtain ⟨a2, c2, Q, i, rfl, rfl, hi, HQ, hbg⟩ := hrel
    have HBG2 := hide hbg
    have HBS2 := hide (show B ≤ wr.heap.size from Nat.le_trans HBS0.out hbg.ex.size)
    have HXL2 := hide (show Q.length ≤ 100000000 from by
      have h1 := litsT_len (C := C.take i) (fun x hx => HOK.out x (List.mem_of_mem_take hx))
      have h2 := HX0.out
      rw [HQ.out, List.length_append]
      rw [List.length_take] at h1
      omega)
    clear hbg
    by_cases hlt : i < C.length
    · obtain ⟨x, hx⟩ : ∃ x, C[i]? = some x := ⟨_, List.getElem?_eq_getElem hlt⟩
      have HXO := hide (HOK.out x (List.mem_of_getElem? hx))
      have HTK := hide (show C.take (i + 1) = C.take i ++ [x] by rw [List.take_add_one, hx]; rfl)
      obtain ⟨g, o, ea, hc⟩ := HCL.out _ _ _ HBG2.out i x hx
      clear hx
      cases ea
      have h1 : decide ((i : Int) < (C.length : Int)) = true := by simp; omega
      have h1n : decide (i < C.length) = true := by simp; omega
      have h2 : decide ((i : Int) < 0) = false := by simp
      have h3 : (i : Int) < (C.length : Int) := by omega
      have h4 : IntKind.i64.wrap ((i : Int) + 1) = (i : Int) + 1 := by rw [IntKind.wrap_i64]; have := HX0.out; omega
      go_wp2_with fail
      refine (dimacs_any _ x (by have := HXO.out; unfold LitOk at this; omega)).mono ?_
      rintro e w3 ⟨rfl, rfl⟩
      go_wp2_with fail
      refine (appendInt_any _ B _ Q (dimP x) HBG2.out.bb HBS2.out (by have := HXL2.out; omega) (by have := dimP_rng HXO.out; omega)).mono ?_
      rintro e w4 ⟨v4, rfl, hb4⟩
      have HBG4 := hide (HBG2.out.trans hb4)
      have HBS4 := hide (show B ≤ w4.heap.size from Nat.le_trans HBS0.out HBG4.out.ex.size)
      have HQ4 := hide (show Q ++ decI (dimP x) = X ++ (litsT (C.take i) ++ decI (dimP x)) by rw [HQ.out, List.append_assoc])
      have HXL4 := hide (show (Q ++ decI (dimP x)).length ≤ 100000010 from by have := HXL2.out; have := decI_len (dimP_rng HXO.out); rw [List.length_append]; omega)
      obtain ⟨Q4, hQ4⟩ : ∃ Q4, Q ++ decI (dimP x) = Q4 := ⟨_, rfl⟩
      rw [hQ4] at HBG4 HQ4 HXL4
      clear hb4 hQ4 HBG2 HBS2
      obtain ⟨a4, c4, rfl⟩ := own_form HBG4.out.bb
      have HZw5 := hide (show BB (w4.alloc (.cells #[.int .u8 32] 5)) B (.slice a4 Q4.length c4) (Q4) from BB.below HBG4.out.bb (be1 w4 _))
      have HSw5 := hide (show B ≤ (w4.alloc (.cells #[.int .u8 32] 5)).heap.size from Nat.le_trans HBS4.out (be1 w4 _).size)
      have HNw5 := hide (show ∀ (j : Nat) (u : Value), ([.int .u8 32] : List Value)[j]? = some u → (w4.alloc (.cells #[.int .u8 32] 5)).cell? ((⟨w4.heap.size, 0, none⟩ : Addr).add j) = some u from fun j u hj => new_cells w4 [.int .u8 32] 5 j u hj)
      go_upto_region 6 with (at_builtin; go_loud (refine wpList_append_lies _ rfl (.tmp 17) (.tmp 18) 35 rfl B 5 i0 _ 1 1 Tryz.underlying35 HI.out.1 HI.out.2.1 HI.out.2.2.1 HI.out.2.2.2 rfl (by decide) (.slice a4 Q4.length c4) (Q4).length ((Q4).map (Value.int .u8)) rfl HZw5.out ⟨w4.heap.size, 0, none⟩ 1 1 [.int .u8 32] rfl rfl HNw5.out (fun u hu => by simp at hu; (first | (subst hu; rfl) | (rcases hu with hu | hu <;> (subst hu; rfl)))) (by decide) (by have := HXL4.out; unfold maxLen; omega) (by have := HXL4.out; omega) HSw5.out _ rfl ?_; intro gw5 capw5 w5 hr hg hat hlt2; have HPw5 := hide (bg_app (Z := [32]) HBG4.out.bb hr hg hat); clear hr hg hat hlt2 HZw5 HSw5 HNw5))
      obtain ⟨Q5, hQw5⟩ : ∃ Q5, (Q4) ++ [32] = Q5 := ⟨_, rfl⟩
      have HQw5 := hide hQw5.symm
      rw [hQw5] at HPw5
      rw [show (Q4).length + 1 = Q5.length from by rw [← hQw5]; simp only [List.length_append, List.length_cons, List.length_nil]]
      clear hQw5
      have HBG5 := hide (HBG4.out.trans HPw5.out)
      have HQ5 := hide (show Q5 = X ++ litsT (C.take (i + 1)) by rw [HQw5.out, HQ4.out, HTK.out, litsT_snoc, List.append_assoc, List.append_assoc])
      clear HBG4 HPw5 HQw5
      go_wp2
      go_roundw
      case rel => exact ⟨_, _, Q5, i + 1, rfl, by simp, by omega, HQ5, HBG5.out⟩
      case measure => simp [intOf]; omega
    · have h1 : decide ((i : Int) < (C.length : Int)) = false := by simp; omega
      have h1n : decide (i < C.length) = false := by simp; omega
      have HQY := hide (show Q ++ [48, 10] = Y by rw [← HY.out, HQ.out, List.take_of_length_le (by omega), clT, List.append_assoc])
      clear hlt
      have HZw5 := hide (show BB (wr.alloc (.cells #[.int .u8 48, .int .u8 10] 5)) B (.slice a2 Q.length c2) (Q) from BB.below HBG2.out.bb (be1 wr _))
      have HSw5 := hide (show B ≤ (wr.alloc (.cells #[.int .u8 48, .int .u8 10] 5)).heap.size from Nat.le_trans HBS2.out (be1 wr _).size)
      have HNw5 := hide (show ∀ (j : Nat) (u : Value), ([.int .u8 48, .int .u8 10] : List Value)[j]? = some u → (wr.alloc (.cells #[.int .u8 48, .int .u8 10] 5)).cell? ((⟨wr.heap.size, 0, none⟩ : Addr).add j) = some u from fun j u hj => new_cells wr [.int .u8 48, .int .u8 10] 5 j u hj)
      go_wp2_with (at_builtin; go_loud (refine wpList_append_lies _ rfl (.tmp 21) (.tmp 22) 35 rfl B 5 i0 _ 1 1 Tryz.underlying35 HI.out.1 HI.out.2.1 HI.out.2.2.1 HI.out.2.2.2 rfl (by decide) (.slice a2 Q.length c2) (Q).length ((Q).map (Value.int .u8)) rfl HZw5.out ⟨wr.heap.size, 0, none⟩ 2 2 [.int .u8 48, .int .u8 10] rfl rfl HNw5.out (fun u hu => by simp at hu; (first | (subst hu; rfl) | (rcases hu with hu | hu <;> (subst hu; rfl)))) (by decide) (by have := HXL2.out; unfold maxLen; omega) (by have := HXL2.out; omega) HSw5.out _ rfl ?_; intro gw5 capw5 w5 hr hg hat hlt2; have HPw5 := hide (bg_app (Z := [48, 10]) HBG2.out.bb hr hg hat); clear hr hg hat hlt2 HZw5 HSw5 HNw5))
      obtain ⟨Q5, hQw5⟩ : ∃ Q5, (Q) ++ [48, 10] = Q5 := ⟨_, rfl⟩
      have HQw5 := hide hQw5.symm
      rw [hQw5] at HPw5
      rw [show (Q).length + 2 = Q5.length from by rw [← hQw5]; simp only [List.length_append, List.length_cons, List.length_nil]]
      clear hQw5
      have HPO := hide (show ApPost w B v0 Y (.returned (.slice (some ⟨gw5, 0, none⟩) Q5.length capw5)) w5 from ⟨_, rfl, by rw [← HQY.out, ← HQw5.out]; exact HBG2.out.trans HPw5.out⟩)
      exact bodyPost_ret (v := .slice (some ⟨gw5, 0, none⟩) Q5.length capw5) (by simp [results, Tryz.results47, go_sem]) rfl HPO.out
set_option linter.unusedSimpArgs false in
set_option maxRecDepth 100000 in
set_option maxHeartbeats 4000000 in
/-- cnf.AppendStep -/
theorem appendStep_any (w : World) (B : Nat) (v : Value) (X : List Int) (a' : Option Addr) (c' : Nat) (C : List Int) (d : Bool) (h : BB w B v X) (hB : B ≤ w.heap.size) (hcl : CL w a' C) (hap : ∀ g o, a' = some ⟨g, o, none⟩ → v.ownBlock ≠ some g) (hgl : ∀ g o, a' = some ⟨g, o, none⟩ → g < w.heap.size) (hok : ∀ x ∈ C, LitOk x) (hX : X.length + 10 * C.length + 2 ≤ 100000000) :
    Calls Tryz.prog 65 #[v, .slice a' C.length c', .bool d] w (ApPost w B v (X ++ stT d C)) := by
  obtain ⟨i0, hi0, hz0, hz1, hz2⟩ := info_of Tryz.info5
  have HI := hide (And.intro hi0 (And.intro hz0 (And.intro hz1 hz2)))
  clear hi0 hz0 hz1 hz2
  have HBB := hide h
  have HCL := hide hcl
  have HAP := hide hap
  have HGL := hide hgl
  have HBS := hide hB
  have HX0 := hide hX
  have HXL := hide (show X.length ≤ 100000000 by omega)
  have HOK := hide hok
  clear h hB hX hok hcl hap hgl
  obtain ⟨Y, hY⟩ : ∃ Y, X ++ stT d C = Y := ⟨_, rfl⟩
  rw [hY]
  have HY := hide hY
  clear hY
  obtain ⟨a, c, rfl⟩ := own_form HBB.out
  go_enter Tryz.func65, Tryz.ntmps65
  cases d
  · go_wp2_with fail
    refine (appendClause_any _ B _ X a' c' C HBB.out HBS.out HCL.out HAP.out HOK.out (by have := HX0.out; omega)).mono ?_
    rintro e w3 ⟨v3, rfl, hb3⟩
    have HPO := hide (show ApPost w B (.slice a X.length c) Y (.returned v3) w3 from ⟨_, rfl, by rw [← HY.out]; exact hb3⟩)
    clear hb3
    go_wp2
    exact bodyPost_ret (v := v3) (by simp [results, Tryz.results65, go_sem]) rfl HPO.out
  · have HZw2 := hide (show BB (w.alloc (.cells #[.int .u8 100, .int .u8 32] 5)) B (.slice a X.length c) (X) from BB.below HBB.out (be1 w _))
    have HSw2 := hide (show B ≤ (w.alloc (.cells #[.int .u8 100, .int .u8 32] 5)).heap.size from Nat.le_trans HBS.out (be1 w _).size)
    have HNw2 := hide (show ∀ (j : Nat) (u : Value), ([.int .u8 100, .int .u8 32] : List Value)[j]? = some u → (w.alloc (.cells #[.int .u8 100, .int .u8 32] 5)).cell? ((⟨w.heap.size, 0, none⟩ : Addr).add j) = some u from fun j u hj => new_cells w [.int .u8 100, .int .u8 32] 5 j u hj)
    go_upto_region 3 with (at_builtin; go_loud (refine wpList_append_lies _ rfl (.tmp 8) (.tmp 9) 35 rfl B 5 i0 _ 1 1 Tryz.underlying35 HI.out.1 HI.out.2.1 HI.out.2.2.1 HI.out.2.2.2 rfl (by decide) (.slice a X.length c) (X).length ((X).map (Value.int .u8)) rfl HZw2.out ⟨w.heap.size, 0, none⟩ 2 2 [.int .u8 100, .int .u8 32] rfl rfl HNw2.out (fun u hu => by simp at hu; (first | (subst hu; rfl) | (rcases hu with hu | hu <;> (subst hu; rfl)))) (by decide) (by have := HXL.out; unfold maxLen; omega) (by have := HXL.out; omega) HSw2.out _ rfl ?_; intro gw2 capw2 w2 hr hg hat hlt2; have HPw2 := hide (bg_app (Z := [100, 32]) HBB.out hr hg hat); clear hr hg hat hlt2 HZw2 HSw2 HNw2))
    obtain ⟨X1, hQw2⟩ : ∃ X1, (X) ++ [100, 32] = X1 := ⟨_, rfl⟩
    have HQw2 := hide hQw2.symm
    rw [hQw2] at HPw2
    rw [show (X).length + 2 = X1.length from by rw [← hQw2]; simp only [List.length_append, List.length_cons, List.length_nil]]
    clear hQw2
    have HCL2 := hide (HCL.out.keep HPw2.out.ex (fun g o e z => HAP.out g o e z))
    have HAP2 := hide (show ∀ g o, a' = some ⟨g, o, none⟩ → Value.ownBlock (.slice (some ⟨gw2, 0, none⟩) X1.length capw2) ≠ some g from fun g o e z => by
      rcases HPw2.out.own g z with z | z
      · exact HAP.out g o e z
      · have := HGL.out g o e; omega)
    have HBS2 := hide (Nat.le_trans HBS.out HPw2.out.ex.size)
    have HL2 := hide (show X1.length = X.length + 2 by rw [HQw2.out, List.length_append]; rfl)
    go_wp2_with fail
    refine (appendClause_any _ B _ X1 a' c' C HPw2.out.bb HBS2.out HCL2.out HAP2.out HOK.out (by have := HX0.out; have := HL2.out; omega)).mono ?_
    rintro e w3 ⟨v3, rfl, hb3⟩
    have HPO := hide (show ApPost w B (.slice a X.length c) Y (.returned v3) w3 from ⟨_, rfl, by rw [← HY.out, show X ++ stT true C = X1 ++ clT C by rw [HQw2.out, List.append_assoc]; rfl]; exact HPw2.out.trans hb3⟩)
    clear hb3
    go_wp2
    exact bodyPost_ret (v := v3) (by simp [results, Tryz.results65, go_sem]) rfl HPO.out
end Go.Proofs.Qxb6500773aGreat
