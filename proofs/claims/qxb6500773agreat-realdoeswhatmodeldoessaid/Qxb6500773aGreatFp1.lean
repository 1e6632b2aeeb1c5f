import Derived.Test.Qxb6500773aGreatFm0
import Derived.Test.Qxb6500773aGreatPr6
import Derived.Deep.CutBlock
namespace Go.Proofs.Qxb6500773aGreat
set_option maxRecDepth 100000
open Go.RowKit

/-- The buffer v lies apart from the formula. -/
def FAp (v : Value) (b : Nat) (va ve : Value) : Prop := ∀ j, v.ownBlock = some j → j ≠ b ∧ va.ownBlock ≠ some j ∧ ve.ownBlock ≠ some j
theorem FF.keep2 {w w' : World} {B b : Nat} {v va ve : Value} {nv : Int} {L E : List Int} (h : FF w B b va ve nv L E) (k : Ex (fun k => v.ownBlock = some k) w w') (hp : FAp v b va ve) : FF w' B b va ve nv L E :=
  have nb : ¬ v.ownBlock = some b := fun e => (hp b e).1 rfl
  ⟨h.ar.keep k nb (fun j z e => (hp j e).2.1 z) (fun j z e => (hp j e).2.2 z), k.cell nb h.c⟩
theorem FF.far {w : World} {B b : Nat} {va ve : Value} {nv : Int} {L E : List Int} (h : FF w B b va ve nv L E) {j : Nat} (hj : w.heap.size ≤ j) : j ≠ b ∧ va.ownBlock ≠ some j ∧ ve.ownBlock ≠ some j :=
  ⟨by have := h.ar.lt; omega, own_far h.ar.r0 hj, own_far h.ar.r1 hj⟩
theorem FAp.grow {w w' : World} {B b B' : Nat} {v v' va ve : Value} {nv : Int} {L E Y : List Int} (hp : FAp v b va ve) (h : FF w B' b va ve nv L E) (g : BG w B v w' v' Y) : FAp v' b va ve := fun j z => by
  rcases g.own j z with e | e
  · exact hp j e
  · exact h.far e
set_option linter.unusedSimpArgs false in
set_option maxRecDepth 100000 in
set_option maxHeartbeats 4000000 in
/-- cnf.Formula.NumVars -/
theorem numVars_any (w : World) (B b : Nat) (va ve : Value) (nv : Int) (L E : List Int) (h : FF w B b va ve nv L E) :
    Calls Tryz.prog 29 #[.pointer (some ⟨b, 0, none⟩)] w fun e w' => e = .returned (.int .i64 nv) ∧ w' = w := by
  have hc := h.c
  go_enter Tryz.func29, Tryz.ntmps29
  go_wp2
  go_ret
  exact ⟨rfl, rfl⟩
set_option linter.unusedSimpArgs false in
set_option maxRecDepth 100000 in
set_option maxHeartbeats 4000000 in
/-- cnf.Formula.NumLits -/
theorem fNumLits_any (w : World) (B b : Nat) (va ve : Value) (L E : List Int) (h : AR w B b 1 va ve L E) (hE : E.length ≤ 4611686018427387904) :
    Calls Tryz.prog 124 #[.pointer (some ⟨b, 0, none⟩)] w fun e w' => e = .returned (.int .i64 (clsP E)) ∧ Below w.heap.size w w' := by
  have hc := closed_any w B b 1 va ve L E h hE
  go_enter Tryz.func124, Tryz.ntmps124
  go_wp2_with fail
  refine hc.mono ?_
  rintro e w' ⟨rfl, hb⟩
  go_wp2
  go_ret
  exact ⟨rfl, hb⟩
/-- The text of the first k clauses, and of a formula. -/
def clsT (L E : List Int) (k : Nat) : List Int := (List.range k).flatMap fun i => clT (clP L E i)
theorem clsT_succ (L E : List Int) (k : Nat) : clsT L E (k + 1) = clsT L E k ++ clT (clP L E k) := by simp [clsT, List.range_succ]
theorem clT_len {C : List Int} (h : ∀ x ∈ C, LitOk x) : (clT C).length ≤ 10 * C.length + 2 := by
  unfold clT
  have := litsT_len h
  rw [List.length_append]
  simp only [List.length_cons, List.length_nil]
  omega
theorem clsT_len {L E : List Int} (h : EOk L E) (hl : ∀ x ∈ L, LitOk x) : ∀ k, k ≤ E.length → (clsT L E k).length ≤ 10 * loP E k + 2 * k
  | 0, _ => by simp [clsT]
  | k + 1, hk => by
    have h1 := clsT_len h hl k (by omega)
    have h2 := clT_len (clP_ok (E := E) hl k)
    have h3 := clP_len h (show k < E.length by omega)
    have h4 := h.lo (show k < E.length by omega)
    rw [clsT_succ, List.length_append]
    omega
def hdT (nv : Int) (k : Nat) : List Int := [112, 32, 99, 110, 102, 32] ++ (decI nv ++ ([32] ++ (decI k ++ [10])))
def foT (nv : Int) (L E : List Int) : List Int := hdT nv E.length ++ clsT L E E.length
theorem decI_le {n : Int} (h : -1000000000 ≤ n ∧ n ≤ 1000000000) : (decI n).length ≤ 11 := by
  unfold decI
  have := lowD_le 9 n.natAbs (by omega)
  rw [List.length_append, List.length_reverse]
  split <;> simp <;> omega
theorem foT_len {nv : Int} {L E : List Int} (hnv : 0 ≤ nv ∧ nv ≤ 16777215) (h : EOk L E) (hl : ∀ x ∈ L, LitOk x) (hE : E.length ≤ 1000000) : (foT nv L E).length ≤ 10 * L.length + 2 * E.length + 30 := by
  have h1 := clsT_len h hl E.length (Nat.le_refl _)
  have h2 := loP_le h (Nat.le_refl E.length)
  have h3 := decI_le (n := nv) (by omega)
  have h4 := decI_le (n := (E.length : Int)) (by omega)
  unfold foT hdT
  simp only [List.length_append, List.length_cons, List.length_nil]
  omega
set_option linter.unusedSimpArgs false in
set_option maxRecDepth 100000 in
set_option maxHeartbeats 4000000 in
/-- cnf.AppendDimacs, at an empty buffer -/
theorem appendDimacs_any (w : World) (B : Nat) (v : Value) (B' b : Nat) (va ve : Value) (nv : Int) (L E : List Int) (h : BB w B v []) (hB : B ≤ w.heap.size) (hp : FF w B' b va ve nv L E) (hap : FAp v b va ve) (hE : EOk L E) (hok : ∀ x ∈ L, LitOk x) (hnv : 0 ≤ nv ∧ nv ≤ 16777215) (hX : 10 * L.length + 4 * E.length + 100 ≤ 10000000) :
    Calls Tryz.prog 123 #[v, .pointer (some ⟨b, 0, none⟩)] w (ApPost w B v (foT nv L E)) := by
  obtain ⟨i0, hi0, hz0, hz1, hz2⟩ := info_of Tryz.info5
  have HI := hide (And.intro hi0 (And.intro hz0 (And.intro hz1 hz2)))
  clear hi0 hz0 hz1 hz2
  suffices H : ∀ v0, v0 = v → Calls Tryz.prog 123 #[v, .pointer (some ⟨b, 0, none⟩)] w (ApPost w B v0 (foT nv L E)) from H v rfl
  intro v0 hv0
  have HBB0 := hide (show BG w B v0 w v [] from by rw [hv0]; exact BG.refl h)
  have HFF := hide (show ∀ w' v' Y, BG w B v0 w' v' Y → FF w' B' b va ve nv L E ∧ FAp v' b va ve from fun w' v' Y hb => by subst hv0; exact ⟨hp.keep2 hb.ex hap, hap.grow hp hb⟩)
  clear hv0 hap
  obtain ⟨aa, ca, rfl⟩ := own_form hp.ar.r0
  have HCA := hide (show L.length ≤ ca from by
    rcases hp.ar.r0.2 with ⟨z, z2⟩ | ⟨g, cap, cur, z, -, -, hnc, -⟩
    · simp only [Value.slice.injEq] at z; omega
    · simp only [Value.slice.injEq] at z; omega)
  have HBS := hide hB
  have HX0 := hide hX
  have HEO := hide hE
  have HOK := hide hok
  have HNV := hide hnv
  have HDT := hide (clsT_len hE hok)
  have HXL := hide (show ([] : List Int).length ≤ 100 by simp)
  obtain ⟨Y, hY⟩ : ∃ Y, foT nv L E = Y := ⟨_, rfl⟩
  rw [hY]
  have HY := hide (show Y = hdT nv E.length ++ clsT L E E.length from hY.symm)
  clear hY
  obtain ⟨X0, hX0⟩ : ∃ X0 : List Int, [] = X0 := ⟨_, rfl⟩
  have HE0 := hide hX0.symm
  rw [hX0] at h HBB0 HXL
  clear hX0
  obtain ⟨a, c, rfl⟩ := own_form h
  have HBB := hide h
  clear h hB hX hok hE hp hnv
  go_enter Tryz.func123, Tryz.ntmps123
  have HZw2 := hide (show BB (w.alloc (.cells #[.int .u8 112, .int .u8 32, .int .u8 99, .int .u8 110, .int .u8 102, .int .u8 32] 5)) B (.slice a X0.length c) (X0) from BB.below HBB.out (be1 w _))
  have HSw2 := hide (show B ≤ (w.alloc (.cells #[.int .u8 112, .int .u8 32, .int .u8 99, .int .u8 110, .int .u8 102, .int .u8 32] 5)).heap.size from Nat.le_trans HBS.out (be1 w _).size)
  have HNw2 := hide (show ∀ (j : Nat) (u : Value), ([.int .u8 112, .int .u8 32, .int .u8 99, .int .u8 110, .int .u8 102, .int .u8 32] : List Value)[j]? = some u → (w.alloc (.cells #[.int .u8 112, .int .u8 32, .int .u8 99, .int .u8 110, .int .u8 102, .int .u8 32] 5)).cell? ((⟨w.heap.size, 0, none⟩ : Addr).add j) = some u from fun j u hj => new_cells w [.int .u8 112, .int .u8 32, .int .u8 99, .int .u8 110, .int .u8 102, .int .u8 32] 5 j u hj)
  go_upto_region 2 with (at_builtin; go_loud (refine wpList_append_lies _ rfl (.tmp 6) (.tmp 7) 35 rfl B 5 i0 _ 1 1 Tryz.underlying35 HI.out.1 HI.out.2.1 HI.out.2.2.1 HI.out.2.2.2 rfl (by decide) (.slice a X0.length c) (X0).length ((X0).map (Value.int .u8)) rfl HZw2.out ⟨w.heap.size, 0, none⟩ 6 6 [.int .u8 112, .int .u8 32, .int .u8 99, .int .u8 110, .int .u8 102, .int .u8 32] rfl rfl HNw2.out (fun u hu => by simp at hu; (first | (subst hu; rfl) | (rcases hu with hu | hu | hu | hu | hu | hu <;> (subst hu; rfl)))) (by decide) (by have := HXL.out; unfold maxLen; omega) (by have := HXL.out; omega) HSw2.out _ rfl ?_; intro gw2 capw2 w2 hr hg hat hlt2; have HPw2 := hide (bg_app (Z := [112, 32, 99, 110, 102, 32]) HBB.out hr hg hat); clear hr hg hat hlt2 HZw2 HSw2 HNw2))
  obtain ⟨X1, hQw2⟩ : ∃ X1, (X0) ++ [112, 32, 99, 110, 102, 32] = X1 := ⟨_, rfl⟩
  have HQw2 := hide hQw2.symm
  rw [hQw2] at HPw2
  rw [show (X0).length + 6 = X1.length from by rw [← hQw2]; simp only [List.length_append, List.length_cons, List.length_nil]]
  clear hQw2
  have HG1 := hide (HBB0.out.trans HPw2.out)
  replace HQw2 := hide (show X1 = [112, 32, 99, 110, 102, 32] by rw [HQw2.out, HE0.out]; rfl)
  clear HPw2 HBB0 HBB HE0 HXL
  go_wp2_with fail
  refine (numVars_any _ B' b _ ve nv L E (HFF.out _ _ _ HG1.out).1).mono ?_
  rintro e w3 ⟨rfl, rfl⟩
  go_wp2_with fail
  refine (appendInt_any _ B _ X1 nv HG1.out.bb (Nat.le_trans HBS.out HG1.out.ex.size) (by rw [HQw2.out]; simp) (by have := HNV.out; omega)).mono ?_
  rintro e w4 ⟨v4, rfl, hb4⟩
  have HG4 := hide (HG1.out.trans hb4)
  obtain ⟨X4, hX4⟩ : ∃ X4, X1 ++ decI nv = X4 := ⟨_, rfl⟩
  rw [hX4] at HG4
  have HE4 := hide (show X4 = [112, 32, 99, 110, 102, 32] ++ decI nv by rw [← hX4, HQw2.out])
  have HXL4 := hide (show X4.length ≤ 100 from by rw [HE4.out, List.length_append]; have := decI_le (n := nv) (by have := HNV.out; omega); simp only [List.length_cons, List.length_nil]; omega)
  have HBS4 := hide (Nat.le_trans HBS.out HG4.out.ex.size)
  clear hb4 hX4 HG1 HQw2
  obtain ⟨a4, c4, rfl⟩ := own_form HG4.out.bb
  have HZw5 := hide (show BB (w4.alloc (.cells #[.int .u8 32] 5)) B (.slice a4 X4.length c4) (X4) from BB.below HG4.out.bb (be1 w4 _))
  have HSw5 := hide (show B ≤ (w4.alloc (.cells #[.int .u8 32] 5)).heap.size from Nat.le_trans HBS4.out (be1 w4 _).size)
  have HNw5 := hide (show ∀ (j : Nat) (u : Value), ([.int .u8 32] : List Value)[j]? = some u → (w4.alloc (.cells #[.int .u8 32] 5)).cell? ((⟨w4.heap.size, 0, none⟩ : Addr).add j) = some u from fun j u hj => new_cells w4 [.int .u8 32] 5 j u hj)
  go_upto_region 4 with (at_builtin; go_loud (refine wpList_append_lies _ rfl (.tmp 13) (.tmp 14) 35 rfl B 5 i0 _ 1 1 Tryz.underlying35 HI.out.1 HI.out.2.1 HI.out.2.2.1 HI.out.2.2.2 rfl (by decide) (.slice a4 X4.length c4) (X4).length ((X4).map (Value.int .u8)) rfl HZw5.out ⟨w4.heap.size, 0, none⟩ 1 1 [.int .u8 32] rfl rfl HNw5.out (fun u hu => by simp at hu; (first | (subst hu; rfl) | (rcases hu with hu | hu <;> (subst hu; rfl)))) (by decide) (by have := HXL4.out; unfold maxLen; omega) (by have := HXL4.out; omega) HSw5.out _ rfl ?_; intro gw5 capw5 w5 hr hg hat hlt2; have HPw5 := hide (bg_app (Z := [32]) HG4.out.bb hr hg hat); clear hr hg hat hlt2 HZw5 HSw5 HNw5))
  obtain ⟨X5, hQw5⟩ : ∃ X5, (X4) ++ [32] = X5 := ⟨_, rfl⟩
  have HQw5 := hide hQw5.symm
  rw [hQw5] at HPw5
  rw [show (X4).length + 1 = X5.length from by rw [← hQw5]; simp only [List.length_append, List.length_cons, List.length_nil]]
  clear hQw5
  have HG5 := hide (HG4.out.trans HPw5.out)
  clear HPw5 HG4
  go_wp2_with fail
  refine (numClauses_any _ B' b _ ve L E (HFF.out _ _ _ HG5.out).1.ar).mono ?_
  rintro e w6 ⟨rfl, rfl⟩
  go_wp2_with fail
  refine (appendInt_any _ B _ X5 (E.length : Int) HG5.out.bb (Nat.le_trans HBS.out HG5.out.ex.size) (by rw [HQw5.out, List.length_append]; have := HXL4.out; simp; omega) (by have := HX0.out; omega)).mono ?_
  rintro e w7 ⟨v7, rfl, hb7⟩
  have HG7 := hide (HG5.out.trans hb7)
  obtain ⟨X7, hX7⟩ : ∃ X7, X5 ++ decI (E.length : Int) = X7 := ⟨_, rfl⟩
  rw [hX7] at HG7
  have HE7 := hide (show X7 = [112, 32, 99, 110, 102, 32] ++ (decI nv ++ ([32] ++ decI (E.length : Int))) by rw [← hX7, HQw5.out, HE4.out]; simp only [List.append_assoc])
  have HXL7 := hide (show X7.length ≤ 200 from by
    rw [HE7.out]
    have h1 := decI_le (n := nv) (by have := HNV.out; omega)
    have h2 := decI_le (n := (E.length : Int)) (by have := HX0.out; omega)
    simp only [List.length_append, List.length_cons, List.length_nil]
    omega)
  have HBS7 := hide (Nat.le_trans HBS.out HG7.out.ex.size)
  clear hb7 hX7 HG5 HQw5 HE4 HXL4 HBS4
  obtain ⟨a7, c7, rfl⟩ := own_form HG7.out.bb
  have HZw8 := hide (show BB (w7.alloc (.cells #[.int .u8 10] 5)) B (.slice a7 X7.length c7) (X7) from BB.below HG7.out.bb (be1 w7 _))
  have HSw8 := hide (show B ≤ (w7.alloc (.cells #[.int .u8 10] 5)).heap.size from Nat.le_trans HBS7.out (be1 w7 _).size)
  have HNw8 := hide (show ∀ (j : Nat) (u : Value), ([.int .u8 10] : List Value)[j]? = some u → (w7.alloc (.cells #[.int .u8 10] 5)).cell? ((⟨w7.heap.size, 0, none⟩ : Addr).add j) = some u from fun j u hj => new_cells w7 [.int .u8 10] 5 j u hj)
  go_upto_region 6 with (at_builtin; go_loud (refine wpList_append_lies _ rfl (.tmp 20) (.tmp 21) 35 rfl B 5 i0 _ 1 1 Tryz.underlying35 HI.out.1 HI.out.2.1 HI.out.2.2.1 HI.out.2.2.2 rfl (by decide) (.slice a7 X7.length c7) (X7).length ((X7).map (Value.int .u8)) rfl HZw8.out ⟨w7.heap.size, 0, none⟩ 1 1 [.int .u8 10] rfl rfl HNw8.out (fun u hu => by simp at hu; (first | (subst hu; rfl) | (rcases hu with hu | hu <;> (subst hu; rfl)))) (by decide) (by have := HXL7.out; unfold maxLen; omega) (by have := HXL7.out; omega) HSw8.out _ rfl ?_; intro gw8 capw8 w8 hr hg hat hlt2; have HPw8 := hide (bg_app (Z := [10]) HG7.out.bb hr hg hat); clear hr hg hat hlt2 HZw8 HSw8 HNw8))
  obtain ⟨X8, hQw8⟩ : ∃ X8, (X7) ++ [10] = X8 := ⟨_, rfl⟩
  have HQw8 := hide hQw8.symm
  rw [hQw8] at HPw8
  rw [show (X7).length + 1 = X8.length from by rw [← hQw8]; simp only [List.length_append, List.length_cons, List.length_nil]]
  clear hQw8
  have HG8 := hide (HG7.out.trans HPw8.out)
  have HE8 := hide (show X8 = hdT nv E.length by rw [HQw8.out, HE7.out]; unfold hdT; simp only [List.append_assoc])
  have HXL8 := hide (show X8.length ≤ 201 from by rw [HQw8.out, List.length_append]; have := HXL7.out; simp; omega)
  clear HPw8 HG7 HE7 HQw8 HXL7 HBS7
  go_wp2
  go_loopw [0, 5] (fun s0 s5 wx => ∃ (a2 : Option Addr) (c2 : Nat) (Q : List Int) (i : Nat), s0 = .slice a2 Q.length c2 ∧ s5 = .int .i64 i ∧ i ≤ E.length ∧ Hid (Q = X8 ++ clsT L E i) ∧ BG w B v0 wx (.slice a2 Q.length c2) Q) (fun _ s5 _ => E.length - (intOf s5).toNat)
  case atStart => exact ⟨_, _, X8, 0, rfl, rfl, Nat.zero_le _, hide (by simp [clsT]), HG8.out⟩
  case round =>
    clear HG8
    obtain ⟨a2, c2, Q, i, rfl, rfl, hi, HQ, hbg⟩ := hrel
    have HBG2 := hide hbg
    have HF2 := hide (HFF.out _ _ _ hbg)
    have HBS2 := hide (show B ≤ wr.heap.size from Nat.le_trans HBS.out hbg.ex.size)
    have HXL2 := hide (show Q.length ≤ 201 + 10 * loP E i + 2 * i from by
      have h1 := HDT.out i hi
      have h2 := HXL8.out
      rw [HQ.out, List.length_append]
      omega)
    clear hbg
    go_wp2_with fail
    refine (numClauses_any wr B' b _ ve L E HF2.out.1.ar).mono ?_
    rintro e w3 ⟨rfl, hw⟩
    rw [hw]
    clear hw w3
    have h4 : IntKind.i64.wrap ((i : Int) + 1) = (i : Int) + 1 := by rw [IntKind.wrap_i64]; have := HX0.out; omega
    by_cases hlt : i < E.length
    · have h1 : decide ((i : Int) < (E.length : Int)) = true := by simp; omega
      have h1n : decide (i < E.length) = true := by simp; omega
      have hlo := HEO.out.lo hlt
      have hcl := clP_len HEO.out hlt
      have cAt := hide (at_any wr B' b 1 aa ca ve L E HF2.out.1.ar HCA.out i (loP E i) (loP E (i + 1)) hlo.2.2.2 hlo.2.2.1 hlo.1 hlo.2.1 (by have := HX0.out; omega))
      have HST := hide (show Q ++ clT (clP L E i) = X8 ++ clsT L E (i + 1) by rw [HQ.out, clsT_succ, List.append_assoc])
      have HLC := hide (show Q.length + 10 * (clP L E i).length ≤ 100000000 from by have := HX0.out; have := HXL2.out; omega)
      have HCO := hide (clP_ok (E := E) HOK.out i)
      rw [show (L.take (loP E (i + 1))).drop (loP E i) = clP L E i from rfl] at cAt
      generalize clP L E i = C at *
      clear hlo hcl
      go_wp2_with fail
      refine cAt.out.mono ?_
      rintro e w5 ⟨a5, c5, rfl, hc5, ho5, b5⟩
      have HBG5 := hide (HBG2.out.below b5)
      have HC5 := hide hc5
      have HO5 := hide ho5
      have HS5 := hide (Nat.le_trans HBS2.out b5.size)
      clear b5 hc5 ho5 cAt
      go_wp2_with fail
      refine (appendClause_any _ B _ Q a5 c5 C HBG5.out.bb HS5.out HC5.out (fun g o e z => ((HFF.out _ _ _ HBG5.out).2 g z).2.1 (HO5.out g o e)) HCO.out HLC.out).mono ?_
      rintro e w6 ⟨v6, rfl, hb6⟩
      have HBG6 := hide (HBG5.out.trans hb6)
      clear hb6
      obtain ⟨Q6, hQ6⟩ : ∃ Q6, Q ++ clT C = Q6 := ⟨_, rfl⟩
      rw [hQ6] at HBG6 HST
      clear hQ6
      obtain ⟨a6, c6, rfl⟩ := own_form HBG6.out.bb
      go_wp2
      go_roundw
      case rel => exact ⟨a6, c6, Q6, i + 1, rfl, by simp, by omega, HST, HBG6.out⟩
      case measure => simp [intOf]; omega
    · have h1 : decide ((i : Int) < (E.length : Int)) = false := by simp; omega
      have h1n : decide (i < E.length) = false := by simp; omega
      have HPO := hide (show ApPost w B v0 Y (.returned (.slice a2 Q.length c2)) wr from ⟨_, rfl, by rw [HY.out, ← HE8.out, show E.length = i by omega, ← HQ.out]; exact HBG2.out⟩)
      go_wp2
      exact bodyPost_ret (v := .slice a2 Q.length c2) (by simp [results, Tryz.results123, go_sem]) rfl HPO.out
set_option linter.unusedSimpArgs false in
set_option maxRecDepth 100000 in
set_option maxHeartbeats 4000000 in
/-- cnf.PrintDimacs -/
theorem printDimacs_any (w : World) (B' b : Nat) (va ve : Value) (nv : Int) (L E : List Int) (hp : FF w B' b va ve nv L E) (hE : EOk L E) (hok : ∀ x ∈ L, LitOk x) (hnv : 0 ≤ nv ∧ nv ≤ 16777215) (hX : 10 * L.length + 4 * E.length + 100 ≤ 10000000) :
    Calls Tryz.prog 51 #[.pointer (some ⟨b, 0, none⟩)] w (PrPost w (foT nv L E)) := by
  have HFF := hide hp
  have hcl := clsP_lo hE
  obtain ⟨m, hm⟩ : ∃ m : Nat, 32 + 8 * clsP E + 2 * (E.length : Int) = m := ⟨(32 + 8 * clsP E + 2 * (E.length : Int)).toNat, by omega⟩
  have w1 : IntKind.i64.wrap (8 * clsP E) = 8 * clsP E := by rw [IntKind.wrap_i64]; omega
  have w2 : IntKind.i64.wrap (2 * (E.length : Int)) = 2 * (E.length : Int) := by rw [IntKind.wrap_i64]; omega
  have w4 : IntKind.i64.wrap (32 + 8 * clsP E) = 32 + 8 * clsP E := by rw [IntKind.wrap_i64]; omega
  have w3 : IntKind.i64.wrap (m : Int) = (m : Int) := by rw [IntKind.wrap_i64]; omega
  have hmk := run_make0 (P := Tryz.prog) 35 5 (.int .u8 0) 1 Tryz.underlying35 Tryz.info5 m (by omega) (by omega)
  have HMM := hide (show m ≤ 1000000000 by omega)
  have HE := hide hE
  have HOK := hide hok
  have HX := hide hX
  have HNV := hide hnv
  clear hp hcl hE hok hX hnv
  obtain ⟨Y, hY⟩ : ∃ Y, foT nv L E = Y := ⟨_, rfl⟩
  rw [hY]
  have HY := hide hY
  clear hY
  go_enter Tryz.func51, Tryz.ntmps51
  go_wp2_with fail
  refine (fNumLits_any _ B' b _ ve L E HFF.out.ar (by have := HX.out; omega)).mono ?_
  rintro e w4 ⟨rfl, b4⟩
  have HFF4 := hide (HFF.out.below b4)
  have HB4 := hide b4
  clear b4
  go_wp2_with fail
  refine (numClauses_any _ B' b _ ve L E HFF4.out.ar).mono ?_
  rintro e w5 ⟨rfl, rfl⟩
  go_wp2_with fail
  have HBM := hide (show BB (w5.alloc (.cells (madeCells #[.int .u8 0] m) 5)) w.heap.size (.slice (some ⟨w5.heap.size, 0, none⟩) 0 m) [] from World.ownsRow_made (base := w.heap.size) (e := 5) (size := 1) w5 (madeCells #[.int .u8 0] m) m HB4.out.size (by have := HMM.out; unfold maxLen; omega) (by rw [size_madeCells, Nat.mul_one]))
  have HB6 := hide (lec HB4.out (be1 w5 (.cells (madeCells #[.int .u8 0] m) 5)))
  have HFF6 := hide (HFF4.out.below (be1 w5 (.cells (madeCells #[.int .u8 0] m) 5)))
  have HPA := hide (show FAp (.slice (some ⟨w5.heap.size, 0, none⟩) 0 m) b va ve from fun j z => by cases z; exact HFF4.out.far (Nat.le_refl _))
  have HGE := hide HB4.out.size
  refine (appendDimacs_any _ w.heap.size _ B' b va ve nv L E HBM.out HB6.out.size HFF6.out HPA.out HE.out HOK.out HNV.out HX.out).mono ?_
  rintro e w7 ⟨v7, rfl, hb7⟩
  rw [HY.out] at hb7
  obtain ⟨a7, c7, rfl⟩ := own_form hb7.bb
  have HPO := hide (show PrPost w Y (.returned (.slice a7 Y.length c7)) w7 from ⟨a7, c7, rfl, hb7.bb, HB6.out.trans (hb7.ex.below HB6.out.size (fun k hk z => by have e : w5.heap.size = k := Option.some.inj z; have := HGE.out; omega))⟩)
  clear hb7
  go_wp2
  exact bodyPost_ret (v := .slice a7 Y.length c7) (by simp [results, Tryz.results51, go_sem]) rfl HPO.out
end Go.Proofs.Qxb6500773aGreat
