import Derived.Test.Qxb6500773aGreatLo4
import Derived.Deep.CutBlock
namespace Go.Proofs.Qxb6500773aGreat
set_option maxRecDepth 100000
open Go.RowKit

theorem fromP_ok {d : Int} (h : (fromP d).2 = 0) : LitOk (fromP d).1 ∧ d ≠ 0 ∧ -16777215 ≤ d ∧ d ≤ 16777215 ∧ (fromP d).1 = packP d := by
  unfold fromP at h ⊢
  by_cases h0 : d = 0
  · rw [if_pos h0] at h; cases h
  · rw [if_neg h0] at h ⊢
    by_cases h1 : 16777215 < d ∨ d < -16777215
    · rw [if_pos h1] at h; cases h
    · rw [if_neg h1]
      refine ⟨?_, h0, by omega, by omega, rfl⟩
      show LitOk (packP d)
      unfold LitOk packP
      split <;> omega
theorem ncE_zero : ∀ {X : List Int}, ncE X = 0 → ∀ x ∈ X.map (fun d => (fromP d).1), LitOk x
  | [], _, x, hx => by cases hx
  | d :: X, h, x, hx => by
    unfold ncE at h
    split at h
    · next h0 =>
      rcases List.mem_cons.1 hx with e | e
      · rw [e]; exact (fromP_ok h0).1
      · exact ncE_zero h x e
    · next h0 => exact absurd h h0
theorem chkP_lit : ∀ {C : List Int}, (∀ x ∈ C, LitOk x) → chkP C = 0
  | [], _ => rfl
  | l :: C, h => by
    have hl := h l (by simp)
    unfold LitOk at hl
    unfold chkP
    rw [if_neg (by omega), if_pos (by unfold validP; simp; omega)]
    exact chkP_lit (fun x hx => h x (by simp [hx]))
/-- A row's literals. -/
theorem row_cl {w : World} {B : Nat} {a : Option Addr} {n c : Nat} {C : List Int} (h : w.ownsRow B 64 1 (.slice a n c) n (C.map (Value.int .i32))) : CL w a C := fun j x hx => by
  obtain ⟨g, c', e, hc, -⟩ := row_cell h (i := j) (u := .int .i32 x) (by rw [List.getElem?_map, hx]; rfl)
  cases e
  exact ⟨g, 0, rfl, by rw [Nat.zero_add]; exact hc⟩
def DaPost (w : World) (B b : Nat) (va ve : Value) (nv : Int) (L E X : List Int) (e : Ending) (w' : World) : Prop :=
  (ncE X ≠ 0 ∧ e = .returned (.tuple #[.int .i64 (-1), .int .i64 (ncE X)]) ∧ Below w.heap.size w w') ∨
  (ncE X = 0 ∧ e = .returned (.tuple #[.int .i64 E.length, .int .i64 0]) ∧ Ex (fun k => k = b ∨ va.ownBlock = some k ∨ ve.ownBlock = some k) w w' ∧ ∃ va' ve', FF w' B b va' ve' (mxV nv (mxP (X.map fun d => (fromP d).1))) (L ++ X.map fun d => (fromP d).1) (E ++ [((L ++ X.map fun d => (fromP d).1).length : Int)]) ∧ (∀ k, va'.ownBlock = some k → va.ownBlock = some k ∨ w.heap.size ≤ k) ∧ (∀ k, ve'.ownBlock = some k → ve.ownBlock = some k ∨ w.heap.size ≤ k))
set_option linter.unusedSimpArgs false in
set_option maxRecDepth 100000 in
set_option maxHeartbeats 4000000 in
/-- cnf.Formula.AddDimacs -/
theorem addDimacs_any (w : World) (B b : Nat) (va ve : Value) (nv : Int) (L E : List Int) (a : Option Addr) (c : Nat) (X : List Int) (h : FF w B b va ve nv L E) (hB : B ≤ w.heap.size) (hL : L.length + X.length ≤ 1000000000) (hE : E.length ≤ 1000000000) (hc : IL w a X) (hne : 0 < X.length) :
    Calls Tryz.prog 32 #[.pointer (some ⟨b, 0, none⟩), .slice a X.length c] w (DaPost w B b va ve nv L E X) := by
  have HF := hide h
  have HBS := hide hB
  have HLL := hide hL
  have HEL := hide hE
  have HNE := hide hne
  have cn := newClause_any w a c X hc (by omega)
  clear h hB hL hE hc hne
  go_enter Tryz.func32, Tryz.ntmps32
  go_wp2_with fail
  refine cn.mono ?_
  rintro e w2 ⟨hb2, hcase⟩
  rcases hcase with ⟨hk, rfl⟩ | ⟨hk, a2, c2, rfl, hr2⟩
  · have hkb : (ncE X == 0) = false := by simpa using hk
    have HPO := hide (show DaPost w B b va ve nv L E X (.returned (.tuple #[.int .i64 (-1), .int .i64 (ncE X)])) w2 from .inl ⟨hk, rfl, hb2⟩)
    clear hk hb2 cn
    generalize ncE X = R at *
    go_wp2
    exact bodyPost_ret (v := .tuple #[.int .i64 (-1), .int .i64 R]) (by simp [results, Tryz.results32, go_sem]) rfl HPO.out
  · have HK := hide hk
    have HB2 := hide hb2
    have HF2 := hide (HF.out.below hb2)
    have HC2 := hide (row_cl hr2)
    have HLK := hide (ncE_zero hk)
    obtain ⟨g2, c2', e2⟩ := own_some hr2 HNE.out
    have HG2 := hide (hr2.lt g2 (by rw [e2]; rfl))
    cases e2
    have hlen : X.length = (X.map fun d => (fromP d).1).length := by rw [List.length_map]
    clear hk hb2 hr2 cn
    have HLN := hide hlen
    have HNE2 := hide (show 0 < (X.map fun d => (fromP d).1).length by rw [← hlen]; exact HNE.out)
    have HLL2 := hide (show L.length + (X.map fun d => (fromP d).1).length ≤ 1000000000 by rw [← hlen]; exact HLL.out)
    rw [hlen]
    clear hlen
    have HPP := hide (show ∀ w3, AdPost w2 B b va ve nv L E (X.map fun d => (fromP d).1) (.returned (.tuple #[.int .i64 E.length, .int .i64 0])) w3 → DaPost w B b va ve nv L E X (.returned (.tuple #[.int .i64 E.length, .int .i64 0])) w3 from fun w3 hp => by
      rcases hp with ⟨z, -, -⟩ | ⟨-, -, hex, va', ve', hff, h1, h2⟩
      · exact absurd (chkP_lit HLK.out) z
      · exact .inr ⟨HK.out, rfl, (Ex.of HB2.out).trans hex, va', ve', hff, fun k z => (h1 k z).imp id (fun z => Nat.le_trans HB2.out.size z), fun k z => (h2 k z).imp id (fun z => Nat.le_trans HB2.out.size z)⟩)
    have HLT := hide (show b < w.heap.size from HF.out.ar.lt)
    generalize hCC : (X.map fun d => (fromP d).1) = CC at *
    clear hCC
    go_wp2_with fail
    refine (fAdd_any w2 B b va ve nv L E g2 0 c2 CC HF2.out (Nat.le_trans HBS.out HB2.out.size) HLL2.out HEL.out HC2.out (fun x hx => by have := HLK.out x hx; unfold LitOk at this; unfold I32; omega) HNE2.out (by have := HG2.out.1; have := HLT.out; omega)).mono ?_
    rintro e w3 hp
    rcases hp with ⟨z, -, -⟩ | ⟨hk, rfl, hrest⟩
    · exact absurd (chkP_lit HLK.out) z
    · have HPO := hide (HPP.out w3 (.inr ⟨hk, rfl, hrest⟩))
      clear hk hrest HPP
      go_wp2
      exact bodyPost_ret (v := .tuple #[.int .i64 E.length, .int .i64 0]) (by simp [results, Tryz.results32, go_sem]) rfl HPO.out
def PaPost (w : World) (B b : Nat) (va ve vd : Value) (L E : List Int) (D : List Bool) (C : List Int) (d : Bool) (e : Ending) (w' : World) : Prop :=
  (chkP C ≠ 0 ∧ e = .returned (.int .i64 (chkP C)) ∧ w' = w) ∨
  (chkP C = 0 ∧ e = .returned (.int .i64 0) ∧ Ex (fun k => k = b ∨ va.ownBlock = some k ∨ ve.ownBlock = some k ∨ vd.ownBlock = some k) w w' ∧ ∃ va' ve' vd', PF w' B b va' ve' vd' (L ++ C) (E ++ [((L ++ C).length : Int)]) (D ++ [d]))
set_option linter.unusedSimpArgs false in
set_option maxRecDepth 100000 in
set_option maxHeartbeats 4000000 in
/-- cnf.Proof.append -/
theorem pfAppend_any (w : World) (B b : Nat) (va ve vd : Value) (L E : List Int) (D : List Bool) (g' o' c' : Nat) (C : List Int) (d : Bool) (h : PF w B b va ve vd L E D) (hB : B ≤ w.heap.size) (hL : L.length + C.length ≤ 1000000000) (hE : E.length ≤ 1000000000) (hD : D.length ≤ 1000000000) (hc : CL w (some ⟨g', o', none⟩) C) (hr : ∀ x ∈ C, I32 x) (hne : 0 < C.length) :
    Calls Tryz.prog 125 #[.pointer (some ⟨b, 0, none⟩), .slice (some ⟨g', o', none⟩) C.length c', .bool d] w (PaPost w B b va ve vd L E D C d) := by
  obtain ⟨i0, hi0, hz0, hz1, hz2⟩ := info_of Tryz.info4
  have HI := hide (And.intro hi0 (And.intro hz0 (And.intro hz1 hz2)))
  clear hi0 hz0 hz1 hz2
  have HP := hide h
  have HBS := hide hB
  have HLL := hide hL
  have HEL := hide hE
  have HDL := hide hD
  have HC := hide hc
  have HNE := hide hne
  have ck := check_any w _ c' C hc hr (by omega)
  obtain ⟨ad, cd, rfl⟩ := own_form h.r2
  clear h hB hL hc hne hE hD
  go_enter Tryz.func125, Tryz.ntmps125
  go_wp2_with fail
  refine ck.mono ?_
  rintro e w' ⟨rfl, hw⟩
  rw [hw]
  clear hw w' ck
  by_cases hk : chkP C = 0
  · have HK := hide hk
    rw [hk]
    clear hk
    go_wp2_with fail
    refine (push_any w B b 0 va ve L E g' o' c' C HP.out.ar HBS.out HLL.out HEL.out HC.out HNE.out).mono ?_
    rintro e w8 ⟨rfl, va', ve', har, hex, hkp, hva, hve⟩
    have HPF8 := hide (show PF w8 B b va' ve' (.slice ad D.length cd) (L ++ C) (E ++ [((L ++ C).length : Int)]) D from
      ⟨har, hkp 2 _ (by omega) (by omega) HP.out.c2, own_kept HP.out.r2 hex (fun j z e => e.elim (fun e => HP.out.a3 (e ▸ z)) (fun e => e.elim (fun e => HP.out.a4 j e z) (fun e => HP.out.a5 j e z))), HP.out.a3, fun k z y => (hva k z).elim (fun z => HP.out.a4 k z y) (fun z => own_far HP.out.r2 z y), fun k z y => (hve k z).elim (fun z => HP.out.a5 k z y) (fun z => own_far HP.out.r2 z y)⟩)
    have HX8 := hide hex
    clear har hex hkp hva hve
    have z2 := HPF8.out.c2
    have zf := HPF8.out.ar.f
    have HPW := hide (HPF8.out.below (be1 w8 (.cells #[.bool d] 4)))
    have HSZ := hide (show B ≤ (w8.alloc (.cells #[.bool d] 4)).heap.size from Nat.le_trans (Nat.le_trans HBS.out HX8.out.size) (be1 w8 _).size)
    have HNC := hide (show ∀ (j : Nat) (u : Value), [Value.bool d][j]? = some u → (w8.alloc (.cells #[.bool d] 4)).cell? ((⟨w8.heap.size, 0, none⟩ : Addr).add j) = some u from fun j u hj => new_cells w8 [.bool d] 4 j u hj)
    go_wp2_with (at_builtin; go_loud (refine wpList_append_lies _ rfl (.tmp 22) (.tmp 24) 77 rfl B 4 i0 _ 1 1 Tryz.underlying77 HI.out.1 HI.out.2.1 HI.out.2.2.1 HI.out.2.2.2 rfl (by decide) (.slice ad D.length cd) D.length (D.map Value.bool) rfl HPW.out.r2 ⟨w8.heap.size, 0, none⟩ 1 1 [.bool d] rfl rfl HNC.out (fun u hu => by simp at hu; subst hu; rfl) (by decide) (by have := HDL.out; unfold maxLen; omega) (by have := HDL.out; omega) HSZ.out _ rfl ?_; intro g cap w9 hr hg hat hlt2; have HPD := hide (HPF8.out.del1 (be1 w8 (.cells #[.bool d] 4)) hr hg hat); have z2' := (show w9.cell? ⟨b, 2, none⟩ = some (.slice ad D.length cd) from (Ex.ofGrown hg (S := fun k => Value.ownBlock (.slice ad D.length cd) = some k) (fun k z => z.symm)).cell HPW.out.a3 HPW.out.c2); have zf' := (show w9.frozen? ⟨b, 2, none⟩ = false from ((Ex.ofGrown hg (S := fun k => Value.ownBlock (.slice ad D.length cd) = some k) (fun k z => z.symm)).frozen HPW.out.a3 HPW.out.ar.lt).trans (HPW.out.ar.f 2)); clear hr hg hat))
    have HPO := hide (show PaPost w B b va ve (.slice ad D.length cd) L E D C d (.returned (.int .i64 0)) _ from .inr ⟨HK.out, rfl, (HX8.out.mono fun k z => z.elim .inl (fun z => .inr (z.elim .inl (fun z => .inr (.inl z))))).trans (HPD.out.2.mono fun k z => z.elim .inl (fun z => .inr (.inr (.inr z)))), _, _, _, HPD.out.1⟩)
    exact bodyPost_ret (v := .int .i64 0) (by simp [results, Tryz.results125, go_sem]) rfl HPO.out
  · have hkb : (chkP C == 0) = false := by simpa using hk
    have HPO := hide (show PaPost w B b va ve (.slice ad D.length cd) L E D C d (.returned (.int .i64 (chkP C))) w from .inl ⟨hk, rfl, rfl⟩)
    clear hk
    generalize chkP C = R at *
    go_wp2
    exact bodyPost_ret (v := .int .i64 R) (by simp [results, Tryz.results125, go_sem]) rfl HPO.out
set_option linter.unusedSimpArgs false in
set_option maxRecDepth 100000 in
set_option maxHeartbeats 4000000 in
/-- cnf.Proof.Add -/
theorem pfAdd_any (w : World) (B b : Nat) (va ve vd : Value) (L E : List Int) (D : List Bool) (g' o' c' : Nat) (C : List Int) (h : PF w B b va ve vd L E D) (hB : B ≤ w.heap.size) (hL : L.length + C.length ≤ 1000000000) (hE : E.length ≤ 1000000000) (hD : D.length ≤ 1000000000) (hc : CL w (some ⟨g', o', none⟩) C) (hr : ∀ x ∈ C, I32 x) (hne : 0 < C.length) :
    Calls Tryz.prog 52 #[.pointer (some ⟨b, 0, none⟩), .slice (some ⟨g', o', none⟩) C.length c'] w (PaPost w B b va ve vd L E D C false) := by
  have ca := hide (pfAppend_any w B b va ve vd L E D g' o' c' C false h hB hL hE hD hc hr hne)
  clear h hB hL hE hD hc hr hne
  go_enter Tryz.func52, Tryz.ntmps52
  go_wp2_with fail
  refine ca.out.mono ?_
  rintro e w' hp
  obtain ⟨R, hR⟩ : ∃ R, e = .returned (.int .i64 R) := by
    rcases hp with ⟨-, e1, -⟩ | ⟨-, e1, -⟩
    · exact ⟨_, e1⟩
    · exact ⟨_, e1⟩
  subst hR
  have HPO := hide hp
  clear hp ca
  go_wp2
  exact bodyPost_ret (v := .int .i64 R) (by simp [results, Tryz.results52, go_sem]) rfl HPO.out
end Go.Proofs.Qxb6500773aGreat
