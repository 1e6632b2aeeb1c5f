import Derived.Test.Qxb6500773aGreatTua
namespace Go.Proofs.Qxb6500773aGreat
open Go.RowKit

/-! ### What every step keeps -/
theorem FoOk.mono {z z' : Nat} {F : Fo} (h : FoOk z F) (hz : z ≤ z') : FoOk z' F := ⟨h.nv, h.lit, h.eok, h.cls, Nat.le_trans h.len hz⟩
theorem PfOk.mono {z z' : Nat} {F : Pf} (h : PfOk z F) (hz : z ≤ z') : PfOk z' F := ⟨h.lit, h.eok, h.cls, h.dl, Nat.le_trans h.len hz⟩
theorem StOk.mono {z z' : Nat} {s : St} (h : StOk z s) (hz : z ≤ z') : StOk z' s :=
  ⟨h.f.mono hz, h.a, h.p.mono hz, h.sf.mono hz, h.sa, h.sp.mono hz, by have := h.ak; omega, by have := h.sk; omega⟩
theorem eok_push {L E C : List Int} (h : EOk L E) : EOk (L ++ C) (E ++ [((L ++ C).length : Int)]) := by
  have hlen : ((L ++ C).length : Int) = (L.length : Int) + C.length := by simp
  refine ⟨fun i j x y hij hx hy => ?_, fun x hx => ?_⟩
  · by_cases hj : j < E.length
    · rw [List.getElem?_append_left (by omega)] at hx
      rw [List.getElem?_append_left hj] at hy
      exact h.asc i j x y hij hx hy
    · have hj2 : j = E.length := by
        have := (List.getElem?_eq_some_iff.1 hy).1
        simp at this
        omega
      rw [List.getElem?_append_right (by omega), hj2, Nat.sub_self] at hy
      simp only [List.getElem?_cons_zero, Option.some.injEq] at hy
      by_cases hi : i < E.length
      · rw [List.getElem?_append_left hi] at hx
        have := (h.rng x (List.mem_of_getElem? hx)).2
        omega
      · rw [List.getElem?_append_right (by omega), show i - E.length = 0 by omega] at hx
        simp only [List.getElem?_cons_zero, Option.some.injEq] at hx
        omega
  · rcases List.mem_append.1 hx with hx | hx
    · have := h.rng x hx
      omega
    · rw [List.mem_singleton] at hx
      omega
theorem cls_push (E : List Int) (x : Int) : clsP (E ++ [x]) = x := by
  unfold clsP
  rw [List.getLast?_append]
  simp
theorem mxV_ge (nv t : Int) : nv ≤ mxV nv t ∧ t ≤ mxV nv t := by
  unfold mxV
  split <;> omega
theorem mxV_le {nv t m : Int} (h1 : nv ≤ m) (h2 : t ≤ m) : mxV nv t ≤ m := by
  unfold mxV
  split <;> omega
theorem fo_empty (z : Nat) : FoOk z ⟨0, [], []⟩ := ⟨⟨by decide, by decide⟩, fun x hx => (by cases hx), ⟨fun i j x y _ hx => (by cases hx), fun x hx => (by cases hx)⟩, rfl, by simp⟩
theorem pf_empty (z : Nat) : PfOk z ⟨[], [], []⟩ := ⟨fun x hx => (by cases hx), ⟨fun i j x y _ hx => (by cases hx), fun x hx => (by cases hx)⟩, rfl, rfl, by simp⟩
theorem setsN_ok : ∀ {C V : List Int} {k : Int}, VOk k V → (∀ x ∈ C, LitOk x) → VOk (setsN V k C) (setsP V C) ∧ setsN V k C ≤ k + C.length
  | [], V, k, h, _ => by unfold setsN setsP; exact ⟨h, by simp⟩
  | l :: C, V, k, h, hC => by
    have h1 := set_ok h (hC l List.mem_cons_self)
    have ih := setsN_ok h1 (fun x hx => hC x (List.mem_cons_of_mem _ hx))
    have h2 : setN V k l ≤ k + 1 := by unfold setN; split <;> omega
    unfold setsN setsP
    refine ⟨ih.1, ?_⟩
    have := ih.2
    simp only [List.length_cons]
    omega
theorem clr_ok {k : Int} {V : List Int} (h : VOk k V) : VOk (if k = 0 then k else 0) (if k = 0 then V else List.replicate V.length 0) := by
  split
  · exact h
  · exact h.zero
theorem unset_ok {k : Int} {V : List Int} (h : VOk k V) (v : Int) : VOk (if varP V v = 0 then k else k - 1) (if varP V v = 0 then V else V.set v.toNat 0) := by
  by_cases h0 : varP V v = 0
  · rw [if_pos h0, if_pos h0]; exact h
  · rw [if_neg h0, if_neg h0]
    obtain ⟨i, hi, h1, h2⟩ := varP_in h0
    have := h.put h2 h1 (x := 0) (by omega)
    rw [if_neg h0, if_pos rfl] at this
    rw [hi, Int.toNat_natCast]
    rw [show k - 1 = k - 1 + 0 by omega]
    exact this
theorem pend_cls {L E : List Int} (h : EOk L E) (hp : pendP L E = false) : clsP E = L.length := by
  unfold pendP at hp
  rw [decide_eq_false_iff_not] at hp
  have : clsP E ≤ L.length := by
    unfold clsP
    cases hl : E.getLast? with
    | none => show (0 : Int) ≤ _; omega
    | some x => exact (h.rng x (List.mem_of_getLast? hl)).2
  omega
theorem fstep_done {T : Nat → Int} {n : Nat} {hv hc : Int} {s : FSt} (h : fStep T n hv hc s = .done) : pendP s.L s.E = false := by
  unfold fStep at h
  dsimp only at h
  split at h
  · unfold fTok at h
    dsimp only at h
    split at h
    · split at h <;> cases h
    · cases h
  · split at h
    · cases h
    · rename_i hp
      simpa using hp
theorem dstep_done {T : Nat → Int} {n : Nat} {s : DSt} (h : dStep T n s = .done) : pendP s.L s.E = false := by
  unfold dStep at h
  dsimp only at h
  split at h
  · split at h
    · cases h
    · unfold tok1 at h
      dsimp only at h
      split at h
      · split at h <;> cases h
      · cases h
  · split at h
    · cases h
    · rename_i hp
      rw [Bool.not_eq_true, Bool.or_eq_false_iff] at hp
      exact hp.2
theorem str_ok {z n : Nat} {s s' : St} {a kd : Int} {X : List Int} {T : Nat → Int} {b : Ob} (h : StR s a X T n kd s' b) (hok : StOk z s) : StOk (z + 1 + X.length + n) s' := by
  have hm := hok.mono (show z ≤ z + 1 + X.length + n by omega)
  have hlit : ncE X = 0 → ∀ x ∈ (X.map fun d => (fromP d).1), LitOk x := fun h => ncE_zero h
  have hlen : (X.map fun d => (fromP d).1).length = X.length := List.length_map _
  cases h with
  | k0 => exact ⟨fo_empty _, clr_ok hm.a, pf_empty _, hm.sf, hm.sa, hm.sp, by have := hm.ak; show (if s.a.k = 0 then s.a.k else 0) ≤ _; split <;> omega, hm.sk⟩
  | k1 =>
    have hnv := hm.f.nv
    have hge : s.f.nv ≤ (if 0 ≤ a ∧ a ≤ 16777215 ∧ s.f.nv < a then a else s.f.nv) := by split <;> omega
    refine ⟨⟨by refine ⟨?_, ?_⟩ <;> (dsimp only; split <;> omega), fun x hx => ⟨(hm.f.lit x hx).1, Int.le_trans (hm.f.lit x hx).2 hge⟩, hm.f.eok, hm.f.cls, hm.f.len⟩, grow_ok hm.a a, hm.p, hm.sf, hm.sa, hm.sp, hm.ak, hm.sk⟩
  | k2 =>
    have hnv := hm.f.nv
    have hge : s.f.nv ≤ (if s.f.nv < 16777215 then s.f.nv + 1 else s.f.nv) := by split <;> omega
    refine ⟨⟨by refine ⟨?_, ?_⟩ <;> (dsimp only; split <;> omega), fun x hx => ⟨(hm.f.lit x hx).1, Int.le_trans (hm.f.lit x hx).2 hge⟩, hm.f.eok, hm.f.cls, hm.f.len⟩, hm.a, hm.p, hm.sf, hm.sa, hm.sp, hm.ak, hm.sk⟩
  | k3 =>
    split
    · rename_i hn
      have hC := hlit hn
      have h1 := hok.f.len
      generalize hCC : (X.map fun d => (fromP d).1) = C at *
      have hge := mxV_ge s.f.nv (mxP C)
      have hmx : mxP C ≤ 16777215 := mx_le (by decide) (fun x hx => by have := hC x hx; unfold LitOk at this; omega)
      have hall : ∀ x ∈ C, x / 2 ≤ mxP C := fun x hx => (mx_ge (C := C) (t := 0)).2 x hx
      refine ⟨⟨⟨Int.le_trans hok.f.nv.1 hge.1, mxV_le hok.f.nv.2 hmx⟩, fun x hx => ?_, eok_push hok.f.eok, cls_push _ _, ?_⟩, hm.a, hm.p, hm.sf, hm.sa, hm.sp, hm.ak, hm.sk⟩
      · rcases List.mem_append.1 hx with hx | hx
        · exact ⟨(hok.f.lit x hx).1, Int.le_trans (hok.f.lit x hx).2 hge.1⟩
        · exact ⟨hC x hx, Int.le_trans (hall x hx) hge.2⟩
      · simp only [List.length_append, List.length_cons, List.length_nil]
        omega
    · exact hm
  | k4 =>
    split
    · rename_i hn
      have := set_ok hm.a (fromP_ok hn).1
      refine ⟨hm.f, this, hm.p, hm.sf, hm.sa, hm.sp, ?_, hm.sk⟩
      have := hok.ak
      show setN _ _ _ ≤ _
      unfold setN
      split <;> omega
    · exact hm
  | k5 =>
    split
    · refine ⟨hm.f, unset_ok hm.a a, hm.p, hm.sf, hm.sa, hm.sp, ?_, hm.sk⟩
      have := hm.ak
      show (if varP s.a.V a = 0 then s.a.k else s.a.k - 1) ≤ _
      split <;> omega
    · exact hm
  | k6 => exact ⟨hm.f, clr_ok hm.a, hm.p, hm.sf, hm.sa, hm.sp, by have := hm.ak; show (if s.a.k = 0 then s.a.k else 0) ≤ _; split <;> omega, hm.sk⟩
  | k7 => exact hm
  | k8 => exact hm
  | k9 => exact hm
  | k10 => exact hm
  | k11 => exact hm
  | k12 => exact hm
  | k13 => exact hm
  | k14 _ _ h =>
    rcases h with ⟨er, ln, col, _, _, rfl, _⟩ | ⟨hv, hc, p, st, h1, _, h3, h4, rfl, _⟩
    · exact hm
    · rcases hdP_ok (T := T) (n := n) (p := ⟨0, 1, 0⟩) ⟨Nat.zero_le _, by decide, Nat.le_refl _⟩ with ⟨er, q, e1, _⟩ | ⟨v, k, q, e1, _, e2, e3, _, _⟩
      · rw [h1] at e1; cases e1
      · rw [h1] at e1
        cases e1
        have he : EOk st.L st.E := ⟨h3.asc, h3.rng⟩
        refine ⟨⟨⟨e2, e3⟩, h3.lit, he, pend_cls he (fstep_done h4), ?_⟩, hm.a, hm.p, hm.sf, hm.sa, hm.sp, hm.ak, hm.sk⟩
        have := h3.len
        have := h3.pl.off
        show _ ≤ _
        dsimp only
        omega
  | k15 => exact hm
  | k16 =>
    split
    · rename_i hn
      have hC := hlit hn
      have h1 := hok.p.len
      generalize hCC : (X.map fun d => (fromP d).1) = C at *
      refine ⟨hm.f, hm.a, ⟨fun x hx => ?_, eok_push hok.p.eok, cls_push _ _, ?_, ?_⟩, hm.sf, hm.sa, hm.sp, hm.ak, hm.sk⟩
      · rcases List.mem_append.1 hx with hx | hx
        · exact hok.p.lit x hx
        · exact hC x hx
      · have := hok.p.dl
        simp only [List.length_append, List.length_cons, List.length_nil]
        omega
      · simp only [List.length_append, List.length_cons, List.length_nil]
        omega
    · exact hm
  | k17 =>
    split
    · rename_i hn
      have hC := hlit hn
      have h1 := hok.p.len
      generalize hCC : (X.map fun d => (fromP d).1) = C at *
      refine ⟨hm.f, hm.a, ⟨fun x hx => ?_, eok_push hok.p.eok, cls_push _ _, ?_, ?_⟩, hm.sf, hm.sa, hm.sp, hm.ak, hm.sk⟩
      · rcases List.mem_append.1 hx with hx | hx
        · exact hok.p.lit x hx
        · exact hC x hx
      · have := hok.p.dl
        simp only [List.length_append, List.length_cons, List.length_nil]
        omega
      · simp only [List.length_append, List.length_cons, List.length_nil]
        omega
    · exact hm
  | k18 _ _ h =>
    obtain ⟨st, _, h3, ⟨er, ln, col, _, _, rfl, _⟩ | ⟨h4, rfl, _⟩⟩ := h
    · exact hm
    · have he : EOk st.L st.E := ⟨h3.asc, h3.rng⟩
      refine ⟨hm.f, hm.a, ⟨h3.lit, he, pend_cls he (dstep_done h4), h3.dl, ?_⟩, hm.sf, hm.sa, hm.sp, hm.ak, hm.sk⟩
      have := h3.len
      have := h3.pl.off
      show _ ≤ _
      dsimp only
      omega
  | k19 => exact hm
  | k20 =>
    split
    · rename_i hn
      have hC := hlit hn
      have h1 := hok.ak
      generalize hCC : (X.map fun d => (fromP d).1) = C at *
      have := setsN_ok hok.a hC
      refine ⟨hm.f, this.1, hm.p, hm.sf, hm.sa, hm.sp, ?_, hm.sk⟩
      have := this.2
      show setsN _ _ _ ≤ _
      omega
    · exact hm
  | k21 => exact hm
  | k22 => exact hm
  | k23 => exact hm
  | k24 => exact hm
  | k25 => exact hm
  | k26 => exact ⟨hm.f, hm.a, hm.p, hm.f, hm.a, hm.p, hm.ak, hm.ak⟩
  | k27 => exact ⟨hm.sf, hm.sa, hm.sp, hm.sf, hm.sa, hm.sp, hm.sk, hm.sk⟩
  | k28 => exact hm
  | oth _ _ => exact hm
/-! ### The new bench -/
def st0 : St := ⟨⟨0, [], []⟩, ⟨0, [0]⟩, ⟨[], [], []⟩, ⟨0, [], []⟩, ⟨0, []⟩, ⟨[], [], []⟩⟩
theorem st0_ok : StOk 0 st0 := by
  have v0 : VOk 0 [] := ⟨fun x hx => (by cases hx), by simp, rfl, fun x hx => (by cases hx)⟩
  have v1 : VOk 0 [0] := ⟨fun x hx => (by rw [List.mem_singleton] at hx; omega), by simp, rfl, fun x hx => (by simp at hx; omega)⟩
  exact ⟨fo_empty _, v1, pf_empty _, fo_empty _, v0, pf_empty _, Int.le_refl _, Int.le_refl _⟩
end Go.Proofs.Qxb6500773aGreat
