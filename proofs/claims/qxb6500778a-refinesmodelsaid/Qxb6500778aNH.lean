import Derived.Test.Qxb6500778aNB
namespace Go.Proofs.Qxb6500778a
open Go.RowKit

/-! ### A step keeps the network in order -/
theorem rtLt_iff (r : Rt) (p l : Int) : rtLt r p l = true ↔ (r.pr < p ∨ (r.pr = p ∧ r.ln < l)) := by
  simp [rtLt]
theorem sorted_ins {L : List Rt} (hs : SortedR L) {p l : Int} (hf : hasR L p l = false) (h : Int) : SortedR (L.take (lowR L p l) ++ ⟨p, l, h⟩ :: L.drop (lowR L p l)) := by
  have hli := low_iff L p l hs
  have hbig : ∀ y ∈ L.drop (lowR L p l), rtLt ⟨p, l, h⟩ y.pr y.ln = true := fun y hy => by
    obtain ⟨j, hj⟩ := List.mem_iff_getElem?.1 hy
    rw [List.getElem?_drop] at hj
    have hn : ¬ rtLt y p l = true := fun hh => by have := (hli _ y hj).1 hh; omega
    rw [rtLt_iff] at hn ⊢
    simp only [] at hn ⊢
    by_cases he : y.pr = p ∧ y.ln = l
    · exfalso
      obtain ⟨x, hx⟩ : ∃ x, L[lowR L p l]? = some x := ⟨_, List.getElem?_eq_getElem (by have := (List.getElem?_eq_some_iff.1 hj).1; omega)⟩
      rcases Nat.eq_zero_or_pos j with hj0 | hj0
      · subst hj0
        rw [Nat.add_zero, hx] at hj
        injection hj with hj
        subst hj
        unfold hasR at hf
        rw [hx] at hf
        simp only [he.1, he.2, beq_self_eq_true, Bool.and_self] at hf
        cases hf
      · have hxy : rtLt x y.pr y.ln = true := by
          obtain ⟨h1, e1⟩ := List.getElem?_eq_some_iff.1 hx
          obtain ⟨h2, e2⟩ := List.getElem?_eq_some_iff.1 hj
          have := List.pairwise_iff_getElem.1 hs _ _ h1 h2 (by omega)
          rwa [e1, e2] at this
        rw [he.1, he.2] at hxy
        have := (hli _ x hx).1 hxy
        omega
    · omega
  unfold SortedR
  rw [List.pairwise_append]
  refine ⟨List.Pairwise.sublist (List.take_sublist _ _) hs, List.pairwise_cons.2 ⟨hbig, List.Pairwise.sublist (List.drop_sublist _ _) hs⟩, fun a ha b hb => ?_⟩
  obtain ⟨j, hj⟩ := List.mem_iff_getElem?.1 ha
  rw [List.getElem?_take] at hj
  split at hj
  · rename_i hlt
    have ha1 := (hli j a hj).2 hlt
    rcases List.mem_cons.1 hb with rfl | hb
    · exact ha1
    · exact rtLt_trans (b := ⟨p, l, h⟩) ha1 (hbig b hb)
  · cases hj
theorem mem_ins {α : Type} {L : List α} {x r : α} {i : Nat} (h : x ∈ L.take i ++ r :: L.drop i) : x ∈ L ∨ x = r := by
  rcases List.mem_append.1 h with h | h
  · exact .inl (List.mem_of_mem_take h)
  · rcases List.mem_cons.1 h with h | h
    · exact .inr h
    · exact .inl (List.mem_of_mem_drop h)
theorem mem_del {α : Type} {L : List α} {x : α} {i : Nat} (h : x ∈ L.take i ++ L.drop (i + 1)) : x ∈ L := by
  rcases List.mem_append.1 h with h | h
  · exact List.mem_of_mem_take h
  · exact List.mem_of_mem_drop h
theorem ok_upd {N : Nat → Dv} (h : NetOk N) {d : Nat} {v : Dv} (hv : d < 16 → DvOk v) : NetOk (upd N d v) := fun k hk => by
  by_cases hkd : k = d
  · subst hkd; rw [upd_same]; exact hv hk
  · rw [upd_other _ _ hkd]; exact h k hk
theorem step_ok (N : Nat → Dv) (c : Chg) (h : NetOk N) (hg : GoodC c) : NetOk (stepP N c).1 := by
  obtain ⟨kd, dv, hp, pr, ln, ix, cl, pm, up⟩ := c
  obtain ⟨hd, hk⟩ := hg
  simp only [] at hd hk
  have hdd : dv.toNat < 16 := by omega
  have ho := h _ hdd
  unfold stepP
  simp only []
  rcases hk with ⟨rfl, hp1, hp2, _⟩ | ⟨rfl, _⟩ | ⟨rfl, hp1, _, hix, hcl, _⟩ | ⟨rfl, _⟩ | ⟨rfl, _⟩ | ⟨rfl, _⟩
  · rw [if_pos rfl]
    split
    · exact h
    · rename_i hf
      split
      · rename_i hr
        refine ok_upd h (fun _ => ⟨sorted_ins ho.srt (by simpa using hf) hp, ?_, fun r hr => ?_, ho.ga⟩)
        · have := lowR_le (N dv.toNat).rt pr ln
          simp only [List.length_append, List.length_cons, List.length_take, List.length_drop]
          omega
        · rcases mem_ins hr with hr | rfl
          · exact ho.gr r hr
          · exact ⟨hp1, hp2⟩
      · exact h
  · rw [if_neg (by decide), if_pos rfl]
    split
    · refine ok_upd h (fun _ => ⟨?_, ?_, fun r hr => ho.gr r (mem_del hr), ho.ga⟩)
      · have := List.eraseIdx_sublist (N dv.toNat).rt (lowR (N dv.toNat).rt pr ln)
        rw [List.eraseIdx_eq_take_drop_succ] at this
        exact List.Pairwise.sublist this ho.srt
      · have := ho.cap
        simp only [List.length_append, List.length_take, List.length_drop]
        omega
    · exact h
  · rw [if_neg (by decide), if_neg (by decide), if_pos rfl]
    split
    · split
      · rename_i hj hr
        refine ok_upd h (fun _ => ⟨ho.srt, ?_, ho.gr, fun r hr => ?_⟩)
        · simp only [List.length_append, List.length_cons, List.length_take, List.length_drop]
          omega
        · rcases mem_ins hr with hr | rfl
          · exact ho.ga r hr
          · exact ⟨hp1, hcl⟩
      · exact h
    · exact h
  · rw [if_neg (by decide), if_neg (by decide), if_neg (by decide), if_pos rfl]
    split
    · refine ok_upd h (fun _ => ⟨ho.srt, ?_, ho.gr, fun r hr => ho.ga r (mem_del hr)⟩)
      have := ho.cap
      simp only [List.length_append, List.length_take, List.length_drop]
      omega
    · exact h
  · rw [if_neg (by decide), if_neg (by decide), if_neg (by decide), if_neg (by decide), if_pos rfl]
    have h1 : NetOk (upd N dv.toNat { N dv.toNat with lk := stB (N dv.toNat).lk hp.toNat up }) := ok_upd h (fun _ => ⟨ho.srt, ho.cap, ho.gr, ho.ga⟩)
    exact ok_upd h1 (fun hh => ⟨(h1 _ hh).srt, (h1 _ hh).cap, (h1 _ hh).gr, (h1 _ hh).ga⟩)
  · rw [if_neg (by decide), if_neg (by decide), if_neg (by decide), if_neg (by decide), if_neg (by decide)]
    exact ok_upd h (fun _ => ⟨ho.srt, ho.cap, ho.gr, ho.ga⟩)
end Go.Proofs.Qxb6500778a
