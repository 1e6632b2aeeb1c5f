import Derived.Test.Qxb6500778aU4
namespace Go.Proofs.Qxb6500778a
open Go.RowKit

/-- A CHANGE, REAL AND MODEL: the same answer, and both say the same afterwards -/
theorem change_rel {N : Nat → Dv} {M : MN} (h : MR N M) (hok : NetOk N) (hlk : LkOk N) {c : Chg} (hg : GoodC c) : (mchg M c).2 = (stepP N c).2.2 ∧ MR (stepP N c).1 (mchg M c).1 := by
  obtain ⟨kd, dv, hp, pr, ln, ix, cl, pm, up⟩ := c
  obtain ⟨⟨hd0, hd1⟩, hk⟩ := hg
  simp only [] at hd0 hd1
  obtain ⟨d, rfl⟩ : ∃ d : Nat, dv = d := ⟨dv.toNat, by omega⟩
  have hd : d < 16 := by omega
  have hsrt := (hok d hd).srt
  have hcap := (hok d hd).cap
  have hP := h.rt d hd
  have hA := h.ac d hd
  have hRl := hP.length_eq
  unfold mchg stepP
  simp only [Int.toNat_natCast]
  have key : hasR (N d).rt pr ln = true ↔ ∃ r ∈ M.rt d, r.pr = pr ∧ r.ln = ln := by
    rw [hasR_iff hsrt]
    exact ⟨fun ⟨r, hr, e⟩ => ⟨r, hP.mem_iff.2 hr, e⟩, fun ⟨r, hr, e⟩ => ⟨r, hP.mem_iff.1 hr, e⟩⟩
  by_cases k0 : kd = 0
  · subst k0
    simp only [↓reduceIte]
    by_cases hh : hasR (N d).rt pr ln = true
    · obtain ⟨j, r, e, _⟩ := ixR_some (M.rt d) pr ln 0 (key.1 hh)
      rw [if_pos hh, e, if_pos (by omega)]
      exact ⟨rfl, h⟩
    · have e := ixR_none (M.rt d) pr ln 0 (fun r hr hz => hh (key.2 ⟨r, hr, hz⟩))
      rw [if_neg hh, e, if_neg (by decide), hRl, hA]
      by_cases hl : (N d).rt.length + (N d).ac.length < 64
      · rw [if_pos hl, if_neg (by omega)]
        refine ⟨rfl, h.rtUpd ?_⟩
        refine (List.perm_append_singleton _ _).trans ?_
        refine (hP.cons _).trans ?_
        have e2 : (N d).rt = (N d).rt.take (lowR (N d).rt pr ln) ++ (N d).rt.drop (lowR (N d).rt pr ln) := (List.take_append_drop _ _).symm
        conv => lhs; rw [e2]
        exact List.perm_middle.symm
      · rw [if_neg hl, if_pos (by omega)]
        exact ⟨rfl, h⟩
  · simp only [if_neg k0]
    by_cases k1 : kd = 1
    · subst k1
      simp only [↓reduceIte]
      by_cases hh : hasR (N d).rt pr ln = true
      · obtain ⟨j, r, e, hj, h1, h2⟩ := ixR_some (M.rt d) pr ln 0 (key.1 hh)
        rw [Nat.zero_add] at e
        rw [if_pos hh, e, if_neg (by omega), Int.toNat_natCast]
        refine ⟨rfl, h.rtUpd ?_⟩
        have hr : r ∈ (N d).rt := hP.mem_iff.1 (List.mem_of_getElem? hj)
        have hf := sorted_find _ hsrt r hr
        rw [h1, h2] at hf
        exact List.Perm.cons_inv ((perm_out hj).symm.trans (hP.trans (perm_out hf)))
      · have e := ixR_none (M.rt d) pr ln 0 (fun r hr hz => hh (key.2 ⟨r, hr, hz⟩))
        rw [if_neg hh, e, if_pos (by decide)]
        exact ⟨rfl, h⟩
    · simp only [if_neg k1]
      by_cases k2 : kd = 2
      · subst k2
        simp only [↓reduceIte]
        rw [hA, hRl]
        by_cases hj : ix.toNat ≤ (N d).ac.length
        · rw [if_pos hj, if_neg (by omega)]
          by_cases hl : (N d).rt.length + (N d).ac.length < 64
          · rw [if_pos hl, if_neg (by omega)]
            exact ⟨rfl, h.acUpd _⟩
          · rw [if_neg hl, if_pos (by omega)]
            exact ⟨rfl, h⟩
        · rw [if_neg hj, if_pos (by omega)]
          exact ⟨rfl, h⟩
      · simp only [if_neg k2]
        by_cases k3 : kd = 3
        · subst k3
          simp only [↓reduceIte]
          rw [hA]
          by_cases hj : ix.toNat < (N d).ac.length
          · rw [if_pos hj, if_neg (by omega)]
            exact ⟨rfl, h.acUpd _⟩
          · rw [if_neg hj, if_pos (by omega)]
            exact ⟨rfl, h⟩
        · simp only [if_neg k3]
          by_cases k4 : kd = 4
          · subst k4
            simp only [↓reduceIte]
            have hgh : (d : Int) < hp ∧ hp ≤ 15 := by
              rcases hk with hk | hk | hk | hk | hk | hk
              all_goals simp only [] at hk
              · have := hk.1; omega
              · have := hk.1; omega
              · have := hk.1; omega
              · have := hk.1; omega
              · exact hk.2.2.2.1
              · have := hk.1; omega
            obtain ⟨e, rfl⟩ : ∃ e : Nat, hp = e := ⟨hp.toNat, by omega⟩
            simp only [Int.toNat_natCast]
            have he : e < 16 := by omega
            have hde : d ≠ e := by omega
            refine ⟨trivial, ?_⟩
            have hed : e ≠ d := fun z => hde z.symm
            have n1 : upd N d { N d with lk := stB (N d).lk e up } e = N e := upd_other _ _ hed
            have m1 : upd M.lk d (upd (M.lk d) e up) e = M.lk e := upd_other _ _ hed
            rw [n1, m1]
            refine ⟨fun k hk => ?_, fun k hk => ?_, fun k hk => ?_, fun a b ha hb => ?_⟩
            · have := h.up k hk
              rw [upd_get]; split
              · rename_i z; subst z; exact this
              · rw [upd_get]; split
                · rename_i z; subst z; exact this
                · exact this
            · have := h.ac k hk
              rw [upd_get]; split
              · rename_i z; subst z; exact this
              · rw [upd_get]; split
                · rename_i z; subst z; exact this
                · exact this
            · have := h.rt k hk
              rw [upd_get]; split
              · rename_i z; subst z; exact this
              · rw [upd_get]; split
                · rename_i z; subst z; exact this
                · exact this
            · show upd (upd M.lk d (upd (M.lk d) e up)) e (upd (M.lk e) d up) a b = _
              rw [upd_get, upd_get _ e a]
              by_cases z1 : a = e
              · subst z1
                rw [if_pos rfl, if_pos rfl]
                simp only []
                rw [lk_st (hlk.rng a ha) hd hb, upd_get, h.lk a b ha hb]
              · rw [if_neg z1, if_neg z1, upd_get, upd_get _ d a]
                by_cases z2 : a = d
                · subst z2
                  rw [if_pos rfl, if_pos rfl]
                  simp only []
                  rw [lk_st (hlk.rng a ha) he hb, upd_get, h.lk a b ha hb]
                · rw [if_neg z2, if_neg z2]
                  exact h.lk a b ha hb
          · simp only [if_neg k4]
            exact ⟨trivial, h.upUpd _⟩
end Go.Proofs.Qxb6500778a
