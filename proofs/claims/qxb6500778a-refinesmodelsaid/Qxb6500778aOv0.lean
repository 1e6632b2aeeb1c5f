import Derived.Test.Qxb6500778aSA
namespace Go.Proofs.Qxb6500778a
open Go.RowKit

/-! ### OverLimitRefusedWhole, plain -/
theorem runL_stop : ∀ (C : List Chg) (N : Nat → Dv) (i : Nat) (U : List Chg), (runL N C i U).2.2.1 ≠ 0 → ∃ (j : Nat) (c : Chg), C[j]? = some c ∧ (runL N C i U).2.2.2 = ((i + j : Nat) : Int) ∧ (runL N (C.take j) i U).2.2.1 = 0 ∧ (stepP (runL N (C.take j) i U).1 c).2.2 = (runL N C i U).2.2.1
  | [], N, i, U, h => absurd rfl h
  | c :: C, N, i, U, h => by
    by_cases h0 : (stepP N c).2.2 = 0
    · have e : runL N (c :: C) i U = runL (stepP N c).1 C (i + 1) ((stepP N c).2.1 :: U) := by rw [runL, if_pos h0]
      rw [e] at h ⊢
      obtain ⟨j, c', h1, h2, h3, h4⟩ := runL_stop C _ _ _ h
      refine ⟨j + 1, c', by rw [List.getElem?_cons_succ]; exact h1, by rw [h2]; congr 1; omega, ?_, ?_⟩
      · rw [List.take_succ_cons, runL, if_pos h0]; exact h3
      · rw [List.take_succ_cons, runL, if_pos h0]; exact h4
    · have e : runL N (c :: C) i U = (N, [], (stepP N c).2.2, (i : Int)) := by rw [runL, if_neg h0]
      rw [e]
      exact ⟨0, c, rfl, by simp, by simp [runL], by simp [runL]⟩
theorem bad_take : ∀ (C : List Chg) (i j : Nat), badAt C i = none → badAt (C.take j) i = none
  | [], i, j, h => by simpa using h
  | c :: C, i, 0, h => rfl
  | c :: C, i, j + 1, h => by
    rw [badAt] at h
    split at h
    · rename_i hg
      rw [List.take_succ_cons, badAt, if_pos hg]
      exact bad_take C _ _ h
    · cases h
theorem check_take {id : Int} {C : List Chg} (j : Nat) (h : (checkP id C).1 = 0) : (checkP id (C.take j)).1 = 0 := by
  unfold checkP at h ⊢
  split at h
  · cases h
  · rename_i h1
    rw [if_neg h1]
    split at h
    · cases h
    · rename_i h2
      rw [if_neg h2]
      split at h
      · cases h
      · rename_i h3
        rw [if_neg (by rw [List.length_take]; omega)]
        split at h
        · cases h
        · rename_i hb
          rw [bad_take C 0 j hb]
theorem step_eight {N : Nat → Dv} {c : Chg} (hok : NetOk N) (hg : GoodC c) (h : (stepP N c).2.2 = 8) : (c.kd = 0 ∨ c.kd = 2) ∧ (N c.dv.toNat).rt.length + (N c.dv.toNat).ac.length = 64 := by
  have hd : c.dv.toNat < 16 := by have := hg.1; omega
  have hc := (hok _ hd).cap
  unfold stepP at h
  simp only [] at h
  split at h
  · rename_i hk
    split at h
    · cases h
    · split at h
      · cases h
      · exact ⟨.inl hk, by omega⟩
  · split at h
    · split at h
      · cases h
      · cases h
    · split at h
      · rename_i hk
        split at h
        · split at h
          · cases h
          · exact ⟨.inr hk, by omega⟩
        · cases h
      · split at h
        · split at h
          · cases h
          · cases h
        · split at h
          · cases h
          · cases h
theorem run_check {N : Nat → Dv} {id : Int} {C : List Chg} (h : (runP N id C).2.2.1 = 0) : (checkP id C).1 = 0 := Classical.byContradiction (fun hn => by
  unfold runP at h
  rw [if_neg hn] at h
  exact hn h)
/-- a batch refused for the limit -/
theorem run_eight {N : Nat → Dv} {id : Int} {C : List Chg} (hok : NetOk N) (h : (runP N id C).2.2.1 = 8) : ∃ (j : Nat) (c : Chg), C[j]? = some c ∧ (runP N id C).2.2.2 = (j : Int) ∧ (runP N id (C.take j)).2.2.1 = 0 ∧ GoodC c ∧ (c.kd = 0 ∨ c.kd = 2) ∧ ((runP N id (C.take j)).1 c.dv.toNat).rt.length + ((runP N id (C.take j)).1 c.dv.toNat).ac.length = 64 := by
  by_cases h0 : (checkP id C).1 = 0
  · have e : runP N id C = runL N C 0 [] := by unfold runP; rw [if_pos h0]
    rw [e] at h ⊢
    obtain ⟨j, c, h1, h2, h3, h4⟩ := runL_stop C N 0 [] (by rw [h]; decide)
    have e2 : runP N id (C.take j) = runL N (C.take j) 0 [] := by unfold runP; rw [if_pos (check_take j h0)]
    have hg := (check_ok h0).2.2 c (List.mem_of_getElem? h1)
    have hok2 : NetOk (runL N (C.take j) 0 []).1 := runL_ok _ N 0 [] hok (fun x hx => (check_ok h0).2.2 x (List.mem_of_mem_take hx))
    rw [h] at h4
    obtain ⟨h5, h6⟩ := step_eight hok2 hg h4
    refine ⟨j, c, h1, by rw [h2, Nat.zero_add], ?_, hg, h5, ?_⟩
    · rw [e2]; exact h3
    · rw [e2]; exact h6
  · have e : runP N id C = (N, [], (checkP id C).1, (checkP id C).2) := by unfold runP; rw [if_neg h0]
    rw [e] at h
    simp only [] at h
    exfalso
    unfold checkP at h
    split at h
    · cases h
    · split at h
      · cases h
      · split at h
        · cases h
        · split at h
          · cases h
          · cases h
/-- the step's law -/
theorem applyS_bad {y : Sn} {id : Int} {C : List Chg} (h : (runP y.N id C).2.2.1 ≠ 0) : applyS y id C = y := by unfold applyS; rw [if_neg h]
theorem over_plain (x : Sn) (p : Opn) : ((stepS x p).2.e ≠ 0 → (stepS x p).1.N = x.N) ∧ ((offP x p).2.2 = true → (stepS x p).2.e = (runP x.N (offP x p).1 (offP x p).2.1).2.2.1 ∧ (stepS x p).2.t = (runP x.N (offP x p).1 (offP x p).2.1).2.2.2) := by
  by_cases k0 : p.kd = 0
  · have eo : offP x p = (0, [], false) := by unfold offP; rw [if_neg (by omega), if_neg (by omega)]
    rw [eo]
    refine ⟨fun _ => ?_, fun h => by cases h⟩
    unfold stepS
    rw [if_pos k0]
    split <;> rfl
  · by_cases k1 : p.kd = 1
    · have eo : offP x p = ((parseP p.d).id, (parseP p.d).cs, decide ((parseP p.d).er = 0)) := by unfold offP; rw [if_neg (by omega), if_pos k1]
      rw [eo]
      by_cases he : (parseP p.d).er = 0
      · have es : stepS x p = (applyS x (parseP p.d).id (parseP p.d).cs, ⟨(runP x.N (parseP p.d).id (parseP p.d).cs).2.2.1, (runP x.N (parseP p.d).id (parseP p.d).cs).2.2.2, ⟨#[]⟩⟩) := by unfold stepS; rw [if_neg k0, if_pos k1, if_pos he]
        rw [es]
        exact ⟨fun h => by simp only [] at h ⊢; rw [applyS_bad h], fun _ => ⟨rfl, rfl⟩⟩
      · have es : stepS x p = (x, ⟨(parseP p.d).er, (parseP p.d).at_, ⟨#[]⟩⟩) := by unfold stepS; rw [if_neg k0, if_pos k1, if_neg he]
        rw [es]
        exact ⟨fun _ => rfl, fun h => by simp only [decide_eq_true_eq] at h; exact absurd h he⟩
    · by_cases k2 : p.kd = 2
      · have eo : offP x p = (0, [], false) := by unfold offP; rw [if_neg (by omega), if_neg (by omega)]
        rw [eo]
        refine ⟨fun _ => ?_, fun h => by cases h⟩
        unfold stepS
        rw [if_neg k0, if_neg k1, if_pos k2]
      · by_cases k3 : p.kd = 3
        · have eo : offP x p = (p.a, x.st, true) := by unfold offP; rw [if_pos k3]
          have es : stepS x p = (applyS { x with st := [] } p.a x.st, ⟨(runP x.N p.a x.st).2.2.1, (runP x.N p.a x.st).2.2.2, ⟨#[]⟩⟩) := by unfold stepS; rw [if_neg k0, if_neg k1, if_neg k2, if_pos k3]
          rw [eo, es]
          exact ⟨fun h => by simp only [] at h ⊢; rw [applyS_bad (y := { x with st := [] }) h], fun _ => ⟨rfl, rfl⟩⟩
        · have eo : offP x p = (0, [], false) := by unfold offP; rw [if_neg k3, if_neg k1]
          rw [eo]
          refine ⟨fun h => ?_, fun h => by cases h⟩
          by_cases k4 : p.kd = 4
          · by_cases hc : x.cu = true
            · have es : stepS x p = ({ { x with cu := false } with N := applyP x.N x.uid x.us }, ⟨(runP x.N x.uid x.us).2.2.1, (runP x.N x.uid x.us).2.2.2, ⟨#[]⟩⟩) := by unfold stepS; rw [if_neg k0, if_neg k1, if_neg k2, if_neg k3, if_pos k4, if_pos hc]
              rw [es] at h ⊢
              simp only [] at h ⊢
              unfold applyP
              rw [if_neg h]
            · unfold stepS
              rw [if_neg k0, if_neg k1, if_neg k2, if_neg k3, if_pos k4, if_neg hc]
          · unfold stepS
            rw [if_neg k0, if_neg k1, if_neg k2, if_neg k3, if_neg k4]
theorem step_len (x : Sn) (p : Opn) : (stepS x p).1.st.length ≤ x.st.length + 1 := by
  have ha : ∀ (y : Sn) (id : Int) (C : List Chg), (applyS y id C).st = y.st := fun y id C => by unfold applyS; split <;> rfl
  unfold stepS
  split
  · split <;> exact Nat.le_succ _
  · split
    · split
      · show (applyS _ _ _).st.length ≤ _; rw [ha]; exact Nat.le_succ _
      · exact Nat.le_succ _
    · split
      · show (x.st ++ [p.c]).length ≤ _; rw [List.length_append]; exact Nat.le_refl _
      · split
        · show (applyS _ _ _).st.length ≤ _; rw [ha]; exact Nat.zero_le _
        · split
          · split <;> exact Nat.le_succ _
          · exact Nat.le_succ _
end Go.Proofs.Qxb6500778a
