import Derived.Test.Qxb6500778aU2
namespace Go.Proofs.Qxb6500778a
open Go.RowKit

theorem ixR_none : ∀ (K : List Rt) (p l : Int) (i : Nat), (∀ r ∈ K, ¬ (r.pr = p ∧ r.ln = l)) → ixR K p l i = -1
  | [], _, _, _, _ => rfl
  | x :: K, p, l, i, h => by
    rw [ixR, if_neg (h x (List.mem_cons_self ..))]
    exact ixR_none K p l (i + 1) (fun r hr => h r (List.mem_cons_of_mem _ hr))
theorem ixR_some : ∀ (K : List Rt) (p l : Int) (i : Nat), (∃ r ∈ K, r.pr = p ∧ r.ln = l) → ∃ (j : Nat) (r : Rt), ixR K p l i = ((i + j : Nat) : Int) ∧ K[j]? = some r ∧ r.pr = p ∧ r.ln = l
  | [], _, _, _, ⟨_, h, _⟩ => by cases h
  | x :: K, p, l, i, ⟨r, hr, h1, h2⟩ => by
    rw [ixR]
    by_cases hx : x.pr = p ∧ x.ln = l
    · rw [if_pos hx]
      exact ⟨0, x, rfl, rfl, hx.1, hx.2⟩
    · rw [if_neg hx]
      rcases List.mem_cons.1 hr with rfl | hr
      · exact absurd ⟨h1, h2⟩ hx
      · obtain ⟨j, q, e, hq, h3, h4⟩ := ixR_some K p l (i + 1) ⟨r, hr, h1, h2⟩
        exact ⟨j + 1, q, by rw [e]; congr 1; omega, by rw [List.getElem?_cons_succ]; exact hq, h3, h4⟩
theorem hasR_iff {L : List Rt} (hs : SortedR L) (p l : Int) : hasR L p l = true ↔ ∃ r ∈ L, r.pr = p ∧ r.ln = l := by
  constructor
  · intro h
    unfold hasR at h
    cases hq : L[lowR L p l]? with
    | none => rw [hq] at h; cases h
    | some r =>
      rw [hq] at h
      simp only [Bool.and_eq_true, beq_iff_eq] at h
      exact ⟨r, List.mem_of_getElem? hq, h.1, h.2⟩
  · rintro ⟨r, hr, rfl, rfl⟩
    exact find_has (sorted_find L hs r hr) rfl rfl
theorem perm_out {α : Type} {L : List α} {i : Nat} {x : α} (h : L[i]? = some x) : L.Perm (x :: (L.take i ++ L.drop (i + 1))) := by
  obtain ⟨hi, e⟩ := List.getElem?_eq_some_iff.1 h
  have e2 : L = L.take i ++ x :: L.drop (i + 1) := by
    conv => lhs; rw [← List.take_append_drop i L, List.drop_eq_getElem_cons hi, e]
  conv => lhs; rw [e2]
  exact List.perm_middle
/-- the model's change, plain -/
def mchg (M : MN) (c : Chg) : MN × Int :=
  let d := c.dv.toNat
  let at_ := ixR (M.rt d) c.pr c.ln 0
  if c.kd = 0 then
    (if 0 ≤ at_ then (M, 6) else if 64 ≤ (M.rt d).length + (M.ac d).length then (M, 8) else ({ M with rt := upd M.rt d (M.rt d ++ [⟨c.pr, c.ln, c.hp⟩]) }, 0))
  else if c.kd = 1 then
    (if at_ < 0 then (M, 7) else ({ M with rt := upd M.rt d ((M.rt d).take at_.toNat ++ (M.rt d).drop (at_.toNat + 1)) }, 0))
  else if c.kd = 2 then
    (if (M.ac d).length < c.ix.toNat then (M, 7) else if 64 ≤ (M.rt d).length + (M.ac d).length then (M, 8) else ({ M with ac := upd M.ac d ((M.ac d).take c.ix.toNat ++ ⟨c.pm, c.pr, c.ln, c.cl⟩ :: (M.ac d).drop c.ix.toNat) }, 0))
  else if c.kd = 3 then
    (if (M.ac d).length ≤ c.ix.toNat then (M, 7) else ({ M with ac := upd M.ac d ((M.ac d).take c.ix.toNat ++ (M.ac d).drop (c.ix.toNat + 1)) }, 0))
  else if c.kd = 4 then ({ M with lk := upd (upd M.lk d (upd (M.lk d) c.hp.toNat c.up)) c.hp.toNat (upd (upd M.lk d (upd (M.lk d) c.hp.toNat c.up) c.hp.toNat) d c.up) }, 0)
  else ({ M with up := upd M.up d c.up }, 0)
theorem upd_get {α : Type} (f : Nat → α) (d k : Nat) (x : α) : upd f d x k = if k = d then x else f k := rfl
/-- routes: add and delete keep the relation -/
theorem MR.rtUpd {N : Nat → Dv} {M : MN} (h : MR N M) {d : Nat} {K L : List Rt} (hp : K.Perm L) : MR (upd N d { N d with rt := L }) { M with rt := upd M.rt d K } := by
  refine ⟨fun k hk => ?_, fun k hk => ?_, fun k hk => ?_, fun k e hk he => ?_⟩
  · have := h.up k hk
    rw [upd_get]; split
    · rename_i e; subst e; exact this
    · exact this
  · have := h.ac k hk
    rw [upd_get]; split
    · rename_i e; subst e; exact this
    · exact this
  · show (upd M.rt d K k).Perm _
    rw [upd_get, upd_get]; split
    · exact hp
    · exact h.rt k hk
  · have := h.lk k e hk he
    rw [upd_get]; split
    · rename_i e2; subst e2; exact this
    · exact this
theorem MR.acUpd {N : Nat → Dv} {M : MN} (h : MR N M) {d : Nat} (L : List Rl) : MR (upd N d { N d with ac := L }) { M with ac := upd M.ac d L } := by
  refine ⟨fun k hk => ?_, fun k hk => ?_, fun k hk => ?_, fun k e hk he => ?_⟩
  · have := h.up k hk
    rw [upd_get]; split
    · rename_i e; subst e; exact this
    · exact this
  · show upd M.ac d L k = _
    rw [upd_get, upd_get]; split
    · rfl
    · exact h.ac k hk
  · have := h.rt k hk
    rw [upd_get]; split
    · rename_i e; subst e; exact this
    · exact this
  · have := h.lk k e hk he
    rw [upd_get]; split
    · rename_i e2; subst e2; exact this
    · exact this
theorem MR.upUpd {N : Nat → Dv} {M : MN} (h : MR N M) {d : Nat} (b : Bool) : MR (upd N d { N d with up := b }) { M with up := upd M.up d b } := by
  refine ⟨fun k hk => ?_, fun k hk => ?_, fun k hk => ?_, fun k e hk he => ?_⟩
  · show upd M.up d b k = _
    rw [upd_get, upd_get]; split
    · rfl
    · exact h.up k hk
  · have := h.ac k hk
    rw [upd_get]; split
    · rename_i e; subst e; exact this
    · exact this
  · have := h.rt k hk
    rw [upd_get]; split
    · rename_i e; subst e; exact this
    · exact this
  · have := h.lk k e hk he
    rw [upd_get]; split
    · rename_i e2; subst e2; exact this
    · exact this
end Go.Proofs.Qxb6500778a
