import Derived.Test.Qxb6500777aSc
namespace Go.Proofs.Qxb6500777a

/-! ### Plain of LookupsAgree -/
theorem res_of {T : Tbl} (h : TInv T) {k : Nat} (hk : k < 64) (hu : (T.sl k).used = true) {t : Int} {b : Bool} (r : Res T (T.sl k).tr.num t b) : t = (T.sl k).tg ∧ b = true := by
  cases r with
  | some j hj uj ej =>
    by_cases e : j = k
    · subst e; exact ⟨rfl, rfl⟩
    · exact absurd ej (h.dif j k hj hk e uj hu)
  | none hn => exact absurd rfl (hn k hk hu)
theorem trk_of {T : Tbl} (h : TInv T) {k t : Nat} (hk : k < 64) (hu : (T.sl k).used = true) (ht : (T.sl k).tg = t) {r : Trk} {b : Bool} (q : Trk1 T t r b) : r = (T.sl k).tr ∧ b = true := by
  have hw := h.wh1 k hk hu
  rw [ht, Int.toNat_natCast] at hw
  cases q with
  | some j hj e =>
    have : j = k := by omega
    subst this; exact ⟨rfl, rfl⟩
  | none e => rw [hw] at e; omega
theorem res_ghost {T : Tbl} (h : TInv T) {t : Int} {b : Bool} (r : Res T T.next t b) : b = false := by
  cases r with
  | some j hj uj ej => have := h.num j hj uj; omega
  | none _ => rfl
/-- How many of the first n targets are followed. -/
def folT (T : Tbl) (n : Nat) : Int := sumN (fun t => if T.wh t = -1 then 0 else 1) n
theorem sum_filter (p : Nat → Bool) : ∀ n, sumN (fun k => if p k then 1 else 0) n = ((List.range n).filter p).length
  | 0 => rfl
  | n + 1 => by
    rw [sumN, sum_filter p n, List.range_succ, List.filter_append, List.length_append]
    cases h : p n <;> simp [h]
theorem fol_cnt {T : Tbl} (h : TInv T) : folT T 112 = T.held := by
  have e1 : folT T 112 = ((List.range 112).filter (fun t => decide (T.wh t ≠ -1))).length := by
    rw [← sum_filter]
    refine sum_congr 112 fun t _ => ?_
    by_cases e : T.wh t = -1 <;> simp [e]
  have e2 : T.held = ((List.range 64).filter (fun k => (T.sl k).used)).length := by rw [h.cnt, ← sum_filter]; rfl
  rw [e1, e2]
  have hp : (((List.range 64).filter (fun k => (T.sl k).used)).map (fun k => (T.sl k).tg.toNat)).Perm ((List.range 112).filter (fun t => decide (T.wh t ≠ -1))) := by
    refine (List.perm_ext_iff_of_nodup ?_ ?_).2 fun t => ?_
    · rw [List.nodup_iff_pairwise_ne, List.pairwise_map]
      refine List.Pairwise.imp_of_mem ?_ (List.Pairwise.filter _ (List.nodup_range (n := 64)))
      intro i j hi hj hne e
      rw [List.mem_filter, List.mem_range] at hi hj
      have := h.tgn hi.1
      have := h.tgn hj.1
      exact hne (h.tdif hi.1 hj.1 hi.2 hj.2 (by omega))
    · exact List.Pairwise.filter _ (List.nodup_range (n := 112))
    · rw [List.mem_map, List.mem_filter, List.mem_range]
      constructor
      · rintro ⟨k, hk, rfl⟩
        rw [List.mem_filter, List.mem_range] at hk
        have := h.wh1 k hk.1 hk.2
        exact ⟨(h.tgn hk.1).1, by rw [decide_eq_true_eq, this]; omega⟩
      · rintro ⟨ht, hw⟩
        rw [decide_eq_true_eq] at hw
        rcases h.wh2 t ht with z | ⟨k, hk, z1, z2, z3⟩
        · exact absurd z hw
        · exact ⟨k, by rw [List.mem_filter, List.mem_range]; exact ⟨hk, z2⟩, by rw [z3, Int.toNat_natCast]⟩
  have := hp.length_eq
  rw [List.length_map] at this
  omega
theorem fol_rng (T : Tbl) : ∀ n : Nat, 0 ≤ folT T n ∧ folT T n ≤ n
  | 0 => by simp [folT, sumN]
  | n + 1 => by
    have := fol_rng T n
    have e : folT T (n + 1) = folT T n + (if T.wh n = -1 then 0 else 1) := rfl
    rw [e]
    split <;> omega
theorem fnd_of {L : List Trk} {n t : Int} (r : Fnd L n t) (h : ∃ d ∈ L, d.num = n) : 0 ≤ t := by
  cases r with
  | some k d _ _ => omega
  | none hn =>
    obtain ⟨d, hd, e⟩ := h
    exact absurd e (hn d hd)
end Go.Proofs.Qxb6500777a
