import Derived.Test.Qxb6500778aQ6
import Derived.Test.Qxb6500778aMB
namespace Go.Proofs.Qxb6500778a
open Go.RowKit

theorem one_sub {s : List Int} {q : Nat} {c : Int} (h : s[q]? = some c) : [c] = (s.drop q).take 1 := by
  rw [drop_cons h]; rfl
theorem wds_all (s : List Int) : ∀ (f o : Nat) (x : Wd), x ∈ wds s f o → x.t ≠ [] ∧ ∃ i n, x.t = (s.drop i).take n
  | 0, _, x, h => by cases h
  | f + 1, o, x, h => by
    rw [wds] at h
    cases hc : s[o + skS false (s.drop o)]? with
    | none => rw [hc] at h; cases h
    | some c =>
      rw [hc] at h
      simp only [] at h
      split at h
      · rename_i hw
        rcases List.mem_cons.1 h with h | h
        · subst h
          refine ⟨fun e => ?_, _, _, rfl⟩
          have h1 := wl_pos hc hw
          have h2 : (List.take (wlW (s.drop (o + skS false (s.drop o)))) (s.drop (o + skS false (s.drop o)))).length = 0 := (congrArg List.length e).trans rfl
          have h3 := wlW_le (s.drop (o + skS false (s.drop o)))
          rw [List.length_take] at h2
          omega
        · exact wds_all s f _ x h
      · rcases List.mem_cons.1 h with h | h
        · subst h
          exact ⟨fun e => (by cases e), _, _, one_sub hc⟩
        · exact wds_all s f _ x h
theorem wds_len (s : List Int) : ∀ (f o : Nat), (wds s f o).length ≤ f
  | 0, _ => Nat.le_refl _
  | f + 1, o => by
    rw [wds]
    cases s[o + skS false (s.drop o)]? with
    | none => simp
    | some c =>
      simp only []
      split
      · rw [List.length_cons]; have := wds_len s f (o + skS false (s.drop o) + wlW (s.drop (o + skS false (s.drop o)))); omega
      · rw [List.length_cons]; have := wds_len s f (o + skS false (s.drop o) + 1); omega
theorem wdsP_len (s : List Int) : (wdsP s).length ≤ s.length + 2 ∧ 0 < (wdsP s).length := by
  unfold wdsP
  have := wds_len s (s.length + 1) 0
  rw [List.length_append]
  simp only [List.length_cons, List.length_nil]
  omega
theorem wdsP_byt {s : List Int} (hb : Byt s) (hl : s.length ≤ 65536) : ∀ x ∈ wdsP s, Byt x.t ∧ x.t.length ≤ 65536 := fun x hx => by
  unfold wdsP at hx
  rcases List.mem_append.1 hx with h | h
  · obtain ⟨_, i, n, e⟩ := wds_all s _ _ x h
    rw [e]
    refine ⟨byt_sub hb i n, ?_⟩
    rw [List.length_take, List.length_drop]
    omega
  · rw [List.mem_singleton.1 h]
    exact ⟨fun c hc => (by cases hc), by simp⟩
theorem wdsP_end (s : List Int) : WEnd (wdsP s) := fun i x hx hne => by
  unfold wdsP at hx ⊢
  rw [List.length_append]
  simp only [List.length_cons, List.length_nil]
  by_cases h : i < (wds s (s.length + 1) 0).length
  · omega
  · rw [List.getElem?_append_right (by omega)] at hx
    have hi := (List.getElem?_eq_some_iff.1 hx).1
    simp only [List.length_cons, List.length_nil] at hi
    rw [show i - (wds s (s.length + 1) 0).length = 0 by omega] at hx
    injection hx with hx
    subst hx
    exact absurd rfl hne
theorem mtP_in {L : List Wd} (hE : WEnd L) (i : Nat) : ∀ (fs : List (List Int)) (j : Nat) (c : Chg) (r tk : Nat), j = i + tk → j < L.length → (∀ f ∈ fs, f ≠ []) → (mtP L fs j c r tk).2.2.2.1 = 0 → i + (mtP L fs j c r tk).2.1 < L.length
  | [], j, c, r, tk, hj, hl, _, _ => by rw [mtP_nil]; show i + tk < _; omega
  | f :: fs, j, c, r, tk, hj, hl, hf, h0 => by
    rw [mtP_cons] at h0 ⊢
    by_cases hz : (slP f L j c).2.2.1 = 0
    · rw [if_pos hz] at h0 ⊢
      exact mtP_in hE i fs _ _ _ _ (by omega) (slP_in hE hl (hf f (List.mem_cons_self ..)) hz) (fun g hg => hf g (List.mem_cons_of_mem _ hg)) h0
    · rw [if_neg hz] at h0
      exact absurd h0 hz
theorem bestN_in {L : List Wd} (hE : WEnd L) {i : Nat} (hi : i < L.length) : ∀ (n : Nat), n ≤ 6 → (bestN L i n).2.2.2.1 = 0 → i + (bestN L i n).2.2.1 < L.length
  | 0, _, _ => hi
  | n + 1, hn, h => by
    rw [bestN] at h ⊢
    unfold bstep at h ⊢
    split
    · rename_i hb
      rw [if_pos hb] at h
      exact mtP_in hE i (shF (n : Int)) i { Chg.zero with kd := (n : Int) } 0 0 rfl hi (shF_ok (k := (n : Int)) ⟨by omega, by omega⟩).2.1 h
    · rename_i hb
      rw [if_neg hb] at h
      exact bestN_in hE hi n (by omega) h
theorem pLoop_succ (L : List Wd) (n i : Nat) (C : List Chg) : pLoop L (n + 1) i C = if (wdAt L i).t = [125] then (0, 0, i, C) else if C.length = 128 then (4, (wdAt L i).q, i, C) else
      if (bestN L i 6).2.2.2.1 = 0 then pLoop L n (i + (bestN L i 6).2.2.1) (C ++ [(bestN L i 6).2.1]) else ((bestN L i 6).2.2.2.1, (bestN L i 6).2.2.2.2, i, C) := rfl
def sliLen : Option Value → Nat
  | some (.slice _ n _) => n
  | _ => 0
/-- what the model's parser answers -/
def PMPost (w : World) (r : Prs) (e : Ending) (w' : World) : Prop :=
  ∃ v, e = .returned (.tuple #[.agg #[.int .i64 r.id, v], .int .i64 r.er, .int .i64 r.at_]) ∧ Ex (fun _ => False) w w' ∧ w'.ownsRow w.heap.size 45 9 v r.cs.length (flatC r.cs)
theorem Ex.frw {S : Nat → Prop} {w w' : World} (e : Ex S w w') {q : Nat} (hq : ¬ S q) (hl : q < w.heap.size) (h : ∀ j, w.frozen? ⟨q, j, none⟩ = false) : ∀ j, w'.frozen? ⟨q, j, none⟩ = false := fun j => (e.frozen hq hl).trans (h j)
end Go.Proofs.Qxb6500778a
