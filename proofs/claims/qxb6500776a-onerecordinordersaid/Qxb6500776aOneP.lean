import Derived.Test.Qxb6500776aDtc
namespace Go.Proofs.Qxb6500776a
open Go.RowKit

def Det.key (d : Det) : Int := d.team * 192 + d.target * 4 + d.sensor
theorem lk_key {B : Brd} {m : Nat} (h : (lkP B (m / 192 : Nat) (m % 192 / 4 : Nat) (m % 4 : Nat)).2 = true) : (lkP B (m / 192 : Nat) (m % 192 / 4 : Nat) (m % 4 : Nat)).1.key = m := by
  obtain ⟨e1, e2, e3, _⟩ := lk_fields h
  unfold Det.key
  rw [e1, e2, e3]
  omega
theorem rep_key (B : Brd) : ∀ n, (repN B n).Pairwise (fun a b => a.key < b.key) ∧ ∀ d ∈ repN B n, d.key < n
  | 0 => by simp [repN]
  | n + 1 => by
    obtain ⟨h1, h2⟩ := rep_key B n
    rw [repN]
    split
    · next hc =>
      have hk := lk_key hc
      refine ⟨?_, fun d hd => ?_⟩
      · rw [List.pairwise_append]
        refine ⟨h1, by simp, fun a ha b hb => ?_⟩
        rw [List.mem_singleton.1 hb, hk]
        exact h2 a ha
      · rcases List.mem_append.1 hd with z | z
        · have := h2 d z; omega
        · rw [List.mem_singleton.1 z, hk]; omega
    · rw [List.append_nil]
      exact ⟨h1, fun d hd => by have := h2 d hd; omega⟩
theorem gr_rng (o t : Shp) (k : Nat) : 1 ≤ grP o t k ∧ grP o t k ≤ 3 := by
  unfold grP
  split
  · unfold rgP; split; omega; split <;> omega
  · unfold pgP; split <;> omega
  · unfold egP; split <;> omega
  · omega
/-- What a record says. -/
structure RecOk (L : List Shp) (B : Brd) (d : Det) (o t : Shp) : Prop where
  ho : o ∈ L
  ht : t ∈ L
  io : o.id = d.obs
  it : t.id = d.target
  lv : liveP o t = true
  tm : o.team = d.team
  ds : d.d = dstP o t
  gr : 1 ≤ d.g ∧ d.g ≤ 3
  lk : lkP B d.team d.target d.sensor = (d, true)
  r1 : 0 ≤ d.team ∧ d.team < 4
  r2 : 0 ≤ d.target ∧ d.target < 48
  r3 : 0 ≤ d.sensor ∧ d.sensor < 4
theorem rec_ok {L : List Shp} {M : List Smk} {B : Brd} (hb : Bd (DF (L.filter Shp.afloat) M) B) {d : Det} (hd : d ∈ repN B 768) : ∃ o t, RecOk L B d o t := by
  obtain ⟨m, hm, h1, rfl⟩ := (rep_mem B d 768).1 hd
  obtain ⟨e1, e2, e3, t0, t1, i0, i1, k0, k1, hs, e4, e5, e6⟩ := lk_fields h1
  obtain ⟨o, t, hD, a1, a2, a3, a4, a5⟩ := hb.some _ _ _ hs
  obtain ⟨hoA, hk, hse, htA, hne⟩ := hD
  rw [List.mem_filter] at hoA htA
  refine ⟨o, t, ⟨hoA.1, htA.1, by rw [e4, a3], by rw [e2, a2]; exact Int.toNat_of_nonneg i0, ?_, by rw [e1, a1]; exact Int.toNat_of_nonneg t0, by rw [e5, a4], by rw [e6, a5]; exact gr_rng o t _, ?_, by rw [e1]; exact ⟨t0, t1⟩, by rw [e2]; exact ⟨i0, i1⟩, by rw [e3]; exact ⟨k0, k1⟩⟩⟩
  · unfold liveP
    simp only [Bool.and_eq_true, bne_iff_ne, ne_eq]
    exact ⟨⟨hoA.2, htA.2⟩, fun e => hne e.symm⟩
  · rw [e1, e2, e3]
    exact Prod.ext rfl h1
/-- The list rises. -/
theorem rep_rise {L : List Shp} {M : List Smk} {B : Brd} (hb : Bd (DF (L.filter Shp.afloat) M) B) {j : Nat} {p d : Det} (hp : (repN B 768)[j]? = some p) (hd : (repN B 768)[j + 1]? = some d) :
    p.team < d.team ∨ (p.team = d.team ∧ (p.target < d.target ∨ (p.target = d.target ∧ p.sensor < d.sensor))) := by
  have hk := (rep_key B 768).1
  rw [List.pairwise_iff_getElem] at hk
  obtain ⟨l1, g1⟩ := List.getElem?_eq_some_iff.1 hp
  obtain ⟨l2, g2⟩ := List.getElem?_eq_some_iff.1 hd
  have h1 := hk j (j + 1) l1 l2 (by omega)
  rw [g1, g2] at h1
  obtain ⟨_, _, q1⟩ := rec_ok hb (List.mem_of_getElem? hp)
  obtain ⟨_, _, q2⟩ := rec_ok hb (List.mem_of_getElem? hd)
  have a1 := q1.r1
  have a2 := q1.r2
  have a3 := q1.r3
  have b1 := q2.r1
  have b2 := q2.r2
  have b3 := q2.r3
  unfold Det.key at h1
  omega
theorem tgt_rep (B : Brd) (T : Int) {i : Nat} (hi : i < 48) : tgtP (repN B 768) T i = if 0 ≤ T ∧ T < 4 then anyK B T.toNat i 4 else false := by
  unfold tgtP
  rw [has_rep, has_rep, has_rep, has_rep]
  by_cases hT : 0 ≤ T ∧ T < 4
  · rw [if_pos hT]
    obtain ⟨t, rfl⟩ : ∃ t : Nat, T = t := ⟨T.toNat, by omega⟩
    have ht : t < 4 := by omega
    have e : ∀ k : Nat, k < 4 → (lkP B t i k).2 = (B t i k).seen := fun k hk => by
      rw [lkP_in B ht hi hk]
      cases (B t i k).seen <;> rfl
    rw [show (lkP B t i 0).2 = _ from e 0 (by omega), show (lkP B t i 1).2 = _ from e 1 (by omega), show (lkP B t i 2).2 = _ from e 2 (by omega), show (lkP B t i 3).2 = _ from e 3 (by omega)]
    simp [anyK]
  · rw [if_neg hT]
    have e : ∀ k : Int, (lkP B T i k).2 = false := fun k => by unfold lkP; rw [if_neg (by omega)]
    rw [e, e, e, e]; rfl
theorem and1_u64 (s m : Nat) (hs : s < 18446744073709551616) : (bits BinOp.and .u64 ((s : Int) / 2 ^ m) 1 == 1) = s.testBit m := by
  have e : ((s : Int) / 2 ^ m) = ((s / 2 ^ m : Nat) : Int) := by simp
  have hlt : s / 2 ^ m < 18446744073709551616 := Nat.lt_of_le_of_lt (Nat.div_le_self _ _) hs
  rw [e, show (1 : Int) = ((1 : Nat) : Int) from rfl, bits_and_u64_nat _ _ hlt (by omega), Nat.and_one_is_mod, Nat.testBit_eq_decide_div_mod_eq]
  rcases Nat.mod_two_eq_zero_or_one (s / 2 ^ m) with h | h <;> rw [h] <;> rfl
end Go.Proofs.Qxb6500776a
