import Derived.Test.Qxb6500784aGo
namespace Go.Proofs.Qxb6500784a
open Go.RowKit

/-! ### Plain: the gas of a bundle -/
theorem gasP_r {t : List Int} (h : TxOk t) : 0 ≤ gasP t ∧ gasP t ≤ 300 := by
  have h9 := fld_r h (j := 9) (by omega)
  have e : lim (txk 9) = 256 := by decide
  rw [e] at h9
  unfold gasP
  split
  · omega
  · split
    · omega
    · split
      · omega
      · split
        · omega
        · split <;> omega
theorem appL_gas {l : Led0} {t : List Int} (h : refP l t = 0) (hg : 0 ≤ l.gu ∧ l.gu ≤ l.gl ∧ l.gl ≤ 10000) (ht : TxOk t) : (appL l t).opn = l.opn ∧ (appL l t).gl = l.gl ∧ (appL l t).gu = l.gu + gasP t ∧ l.gu + gasP t ≤ l.gl := by
  have hr := gasP_r ht
  have hC := (ref0 h).2.2.1
  have hw : w64 (l.gu + gasP t) = l.gu + gasP t := by unfold w64; omega
  have hle : l.gu + gasP t ≤ l.gl := by
    unfold refC at hC
    split at hC
    · cases hC
    · split at hC
      · cases hC
      · split at hC
        · cases hC
        · rename_i z; omega
  refine ⟨?_, ?_, ?_, hle⟩
  · unfold appL
    rw [if_neg (by simp [h])]
    split
    · rfl
    · split
      · rfl
      · split
        · rfl
        · split <;> rfl
  · unfold appL
    rw [if_neg (by simp [h])]
    split
    · rfl
    · split
      · rfl
      · split
        · rfl
        · split <;> rfl
  · rw [← hw]
    unfold appL
    rw [if_neg (by simp [h])]
    split
    · rfl
    · split
      · rfl
      · split
        · rfl
        · split <;> rfl
structure GI (P : Pr) : Prop where
  oa : P.la.opn = true
  ob : P.lb.opn = true
  ga : 0 ≤ P.la.gu ∧ P.la.gu ≤ P.la.gl ∧ P.la.gl ≤ 10000
  gb : 0 ≤ P.lb.gu ∧ P.lb.gu ≤ P.lb.gl ∧ P.lb.gl ≤ 10000
theorem legC_ref {P : Pr} {c : Int} {t : List Int} (h : legC P c t = 0) : refP (P.led c) t = 0 := by
  unfold legC at h
  by_cases e : refP (P.led c) t = 0
  · exact e
  · rw [if_pos e] at h; exact absurd h e
theorem legS_led {P : Pr} {c : Int} {t : List Int} (h : refP (P.led c) t = 0) (x : Int) : (legS P c t).led x = ((P.setL c (appL (P.led c) t) (P.sled c))).led x := by
  have hb : ∀ (Q : Pr) (y : Box0) (sv : List Box0), (Q.setB c y sv).led x = Q.led x := fun Q y sv => by
    unfold Pr.setB; split
    · rfl
    · split <;> rfl
  unfold legS
  rw [if_neg (by simp [h])]
  split
  · exact hb _ _ _
  · split
    · exact hb _ _ _
    · rfl
/-- A leg that is accepted. -/
theorem leg_gas {P : Pr} {c : Int} (hc : c = 1 ∨ c = 2) {t : List Int} (ht : TxOk t) (hg : GI P) (h : legC P c t = 0) : GI (legS P c t) ∧ (legS P c t).la.gl = P.la.gl ∧ (legS P c t).lb.gl = P.lb.gl ∧ (legS P c t).la.gu = P.la.gu + (if c = 1 then gasP t else 0) ∧ (legS P c t).lb.gu = P.lb.gu + (if c = 2 then gasP t else 0) := by
  have hr := legC_ref h
  have e1 : (legS P c t).la = _ := legS_led hr 1
  have e2 : (legS P c t).lb = _ := legS_led hr 2
  have hgr := gasP_r ht
  rcases hc with rfl | rfl
  · have hr' : refP P.la t = 0 := hr
    obtain ⟨a1, a2, a3, a4⟩ := appL_gas hr' hg.ga ht
    have e1' : (legS P 1 t).la = appL P.la t := e1
    have e2' : (legS P 1 t).lb = P.lb := e2
    have g := hg.ga
    refine ⟨⟨by rw [e1', a1]; exact hg.oa, by rw [e2']; exact hg.ob, by rw [e1', a2, a3]; omega, by rw [e2']; exact hg.gb⟩, by rw [e1', a2], by rw [e2'], by rw [e1', a3, if_pos rfl], by rw [e2', if_neg (by decide)]; omega⟩
  · have hr' : refP P.lb t = 0 := hr
    obtain ⟨a1, a2, a3, a4⟩ := appL_gas hr' hg.gb ht
    have e1' : (legS P 2 t).la = P.la := e1
    have e2' : (legS P 2 t).lb = appL P.lb t := e2
    have g := hg.gb
    refine ⟨⟨by rw [e1']; exact hg.oa, by rw [e2', a1]; exact hg.ob, by rw [e1']; exact hg.ga, by rw [e2', a2, a3]; omega⟩, by rw [e1'], by rw [e2', a2], by rw [e1', if_neg (by decide)]; omega, by rw [e2', a3, if_pos rfl]⟩
def sumG (f : Nat → Int) : List Nat → Int
  | [] => 0
  | i :: is => f i + sumG f is
theorem sumG_append (f : Nat → Int) : ∀ (a b : List Nat), sumG f (a ++ b) = sumG f a + sumG f b
  | [], b => by simp [sumG]
  | x :: a, b => by rw [List.cons_append, sumG, sumG, sumG_append f a b]; omega
theorem sumG_perm (f : Nat → Int) : ∀ (n : Nat) (l : List Nat), l.Nodup → (∀ x, x ∈ l ↔ x < n) → sumG f l = sumG f (List.range n)
  | 0, l, _, hm => by
    cases l with
    | nil => rfl
    | cons x l => have := (hm x).1 (by simp); omega
  | n + 1, l, hn, hm => by
    obtain ⟨a, b, rfl⟩ := List.append_of_mem ((hm n).2 (by omega))
    have hnd := hn
    rw [List.nodup_append] at hnd
    obtain ⟨na, nb, nab⟩ := hnd
    rw [List.nodup_cons] at nb
    have hab : (a ++ b).Nodup := List.nodup_append.2 ⟨na, nb.2, fun x hx y hy => nab x hx y (by simp [hy])⟩
    have hm' : ∀ x, x ∈ a ++ b ↔ x < n := fun x => by
      constructor
      · intro hx
        have h1 := (hm x).1 (by simp only [List.mem_append, List.mem_cons] at hx ⊢; rcases hx with z | z; exact .inl z; exact .inr (.inr z))
        have h2 : x ≠ n := by
          rintro rfl
          simp only [List.mem_append] at hx
          rcases hx with z | z
          · exact nab x z x (by simp) rfl
          · exact nb.1 z
        omega
      · intro hx
        have h1 := (hm x).2 (by omega)
        simp only [List.mem_append, List.mem_cons] at h1 ⊢
        rcases h1 with z | z | z
        · exact .inl z
        · omega
        · exact .inr z
    have ih := sumG_perm f n (a ++ b) hab hm'
    rw [sumG_append] at ih
    rw [sumG_append, sumG, List.range_succ, sumG_append, ← ih, sumG, sumG]
    omega
def gOn (L : Nat → Leg) (T : Nat → List Int) (c : Int) (i : Nat) : Int := if (L i).ch = c then gasP (T i) else 0
theorem run_gas {L : Nat → Leg} {T : Nat → List Int} : ∀ (is : List Nat) (_ : ∀ i, i ∈ is → ((L i).ch = 1 ∨ (L i).ch = 2) ∧ TxOk (T i)) (P : Pr) (r : Rs), GI P → (runK L T is P r).2.2.1 = 0 →
    GI (runK L T is P r).1 ∧ (runK L T is P r).1.la.gl = P.la.gl ∧ (runK L T is P r).1.lb.gl = P.lb.gl ∧ (runK L T is P r).1.la.gu = P.la.gu + sumG (gOn L T 1) is ∧ (runK L T is P r).1.lb.gu = P.lb.gu + sumG (gOn L T 2) is ∧ (runK L T is P r).2.1.code = r.code ∧ ((0 ≤ r.gas ∧ r.gas < 18446744073709551616) → (runK L T is P r).2.1.gas = (r.gas + sumG (gOn L T 1) is + sumG (gOn L T 2) is) % 18446744073709551616)
  | [], _, P, r, hg, _ => ⟨hg, rfl, rfl, by simp [runK, sumG], by simp [runK, sumG], rfl, fun h => by simp only [runK, sumG]; omega⟩
  | i :: is, hi, P, r, hg, h => by
    obtain ⟨hc, ht⟩ := hi i (by simp)
    rw [runK] at h ⊢
    by_cases hz : legC P (L i).ch (T i) = 0
    · rw [if_pos hz] at h ⊢
      obtain ⟨g1, g2, g3, g4, g5⟩ := leg_gas hc ht hg hz
      obtain ⟨k1, k2, k3, k4, k5, k6, k7⟩ := run_gas is (fun j hj => hi j (by simp [hj])) _ _ g1 h
      have hw := w64_r (r.gas + gasP (T i))
      refine ⟨k1, k2.trans g2, k3.trans g3, ?_, ?_, k6, fun hr => ?_⟩
      · rw [k4, g4, sumG, gOn]; omega
      · rw [k5, g5, sumG, gOn]; omega
      · rw [k7 hw, sumG, sumG]
        show (w64 (r.gas + gasP (T i)) + _ + _) % _ = _
        have : gOn L T 1 i + gOn L T 2 i = gasP (T i) := by
          unfold gOn
          rcases hc with e | e
          · rw [if_pos e, if_neg (by rw [e]; decide)]; omega
          · rw [if_neg (by rw [e]; decide), if_pos e]; omega
        unfold w64
        omega
    · rw [if_neg hz] at h
      exact absurd h hz
theorem gasK_sum {L : Nat → Leg} {T : Nat → List Int} (c : Int) : ∀ (n : Nat), n ≤ 8 → (∀ i, i < n → TxOk (T i)) → gasK L T c n = sumG (gOn L T c) (List.range n) ∧ 0 ≤ gasK L T c n ∧ gasK L T c n ≤ 300 * n
  | 0, _, _ => ⟨rfl, by simp [gasK], by simp [gasK]⟩
  | n + 1, hn, ht => by
    obtain ⟨h1, h2, h3⟩ := gasK_sum c n (by omega) (fun i hi => ht i (by omega))
    have hg := gasP_r (ht n (by omega))
    rw [List.range_succ, sumG_append, ← h1, gasK, sumG, sumG, gOn]
    split
    · refine ⟨by omega, by omega, by omega⟩
    · exact ⟨by omega, h2, by omega⟩
/-- What the helpers foretell. -/
theorem helpers_ok {P : Pr} {n : Nat} {L : Nat → Leg} {T : Nat → List Int} {v : Value} (hg : GI P) (ht : ∀ i, i < n → TxOk (T i)) (h : (simR P n L T v).code = 0) :
    (decide (gasK L T 1 n ≤ (P.la.gl - P.la.gu) % 18446744073709551616) && decide (gasK L T 2 n ≤ (P.lb.gl - P.lb.gu) % 18446744073709551616)) = true ∧ (simR P n L T v).gas = (gasK L T 1 n + gasK L T 2 n) % 18446744073709551616 := by
  by_cases hc : ordCode n L = 0
  · obtain ⟨hn0, hn8, hol, hon, hom, hoc⟩ := ord_facts hc
    by_cases hs : shallow P
    · have hkz : (simK P n L T v).2.2.1 = 0 := by
        apply Classical.byContradiction
        intro e
        have := (sim_fail hc hs (Q := (simK P n L T v).1) (r := (simK P n L T v).2.1) (c := (simK P n L T v).2.2.1) (f := (simK P n L T v).2.2.2) rfl e true).1
        rw [this] at h
        exact e h
      have er : simR P n L T v = { (simK P n L T v).2.1 with ra := rootP (simK P n L T v).1.la, rb := rootP (simK P n L T v).1.lb } := by
        unfold simR
        rw [if_neg (by simp [hc]), if_neg (by simp [hs]), if_neg (by simp [hkz])]
      have go : GI (opened P) := ⟨hg.oa, hg.ob, hg.ga, hg.gb⟩
      obtain ⟨k1, k2, k3, k4, k5, k6, k7⟩ := run_gas (L := L) (T := T) (ordP n L) (fun i hi => ⟨(hoc i (hom i hi)).1, ht i (hom i hi)⟩) (opened P) (res0 (ordI (ordP n L)) v) go hkz
      have hmem : ∀ x, x ∈ ordP n L ↔ x < n := fun x => ⟨hom x, fun hx => all_in hon hol hom hx⟩
      have s1 := sumG_perm (gOn L T 1) n (ordP n L) hon hmem
      have s2 := sumG_perm (gOn L T 2) n (ordP n L) hon hmem
      obtain ⟨q1, q2, q3⟩ := gasK_sum (L := L) 1 n hn8 ht
      obtain ⟨r1, r2, r3⟩ := gasK_sum (L := L) 2 n hn8 ht
      rw [s1, ← q1] at k4 k7
      rw [s2, ← r1] at k5 k7
      have a1 := k1.ga
      have b1 := k1.gb
      rw [k2, k4] at a1
      rw [k3, k5] at b1
      have a2 : P.la.gu + gasK L T 1 n ≤ P.la.gl ∧ P.la.gl ≤ 10000 := a1.2
      have b2 : P.lb.gu + gasK L T 2 n ≤ P.lb.gl ∧ P.lb.gl ≤ 10000 := b1.2
      have a3 := hg.ga
      have b3 := hg.gb
      refine ⟨?_, ?_⟩
      · rw [Bool.and_eq_true, decide_eq_true_eq, decide_eq_true_eq]
        constructor <;> omega
      · rw [er]
        show (simK P n L T v).2.1.gas = _
        have := k7 (by show (0 : Int) ≤ 0 ∧ (0 : Int) < _; omega)
        have e : (simK P n L T v).2.1.gas = ((0 : Int) + gasK L T 1 n + gasK L T 2 n) % 18446744073709551616 := this
        rw [e]
        omega
    · have e2 : simR P n L T v = refR 34 (-1) := by unfold simR; rw [if_neg (by simp [hc]), if_pos hs]
      rw [e2] at h
      cases h
  · have e2 : simR P n L T v = refR (ordCode n L) (-1) := by unfold simR; rw [if_pos hc]
    rw [e2] at h
    exact absurd h hc
end Go.Proofs.Qxb6500784a
