import Derived.Test.Qxb6500784aDa
namespace Go.Proofs.Qxb6500784a
open Go.RowKit

/-! ### What holds of the pair at every step -/
structure Iv (z : Nat) (P : Pr) : Prop where
  gi : GI P
  bd : Bnd z P
  sl : P.sa.length ≤ 8 ∧ P.sb.length ≤ 8 ∧ P.ta.length ≤ 8 ∧ P.tb.length ≤ 8 ∧ P.t1 = []
  xa : ∀ x, x ∈ P.sa → x.mks.length ≤ z
  xb : ∀ x, x ∈ P.sb → x.mks.length ≤ z
  ya : ∀ x, x ∈ P.ta → x.out.length ≤ z ∧ x.inb.length ≤ z
  yb : ∀ x, x ∈ P.tb → x.out.length ≤ z ∧ x.inb.length ≤ z
theorem Bnd.mono {z z' : Nat} {P : Pr} (h : Bnd z P) (hz : z ≤ z') : Bnd z' P := ⟨fun c => Nat.le_trans (h.m c) hz, fun c => Nat.le_trans (h.o c) hz, fun c => Nat.le_trans (h.i c) hz⟩
theorem Iv.mono {z z' : Nat} {P : Pr} (h : Iv z P) (hz : z ≤ z') : Iv z' P :=
  ⟨h.gi, h.bd.mono hz, h.sl, fun x hx => Nat.le_trans (h.xa x hx) hz, fun x hx => Nat.le_trans (h.xb x hx) hz, fun x hx => ⟨Nat.le_trans (h.ya x hx).1 hz, Nat.le_trans (h.ya x hx).2 hz⟩, fun x hx => ⟨Nat.le_trans (h.yb x hx).1 hz, Nat.le_trans (h.yb x hx).2 hz⟩⟩
theorem Bnd.parts {z : Nat} {P : Pr} (h : Bnd z P) : P.la.mks.length ≤ z ∧ P.lb.mks.length ≤ z ∧ (P.ba.out.length ≤ z ∧ P.ba.inb.length ≤ z) ∧ (P.bb.out.length ≤ z ∧ P.bb.inb.length ≤ z) ∧ P.b1.out.length ≤ z ∧ P.b1.inb.length ≤ z :=
  ⟨h.m 1, h.m 2, ⟨h.o 1, h.i 1⟩, ⟨h.o 2, h.i 2⟩, h.o 3, h.i 3⟩
theorem Bnd.of {z : Nat} {P : Pr} (h1 : P.la.mks.length ≤ z) (h2 : P.lb.mks.length ≤ z) (h3 : P.ba.out.length ≤ z ∧ P.ba.inb.length ≤ z) (h4 : P.bb.out.length ≤ z ∧ P.bb.inb.length ≤ z) (h5 : P.b1.out.length ≤ z ∧ P.b1.inb.length ≤ z) : Bnd z P := by
  refine ⟨fun c => ?_, fun c => ?_, fun c => ?_⟩
  · unfold Pr.led; split
    · exact h1
    · exact h2
  · unfold Pr.box; split
    · exact h3.1
    · split
      · exact h4.1
      · exact h5.1
  · unfold Pr.box; split
    · exact h3.2
    · split
      · exact h4.2
      · exact h5.2
theorem Iv.psm {z : Nat} {P : Pr} (h : Iv z P) (hz : z ≤ 800000000000) : PSm P := by
  obtain ⟨b1, b2, b3, b4, b5⟩ := h.bd.parts
  obtain ⟨s1, s2, s3, s4, s5⟩ := h.sl
  have h1 := h.xa
  have h2 := h.xb
  have h3 := h.ya
  have h4 := h.yb
  refine ⟨⟨by omega, fun x hx => by have := h1 x hx; omega, by omega⟩, ⟨by omega, fun x hx => by have := h2 x hx; omega, by omega⟩, ⟨⟨by omega, by omega⟩, fun x hx => by have := h3 x hx; omega, by omega⟩, ⟨⟨by omega, by omega⟩, fun x hx => by have := h4 x hx; omega, by omega⟩, ⟨⟨by omega, by omega⟩, fun x hx => (by rw [s5] at hx; cases hx), (by rw [s5]; simp)⟩⟩
theorem iv0 : Iv 0 pr0 := by
  refine ⟨⟨rfl, rfl, ?_, ?_⟩, Bnd.of (Nat.le_refl _) (Nat.le_refl _) ⟨Nat.le_refl _, Nat.le_refl _⟩ ⟨Nat.le_refl _, Nat.le_refl _⟩ ⟨Nat.le_refl _, Nat.le_refl _⟩, ⟨by show 0 ≤ 8; omega, by show 0 ≤ 8; omega, by show 0 ≤ 8; omega, by show 0 ≤ 8; omega, rfl⟩, fun x hx => absurd hx List.not_mem_nil, fun x hx => absurd hx List.not_mem_nil, fun x hx => absurd hx List.not_mem_nil, fun x hx => absurd hx List.not_mem_nil⟩
  · show (0 : Int) ≤ 0 ∧ (0 : Int) ≤ 10000 ∧ (10000 : Int) ≤ 10000; omega
  · show (0 : Int) ≤ 0 ∧ (0 : Int) ≤ 10000 ∧ (10000 : Int) ≤ 10000; omega
theorem run_bnd {L : Nat → Leg} {T : Nat → List Int} : ∀ (is : List Nat) (z : Nat) (P : Pr) (r : Rs), Bnd z P → Bnd (z + (is.length + 1)) (runK L T is P r).1
  | [], z, P, r, h => h.mono (by omega)
  | i :: is, z, P, r, h => by
    rw [runK]
    split
    · have := run_bnd (L := L) (T := T) is (z + 1) _ (legR P (L i).ch (T i) r) (bnd_step h (L i).ch (T i))
      exact this.mono (by simp; omega)
    · exact (bnd_step h _ _).mono (by omega)
theorem iv_sim {z : Nat} {P : Pr} {n : Nat} {L : Nat → Leg} {T : Nat → List Int} (h : Iv z P) (ht : ∀ i, i < n → TxOk (T i)) (kp : Bool) : Iv (z + 9) (simS kp P n L T) := by
  unfold simS
  split
  · rename_i hh
    obtain ⟨_, hc, hs, hk⟩ := hh
    obtain ⟨hn0, hn8, hol, hon, hom, hoc⟩ := ord_facts hc
    have go : GI (opened P) := ⟨h.gi.oa, h.gi.ob, h.gi.ga, h.gi.gb⟩
    obtain ⟨k1, _⟩ := run_gas (L := L) (T := T) (ordP n L) (fun i hi => ⟨(hoc i (hom i hi)).1, ht i (hom i hi)⟩) (opened P) (res0 (ordI (ordP n L)) nilS) go hk
    have b1 := run_bnd (L := L) (T := T) (ordP n L) z (opened P) (res0 (ordI (ordP n L)) nilS) (bnd_open h.bd)
    have b2 : Bnd (z + 9) (simK P n L T nilS).1 := b1.mono (by omega)
    obtain ⟨p1, p2, p3, p4, p5⟩ := b2.parts
    have m := h.mono (show z ≤ z + 9 by omega)
    have k6 := (runK_keep (L := L) (T := T) (ordP n L) (fun i hi => (hoc i (hom i hi)).1) (opened P) (res0 (ordI (ordP n L)) nilS))
    have t1 : (simK P n L T nilS).1.t1 = P.t1 := k6.2.2.2.2.2
    exact ⟨⟨k1.oa, k1.ob, k1.ga, k1.gb⟩, Bnd.of p1 p2 p3 p4 p5, ⟨h.sl.1, h.sl.2.1, h.sl.2.2.1, h.sl.2.2.2.1, by show (simK P n L T nilS).1.t1 = []; rw [t1]; exact h.sl.2.2.2.2⟩, m.xa, m.xb, m.ya, m.yb⟩
  · exact h.mono (by omega)
theorem iv_dep {z : Nat} {P : Pr} {d rc tk am : Int} (h : Iv z P) : Iv (z + 9) (depS P d rc tk am) := by
  unfold depS
  split
  · obtain ⟨p1, p2, p3, p4, p5⟩ := h.bd.parts
    have m := h.mono (show z ≤ z + 9 by omega)
    refine ⟨⟨h.gi.oa, h.gi.ob, h.gi.ga, h.gi.gb⟩, Bnd.of (by show P.la.mks.length ≤ _; omega) (by show P.lb.mks.length ≤ _; omega) (by show P.ba.out.length ≤ _ ∧ P.ba.inb.length ≤ _; omega) (by show P.bb.out.length ≤ _ ∧ P.bb.inb.length ≤ _; omega) ?_, h.sl, m.xa, m.xb, m.ya, m.yb⟩
    show (sndB P.b1 _).out.length ≤ _ ∧ (sndB P.b1 _).inb.length ≤ _
    unfold sndB
    split
    · omega
    · simp only [sentB, List.length_append, List.length_cons, List.length_nil]; omega
  · exact h.mono (by omega)
theorem iv_next {z : Nat} {P : Pr} {g : Int} (hg : 0 ≤ g) (h : Iv z P) : Iv (z + 9) (nextS P g) := by
  unfold nextS
  split
  · rename_i hc
    have hg2 : 0 < g ∧ g ≤ 10000 := by
      unfold nextC at hc
      split at hc
      · cases hc
      · rename_i z; omega
    obtain ⟨p1, p2, p3, p4, p5⟩ := h.bd.parts
    have m := h.mono (show z ≤ z + 9 by omega)
    exact ⟨⟨rfl, rfl, by show (0 : Int) ≤ 0 ∧ 0 ≤ g ∧ g ≤ 10000; omega, by show (0 : Int) ≤ 0 ∧ 0 ≤ g ∧ g ≤ 10000; omega⟩, Bnd.of (by show P.la.mks.length ≤ _; omega) (by show P.lb.mks.length ≤ _; omega) (by show P.ba.out.length ≤ _ ∧ P.ba.inb.length ≤ _; omega) (by show P.bb.out.length ≤ _ ∧ P.bb.inb.length ≤ _; omega) (by show P.b1.out.length ≤ _ ∧ P.b1.inb.length ≤ _; omega), h.sl, m.xa, m.xb, m.ya, m.yb⟩
  · exact h.mono (by omega)
theorem push_len {α : Type} {l : List α} {x : α} (h : l.length ≤ 8) : (if 8 ≤ l.length then l else l ++ [x]).length ≤ 8 := by
  split
  · exact h
  · simp; omega
theorem push_mem {α : Type} {l : List α} {x y : α} (h : y ∈ if 8 ≤ l.length then l else l ++ [x]) : y ∈ l ∨ y = x := by
  split at h
  · exact .inl h
  · simpa using h
theorem iv_dp {z : Nat} {P : Pr} {kd ch pt : Int} (h : Iv z P) : Iv (z + 9) (dpS P kd ch pt) := by
  have m := h.mono (show z ≤ z + 9 by omega)
  obtain ⟨p1, p2, p3, p4, p5⟩ := m.bd.parts
  obtain ⟨s1, s2, s3, s4, s5⟩ := h.sl
  have dl : ∀ {α : Type} (l : List α), l.length ≤ 8 → l.dropLast.length ≤ 8 := fun l hl => by rw [List.length_dropLast]; omega
  have A : ∀ sv : List Led0, sv.length ≤ 8 → (∀ x, x ∈ sv → x.mks.length ≤ z + 9) → Iv (z + 9) { P with sa := sv } := fun sv h1 h2 => ⟨⟨m.gi.oa, m.gi.ob, m.gi.ga, m.gi.gb⟩, Bnd.of p1 p2 p3 p4 p5, ⟨h1, s2, s3, s4, s5⟩, h2, m.xb, m.ya, m.yb⟩
  have B : ∀ sv : List Led0, sv.length ≤ 8 → (∀ x, x ∈ sv → x.mks.length ≤ z + 9) → Iv (z + 9) { P with sb := sv } := fun sv h1 h2 => ⟨⟨m.gi.oa, m.gi.ob, m.gi.ga, m.gi.gb⟩, Bnd.of p1 p2 p3 p4 p5, ⟨s1, h1, s3, s4, s5⟩, m.xa, h2, m.ya, m.yb⟩
  have C : ∀ sv : List Box0, sv.length ≤ 8 → (∀ x, x ∈ sv → x.out.length ≤ z + 9 ∧ x.inb.length ≤ z + 9) → Iv (z + 9) { P with ta := sv } := fun sv h1 h2 => ⟨⟨m.gi.oa, m.gi.ob, m.gi.ga, m.gi.gb⟩, Bnd.of p1 p2 p3 p4 p5, ⟨s1, s2, h1, s4, s5⟩, m.xa, m.xb, h2, m.yb⟩
  have D : ∀ sv : List Box0, sv.length ≤ 8 → (∀ x, x ∈ sv → x.out.length ≤ z + 9 ∧ x.inb.length ≤ z + 9) → Iv (z + 9) { P with tb := sv } := fun sv h1 h2 => ⟨⟨m.gi.oa, m.gi.ob, m.gi.ga, m.gi.gb⟩, Bnd.of p1 p2 p3 p4 p5, ⟨s1, s2, s3, h1, s5⟩, m.xa, m.xb, m.ya, h2⟩
  unfold dpS
  split
  · exact m
  · rename_i hc
    have hcc : ch = 1 ∨ ch = 2 := Classical.not_not.1 hc
    rcases hcc with rfl | rfl
    · split
      · split
        · exact A _ (push_len s1) (fun x hx => (push_mem hx).elim (m.xa x) (fun e => by rw [e]; exact p1))
        · exact C _ (push_len s3) (fun x hx => (push_mem hx).elim (m.ya x) (fun e => by rw [e]; exact p3))
      · split
        · exact A _ (dl _ s1) (fun x hx => m.xa x (List.dropLast_subset _ hx))
        · exact C _ (dl _ s3) (fun x hx => m.ya x (List.dropLast_subset _ hx))
    · split
      · split
        · exact B _ (push_len s2) (fun x hx => (push_mem hx).elim (m.xb x) (fun e => by rw [e]; exact p2))
        · exact D _ (push_len s4) (fun x hx => (push_mem hx).elim (m.yb x) (fun e => by rw [e]; exact p4))
      · split
        · exact B _ (dl _ s2) (fun x hx => m.xb x (List.dropLast_subset _ hx))
        · exact D _ (dl _ s4) (fun x hx => m.yb x (List.dropLast_subset _ hx))
theorem iv_step {z : Nat} {P : Pr} {kd : Int} {n : Nat} {L : Nat → Leg} {T : Nat → List Int} {ch pt gs ac tk am : Int} (h : Iv z P) (ht : ∀ i, i < n → TxOk (T i)) (hg : 0 ≤ gs) : Iv (z + 9) (stepS P kd n L T ch pt gs ac tk am) := by
  unfold stepS
  split
  · exact iv_sim h ht true
  · split
    · exact iv_dep h
    · split
      · exact iv_next hg h
      · split
        · exact iv_dp h
        · exact h.mono (by omega)
end Go.Proofs.Qxb6500784a
