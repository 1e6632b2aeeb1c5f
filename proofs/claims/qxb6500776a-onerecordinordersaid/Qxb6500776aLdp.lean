import Derived.Test.Qxb6500776aSwr
namespace Go.Proofs.Qxb6500776a
open Go.RowKit

/-- The scanner's cells while load works: the ships A are in; A1, A2, A3: those that loudest, tallest and pinging have seen. -/
structure LC (C : Nat → Value) (A : List Shp) (v2 : Value) (ld tl : Int) (pg : Bool) (A1 A2 A3 : List Shp) : Prop where
  gh : GH C A
  gsh : GSh C A
  ct : C 1713 = .int .i64 A.length
  c3 : C 1714 = v2
  c4 : C 1715 = .int .i64 ld
  c5 : C 1716 = .int .i64 tl
  c6 : C 1717 = .bool pg
  l0 : 0 ≤ ld ∧ ld ≤ 240
  t0 : 0 ≤ tl ∧ tl ≤ 64
  hl : ∀ t ∈ A1, srcP t ≤ ld
  ht : ∀ t ∈ A2, t.depth = 0 → t.mast ≤ tl
  hp : pg = false → ∀ t ∈ A3, pinP t = false
  n : A.length ≤ 48
section
variable {C : Nat → Value} {A A1 A2 A3 : List Shp} {v2 : Value} {ld tl : Int} {pg : Bool}
theorem GSh.of {C' : Nat → Value} (h : GSh C A) (hn : A.length ≤ 48) (he : ∀ x, 1137 ≤ x → x < 1713 → C' x = C x) : GSh C' A := fun i t ht j v hv => by
  have hi := (List.getElem?_eq_some_iff.1 ht).1
  have hj : j < 12 := (List.getElem?_eq_some_iff.1 hv).1
  rw [he _ (by omega) (by omega)]
  exact h i t ht j v hv
theorem GH.of {C' : Nat → Value} (h : GH C A) (hn : A.length ≤ 48) (he : ∀ x, x < 1137 → C' x = C x) : GH C' A :=
  ⟨fun c hc => by rw [he c (by omega)]; exact h.hd c hc, fun i hi => by rw [he _ (by omega)]; exact h.nx i hi⟩
theorem LC.hi (h : LC C A v2 ld tl pg A1 A2 A3) {C' : Nat → Value} (he : ∀ x, x < 1718 → C' x = C x) : LC C' A v2 ld tl pg A1 A2 A3 :=
  ⟨h.gh.of h.n fun x hx => he x (by omega), h.gsh.of h.n fun x _ hx => he x (by omega), by rw [he _ (by omega)]; exact h.ct, by rw [he _ (by omega)]; exact h.c3, by rw [he _ (by omega)]; exact h.c4, by rw [he _ (by omega)]; exact h.c5, by rw [he _ (by omega)]; exact h.c6, h.l0, h.t0, h.hl, h.ht, h.hp, h.n⟩
theorem LC.ld1 (h : LC C A v2 ld tl pg A1 A2 A3) {v : Int} {t : Shp} (hv : 0 ≤ v ∧ v ≤ 240) (h1 : ld ≤ v) (h2 : srcP t ≤ v) : LC (updC C 1715 (.int .i64 v)) A v2 v tl pg (A1 ++ [t]) A2 A3 :=
  ⟨h.gh.of h.n fun x hx => updC_other _ _ (by omega), h.gsh.of h.n fun x _ hx => updC_other _ _ (by omega), by rw [updC_other _ _ (by omega)]; exact h.ct, by rw [updC_other _ _ (by omega)]; exact h.c3, updC_same _ _ _, by rw [updC_other _ _ (by omega)]; exact h.c5, by rw [updC_other _ _ (by omega)]; exact h.c6, hv, h.t0, fun x hx => by
    rcases List.mem_append.1 hx with z | z
    · exact Int.le_trans (h.hl x z) h1
    · rw [List.mem_singleton.1 z]; exact h2, h.ht, h.hp, h.n⟩
theorem LC.ld0 (h : LC C A v2 ld tl pg A1 A2 A3) {t : Shp} (h2 : srcP t ≤ ld) : LC C A v2 ld tl pg (A1 ++ [t]) A2 A3 :=
  ⟨h.gh, h.gsh, h.ct, h.c3, h.c4, h.c5, h.c6, h.l0, h.t0, fun x hx => by
    rcases List.mem_append.1 hx with z | z
    · exact h.hl x z
    · rw [List.mem_singleton.1 z]; exact h2, h.ht, h.hp, h.n⟩
theorem LC.tl1 (h : LC C A v2 ld tl pg A1 A2 A3) {v : Int} {t : Shp} (hv : 0 ≤ v ∧ v ≤ 64) (h1 : tl ≤ v) (h2 : t.mast ≤ v) : LC (updC C 1716 (.int .i64 v)) A v2 ld v pg A1 (A2 ++ [t]) A3 :=
  ⟨h.gh.of h.n fun x hx => updC_other _ _ (by omega), h.gsh.of h.n fun x _ hx => updC_other _ _ (by omega), by rw [updC_other _ _ (by omega)]; exact h.ct, by rw [updC_other _ _ (by omega)]; exact h.c3, by rw [updC_other _ _ (by omega)]; exact h.c4, updC_same _ _ _, by rw [updC_other _ _ (by omega)]; exact h.c6, h.l0, hv, h.hl, fun x hx hd => by
    rcases List.mem_append.1 hx with z | z
    · exact Int.le_trans (h.ht x z hd) h1
    · rw [List.mem_singleton.1 z]; exact h2, h.hp, h.n⟩
theorem LC.tl0 (h : LC C A v2 ld tl pg A1 A2 A3) {t : Shp} (h2 : t.depth = 0 → t.mast ≤ tl) : LC C A v2 ld tl pg A1 (A2 ++ [t]) A3 :=
  ⟨h.gh, h.gsh, h.ct, h.c3, h.c4, h.c5, h.c6, h.l0, h.t0, h.hl, fun x hx hd => by
    rcases List.mem_append.1 hx with z | z
    · exact h.ht x z hd
    · rw [List.mem_singleton.1 z] at hd ⊢; exact h2 hd, h.hp, h.n⟩
theorem LC.pg1 (h : LC C A v2 ld tl pg A1 A2 A3) (t : Shp) : LC (updC C 1717 (.bool true)) A v2 ld tl true A1 A2 (A3 ++ [t]) :=
  ⟨h.gh.of h.n fun x hx => updC_other _ _ (by omega), h.gsh.of h.n fun x _ hx => updC_other _ _ (by omega), by rw [updC_other _ _ (by omega)]; exact h.ct, by rw [updC_other _ _ (by omega)]; exact h.c3, by rw [updC_other _ _ (by omega)]; exact h.c4, by rw [updC_other _ _ (by omega)]; exact h.c5, updC_same _ _ _, h.l0, h.t0, h.hl, h.ht, fun e => (by cases e), h.n⟩
theorem LC.pg0 (h : LC C A v2 ld tl pg A1 A2 A3) {t : Shp} (h2 : pinP t = false) : LC C A v2 ld tl pg A1 A2 (A3 ++ [t]) :=
  ⟨h.gh, h.gsh, h.ct, h.c3, h.c4, h.c5, h.c6, h.l0, h.t0, h.hl, h.ht, fun e x hx => by
    rcases List.mem_append.1 hx with z | z
    · exact h.hp e x z
    · rw [List.mem_singleton.1 z]; exact h2, h.n⟩
/-- Cells o, o + 1, .. written. -/
def updCs (C : Nat → Value) (o : Nat) : List Value → Nat → Value
  | [] => C
  | v :: r => updCs (updC C o v) (o + 1) r
theorem updCs_lo (r : List Value) : ∀ (C : Nat → Value) (o x : Nat), x < o → updCs C o r x = C x := by
  induction r with
  | nil => intro C o x _; rfl
  | cons v r ih => intro C o x hx; rw [updCs, ih _ _ _ (by omega), updC_other _ _ (by omega)]
theorem updCs_hi (r : List Value) : ∀ (C : Nat → Value) (o x : Nat), o + r.length ≤ x → updCs C o r x = C x := by
  induction r with
  | nil => intro C o x _; rfl
  | cons v r ih => intro C o x hx; simp at hx; rw [updCs, ih _ _ _ (by omega), updC_other _ _ (by omega)]
theorem updCs_at (r : List Value) : ∀ (C : Nat → Value) (o j : Nat) (v : Value), r[j]? = some v → updCs C o r (o + j) = v := by
  induction r with
  | nil => intro C o j v hv; simp at hv
  | cons u r ih =>
    intro C o j v hv
    rw [updCs]
    cases j with
    | zero => simp at hv; rw [updCs_lo _ _ _ _ (by omega), Nat.add_zero, updC_same, hv]
    | succ j => rw [show o + (j + 1) = o + 1 + j by omega]; exact ih _ _ _ _ (by simpa using hv)
theorem CB.sets {s : Nat} : ∀ (r : List Value) {w : World} {C : Nat → Value} (_ : CB w s C) (o : Nat) (_ : o + r.length ≤ 4790), CB (w.setCells s o r) s (updCs C o r)
  | [], _, _, h, _, _ => h
  | v :: r, _, _, h, o, ho => by
    rw [World.setCells, updCs]
    simp at ho
    exact CB.sets r (h.set (by omega) v) (o + 1) (by omega)
/-- The next ship is in: its cells, its chain, the count. -/
theorem LC.push (h : LC C A v2 ld tl pg A1 A2 A3) {t : Shp} (ht : ShpOk t) (hn : A.length < 48) {C1 C2 : Nat → Value} (h1 : C1 = updCs C (1137 + A.length * 12) t.vals) (h2 : C2 = updC (updC C1 (1089 + A.length) (C1 (cel t))) (cel t) (.int .i64 A.length)) :
    LC (updC C2 1713 (.int .i64 (A.length + 1 : Nat))) (A ++ [t]) v2 ld tl pg A1 A2 A3 := by
  have hc := cel_lt ht
  have e1 : ∀ x, x < 1137 → C1 x = C x := fun x hx => by rw [h1, updCs_lo _ _ _ _ (by omega)]
  have e2 : ∀ x, 1713 ≤ x → C1 x = C x := fun x hx => by rw [h1, updCs_hi _ _ _ _ (by rw [Shp.vals_len]; omega)]
  have e3 : ∀ x, 1137 ≤ x → C2 x = C1 x := fun x hx => by rw [h2, updC_other _ _ (by omega), updC_other _ _ (by omega)]
  have gh2 : GH C2 (A ++ [t]) := by
    rw [h2]
    exact (h.gh.of h.n e1).push ht hn
  have gs1 : GSh C1 (A ++ [t]) := fun i t' hi j v hv => by
    have hj : j < 12 := (List.getElem?_eq_some_iff.1 hv).1
    have hl := (List.getElem?_eq_some_iff.1 hi).1
    simp at hl
    rcases (by omega : i < A.length ∨ i = A.length) with z | rfl
    · rw [List.getElem?_append_left z] at hi
      rw [h1, updCs_lo _ _ _ _ (by omega)]
      exact h.gsh i t' hi j v hv
    · simp at hi
      subst hi
      rw [h1]
      exact updCs_at _ _ _ _ _ hv
  have hlen : (A ++ [t]).length = A.length + 1 := by simp
  have rest : ∀ x, 1713 < x → updC C2 1713 (.int .i64 (A.length + 1 : Nat)) x = C x := fun x hx => by rw [updC_other _ _ (by omega), e3 _ (by omega), e2 _ (by omega)]
  refine ⟨gh2.of (by omega) fun x hx => updC_other _ _ (by omega), gs1.of (by omega) fun x h3 h4 => by rw [updC_other _ _ (by omega), e3 _ h3], by rw [updC_same, hlen], ?_, ?_, ?_, ?_, h.l0, h.t0, h.hl, h.ht, h.hp, by omega⟩
  · rw [rest _ (by omega)]; exact h.c3
  · rw [rest _ (by omega)]; exact h.c4
  · rw [rest _ (by omega)]; exact h.c5
  · rw [rest _ (by omega)]; exact h.c6
end
/-- The first n marks of the board are empty. -/
def BZ (C : Nat → Value) (n : Nat) : Prop := ∀ x, x < n → C (1718 + x * 4) = .bool false ∧ C (1718 + x * 4 + 1) = .int .i64 0 ∧ C (1718 + x * 4 + 2) = .int .i64 0 ∧ C (1718 + x * 4 + 3) = .int .i64 0
theorem BZ.next {C : Nat → Value} {n : Nat} (h : BZ C n) {a : Nat} (ha : a = 1718 + n * 4) : BZ (updC (updC (updC (updC C a (.bool false)) (a + 1) (.int .i64 0)) (a + 2) (.int .i64 0)) (a + 3) (.int .i64 0)) (n + 1) := fun x hx => by
  subst ha
  by_cases e : x = n
  · subst e
    refine ⟨?_, ?_, ?_, ?_⟩
    · rw [updC_other _ _ (by omega), updC_other _ _ (by omega), updC_other _ _ (by omega), updC_same]
    · rw [updC_other _ _ (by omega), updC_other _ _ (by omega), updC_same]
    · rw [updC_other _ _ (by omega), updC_same]
    · rw [updC_same]
  · obtain ⟨h1, h2, h3, h4⟩ := h x (by omega)
    refine ⟨?_, ?_, ?_, ?_⟩
    · rw [updC_other _ _ (by omega), updC_other _ _ (by omega), updC_other _ _ (by omega), updC_other _ _ (by omega)]; exact h1
    · rw [updC_other _ _ (by omega), updC_other _ _ (by omega), updC_other _ _ (by omega), updC_other _ _ (by omega)]; exact h2
    · rw [updC_other _ _ (by omega), updC_other _ _ (by omega), updC_other _ _ (by omega), updC_other _ _ (by omega)]; exact h3
    · rw [updC_other _ _ (by omega), updC_other _ _ (by omega), updC_other _ _ (by omega), updC_other _ _ (by omega)]; exact h4
def B0 : Brd := fun _ _ _ => ⟨false, 0, 0, 0⟩
theorem BZ.bb {C : Nat → Value} (h : BZ C 768) : BB C B0 := fun T i k hT hi hk => by
  have e : 1718 + T * 768 + i * 16 + k * 4 = 1718 + (T * 192 + i * 4 + k) * 4 := by omega
  rw [e]
  exact h _ (by omega)
theorem LC.scn {C : Nat → Value} {A : List Shp} {v2 : Value} {ld tl : Int} {pg : Bool} (h : LC C A v2 ld tl pg A A A) (hb : BZ C 768) {w : World} {s : Nat} (hc : CB w s C) {M : List Smk} (hr : SR w v2 M) (hv : v2.ownBlock ≠ some s) (hok : ∀ t ∈ A, ShpOk t) : SCN w s A v2 ld tl pg M B0 :=
  ⟨C, hc, h.gh, h.gsh, ⟨h.c3, h.c4, h.c5, h.c6, h.l0, h.t0, h.hl, h.ht, h.hp⟩, h.ct, hb.bb, hr, hv, hok, h.n⟩
end Go.Proofs.Qxb6500776a
