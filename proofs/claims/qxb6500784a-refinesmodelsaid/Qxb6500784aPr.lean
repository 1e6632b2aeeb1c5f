import Derived.Test.Qxb6500784aBx
namespace Go.Proofs.Qxb6500784a
open Go.RowKit

/-! ### The pair -/
structure Pr where
  la : Led0
  sa : List Led0
  lb : Led0
  sb : List Led0
  ba : Box0
  ta : List Box0
  bb : Box0
  tb : List Box0
  b1 : Box0
  t1 : List Box0
def upd (f : Nat → List Nat) (i : Nat) (B : List Nat) : Nat → List Nat := fun j => if j = i then B else f j
structure PA (w : World) (b : Nat) (P : Pr) (f : Nat → List Nat) : Prop where
  pa : LA w b 0 P.la P.sa (f 0)
  pb : LA w b 326 P.lb P.sb (f 1)
  pc : BA w b 652 P.ba P.ta (f 2)
  pd : BA w b 657 P.bb P.tb (f 3)
  pe : BA w b 662 P.b1 P.t1 (f 4)
  dj : ∀ i j, i < 5 → j < 5 → i ≠ j → ∀ k, k ∈ f i → k ∉ f j
def PP (w : World) (b : Nat) (P : Pr) (S : List Nat) : Prop := ∃ f, PA w b P f ∧ S = f 0 ++ (f 1 ++ (f 2 ++ (f 3 ++ f 4)))
def PStep (w : World) (b : Nat) (S : List Nat) (P' : Pr) (w' : World) : Prop :=
  Ex (fun k => k = b ∨ k ∈ S) w w' ∧ ∃ S', PP w' b P' S' ∧ ∀ k, k ∈ S' → k ∈ S ∨ w.heap.size ≤ k
theorem mem5 {f : Nat → List Nat} {k : Nat} : k ∈ f 0 ++ (f 1 ++ (f 2 ++ (f 3 ++ f 4))) ↔ ∃ i, i < 5 ∧ k ∈ f i := by
  simp only [List.mem_append]
  constructor
  · rintro (h | h | h | h | h)
    · exact ⟨0, by omega, h⟩
    · exact ⟨1, by omega, h⟩
    · exact ⟨2, by omega, h⟩
    · exact ⟨3, by omega, h⟩
    · exact ⟨4, by omega, h⟩
  · rintro ⟨i, hi, h⟩
    rcases (by omega : i = 0 ∨ i = 1 ∨ i = 2 ∨ i = 3 ∨ i = 4) with rfl | rfl | rfl | rfl | rfl
    · exact .inl h
    · exact .inr (.inl h)
    · exact .inr (.inr (.inl h))
    · exact .inr (.inr (.inr (.inl h)))
    · exact .inr (.inr (.inr (.inr h)))
theorem PA.lt {w : World} {b : Nat} {P : Pr} {f : Nat → List Nat} (h : PA w b P f) {i k : Nat} (hi : i < 5) (hk : k ∈ f i) : k < w.heap.size := by
  rcases (by omega : i = 0 ∨ i = 1 ∨ i = 2 ∨ i = 3 ∨ i = 4) with rfl | rfl | rfl | rfl | rfl
  · exact h.pa.lt hk
  · exact h.pb.lt hk
  · exact h.pc.lt hk
  · exact h.pd.lt hk
  · exact h.pe.lt hk
theorem PA.nb {w : World} {b : Nat} {P : Pr} {f : Nat → List Nat} (h : PA w b P f) {i : Nat} (hi : i < 5) : b ∉ f i := by
  rcases (by omega : i = 0 ∨ i = 1 ∨ i = 2 ∨ i = 3 ∨ i = 4) with rfl | rfl | rfl | rfl | rfl
  · exact h.pa.bl.2
  · exact h.pb.bl.2
  · exact h.pc.bl.2
  · exact h.pd.bl.2
  · exact h.pe.bl.2
theorem upd_same (f : Nat → List Nat) (i : Nat) (B : List Nat) : upd f i B i = B := by simp [upd]
theorem upd_ne (f : Nat → List Nat) {i j : Nat} (B : List Nat) (h : j ≠ i) : upd f i B j = f j := by simp [upd, h]
theorem upd_dj {w : World} {b : Nat} {P : Pr} {f : Nat → List Nat} (h : PA w b P f) {i : Nat} (hi : i < 5) {B : List Nat} (hB : ∀ j, j ∈ B → j ∈ f i ∨ w.heap.size ≤ j) : ∀ x y, x < 5 → y < 5 → x ≠ y → ∀ k, k ∈ upd f i B x → k ∉ upd f i B y := by
  intro x y hx hy hne k h1 h2
  by_cases e1 : x = i
  · subst e1
    rw [upd_same] at h1
    rw [upd_ne _ _ (fun e => hne e.symm)] at h2
    rcases hB k h1 with z | z
    · exact h.dj x y hx hy hne k z h2
    · have := h.lt hy h2; omega
  · rw [upd_ne _ _ e1] at h1
    by_cases e2 : y = i
    · subst e2
      rw [upd_same] at h2
      rcases hB k h2 with z | z
      · exact h.dj x y hx hy hne k h1 z
      · have := h.lt hx h1; omega
    · rw [upd_ne _ _ e2] at h2
      exact h.dj x y hx hy hne k h1 h2
theorem PStep.mk' {w w' : World} {b : Nat} {P P' : Pr} {f : Nat → List Nat} {o n : Nat} {i : Nat} (hi : i < 5) {B : List Nat} (_ : PA w b P f) (hg : Cg b o n (f i) w w') (hB : ∀ j, j ∈ B → j ∈ f i ∨ w.heap.size ≤ j) (h' : PA w' b P' (upd f i B)) : PStep w b (f 0 ++ (f 1 ++ (f 2 ++ (f 3 ++ f 4)))) P' w' := by
  refine ⟨hg.ex.mono fun k hk => hk.imp id fun z => mem5.2 ⟨i, hi, z⟩, _, ⟨_, h', rfl⟩, fun k hk => ?_⟩
  obtain ⟨j, hj, hk⟩ := mem5.1 hk
  by_cases e : j = i
  · subst e
    rw [upd_same] at hk
    exact (hB k hk).imp (fun z => mem5.2 ⟨j, hj, z⟩) id
  · rw [upd_ne _ _ e] at hk
    exact .inl (mem5.2 ⟨j, hj, hk⟩)
theorem PP.onA {w : World} {b : Nat} {P : Pr} {S : List Nat} (h : PP w b P S) : ∃ B, LA w b 0 P.la P.sa B ∧ ∀ l' sv' v e w', LStep w b 0 B v l' sv' e w' → e = .returned v ∧ PStep w b S { P with la := l', sa := sv' } w' := by
  obtain ⟨f, h, rfl⟩ := h
  refine ⟨f 0, h.pa, fun l' sv' v e w' ⟨h1, hg, B', h2, hB⟩ => ⟨h1, PStep.mk' (by omega) h hg hB ?_⟩⟩
  have dj : ∀ i, i < 5 → i ≠ 0 → ∀ j, j ∈ f i → j ∉ f 0 ∧ j ≠ b := fun i hi hn j hj => ⟨h.dj i 0 hi (by omega) hn j hj, fun e => h.nb hi (e ▸ hj)⟩
  exact ⟨h2, h.pb.keep hg (.inr (.inr (by omega))) (dj 1 (by omega) (by omega)) (h.nb (i := 0) (by omega)), h.pc.keep hg (.inr (.inr (by omega))) (dj 2 (by omega) (by omega)) (h.nb (i := 0) (by omega)), h.pd.keep hg (.inr (.inr (by omega))) (dj 3 (by omega) (by omega)) (h.nb (i := 0) (by omega)), h.pe.keep hg (.inr (.inr (by omega))) (dj 4 (by omega) (by omega)) (h.nb (i := 0) (by omega)), upd_dj h (by omega) hB⟩
theorem PP.onB {w : World} {b : Nat} {P : Pr} {S : List Nat} (h : PP w b P S) : ∃ B, LA w b 326 P.lb P.sb B ∧ ∀ l' sv' v e w', LStep w b 326 B v l' sv' e w' → e = .returned v ∧ PStep w b S { P with lb := l', sb := sv' } w' := by
  obtain ⟨f, h, rfl⟩ := h
  refine ⟨f 1, h.pb, fun l' sv' v e w' ⟨h1, hg, B', h2, hB⟩ => ⟨h1, PStep.mk' (by omega) h hg hB ?_⟩⟩
  have dj : ∀ i, i < 5 → i ≠ 1 → ∀ j, j ∈ f i → j ∉ f 1 ∧ j ≠ b := fun i hi hn j hj => ⟨h.dj i 1 hi (by omega) hn j hj, fun e => h.nb hi (e ▸ hj)⟩
  exact ⟨h.pa.keep hg (.inr (.inl (by omega))) (dj 0 (by omega) (by omega)) (h.nb (i := 1) (by omega)), h2, h.pc.keep hg (.inr (.inr (by omega))) (dj 2 (by omega) (by omega)) (h.nb (i := 1) (by omega)), h.pd.keep hg (.inr (.inr (by omega))) (dj 3 (by omega) (by omega)) (h.nb (i := 1) (by omega)), h.pe.keep hg (.inr (.inr (by omega))) (dj 4 (by omega) (by omega)) (h.nb (i := 1) (by omega)), upd_dj h (by omega) hB⟩
theorem PP.onC {w : World} {b : Nat} {P : Pr} {S : List Nat} (h : PP w b P S) : ∃ B, BA w b 652 P.ba P.ta B ∧ ∀ l' sv' v e w', BStep w b 652 B v l' sv' e w' → e = .returned v ∧ PStep w b S { P with ba := l', ta := sv' } w' := by
  obtain ⟨f, h, rfl⟩ := h
  refine ⟨f 2, h.pc, fun l' sv' v e w' ⟨h1, hg, B', h2, hB⟩ => ⟨h1, PStep.mk' (by omega) h hg hB ?_⟩⟩
  have dj : ∀ i, i < 5 → i ≠ 2 → ∀ j, j ∈ f i → j ∉ f 2 ∧ j ≠ b := fun i hi hn j hj => ⟨h.dj i 2 hi (by omega) hn j hj, fun e => h.nb hi (e ▸ hj)⟩
  exact ⟨h.pa.keep hg (.inr (.inl (by omega))) (dj 0 (by omega) (by omega)) (h.nb (i := 2) (by omega)), h.pb.keep hg (.inr (.inl (by omega))) (dj 1 (by omega) (by omega)) (h.nb (i := 2) (by omega)), h2, h.pd.keep hg (.inr (.inr (by omega))) (dj 3 (by omega) (by omega)) (h.nb (i := 2) (by omega)), h.pe.keep hg (.inr (.inr (by omega))) (dj 4 (by omega) (by omega)) (h.nb (i := 2) (by omega)), upd_dj h (by omega) hB⟩
theorem PP.onD {w : World} {b : Nat} {P : Pr} {S : List Nat} (h : PP w b P S) : ∃ B, BA w b 657 P.bb P.tb B ∧ ∀ l' sv' v e w', BStep w b 657 B v l' sv' e w' → e = .returned v ∧ PStep w b S { P with bb := l', tb := sv' } w' := by
  obtain ⟨f, h, rfl⟩ := h
  refine ⟨f 3, h.pd, fun l' sv' v e w' ⟨h1, hg, B', h2, hB⟩ => ⟨h1, PStep.mk' (by omega) h hg hB ?_⟩⟩
  have dj : ∀ i, i < 5 → i ≠ 3 → ∀ j, j ∈ f i → j ∉ f 3 ∧ j ≠ b := fun i hi hn j hj => ⟨h.dj i 3 hi (by omega) hn j hj, fun e => h.nb hi (e ▸ hj)⟩
  exact ⟨h.pa.keep hg (.inr (.inl (by omega))) (dj 0 (by omega) (by omega)) (h.nb (i := 3) (by omega)), h.pb.keep hg (.inr (.inl (by omega))) (dj 1 (by omega) (by omega)) (h.nb (i := 3) (by omega)), h.pc.keep hg (.inr (.inl (by omega))) (dj 2 (by omega) (by omega)) (h.nb (i := 3) (by omega)), h2, h.pe.keep hg (.inr (.inr (by omega))) (dj 4 (by omega) (by omega)) (h.nb (i := 3) (by omega)), upd_dj h (by omega) hB⟩
theorem PP.onE {w : World} {b : Nat} {P : Pr} {S : List Nat} (h : PP w b P S) : ∃ B, BA w b 662 P.b1 P.t1 B ∧ ∀ l' sv' v e w', BStep w b 662 B v l' sv' e w' → e = .returned v ∧ PStep w b S { P with b1 := l', t1 := sv' } w' := by
  obtain ⟨f, h, rfl⟩ := h
  refine ⟨f 4, h.pe, fun l' sv' v e w' ⟨h1, hg, B', h2, hB⟩ => ⟨h1, PStep.mk' (by omega) h hg hB ?_⟩⟩
  have dj : ∀ i, i < 5 → i ≠ 4 → ∀ j, j ∈ f i → j ∉ f 4 ∧ j ≠ b := fun i hi hn j hj => ⟨h.dj i 4 hi (by omega) hn j hj, fun e => h.nb hi (e ▸ hj)⟩
  exact ⟨h.pa.keep hg (.inr (.inl (by omega))) (dj 0 (by omega) (by omega)) (h.nb (i := 4) (by omega)), h.pb.keep hg (.inr (.inl (by omega))) (dj 1 (by omega) (by omega)) (h.nb (i := 4) (by omega)), h.pc.keep hg (.inr (.inl (by omega))) (dj 2 (by omega) (by omega)) (h.nb (i := 4) (by omega)), h.pd.keep hg (.inr (.inl (by omega))) (dj 3 (by omega) (by omega)) (h.nb (i := 4) (by omega)), h2, upd_dj h (by omega) hB⟩
theorem PP.below {w w' : World} {b : Nat} {P : Pr} {S : List Nat} (h : PP w b P S) (k : Below w.heap.size w w') : PP w' b P S := by
  obtain ⟨f, h, rfl⟩ := h
  exact ⟨f, ⟨h.pa.below k, h.pb.below k, h.pc.below k, h.pd.below k, h.pe.below k, h.dj⟩, rfl⟩
theorem PP.lt {w : World} {b : Nat} {P : Pr} {S : List Nat} (h : PP w b P S) {k : Nat} (hk : k ∈ S) : k < w.heap.size := by
  obtain ⟨f, h, rfl⟩ := h
  obtain ⟨i, hi, hk⟩ := mem5.1 hk
  exact h.lt hi hk
theorem PP.bl {w : World} {b : Nat} {P : Pr} {S : List Nat} (h : PP w b P S) : b < w.heap.size := by
  obtain ⟨f, h, rfl⟩ := h
  exact h.pa.bl.1
theorem PStep.refl {w : World} {b : Nat} {P : Pr} {S : List Nat} (h : PP w b P S) : PStep w b S P w := ⟨Ex.refl _ _, S, h, fun _ hk => .inl hk⟩
theorem PStep.of {w w' : World} {b : Nat} {P : Pr} {S : List Nat} (h : PP w b P S) (k : Below w.heap.size w w') : PStep w b S P w' := ⟨Ex.of k, S, h.below k, fun _ hk => .inl hk⟩
/-- One step after another. -/
theorem PStep.bind {w w' w'' : World} {b : Nat} {P' P'' : Pr} {S : List Nat} (h : PStep w b S P' w') (k : ∀ S', PP w' b P' S' → PStep w' b S' P'' w'') : PStep w b S P'' w'' := by
  obtain ⟨ex, S', h', hS⟩ := h
  obtain ⟨ex2, S'', h'', hS2⟩ := k S' h'
  refine ⟨ex.trans2 ex2 fun j hj => ?_, S'', h'', fun j hj => ?_⟩
  · rcases hj with rfl | hj
    · exact .inl (.inl rfl)
    · exact (hS j hj).imp .inr id
  · rcases hS2 j hj with z | z
    · exact hS j z
    · right; have := ex.size; omega
theorem PStep.below {w w' w'' : World} {b : Nat} {P' : Pr} {S : List Nat} (h : PStep w b S P' w') (k : Below w'.heap.size w' w'') : PStep w b S P' w'' := h.bind fun _ h' => PStep.of h' k
/-- What holds between the beginning and now. -/
def Link (w : World) (b : Nat) (S : List Nat) (w' : World) (S' : List Nat) : Prop := Ex (fun k => k = b ∨ k ∈ S) w w' ∧ ∀ k, k ∈ S' → k ∈ S ∨ w.heap.size ≤ k
theorem Link.refl (w : World) (b : Nat) (S : List Nat) : Link w b S w S := ⟨Ex.refl _ _, fun _ h => .inl h⟩
theorem PStep.out {w w' : World} {b : Nat} {S : List Nat} {P' : Pr} (h : PStep w b S P' w') : ∃ S', Link w b S w' S' ∧ PP w' b P' S' := by
  obtain ⟨h1, S', h2, h3⟩ := h
  exact ⟨S', ⟨h1, h3⟩, h2⟩
theorem Link.trans {w w' w'' : World} {b : Nat} {S S' S'' : List Nat} (h : Link w b S w' S') (k : Link w' b S' w'' S'') : Link w b S w'' S'' := by
  refine ⟨h.1.trans2 k.1 fun j hj => ?_, fun j hj => ?_⟩
  · rcases hj with rfl | hj
    · exact .inl (.inl rfl)
    · exact (h.2 j hj).imp .inr id
  · rcases k.2 j hj with z | z
    · exact h.2 j z
    · right; have := h.1.size; omega
theorem Link.below {w w' w'' : World} {b : Nat} {S S' : List Nat} (h : Link w b S w' S') (k : Below w'.heap.size w' w'') : Link w b S w'' S' := h.trans ⟨Ex.of k, fun _ h => .inl h⟩
theorem Link.step {w w' : World} {b : Nat} {S S' : List Nat} {P' : Pr} (h : Link w b S w' S') (k : PP w' b P' S') : PStep w b S P' w' := ⟨h.1, S', k, h.2⟩
/-- The lists' lengths. -/
def PSm (P : Pr) : Prop := SmallL P.la P.sa ∧ SmallL P.lb P.sb ∧ SmallB P.ba P.ta ∧ SmallB P.bb P.tb ∧ SmallB P.b1 P.t1
end Go.Proofs.Qxb6500784a
