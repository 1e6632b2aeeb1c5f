import Derived.Test.Qxb6500773aGreatZL
import Derived.Test.Qxb6500773aGreatZ5
namespace Go.Proofs.Qxb6500773aGreat
open Go.RowKit

/-! ### Normalize, plain -/
def insP (x : Int) : List Int → List Int
  | [] => [x]
  | y :: L => if x ≤ y then x :: y :: L else y :: insP x L
def srtP (C : List Int) : List Int := C.foldr insP []
theorem insP_perm (x : Int) : ∀ L, (insP x L).Perm (x :: L)
  | [] => List.Perm.refl _
  | y :: L => by
    unfold insP
    split
    · exact List.Perm.refl _
    · exact ((insP_perm x L).cons y).trans (List.Perm.swap x y L)
theorem srtP_perm : ∀ C, (srtP C).Perm C
  | [] => List.Perm.refl _
  | x :: C => (insP_perm x (srtP C)).trans ((srtP_perm C).cons x)
def Asc (L : List Int) : Prop := L.Pairwise (· ≤ ·)
theorem insP_asc (x : Int) : ∀ L, Asc L → Asc (insP x L)
  | [], _ => List.pairwise_singleton _ _
  | y :: L, h => by
    obtain ⟨h1, h2⟩ := List.pairwise_cons.1 h
    unfold insP
    split
    · rename_i hxy
      refine List.pairwise_cons.2 ⟨fun z hz => ?_, h⟩
      rcases List.mem_cons.1 hz with rfl | hz
      · exact hxy
      · exact Int.le_trans hxy (h1 z hz)
    · rename_i hxy
      refine List.pairwise_cons.2 ⟨fun z hz => ?_, insP_asc x L h2⟩
      rcases List.mem_cons.1 ((insP_perm x L).subset hz) with rfl | hz
      · omega
      · exact h1 z hz
theorem srtP_asc : ∀ C, Asc (srtP C)
  | [] => List.Pairwise.nil
  | x :: C => insP_asc x _ (srtP_asc C)
theorem asc_unique : ∀ {L M : List Int}, Asc L → Asc M → L.Perm M → L = M
  | [], M, _, _, h => (List.Perm.nil_eq h)
  | x :: L, [], _, _, h => by have := h.length_eq; simp at this
  | x :: L, y :: M, hL, hM, h => by
    obtain ⟨a1, a2⟩ := List.pairwise_cons.1 hL
    obtain ⟨b1, b2⟩ := List.pairwise_cons.1 hM
    have e : x = y := by
      have h1 : x ∈ y :: M := h.subset (List.mem_cons_self)
      have h2 : y ∈ x :: L := h.symm.subset (List.mem_cons_self)
      rcases List.mem_cons.1 h1 with z | z
      · exact z
      · rcases List.mem_cons.1 h2 with z2 | z2
        · exact z2.symm
        · have := b1 x z
          have := a1 y z2
          omega
    subst e
    rw [asc_unique a2 b2 (List.Perm.cons_inv h)]
theorem srt_asc {D : List Int} (h : Srt D) : Asc D := by
  unfold Asc
  rw [List.pairwise_iff_getElem]
  intro i j hi hj hij
  have := h i j hij hj
  rw [gt_some (List.getElem?_eq_getElem hi), gt_some (List.getElem?_eq_getElem hj)] at this
  exact this
theorem srt_eq {D C : List Int} (h : Srt D) (hp : D.Perm C) : D = srtP C := asc_unique (srt_asc h) (srtP_asc C) (hp.trans (srtP_perm C).symm)
/-- the normal form -/
def nfP (C : List Int) : List Int × Bool := nmP (srtP C)
/-- what the fold keeps of an ascending list -/
structure NmI (P : List Int) (s : List Int × Bool) : Prop where
  asc : s.1.Pairwise (· < ·)
  mem : ∀ x, x ∈ s.1 ↔ x ∈ P
  last : ∀ x, s.1.getLast? = some x → ∀ y ∈ P, y ≤ x
  tau : s.2 = true ↔ ∃ x ∈ P, x % 2 = 0 ∧ x + 1 ∈ P
theorem last_mem {L : List Int} {x : Int} (h : L.getLast? = some x) : x ∈ L := List.mem_of_getLast? h
theorem nmI_step {P : List Int} {s : List Int × Bool} {l : Int} (h : NmI P s) (hl : ∀ y ∈ P, y ≤ l) : NmI (P ++ [l]) (nmS s l) := by
  unfold nmS
  split
  · rename_i e
    have hm : l ∈ P := (h.mem l).1 (last_mem e)
    refine ⟨h.asc, fun x => ?_, fun x hx y hy => ?_, ?_⟩
    · rw [h.mem, List.mem_append]
      constructor
      · exact .inl
      · rintro (z | z)
        · exact z
        · rw [List.mem_singleton] at z; subst z; exact hm
    · rcases List.mem_append.1 hy with z | z
      · exact h.last x hx y z
      · rw [List.mem_singleton] at z; subst z
        rw [e] at hx; injection hx with hx; omega
    · rw [h.tau]
      constructor
      · rintro ⟨x, h1, h2, h3⟩
        exact ⟨x, List.mem_append.2 (.inl h1), h2, List.mem_append.2 (.inl h3)⟩
      · rintro ⟨x, h1, h2, h3⟩
        have k : ∀ z, z ∈ P ++ [l] → z ∈ P := fun z hz => by
          rcases List.mem_append.1 hz with q | q
          · exact q
          · rw [List.mem_singleton] at q; subst q; exact hm
        exact ⟨x, k _ h1, h2, k _ h3⟩
  · rename_i e
    have hlt : ∀ y ∈ s.1, y < l := fun y hy => by
      have h1 := hl y ((h.mem y).1 hy)
      rcases Int.lt_or_eq_of_le h1 with z | z
      · exact z
      · subst z
        exfalso
        have hne : s.1 ≠ [] := fun q => by rw [q] at hy; cases hy
        obtain ⟨x, hx⟩ : ∃ x, s.1.getLast? = some x := by
          cases hg : s.1.getLast? with
          | none => exact absurd (List.getLast?_eq_none_iff.1 hg) hne
          | some x => exact ⟨x, rfl⟩
        have h2 := h.last x hx y ((h.mem y).1 hy)
        have h3 := hl x ((h.mem x).1 (last_mem hx))
        exact e (by rw [hx]; congr 1; omega)
    refine ⟨?_, fun x => ?_, fun x hx y hy => ?_, ?_⟩
    · refine List.pairwise_append.2 ⟨h.asc, List.pairwise_singleton _ _, fun x hx y hy => ?_⟩
      rw [List.mem_singleton] at hy; subst hy
      exact hlt x hx
    · rw [List.mem_append, List.mem_append, h.mem]
    · rw [List.getLast?_append] at hx
      simp at hx
      subst hx
      rcases List.mem_append.1 hy with z | z
      · exact hl y z
      · rw [List.mem_singleton] at z; omega
    · have hn : ∀ q, s.1.getLast? = some q → q < l := fun q hq => hlt q (last_mem hq)
      rw [Bool.or_eq_true, decide_eq_true_iff, h.tau]
      constructor
      · rintro (⟨x, h1, h2, h3⟩ | z)
        · exact ⟨x, List.mem_append.2 (.inl h1), h2, List.mem_append.2 (.inl h3)⟩
        · have hq := hn _ z
          unfold notP at z hq
          by_cases hp : l % 2 = 0
          · rw [if_pos hp] at hq; omega
          · rw [if_neg hp] at z
            refine ⟨l - 1, List.mem_append.2 (.inl ((h.mem _).1 (last_mem z))), by omega, List.mem_append.2 (.inr ?_)⟩
            rw [List.mem_singleton]; omega
      · rintro ⟨x, h1, h2, h3⟩
        rcases List.mem_append.1 h3 with z | z
        · rcases List.mem_append.1 h1 with q | q
          · exact .inl ⟨x, q, h2, z⟩
          · rw [List.mem_singleton] at q; subst q
            have := hl _ z
            omega
        · rw [List.mem_singleton] at z
          rcases List.mem_append.1 h1 with q | q
          · right
            have hxm := (h.mem x).2 q
            have hne : s.1 ≠ [] := fun q => by rw [q] at hxm; cases hxm
            obtain ⟨y, hy⟩ : ∃ y, s.1.getLast? = some y := by
              cases hg : s.1.getLast? with
              | none => exact absurd (List.getLast?_eq_none_iff.1 hg) hne
              | some x => exact ⟨x, rfl⟩
            have k1 := h.last y hy x q
            have k2 := hn y hy
            unfold notP
            rw [if_neg (by omega), hy]
            congr 1
            omega
          · rw [List.mem_singleton] at q; omega
theorem nmI_fold : ∀ (Q P : List Int) (s : List Int × Bool), NmI P s → Asc (P ++ Q) → NmI (P ++ Q) (Q.foldl nmS s)
  | [], P, s, h, _ => by rw [List.append_nil]; exact h
  | l :: Q, P, s, h, ha => by
    rw [List.foldl_cons]
    have e : P ++ l :: Q = (P ++ [l]) ++ Q := by simp
    rw [e] at ha ⊢
    refine nmI_fold Q (P ++ [l]) _ (nmI_step h (fun y hy => ?_)) ha
    have := (List.pairwise_append.1 ha).1
    exact (List.pairwise_append.1 this).2.2 y hy l (List.mem_singleton.2 rfl)
theorem nf_ok (C : List Int) : NmI (srtP C) (nfP C) := by
  have h0 : NmI [] ([], false) := ⟨List.Pairwise.nil, fun x => Iff.rfl, fun x h => by simp at h, by simp⟩
  have := nmI_fold (srtP C) [] _ h0 (by rw [List.nil_append]; exact srtP_asc C)
  rw [List.nil_append] at this
  exact this
theorem nf_mem (C : List Int) (x : Int) : x ∈ (nfP C).1 ↔ x ∈ C := ((nf_ok C).mem x).trans (srtP_perm C).mem_iff
theorem nf_asc (C : List Int) : (nfP C).1.Pairwise (· < ·) := (nf_ok C).asc
theorem nf_tau (C : List Int) : (nfP C).2 = true ↔ ∃ x ∈ C, x % 2 = 0 ∧ x + 1 ∈ C := by
  rw [(nf_ok C).tau]
  constructor
  · rintro ⟨x, h1, h2, h3⟩
    exact ⟨x, (srtP_perm C).mem_iff.1 h1, h2, (srtP_perm C).mem_iff.1 h3⟩
  · rintro ⟨x, h1, h2, h3⟩
    exact ⟨x, (srtP_perm C).mem_iff.2 h1, h2, (srtP_perm C).mem_iff.2 h3⟩
/-- strictly ascending lists with the same members are the same -/
theorem lt_unique : ∀ {L M : List Int}, L.Pairwise (· < ·) → M.Pairwise (· < ·) → (∀ x, x ∈ L ↔ x ∈ M) → L = M
  | [], [], _, _, _ => rfl
  | [], y :: M, _, _, h => by have := (h y).2 List.mem_cons_self; cases this
  | x :: L, [], _, _, h => by have := (h x).1 List.mem_cons_self; cases this
  | x :: L, y :: M, hL, hM, h => by
    obtain ⟨a1, a2⟩ := List.pairwise_cons.1 hL
    obtain ⟨b1, b2⟩ := List.pairwise_cons.1 hM
    have e : x = y := by
      rcases List.mem_cons.1 ((h x).1 List.mem_cons_self) with z | z
      · exact z
      · rcases List.mem_cons.1 ((h y).2 List.mem_cons_self) with z2 | z2
        · exact z2.symm
        · have := b1 x z
          have := a1 y z2
          omega
    subst e
    rw [lt_unique a2 b2 (fun z => ?_)]
    constructor
    · intro hz
      rcases List.mem_cons.1 ((h z).1 (List.mem_cons_of_mem _ hz)) with q | q
      · subst q; have := a1 z hz; omega
      · exact q
    · intro hz
      rcases List.mem_cons.1 ((h z).2 (List.mem_cons_of_mem _ hz)) with q | q
      · subst q; have := b1 z hz; omega
      · exact q
theorem nf_set {C D : List Int} (h : ∀ x, x ∈ C ↔ x ∈ D) : (nfP C).1 = (nfP D).1 := lt_unique (nf_asc C) (nf_asc D) (fun x => by rw [nf_mem, nf_mem, h])
theorem nf_nf (C : List Int) : (nfP (nfP C).1).1 = (nfP C).1 := nf_set (fun x => nf_mem C x)
theorem nf_len (C : List Int) : (nfP C).1.length ≤ C.length := by
  have := nmP_len (srtP C) (srtP C).length
  rw [List.take_length, (srtP_perm C).length_eq] at this
  exact this
theorem nf_lit {C : List Int} (h : ∀ x ∈ C, LitOk x) : ∀ x ∈ (nfP C).1, LitOk x := fun x hx => h x ((nf_mem C x).1 hx)
/-! the value of a clause -/
theorem eval_val (V : List Int) : ∀ (C : List Int) (s : Int), (∃ l ∈ C, lvP V l = 1) → evalP V C s = 1
  | [], s, h => by obtain ⟨l, hl, _⟩ := h; cases hl
  | x :: C, s, h => by
    unfold evalP
    by_cases e : lvP V x = 1
    · rw [if_pos e]
    · rw [if_neg e]
      have k : ∃ l ∈ C, lvP V l = 1 := by
        obtain ⟨l, hl, h1⟩ := h
        rcases List.mem_cons.1 hl with z | z
        · subst z; exact absurd h1 e
        · exact ⟨l, z, h1⟩
      split <;> exact eval_val V C _ k
theorem eval_not (V : List Int) : ∀ (C : List Int) (s : Int), (¬ ∃ l ∈ C, lvP V l = 1) → evalP V C s = if ∃ l ∈ C, lvP V l = 0 then 0 else s
  | [], s, _ => by rw [if_neg (fun ⟨l, hl, _⟩ => by cases hl)]; rfl
  | x :: C, s, h => by
    have hx : ¬ lvP V x = 1 := fun e => h ⟨x, List.mem_cons_self, e⟩
    have hC : ¬ ∃ l ∈ C, lvP V l = 1 := fun ⟨l, hl, e⟩ => h ⟨l, List.mem_cons_of_mem _ hl, e⟩
    unfold evalP
    rw [if_neg hx, eval_not V C 0 hC, eval_not V C s hC]
    by_cases e : lvP V x = 0
    · have h1 : ∃ l ∈ x :: C, lvP V l = 0 := ⟨x, List.mem_cons_self, e⟩
      rw [if_pos h1, if_pos e]
      split <;> rfl
    · rw [if_neg e]
      by_cases h1 : ∃ l ∈ C, lvP V l = 0
      · obtain ⟨l, hl, h2⟩ := h1
        rw [if_pos ⟨l, hl, h2⟩, if_pos ⟨l, List.mem_cons_of_mem _ hl, h2⟩]
      · rw [if_neg h1, if_neg]
        rintro ⟨l, hl, h2⟩
        rcases List.mem_cons.1 hl with z | z
        · subst z; exact e h2
        · exact h1 ⟨l, z, h2⟩
theorem eval_set (V : List Int) {C D : List Int} (h : ∀ x, x ∈ C ↔ x ∈ D) (s : Int) : evalP V C s = evalP V D s := by
  by_cases h1 : ∃ l ∈ C, lvP V l = 1
  · rw [eval_val V C s h1, eval_val V D s (by obtain ⟨l, a, b⟩ := h1; exact ⟨l, (h l).1 a, b⟩)]
  · have h2 : ¬ ∃ l ∈ D, lvP V l = 1 := fun ⟨l, a, b⟩ => h1 ⟨l, (h l).2 a, b⟩
    rw [eval_not V C s h1, eval_not V D s h2]
    by_cases h3 : ∃ l ∈ C, lvP V l = 0
    · rw [if_pos h3, if_pos (by obtain ⟨l, a, b⟩ := h3; exact ⟨l, (h l).1 a, b⟩)]
    · rw [if_neg h3, if_neg (fun ⟨l, a, b⟩ => h3 ⟨l, (h l).2 a, b⟩)]
theorem lv_not (V : List Int) {x : Int} (hx : x % 2 = 0) : lvP V (x + 1) = -(lvP V x) := by
  unfold lvP
  rw [if_neg (by omega), if_pos hx, show (x + 1) / 2 = x / 2 by omega]
theorem lv_rng {V : List Int} (h : ∀ x ∈ V, -1 ≤ x ∧ x ≤ 1) (l : Int) : -1 ≤ lvP V l ∧ lvP V l ≤ 1 := by
  have := varP_rng h (l / 2)
  unfold lvP
  split <;> omega
theorem tau_eval {V C : List Int} (h : ∀ x ∈ V, -1 ≤ x ∧ x ≤ 1) (ht : (nfP C).2 = true) : evalP V C (-1) ≠ -1 := by
  obtain ⟨x, h1, h2, h3⟩ := (nf_tau C).1 ht
  by_cases hv : ∃ l ∈ C, lvP V l = 1
  · rw [eval_val V C _ hv]; decide
  · rw [eval_not V C _ hv, if_pos]
    · decide
    · have k0 : lvP V x ≠ 1 := fun e => hv ⟨x, h1, e⟩
      have k1 : lvP V (x + 1) ≠ 1 := fun e => hv ⟨x + 1, h3, e⟩
      rw [lv_not V h2] at k1
      have := lv_rng h x
      exact ⟨x, h1, by omega⟩
theorem has_iff (C : List Int) (l : Int) : hasP C l = true ↔ l ∈ C := by
  unfold hasP
  rw [List.any_eq_true]
  constructor
  · rintro ⟨x, h1, h2⟩; rw [beq_iff_eq] at h2; subst h2; exact h1
  · intro h; exact ⟨l, h, by simp⟩
theorem clash_iff (C : List Int) : C.any (fun l => hasP C (notP l)) = (nfP C).2 := by
  rw [Bool.eq_iff_iff, List.any_eq_true, nf_tau]
  constructor
  · rintro ⟨l, h1, h2⟩
    rw [has_iff] at h2
    unfold notP at h2
    by_cases e : l % 2 = 0
    · rw [if_pos e] at h2; exact ⟨l, h1, e, h2⟩
    · rw [if_neg e] at h2
      exact ⟨l - 1, h2, by omega, by rw [show l - 1 + 1 = l by omega]; exact h1⟩
  · rintro ⟨x, h1, h2, h3⟩
    refine ⟨x, h1, ?_⟩
    rw [has_iff]
    unfold notP
    rw [if_pos h2]
    exact h3
end Go.Proofs.Qxb6500773aGreat
