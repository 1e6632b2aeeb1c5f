import Derived.Test.Qxb6500774aHj
namespace Go.Proofs.Qxb6500774a
open Go.RowKit
set_option linter.unusedVariables false
set_option linter.unusedSimpArgs false
variable {s : List Int}

/-! ### The printed tokens do not run into one another -/
theorem hdI_app_cons (c : Int) (a b : List Int) : hdI (c :: a ++ b) = c := rfl
theorem fT_SEM (n : Int) : fT (.sym bSEM) n = true := by
  simp only [fT]
  rw [if_neg (by decide +kernel), show strL bSEM = [59] from rfl]
  unfold twoM
  simp
theorem fT_END (n : Int) : fT (.sym bEND) n = true := by
  simp only [fT]
  rw [if_neg (by decide +kernel), show strL bEND = [41] from rfl]
  unfold twoM
  simp
theorem fT_kw {x : ByteArray} (h : kwP x.toList = true) {n : Int} (hn : sf n = true) : fT (.sym x) n = true := by
  simp only [fT]
  rw [if_pos h]
  exact hn
theorem gT_kw {x : ByteArray} (h : kwP x.toList = true) : gT (.sym x) = true := by
  simp only [gT]
  rw [h]
  rfl
theorem sf_itA (L : List (ByteArray × E)) (rest : List Int) (h : sf (hdI rest) = true) : sf (hdI (flat (itA L false) ++ rest)) = true := by
  cases L with
  | nil => exact h
  | cons x L => show sf 44 = true; decide
theorem sf_itC (L : List (ByteArray × E)) (rest : List Int) (h : sf (hdI rest) = true) : sf (hdI (flat (itC L false) ++ rest)) = true := by
  cases L with
  | nil => exact h
  | cons x L => show sf 44 = true; decide
theorem LXs_itA : ∀ (L : List (ByteArray × E)) (f : Bool) (rest : List Int), (∀ y ∈ L, gN y.1 = true ∧ gE y.2) → sf (hdI rest) = true → LXs (itA L f) rest
  | [], _, _, _, _ => trivial
  | (x, e) :: L, f, rest, h, hr => by
    have h1 := LXs_itA L false rest (fun y hy => h y (List.mem_cons_of_mem _ hy)) hr
    have h2 := h (x, e) (List.mem_cons_self ..)
    simp only [itA]
    rw [LXs_app]
    refine ⟨?_, rfl, by decide +kernel, ?_, ?_⟩
    · cases f with
      | true => exact ⟨rfl, h2.1, by show sf 32 = true; decide, trivial⟩
      | false =>
        refine ⟨rfl, by decide +kernel, ?_, rfl, h2.1, ?_, trivial⟩
        · show fT (.sym bCOM) 32 = true; decide +kernel
        · show sf 32 = true; decide
    · rw [flat_app, flat_itE e h2.2]
      show fT (.sym bASG) 32 = true
      decide +kernel
    · rw [LXs_app]
      exact ⟨LXs_itE e h2.2 0 [32] _ rfl (sf_itA L rest hr), h1⟩
theorem mode_kw {x : ByteArray} (h : x = nb ∨ x = bNOT ∨ x = bSET ∨ x = bRES) (hx : ¬ x.toList = []) : kwP x.toList = true := by
  rcases h with rfl | rfl | rfl | rfl
  · exact absurd (by rw [ByteArray.toList_eq]; rfl) hx
  · decide +kernel
  · decide +kernel
  · decide +kernel
theorem LXs_itC : ∀ (L : List (ByteArray × E)) (f : Bool) (rest : List Int), (∀ y ∈ L, (y.1 = nb ∨ y.1 = bNOT ∨ y.1 = bSET ∨ y.1 = bRES) ∧ gE y.2 ∧ y.2.isPl = true) → sf (hdI rest) = true → LXs (itC L f) rest
  | [], _, _, _, _ => trivial
  | (x, e) :: L, f, rest, h, hr => by
    have h1 := LXs_itC L false rest (fun y hy => h y (List.mem_cons_of_mem _ hy)) hr
    have h2 := h (x, e) (List.mem_cons_self ..)
    have hE := LXs_itE e h2.2.1 0 [32] _ rfl (sf_itC L rest hr)
    simp only [itC]
    rw [LXs_app, LXs_app]
    refine ⟨?_, ?_, h1⟩
    · cases f with
      | true => exact trivial
      | false =>
        refine ⟨rfl, by decide +kernel, ?_, trivial⟩
        have e1 : hdI (flat (if x.toList = [] then itE e 0 [32] else ([32], .sym x) :: itE e 0 [32]) ++ (flat (itC L false) ++ rest)) = 32 := by
          split
          · rw [flat_itE e h2.2.1]; rfl
          · rfl
        show fT (.sym bCOM) (hdI (flat _ ++ rest)) = true
        rw [flat_app, List.append_assoc, e1]
        decide +kernel
    · split
      · exact hE
      · next hx =>
        have hk := mode_kw h2.1 hx
        refine ⟨rfl, gT_kw hk, fT_kw hk ?_, hE⟩
        rw [flat_itE e h2.2.1]
        show sf 32 = true
        decide
theorem sf_itS (A : S) (n : Nat) (f b : Bool) (hw : wf A b) (hg : gS A) (rest : List Int) (h : sf (hdI rest) = true) : sf (hdI (flat (itS A n f) ++ rest)) = true := by
  have k : sf 10 = true := by decide
  cases A with
  | nil => exact h
  | asg t e l c r =>
    simp only [itS]
    rw [flat_app, flat_itE t hg.1]
    exact k
  | call x ag l c r => exact k
  | iff A L l c r =>
    simp only [itS]
    cases A with
    | nil => have := hg.2.2.1; cases this
    | asg t e l c r => have := hw.2.1.1; cases this
    | call x ag l c r => have := hw.2.1.1; cases this
    | iff A L l c r => have := hw.2.1.1; cases this
    | arm e L r => exact k
    | fr x a e L l c r => have := hw.2.1.1; cases this
    | rung e cs l c r => have := hw.2.1.1; cases this
  | arm e L r => exact k
  | fr x a e L l c r => exact k
  | rung e cs l c r => exact k
theorem LXs_itS : ∀ (A : S) (n : Nat) (f b : Bool) (rest : List Int), gS A → wf A b → sf (hdI rest) = true → LXs (itS A n f) rest
  | .nil, _, _, _, _, _, _, _ => trivial
  | .asg t e _ _ r, n, f, b, rest, h, hw, hr => by
    have ih := LXs_itS r n true b rest h.2.2.2 hw.2 hr
    simp only [itS]
    rw [LXs_app]
    refine ⟨LXs_itE t h.1 0 _ _ (mg_blk n) (by show sf 32 = true; decide), rfl, by decide +kernel, ?_, ?_⟩
    · rw [flat_app, flat_itE e h.2.1]
      show fT (.sym bASG) 32 = true
      decide +kernel
    · rw [LXs_app]
      exact ⟨LXs_itE e h.2.1 0 [32] _ rfl (by show sf 59 = true; decide), rfl, by decide +kernel, fT_SEM _, ih⟩
  | .call x ag _ _ r, n, f, b, rest, h, hw, hr => by
    have ih := LXs_itS r n true b rest h.2.2 hw.2 hr
    simp only [itS]
    refine ⟨mg_blk n, h.1, by show sf 40 = true; decide, rfl, by decide +kernel, ?_, ?_⟩
    · have hne : hdI (flat (itA ag true ++ (([], .sym bEND) :: ([], .sym bSEM) :: itS r n true)) ++ rest) ≠ 42 := by
        cases ag with
        | nil => show (41 : Int) ≠ 42; decide
        | cons y L =>
          obtain ⟨y, e⟩ := y
          obtain ⟨a1, ⟨c, r', a2, a3⟩, a4⟩ := gN_facts (h.2.1 (y, e) (List.mem_cons_self ..)).1
          have : wdI c := a1 c (by rw [a2]; exact List.mem_cons_self ..)
          have e1 : hdI (flat (itA ((y, e) :: L) true ++ (([], .sym bEND) :: ([], .sym bSEM) :: itS r n true)) ++ rest) = hdI (strL y) := by
            rw [flat_app]
            simp only [itA]
            rw [flat_app]
            show hdI (([] ++ strL y ++ []) ++ _ ++ _ ++ _) = _
            rw [a2]
            rfl
          rw [e1, a2]
          unfold wdI at this
          show c ≠ 42
          omega
      generalize hdI (flat (itA ag true ++ (([], .sym bEND) :: ([], .sym bSEM) :: itS r n true)) ++ rest) = z at *
      simp only [fT]
      rw [if_neg (by decide +kernel), show strL bPAR = [40] from rfl]
      unfold twoM
      simp
      exact hne
    · rw [LXs_app]
      exact ⟨LXs_itA ag true _ h.2.1 (by show sf 41 = true; decide), rfl, by decide +kernel, fT_END _, rfl, by decide +kernel, fT_SEM _, ih⟩
  | .iff A L _ _ r, n, f, b, rest, h, hw, hr => by
    have ih := LXs_itS r n true b rest h.2.2.2 hw.2.2.2 hr
    simp only [itS]
    rw [LXs_app, LXs_app]
    have k : sf 10 = true := by decide
    refine ⟨LXs_itS A n true true _ h.1 hw.2.1 ?_, ?_, mg_blk n, by decide +kernel, fT_kw (by decide +kernel) (by show sf 59 = true; decide), rfl, by decide +kernel, fT_SEM _, ih⟩
    · cases L with
      | nil => exact k
      | _ => exact k
    · split
      · exact trivial
      · refine ⟨mg_blk n, by decide +kernel, fT_kw (by decide +kernel) (sf_itS L (n + 1) true false hw.2.2.1 h.2.1 _ k), LXs_itS L (n + 1) true false _ h.2.1 hw.2.2.1 k⟩
  | .arm e L r, n, f, b, rest, h, hw, hr => by
    have ih := LXs_itS r n false b rest h.2.2 hw.2.2 hr
    simp only [itS]
    refine ⟨mg_blk n, ?_, ?_, ?_⟩
    · split <;> decide +kernel
    · refine fT_kw ?_ ?_
      · split <;> decide +kernel
      · rw [flat_app, flat_itE e h.1]
        show sf 32 = true
        decide
    · rw [LXs_app]
      refine ⟨LXs_itE e h.1 0 [32] _ rfl (by show sf 32 = true; decide), rfl, by decide +kernel, fT_kw (by decide +kernel) ?_, ?_⟩
      · rw [flat_app, List.append_assoc]
        exact sf_itS L (n + 1) true false hw.2.1 h.2.1 _ (sf_itS r n false b hw.2.2 h.2.2 _ hr)
      · rw [LXs_app]
        exact ⟨LXs_itS L (n + 1) true false _ h.2.1 hw.2.1 (sf_itS r n false b hw.2.2 h.2.2 _ hr), ih⟩
  | .fr x a e L _ _ r, n, f, b, rest, h, hw, hr => by
    have ih := LXs_itS r n true b rest h.2.2.2.2 hw.2.2 hr
    have k : sf 10 = true := by decide
    simp only [itS]
    refine ⟨mg_blk n, by decide +kernel, fT_kw (by decide +kernel) (by show sf 32 = true; decide), rfl, h.1, by show sf 32 = true; decide, rfl, by decide +kernel, ?_, ?_⟩
    · rw [flat_app, flat_itE a h.2.1]
      show fT (.sym bASG) 32 = true
      decide +kernel
    · rw [LXs_app]
      refine ⟨LXs_itE a h.2.1 0 [32] _ rfl (by show sf 32 = true; decide), rfl, by decide +kernel, fT_kw (by decide +kernel) ?_, ?_⟩
      · rw [flat_app, flat_itE e h.2.2.1]
        show sf 32 = true
        decide
      · rw [LXs_app]
        refine ⟨LXs_itE e h.2.2.1 0 [32] _ rfl (by show sf 32 = true; decide), rfl, by decide +kernel, fT_kw (by decide +kernel) ?_, ?_⟩
        · rw [flat_app, List.append_assoc]
          exact sf_itS L (n + 1) true false hw.2.1 h.2.2.2.1 _ k
        · rw [LXs_app]
          exact ⟨LXs_itS L (n + 1) true false _ h.2.2.2.1 hw.2.1 k, mg_blk n, by decide +kernel, fT_kw (by decide +kernel) (by show sf 59 = true; decide), rfl, by decide +kernel, fT_SEM _, ih⟩
  | .rung e cs _ _ r, n, f, b, rest, h, hw, hr => by
    have ih := LXs_itS r n true b rest h.2.2.2 hw.2 hr
    simp only [itS]
    refine ⟨mg_blk n, by decide +kernel, fT_kw (by decide +kernel) ?_, ?_⟩
    · rw [flat_app, flat_itE e h.1]
      show sf 32 = true
      decide
    · rw [LXs_app]
      refine ⟨LXs_itE e h.1 0 [32] _ rfl (by show sf 32 = true; decide), rfl, by decide +kernel, ?_, ?_⟩
      · rw [flat_app, flat_itC cs true (fun y hy => (h.2.1 y hy).2.1) (.inl h.2.2.1)]
        show fT (.sym bARR) 32 = true
        decide +kernel
      · rw [LXs_app]
        exact ⟨LXs_itC cs true _ h.2.1 (by show sf 59 = true; decide), rfl, by decide +kernel, fT_SEM _, ih⟩
end Go.Proofs.Qxb6500774a
