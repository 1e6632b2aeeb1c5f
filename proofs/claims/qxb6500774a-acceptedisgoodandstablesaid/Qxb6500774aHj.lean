import Derived.Test.Qxb6500774aHi
namespace Go.Proofs.Qxb6500774a
open Go.RowKit
set_option linter.unusedVariables false
set_option linter.unusedSimpArgs false
variable {s : List Int}

/-! ### The tokens of printed statements -/
def mg (n : Nat) : List Int := 10 :: mrg n
theorem mrg_blk (n : Nat) : (mrg n).all blk = true := by
  induction n with
  | zero => rfl
  | succ n ih => show (blk 32 && (blk 32 && (mrg n).all blk)) = true; rw [ih]; rfl
theorem mg_blk (n : Nat) : (mg n).all blk = true := by
  show (blk 10 && (mrg n).all blk) = true
  rw [mrg_blk]
  rfl
def itA : List (ByteArray × E) → Bool → List It
  | [], _ => []
  | (x, e) :: L, f => (if f = true then [([], .nm x)] else [([], .sym bCOM), ([32], .nm x)]) ++ (([32], .sym bASG) :: (itE e 0 [32] ++ itA L false))
def itC : List (ByteArray × E) → Bool → List It
  | [], _ => []
  | (x, e) :: L, f => (if f = true then [] else [([], .sym bCOM)]) ++ ((if x.toList = [] then itE e 0 [32] else ([32], .sym x) :: itE e 0 [32]) ++ itC L false)
def itS : S → Nat → Bool → List It
  | .nil, _, _ => []
  | .asg t e _ _ r, n, _ => itE t 0 (mg n) ++ (([32], .sym bASG) :: (itE e 0 [32] ++ (([], .sym bSEM) :: itS r n true)))
  | .call x ag _ _ r, n, _ => (mg n, .nm x) :: ([], .sym bPAR) :: (itA ag true ++ (([], .sym bEND) :: ([], .sym bSEM) :: itS r n true))
  | .iff A L _ _ r, n, _ => itS A n true ++ ((if L.isNil = true then [] else (mg n, .sym bELS) :: itS L (n + 1) true) ++ ((mg n, .sym bEIF) :: ([], .sym bSEM) :: itS r n true))
  | .arm e L r, n, f => (mg n, .sym (if f = true then bIF else bELI)) :: (itE e 0 [32] ++ (([32], .sym bTHN) :: (itS L (n + 1) true ++ itS r n false)))
  | .fr x a e L _ _ r, n, _ => (mg n, .sym bFOR) :: ([32], .nm x) :: ([32], .sym bASG) :: (itE a 0 [32] ++ (([32], .sym bTO) :: (itE e 0 [32] ++ (([32], .sym bDO) :: (itS L (n + 1) true ++ ((mg n, .sym bEFR) :: ([], .sym bSEM) :: itS r n true))))))
  | .rung e cs _ _ r, n, _ => (mg n, .sym bRUN) :: (itE e 0 [32] ++ (([32], .sym bARR) :: (itC cs true ++ (([], .sym bSEM) :: itS r n true))))
theorem flat_itA : ∀ (L : List (ByteArray × E)) (f : Bool), (∀ y ∈ L, gE y.2) → flat (itA L f) = prA L f
  | [], _, _ => rfl
  | (x, e) :: L, f, h => by
    have h1 := flat_itA L false (fun y hy => h y (List.mem_cons_of_mem _ hy))
    have h2 := flat_itE e (h (x, e) (List.mem_cons_self ..)) 0 [32]
    simp only [itA, prA]
    rw [flat_app, flat_cons, flat_app, h1, h2]
    cases f with
    | true =>
      show ([] ++ strL x ++ []) ++ ([32] ++ [58, 61] ++ _) = _
      simp
    | false =>
      show ([] ++ [44] ++ ([32] ++ strL x ++ [])) ++ ([32] ++ [58, 61] ++ _) = _
      simp
theorem flat_itC : ∀ (L : List (ByteArray × E)) (f : Bool), (∀ y ∈ L, gE y.2) → L ≠ [] ∨ f = false → flat (itC L f) = (if f = true then [32] else []) ++ prC L f
  | [], f, _, hf => by
    rcases hf with hf | hf
    · exact absurd rfl hf
    · subst hf; rfl
  | (x, e) :: L, f, h, _ => by
    have h1 := flat_itC L false (fun y hy => h y (List.mem_cons_of_mem _ hy)) (.inr rfl)
    have h2 := flat_itE e (h (x, e) (List.mem_cons_self ..)) 0 [32]
    have h3 : flat (if x.toList = [] then itE e 0 [32] else ([32], .sym x) :: itE e 0 [32]) = [32] ++ (strL x ++ ((if x.toList = [] then [] else [32]) ++ prE e 0)) := by
      split
      · next hx => rw [h2, strL_toListE hx]; simp
      · rw [flat_cons, h2]
        show [32] ++ strL x ++ _ = _
        simp
    simp only [itC, prC]
    rw [flat_app, flat_app, h1, h3]
    cases f with
    | true =>
      show [] ++ _ = _
      simp
    | false =>
      show ([] ++ [44] ++ []) ++ _ = _
      simp
/-- the newline that ends a statement stands before the next token -/
theorem flat_itS : ∀ (A : S) (n : Nat) (f b : Bool), gS A → wf A b → (b = true → f = true → A.isNil = false) → ((if b = true ∧ f = true then mg n else [10]) ++ pr A n f = flat (itS A n f) ++ [10])
  | .nil, n, f, b, _, _, hn => by
    have : ¬ (b = true ∧ f = true) := fun z => by have := hn z.1 z.2; cases this
    rw [if_neg this]
    rfl
  | .asg t e _ _ r, n, f, b, h, hw, _ => by
    obtain ⟨rfl, hw⟩ := hw
    have ih := flat_itS r n true false h.2.2.2 hw (fun z => by cases z)
    rw [if_neg (by simp)] at ih ⊢
    simp only [itS, pr]
    rw [flat_app, flat_itE t h.1, flat_cons, flat_app, flat_itE e h.2.1, flat_cons]
    show _ = mg n ++ prE t 0 ++ ([32] ++ [58, 61] ++ ([32] ++ prE e 0 ++ ([] ++ [59] ++ flat (itS r n true)))) ++ [10]
    have ih : flat (itS r n true) ++ [10] = 10 :: pr r n true := ih.symm
    simp [mg, ih]
  | .call x ag _ _ r, n, f, b, h, hw, _ => by
    obtain ⟨rfl, hw⟩ := hw
    have ih := flat_itS r n true false h.2.2 hw (fun z => by cases z)
    rw [if_neg (by simp)] at ih ⊢
    simp only [itS, pr]
    rw [flat_cons, flat_cons, flat_app, flat_itA ag true (fun y hy => (h.2.1 y hy).2), flat_cons, flat_cons]
    show _ = mg n ++ strL x ++ ([] ++ [40] ++ (prA ag true ++ ([] ++ [41] ++ ([] ++ [59] ++ flat (itS r n true))))) ++ [10]
    have ih : flat (itS r n true) ++ [10] = 10 :: pr r n true := ih.symm
    simp [mg, ih]
  | .iff A L _ _ r, n, f, b, h, hw, _ => by
    obtain ⟨rfl, hwA, hwL, hw⟩ := hw
    have ih := flat_itS r n true false h.2.2.2 hw (fun z => by cases z)
    have ihA := flat_itS A n true true h.1 hwA (fun _ _ => h.2.2.1)
    have ihL := flat_itS L (n + 1) true false h.2.1 hwL (fun z => by cases z)
    rw [if_neg (by simp)] at ih ihL ⊢
    rw [if_pos ⟨rfl, rfl⟩] at ihA
    simp only [itS, pr]
    rw [flat_app, flat_app, flat_cons, flat_cons]
    have ih : flat (itS r n true) ++ [10] = 10 :: pr r n true := ih.symm
    have ihL : flat (itS L (n + 1) true) ++ [10] = 10 :: pr L (n + 1) true := ihL.symm
    have ihA : flat (itS A n true) ++ [10] = 10 :: (mrg n ++ pr A n true) := by rw [← ihA]; rfl
    have hE : flat (if L.isNil = true then [] else (mg n, .sym bELS) :: itS L (n + 1) true) ++ [10] = [10] ++ (if L.isNil = true then [] else mrg n ++ [69, 76, 83, 69, 10] ++ pr L (n + 1) true) := by
      split
      · rfl
      · rw [flat_cons]
        show mg n ++ [69, 76, 83, 69] ++ flat (itS L (n + 1) true) ++ [10] = _
        simp [mg, ihL]
    show _ = flat (itS A n true) ++ (flat (if L.isNil = true then [] else (mg n, .sym bELS) :: itS L (n + 1) true) ++ (mg n ++ [69, 78, 68, 95, 73, 70] ++ ([] ++ [59] ++ flat (itS r n true)))) ++ [10]
    generalize (if L.isNil = true then ([] : List Int) else mrg n ++ [69, 76, 83, 69, 10] ++ pr L (n + 1) true) = X at *
    generalize flat (if L.isNil = true then ([] : List It) else (mg n, .sym bELS) :: itS L (n + 1) true) = Y at *
    generalize flat (itS A n true) = Z at *
    generalize flat (itS r n true) = V at *
    have e1 : Z ++ (Y ++ (mg n ++ [69, 78, 68, 95, 73, 70] ++ ([] ++ [59] ++ V))) ++ [10] = Z ++ (Y ++ [10]) ++ (mrg n ++ [69, 78, 68, 95, 73, 70, 59] ++ (V ++ [10])) := by simp [mg]
    rw [e1, hE, ih]
    have e2 : Z ++ ([10] ++ X) ++ (mrg n ++ [69, 78, 68, 95, 73, 70, 59] ++ 10 :: pr r n true) = (Z ++ [10]) ++ (X ++ (mrg n ++ [69, 78, 68, 95, 73, 70, 59] ++ 10 :: pr r n true)) := by simp
    rw [e2, ihA]
    simp
  | .arm e L r, n, f, b, h, hw, _ => by
    obtain ⟨rfl, hwL, hw⟩ := hw
    have ih := flat_itS r n false true h.2.2 hw (fun _ z => by cases z)
    have ihL := flat_itS L (n + 1) true false h.2.1 hwL (fun z => by cases z)
    rw [if_neg (by simp)] at ih ihL
    simp only [itS, pr]
    rw [flat_cons, flat_app, flat_itE e h.1, flat_cons, flat_app]
    have ih : flat (itS r n false) ++ [10] = 10 :: pr r n false := ih.symm
    have ihL : flat (itS L (n + 1) true) ++ [10] = 10 :: pr L (n + 1) true := ihL.symm
    generalize flat (itS r n false) = V at *
    generalize flat (itS L (n + 1) true) = Z at *
    cases f with
    | true =>
      show mg n ++ _ = mg n ++ [73, 70] ++ ([32] ++ prE e 0 ++ ([32] ++ [84, 72, 69, 78] ++ (Z ++ V))) ++ [10]
      have e1 : mg n ++ [73, 70] ++ ([32] ++ prE e 0 ++ ([32] ++ [84, 72, 69, 78] ++ (Z ++ V))) ++ [10] = mg n ++ [73, 70] ++ ([32] ++ prE e 0 ++ ([32] ++ [84, 72, 69, 78] ++ (Z ++ (V ++ [10])))) := by simp
      rw [e1, ih]
      have e2 : Z ++ 10 :: pr r n false = (Z ++ [10]) ++ pr r n false := by simp
      rw [e2, ihL]
      simp
    | false =>
      show [10] ++ _ = mg n ++ [69, 76, 83, 73, 70] ++ ([32] ++ prE e 0 ++ ([32] ++ [84, 72, 69, 78] ++ (Z ++ V))) ++ [10]
      have e1 : mg n ++ [69, 76, 83, 73, 70] ++ ([32] ++ prE e 0 ++ ([32] ++ [84, 72, 69, 78] ++ (Z ++ V))) ++ [10] = mg n ++ [69, 76, 83, 73, 70] ++ ([32] ++ prE e 0 ++ ([32] ++ [84, 72, 69, 78] ++ (Z ++ (V ++ [10])))) := by simp
      rw [e1, ih]
      have e2 : Z ++ 10 :: pr r n false = (Z ++ [10]) ++ pr r n false := by simp
      rw [e2, ihL]
      simp [mg]
  | .fr x a e L _ _ r, n, f, b, h, hw, _ => by
    obtain ⟨rfl, hwL, hw⟩ := hw
    have ih := flat_itS r n true false h.2.2.2.2 hw (fun z => by cases z)
    have ihL := flat_itS L (n + 1) true false h.2.2.2.1 hwL (fun z => by cases z)
    rw [if_neg (by simp)] at ih ihL ⊢
    simp only [itS, pr]
    rw [flat_cons, flat_cons, flat_cons, flat_app, flat_itE a h.2.1, flat_cons, flat_app, flat_itE e h.2.2.1, flat_cons, flat_app, flat_cons, flat_cons]
    have ih : flat (itS r n true) ++ [10] = 10 :: pr r n true := ih.symm
    have ihL : flat (itS L (n + 1) true) ++ [10] = 10 :: pr L (n + 1) true := ihL.symm
    generalize flat (itS r n true) = V at *
    generalize flat (itS L (n + 1) true) = Z at *
    show _ = mg n ++ [70, 79, 82] ++ ([32] ++ strL x ++ ([32] ++ [58, 61] ++ ([32] ++ prE a 0 ++ ([32] ++ [84, 79] ++ ([32] ++ prE e 0 ++ ([32] ++ [68, 79] ++ (Z ++ (mg n ++ [69, 78, 68, 95, 70, 79, 82] ++ ([] ++ [59] ++ V))))))))) ++ [10]
    have e1 : mg n ++ [70, 79, 82] ++ ([32] ++ strL x ++ ([32] ++ [58, 61] ++ ([32] ++ prE a 0 ++ ([32] ++ [84, 79] ++ ([32] ++ prE e 0 ++ ([32] ++ [68, 79] ++ (Z ++ (mg n ++ [69, 78, 68, 95, 70, 79, 82] ++ ([] ++ [59] ++ V))))))))) ++ [10] = mg n ++ [70, 79, 82] ++ ([32] ++ strL x ++ ([32] ++ [58, 61] ++ ([32] ++ prE a 0 ++ ([32] ++ [84, 79] ++ ([32] ++ prE e 0 ++ ([32] ++ [68, 79] ++ ((Z ++ [10]) ++ (mrg n ++ [69, 78, 68, 95, 70, 79, 82] ++ ([] ++ [59] ++ (V ++ [10])))))))))) := by simp [mg]
    rw [e1, ih, ihL]
    simp [mg]
  | .rung e cs _ _ r, n, f, b, h, hw, _ => by
    obtain ⟨rfl, hw⟩ := hw
    have ih := flat_itS r n true false h.2.2.2 hw (fun z => by cases z)
    rw [if_neg (by simp)] at ih ⊢
    simp only [itS, pr]
    rw [flat_cons, flat_app, flat_itE e h.1, flat_cons, flat_app, flat_itC cs true (fun y hy => (h.2.1 y hy).2.1) (.inl h.2.2.1), flat_cons]
    have ih : flat (itS r n true) ++ [10] = 10 :: pr r n true := ih.symm
    generalize flat (itS r n true) = V at *
    show _ = mg n ++ [82, 85, 78, 71] ++ ([32] ++ prE e 0 ++ ([32] ++ [61, 62] ++ ([32] ++ prC cs true ++ ([] ++ [59] ++ V)))) ++ [10]
    simp [mg, ih]
end Go.Proofs.Qxb6500774a
