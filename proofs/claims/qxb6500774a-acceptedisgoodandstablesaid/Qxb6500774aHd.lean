import Derived.Test.Qxb6500774aHc
namespace Go.Proofs.Qxb6500774a
open Go.RowKit
set_option linter.unusedVariables false
set_option linter.unusedSimpArgs false
variable {s : List Int}

/-! ### Statements that are read are good -/
def dP : List (ByteArray × E) → Nat
  | [] => 0
  | (_, e) :: L => max (dE e 0) (dP L)
def dS : S → Nat
  | .nil => 0
  | .asg t e _ _ r => max (max (dE t 0) (dE e 0)) (dS r)
  | .call _ ag _ _ r => max (dP ag) (dS r)
  | .iff A L _ _ r => max (1 + max (dS A) (dS L)) (dS r)
  | .arm e L r => max (max (dE e 0) (dS L)) (dS r)
  | .fr _ a e L _ _ r => max (1 + max (max (dE a 0) (dE e 0)) (dS L)) (dS r)
  | .rung e cs _ _ r => max (max (dE e 0) (dP cs)) (dS r)
def szP : List (ByteArray × E) → Nat
  | [] => 0
  | (x, e) :: L => (strL x).length + sz e + 10 + szP L
def szS : S → Nat
  | .nil => 0
  | .asg t e _ _ r => sz t + sz e + 200 + szS r
  | .call x ag _ _ r => (strL x).length + szP ag + 200 + szS r
  | .iff A L _ _ r => szS A + szS L + 600 + szS r
  | .arm e L r => sz e + szS L + 400 + szS r
  | .fr x a e L _ _ r => (strL x).length + sz a + sz e + szS L + 600 + szS r
  | .rung e cs _ _ r => sz e + szP cs + 200 + szS r
/-- statements where statements should be, arms where arms -/
def wf : S → Bool → Prop
  | .nil, _ => True
  | .asg _ _ _ _ r, b => b = false ∧ wf r b
  | .call _ _ _ _ r, b => b = false ∧ wf r b
  | .iff A L _ _ r, b => b = false ∧ wf A true ∧ wf L false ∧ wf r b
  | .arm _ L r, b => b = true ∧ wf L false ∧ wf r b
  | .fr _ _ _ L _ _ r, b => b = false ∧ wf L false ∧ wf r b
  | .rung _ _ _ _ r, b => b = false ∧ wf r b
theorem dS_app (A T : S) : dS (A.app T) = max (dS A) (dS T) := by
  induction A with
  | nil => show dS T = max 0 (dS T); omega
  | asg t e l c r ih => simp only [S.app, dS, ih]; omega
  | call x ag l c r ih => simp only [S.app, dS, ih]; omega
  | iff A L l c r _ _ ih => simp only [S.app, dS, ih]; omega
  | arm e L r _ ih => simp only [S.app, dS, ih]; omega
  | fr x a e L l c r _ ih => simp only [S.app, dS, ih]; omega
  | rung e cs l c r ih => simp only [S.app, dS, ih]; omega
theorem szS_app (A T : S) : szS (A.app T) = szS A + szS T := by
  induction A with
  | nil => show szS T = 0 + szS T; omega
  | asg t e l c r ih => simp only [S.app, szS, ih]; omega
  | call x ag l c r ih => simp only [S.app, szS, ih]; omega
  | iff A L l c r _ _ ih => simp only [S.app, szS, ih]; omega
  | arm e L r _ ih => simp only [S.app, szS, ih]; omega
  | fr x a e L l c r _ ih => simp only [S.app, szS, ih]; omega
  | rung e cs l c r ih => simp only [S.app, szS, ih]; omega
theorem gS_app (A T : S) (h : gS A) (hT : gS T) : gS (A.app T) := by
  induction A with
  | nil => exact hT
  | asg t e l c r ih => exact ⟨h.1, h.2.1, h.2.2.1, ih h.2.2.2⟩
  | call x ag l c r ih => exact ⟨h.1, h.2.1, ih h.2.2⟩
  | iff A L l c r _ _ ih => exact ⟨h.1, h.2.1, h.2.2.1, ih h.2.2.2⟩
  | arm e L r _ ih => exact ⟨h.1, h.2.1, ih h.2.2⟩
  | fr x a e L l c r _ ih => exact ⟨h.1, h.2.1, h.2.2.1, h.2.2.2.1, ih h.2.2.2.2⟩
  | rung e cs l c r ih => exact ⟨h.1, h.2.1, h.2.2.1, ih h.2.2.2⟩
theorem wf_app (A T : S) (b : Bool) (h : wf A b) (hT : wf T b) : wf (A.app T) b := by
  induction A with
  | nil => exact hT
  | asg t e l c r ih => exact ⟨h.1, ih h.2⟩
  | call x ag l c r ih => exact ⟨h.1, ih h.2⟩
  | iff A L l c r _ _ ih => exact ⟨h.1, h.2.1, h.2.2.1, ih h.2.2.2⟩
  | arm e L r _ ih => exact ⟨h.1, h.2.1, ih h.2.2⟩
  | fr x a e L l c r _ ih => exact ⟨h.1, h.2.1, ih h.2.2⟩
  | rung e cs l c r ih => exact ⟨h.1, ih h.2⟩
theorem sdep_dS : ∀ (A : S) (b : Bool), wf A b → sdep A ≤ dS A + (if b = true then 1 else 0)
  | .nil, b, _ => Nat.zero_le _
  | .asg t e _ _ r, b, h => by have := sdep_dS r b h.2; simp only [sdep, dS]; omega
  | .call _ ag _ _ r, b, h => by have := sdep_dS r b h.2; simp only [sdep, dS]; omega
  | .iff A L _ _ r, b, h => by
    have h1 := sdep_dS r b h.2.2.2
    have h2 := sdep_dS A true h.2.1
    have h3 := sdep_dS L false h.2.2.1
    rw [if_pos rfl] at h2
    rw [if_neg Bool.false_ne_true] at h3
    simp only [sdep, dS]
    omega
  | .arm e L r, b, h => by
    have h1 := sdep_dS r b h.2.2
    have h2 := sdep_dS L false h.2.1
    rw [if_neg Bool.false_ne_true] at h2
    rw [h.1, if_pos rfl] at h1 ⊢
    simp only [sdep, dS]
    omega
  | .fr _ a e L _ _ r, b, h => by
    have h1 := sdep_dS r b h.2.2
    have h2 := sdep_dS L false h.2.1
    rw [if_neg Bool.false_ne_true] at h2
    simp only [sdep, dS]
    omega
  | .rung e cs _ _ r, b, h => by have := sdep_dS r b h.2; simp only [sdep, dS]; omega
/-! the text's length -/
theorem prA_len : ∀ (L : List (ByteArray × E)) (f : Bool), (∀ y ∈ L, gE y.2) → (prA L f).length ≤ szP L
  | [], _, _ => Nat.le_refl _
  | (x, e) :: L, f, h => by
    have h1 := prA_len L false (fun y hy => h y (List.mem_cons_of_mem _ hy))
    have h2 := prE_len e (h (x, e) (List.mem_cons_self ..)) 0
    have h3 : (if f = true then ([] : List Int) else [44, 32]).length ≤ 2 := by split <;> simp
    simp only [prA, szP, List.length_append, List.length_cons, List.length_nil]
    omega
theorem prC_len : ∀ (L : List (ByteArray × E)) (f : Bool), (∀ y ∈ L, gE y.2) → (prC L f).length ≤ szP L
  | [], _, _ => Nat.le_refl _
  | (x, e) :: L, f, h => by
    have h1 := prC_len L false (fun y hy => h y (List.mem_cons_of_mem _ hy))
    have h2 := prE_len e (h (x, e) (List.mem_cons_self ..)) 0
    have h3 : (if f = true then ([] : List Int) else [44, 32]).length ≤ 2 := by split <;> simp
    have h4 : (if x.toList = [] then ([] : List Int) else [32]).length ≤ 1 := by split <;> simp
    simp only [prC, szP, List.length_append]
    omega
theorem pr_len : ∀ (A : S) (n : Nat) (f : Bool), gS A → n + sdep A ≤ 66 → (pr A n f).length ≤ szS A
  | .nil, _, _, _, _ => Nat.le_refl _
  | .asg t e _ _ r, n, f, h, hn => by
    have h1 := pr_len r n true h.2.2.2 (by simp only [sdep] at hn; omega)
    have h2 := prE_len t h.1 0
    have h3 := prE_len e h.2.1 0
    simp only [pr, szS, List.length_append, List.length_cons, List.length_nil, mrg_len]
    omega
  | .call x ag _ _ r, n, f, h, hn => by
    have h1 := pr_len r n true h.2.2 (by simp only [sdep] at hn; omega)
    have h2 := prA_len ag true (fun y hy => (h.2.1 y hy).2)
    simp only [pr, szS, List.length_append, List.length_cons, List.length_nil, mrg_len]
    omega
  | .iff A L _ _ r, n, f, h, hn => by
    simp only [sdep] at hn
    have h1 := pr_len r n true h.2.2.2 (by omega)
    have h2 := pr_len A n true h.1 (by omega)
    have h3 := pr_len L (n + 1) true h.2.1 (by omega)
    have h4 : (if L.isNil = true then ([] : List Int) else mrg n ++ [69, 76, 83, 69, 10] ++ pr L (n + 1) true).length ≤ 2 * n + 5 + szS L := by
      split
      · exact Nat.zero_le _
      · simp only [List.length_append, List.length_cons, List.length_nil, mrg_len]; omega
    simp only [pr, szS, List.length_append, List.length_cons, List.length_nil, mrg_len] at h4 ⊢
    omega
  | .arm e L r, n, f, h, hn => by
    simp only [sdep] at hn
    have h1 := pr_len r n false h.2.2 (by omega)
    have h2 := prE_len e h.1 0
    have h3 := pr_len L (n + 1) true h.2.1 (by omega)
    have h4 : (if f = true then ([] : List Int) else mrg n ++ [69, 76, 83]).length ≤ 2 * n + 3 := by
      split
      · exact Nat.zero_le _
      · simp only [List.length_append, List.length_cons, List.length_nil, mrg_len]; omega
    simp only [pr, szS, List.length_append, List.length_cons, List.length_nil] at h4 ⊢
    omega
  | .fr x a e L _ _ r, n, f, h, hn => by
    simp only [sdep] at hn
    have h1 := pr_len r n true h.2.2.2.2 (by omega)
    have h2 := prE_len a h.2.1 0
    have h3 := prE_len e h.2.2.1 0
    have h4 := pr_len L (n + 1) true h.2.2.2.1 (by omega)
    simp only [pr, szS, List.length_append, List.length_cons, List.length_nil, mrg_len]
    omega
  | .rung e cs _ _ r, n, f, h, hn => by
    have h1 := pr_len r n true h.2.2.2 (by simp only [sdep] at hn; omega)
    have h2 := prE_len e h.1 0
    have h3 := prC_len cs true (fun y hy => (h.2.1 y hy).2.1)
    simp only [pr, szS, List.length_append, List.length_cons, List.length_nil, mrg_len]
    omega
/-! reading -/
theorem ba_eq {x y : ByteArray} (h : x.toList = y.toList) : x = y := by
  rw [ByteArray.toList_eq, ByteArray.toList_eq] at h
  exact ByteArray.ext (Array.toList_inj.1 h)
theorem pargs_nb {n : Nat} {st : PSt} {R : List (ByteArray × E) × PSt} (h : pargs s n st = some R) (hR : ¬ isB R.2) : ¬ isB st := fun z => by
  obtain ⟨e, l, c, rfl⟩ := z.ex
  rw [pargs_bad s e l c n R h] at hR
  exact hR trivial
theorem pcoils_nb {n : Nat} {st : PSt} {R : List (ByteArray × E) × PSt} (h : pcoils s n st = some R) (hR : ¬ isB R.2) : ¬ isB st := fun z => by
  obtain ⟨e, l, c, rfl⟩ := z.ex
  rw [pcoils_bad s e l c n R h] at hR
  exact hR trivial
theorem ps_nb {n : Nat} {j : SJob} {st : PSt} {R : S × PSt} (h : ps s n j st = some R) (hR : ¬ isB R.2) : ¬ isB st := fun z => by
  obtain ⟨e, l, c, rfl⟩ := z.ex
  rw [ps_bad s e l c n j R h] at hR
  exact hR trivial
/-- an expression that has been read -/
theorem ex_ok {K : Nat} (hK : s.length + 100 ≤ K) {n k : Nat} {d : Int} {R : E × PSt} (h : pj s n (.expr 1) (.at k d) = some R) (hd : 0 ≤ d ∧ d ≤ 64) (hR : ¬ isB R.2) : gE R.1 ∧ d + dE R.1 0 ≤ 64 ∧ sz R.1 + K * lft s R.2 ≤ K * lft s (.at k d) ∧ ∃ k', R.2 = .at k' d := by
  obtain ⟨⟨a1, a2, a3⟩, a4⟩ := pj_ok s K hK n (.expr 1) k d R h hd hR ⟨by decide, by decide⟩
  have := dE_mono R.1 (p := 0) (q := 1) (by decide)
  simp only [szJ] at a4
  exact ⟨a1, by omega, by omega, nb_da hR (pj_da s n _ _ _ d h rfl)⟩
theorem pl_ok {K : Nat} (hK : s.length + 100 ≤ K) {n k : Nat} {d : Int} {R : E × PSt} (h : pj s n .plac (.at k d) = some R) (hd : 0 ≤ d ∧ d ≤ 64) (hR : ¬ isB R.2) : gE R.1 ∧ R.1.isPl = true ∧ d + dE R.1 0 ≤ 64 ∧ sz R.1 + K * lft s R.2 ≤ K * lft s (.at k d) ∧ ∃ k', R.2 = .at k' d := by
  obtain ⟨⟨a1, a2, a3⟩, a4⟩ := pj_ok s K hK n .plac k d R h hd hR trivial
  simp only [szJ] at a4
  exact ⟨a1, a2, a3, by omega, nb_da hR (pj_da s n _ _ _ d h rfl)⟩
/-- expect, in a good state -/
theorem exp_ok (K : Nat) {u : ByteArray} {k : Nat} {d : Int} (h : ¬ isB (expectS s u (.at k d))) : expectS s u (.at k d) = .at (k + 1) d ∧ K * lft s (.at (k + 1) d) + K ≤ K * lft s (.at k d) := by
  obtain ⟨k1, d1, h1, h2, h3⟩ := exp_nb h
  injection h1 with h1 h4
  subst h1 h4
  exact ⟨h3, mulK (lft_take (isK_T h2))⟩
theorem acc_ok (K : Nat) {u : ByteArray} {k : Nat} {d : Int} (h : (acceptS s u (.at k d)).1 = true) : (acceptS s u (.at k d)).2 = .at (k + 1) d ∧ K * lft s (.at (k + 1) d) + K ≤ K * lft s (.at k d) := by
  obtain ⟨k1, d1, h1, h2, h3⟩ := accept_cases h
  injection h1 with h1 h4
  subst h1 h4
  exact ⟨h3, mulK (lft_take (isK_T h2))⟩
theorem pargs_ok (s : List Int) (K : Nat) (hK : s.length + 1000 ≤ K) : ∀ (n k : Nat) (d : Int) (R : List (ByteArray × E) × PSt), pargs s n (.at k d) = some R → (0 ≤ d ∧ d ≤ 64) → ¬ isB R.2 → (∀ y ∈ R.1, gN y.1 = true ∧ gE y.2) ∧ d + dP R.1 ≤ 64 ∧ szP R.1 + K * lft s R.2 ≤ K * lft s (.at k d) ∧ (∃ k', R.2 = .at k' d) ∧ R.1 ≠ [] := by
  intro n
  induction n with
  | zero => intro k d R h; unfold pargs at h; cases h
  | succ n ih =>
    intro k d R h hd hR
    unfold pargs at h
    split at h
    · cases h
    · next e st3 h1 =>
      have hnb3 : ¬ isB st3 := by
        split at h
        · next ha =>
          split at h
          · cases h
          · next L st5 h2 =>
            injection h with h
            subst h
            obtain ⟨k3, d3, rfl, _⟩ := accept_cases ha
            exact fun z => z
        · injection h with h
          subst h
          exact hR
      have hne := pj_nb h1 hnb3
      obtain ⟨k1, d1, e1, hk, e2⟩ := take_nb (st := .at k d) (kk := 2) (s := s) (by
        obtain ⟨a, b, c, _⟩ := exp_nb hne
        rw [c]
        exact fun z => z)
      injection e1 with e1 e3
      subst e1 e3
      rw [e2] at h1 hne h
      dsimp only at h1 hne h
      obtain ⟨e4, l4⟩ := exp_ok K hne
      rw [e4] at h1
      obtain ⟨a1, a2, a3, k3, a4⟩ := ex_ok (K := K) (by omega) h1 hd hnb3
      dsimp only at a1 a2 a3 a4
      subst a4
      have l1 := mulK (K := K) (lft_take (s := s) (d := d) (e := d) (.inl hk : isT (tks s k).1))
      have hx := (tks_is s k).nm hk
      split at h
      · next ha =>
        obtain ⟨e5, l5⟩ := acc_ok K ha
        rw [e5] at h
        split at h
        · cases h
        · next L st5 h2 =>
          injection h with h
          subst h
          obtain ⟨b1, b2, b3, b4, b5⟩ := ih (k3 + 1) d (L, st5) h2 hd hR
          refine ⟨?_, ?_, ?_, b4, by simp⟩
          · intro y hy
            rcases List.mem_cons.1 hy with rfl | hy
            · exact ⟨hx.1, a1⟩
            · exact b1 y hy
          · simp only [dP] at b2 ⊢
            omega
          · simp only [szP] at b3 ⊢
            omega
      · injection h with h
        subst h
        refine ⟨?_, ?_, ?_, ⟨k3, rfl⟩, by simp⟩
        · intro y hy
          rcases List.mem_cons.1 hy with rfl | hy
          · exact ⟨hx.1, a1⟩
          · cases hy
        · simp only [dP]
          omega
        · simp only [szP]
          omega
theorem mode_ok (K : Nat) {k : Nat} {d : Int} : ((modeS s (.at k d)).1 = nb ∨ (modeS s (.at k d)).1 = bNOT ∨ (modeS s (.at k d)).1 = bSET ∨ (modeS s (.at k d)).1 = bRES) ∧ (strL (modeS s (.at k d)).1).length ≤ 5 ∧ K * lft s (modeS s (.at k d)).2 ≤ K * lft s (.at k d) ∧ ∃ k', (modeS s (.at k d)).2 = .at k' d := by
  have hl := mulE (K := K) (lft_mode (s := s) (.at k d))
  unfold modeS at hl ⊢
  split
  · next hm =>
    rw [if_pos hm] at hl
    unfold isMode at hm
    rw [Bool.or_eq_true, Bool.or_eq_true] at hm
    have hk : (tks s k).1.k = 5 := by
      rcases hm with (hm | hm) | hm <;> exact isK_k (show isK (tks s k).1 _ = true from hm)
    rw [take_t hk] at hl ⊢
    dsimp only at hl ⊢
    refine ⟨?_, ?_, hl, _, rfl⟩
    · rcases hm with (hm | hm) | hm
      · exact .inr (.inl (ba_eq (isK_x (show isK (tks s k).1 _ = true from hm))))
      · exact .inr (.inr (.inl (ba_eq (isK_x (show isK (tks s k).1 _ = true from hm)))))
      · exact .inr (.inr (.inr (ba_eq (isK_x (show isK (tks s k).1 _ = true from hm)))))
    · rcases hm with (hm | hm) | hm <;> rw [ba_eq (isK_x (show isK (tks s k).1 _ = true from hm))] <;> decide
  · exact ⟨.inl rfl, by show (strL nb).length ≤ 5; decide, Nat.le_refl _, _, rfl⟩
theorem pcoils_ok (s : List Int) (K : Nat) (hK : s.length + 1000 ≤ K) : ∀ (n k : Nat) (d : Int) (R : List (ByteArray × E) × PSt), pcoils s n (.at k d) = some R → (0 ≤ d ∧ d ≤ 64) → ¬ isB R.2 → (∀ y ∈ R.1, (y.1 = nb ∨ y.1 = bNOT ∨ y.1 = bSET ∨ y.1 = bRES) ∧ gE y.2 ∧ y.2.isPl = true) ∧ d + dP R.1 ≤ 64 ∧ szP R.1 + K * lft s R.2 ≤ 20 + K * lft s (.at k d) ∧ (∃ k', R.2 = .at k' d) ∧ R.1 ≠ [] := by
  intro n
  induction n with
  | zero => intro k d R h; unfold pcoils at h; cases h
  | succ n ih =>
    intro k d R h hd hR
    obtain ⟨m1, m2, m3, k1, m4⟩ := mode_ok (s := s) K (k := k) (d := d)
    unfold pcoils at h
    rw [m4] at h m3
    generalize (modeS s (.at k d)).1 = md at *
    split at h
    · cases h
    · next e st3 h1 =>
      have hnb3 : ¬ isB st3 := by
        split at h
        · next ha =>
          split at h
          · cases h
          · next L st5 h2 =>
            injection h with h
            subst h
            obtain ⟨k3, d3, rfl, _⟩ := accept_cases ha
            exact fun z => z
        · injection h with h
          subst h
          exact hR
      obtain ⟨a1, a2, a3, a4, k3, a5⟩ := pl_ok (K := K) (by omega) h1 hd hnb3
      dsimp only at a1 a2 a3 a4 a5
      subst a5
      split at h
      · next ha =>
        obtain ⟨e5, l5⟩ := acc_ok K ha
        rw [e5] at h
        split at h
        · cases h
        · next L st5 h2 =>
          injection h with h
          subst h
          obtain ⟨b1, b2, b3, b4, b5⟩ := ih (k3 + 1) d (L, st5) h2 hd hR
          refine ⟨?_, ?_, ?_, b4, by simp⟩
          · intro y hy
            rcases List.mem_cons.1 hy with rfl | hy
            · exact ⟨m1, a1, a2⟩
            · exact b1 y hy
          · simp only [dP] at b2 ⊢
            omega
          · simp only [szP] at b3 ⊢
            omega
      · injection h with h
        subst h
        refine ⟨?_, ?_, ?_, ⟨k3, rfl⟩, by simp⟩
        · intro y hy
          rcases List.mem_cons.1 hy with rfl | hy
          · exact ⟨m1, a1, a2⟩
          · cases hy
        · simp only [dP]
          omega
        · simp only [szP]
          omega
end Go.Proofs.Qxb6500774a
