import Derived.Test.Qxb6500774aHa
namespace Go.Proofs.Qxb6500774a
open Go.RowKit
set_option linter.unusedVariables false
set_option linter.unusedSimpArgs false
variable {s : List Int}

/-! ### The plain parser always ends -/
theorem isK_k {t : TK} {u : ByteArray} (h : isK t u = true) : t.k = 5 := by
  unfold isK at h
  simp at h
  exact h.1
theorem isK_x {t : TK} {u : ByteArray} (h : isK t u = true) : t.x.toList = u.toList := by
  unfold isK at h
  simp at h
  exact h.2
theorem at_cases {u : ByteArray} {st : PSt} (h : atS s u st = true) : ∃ k d, st = .at k d ∧ isK (tks s k).1 u = true := by
  cases st with
  | «at» k d => exact ⟨k, d, rfl, h⟩
  | bad e l c => cases h
theorem take_t {k : Nat} {d kk : Int} (h : (tks s k).1.k = kk) : takeS s kk (.at k d) = ((tks s k).1, .at (k + 1) d) := by
  unfold takeS
  dsimp only
  rw [if_pos h]
theorem accept_t {u : ByteArray} {k : Nat} {d : Int} (h : isK (tks s k).1 u = true) : acceptS s u (.at k d) = (true, .at (k + 1) d) := by
  unfold acceptS
  rw [if_pos (show atS s u (.at k d) = true from h), take_t (isK_k h)]
theorem accept_f {u : ByteArray} {st : PSt} (h : ¬ (acceptS s u st).1 = true) : acceptS s u st = (false, st) := by
  unfold acceptS at h ⊢
  split
  · next q => rw [if_pos q] at h; exact absurd rfl h
  · rfl
theorem accept_cases {u : ByteArray} {st : PSt} (h : (acceptS s u st).1 = true) : ∃ k d, st = .at k d ∧ isK (tks s k).1 u = true ∧ (acceptS s u st).2 = .at (k + 1) d := by
  have q : atS s u st = true := by
    unfold acceptS at h
    split at h
    · next q => exact q
    · cases h
  obtain ⟨k, d, rfl, hk⟩ := at_cases q
  exact ⟨k, d, rfl, hk, by rw [accept_t hk]⟩
theorem expect_t {u : ByteArray} {k : Nat} {d : Int} (h : isK (tks s k).1 u = true) : expectS s u (.at k d) = .at (k + 1) d := by
  unfold expectS
  rw [if_pos (show atS s u (.at k d) = true from h), take_t (isK_k h)]
theorem isK_T {t : TK} {u : ByteArray} (h : isK t u = true) : isT t := .inr (.inr (.inr (isK_k h)))
theorem lft_fail (er : Int) (st : PSt) : lft s (failS s er st) = 0 := by
  cases st <;> rfl
theorem lft_tk (kk : Int) (st : PSt) (hk : 2 ≤ kk ∧ kk ≤ 5) : lft s (takeS s kk st).2 ≤ lft s st := by
  cases st with
  | «at» k d =>
    by_cases h : (tks s k).1.k = kk
    · rw [take_t h]
      exact Nat.le_of_lt (lft_take (by unfold isT; omega))
    · unfold takeS
      dsimp only
      rw [if_neg h]
      dsimp only
      rw [lft_fail]
      exact Nat.zero_le _
  | bad e l c => exact Nat.le_refl _
theorem lft_acc (u : ByteArray) (st : PSt) : lft s (acceptS s u st).2 ≤ lft s st := by
  unfold acceptS
  split
  · exact lft_tk 5 st (by decide)
  · exact Nat.le_refl _
theorem lft_exp (u : ByteArray) (st : PSt) : lft s (expectS s u st) ≤ lft s st := by
  unfold expectS
  split
  · exact lft_tk 5 st (by decide)
  · rw [lft_fail]; exact Nat.zero_le _
theorem lft_dec (st : PSt) : lft s (decS st) = lft s st := by
  cases st <;> rfl
theorem lft_open {u : ByteArray} {st : PSt} (h : atS s u st = true) : lft s (openS s st).2 < lft s st := by
  obtain ⟨k, d, rfl, hk⟩ := at_cases h
  have h0 : lft s (.at (k + 1) (d + 1)) < lft s (.at k d) := lft_take (isK_T hk)
  unfold openS
  dsimp only
  split
  · dsimp only
    rw [lft_fail]
    omega
  · exact h0
theorem lft_acc1 {u : ByteArray} {st : PSt} (h : (acceptS s u st).1 = true) : lft s (acceptS s u st).2 < lft s st := by
  obtain ⟨k, d, rfl, hk, e⟩ := accept_cases h
  rw [e]
  exact lft_take (isK_T hk)
theorem pow_cases {m : Int} {st : PSt} (h : powS s m st = true) : ∃ k d, st = .at k d ∧ (tks s k).1.k = 5 ∧ m ≤ powP (tks s k).1.x.toList := by
  cases st with
  | «at» k d =>
    unfold powS tokS at h
    simp at h
    exact ⟨k, d, rfl, h.1, h.2⟩
  | bad e l c => unfold powS tokS at h; simp at h
def wtJ : Job → Nat
  | .expr _ => 4
  | .loop _ _ => 1
  | .oper => 3
  | .plac => 2
  | .placL _ => 1
theorem wtJ_pos (j : Job) : 1 ≤ wtJ j := by cases j <;> simp [wtJ]
theorem pj_tot (s : List Int) : ∀ (n : Nat) (j : Job) (st : PSt), 5 * lft s st + wtJ j ≤ n → ∃ R, pj s n j st = some R ∧ lft s R.2 ≤ lft s st := by
  intro n
  induction n with
  | zero => intro j st h; have := wtJ_pos j; omega
  | succ n ih =>
    intro j st h
    cases j with
    | expr m =>
      simp only [wtJ] at h
      obtain ⟨R, h1, h2⟩ := ih .oper st (by simp only [wtJ]; omega)
      obtain ⟨R2, h3, h4⟩ := ih (.loop m R.1) R.2 (by simp only [wtJ]; omega)
      refine ⟨R2, ?_, by omega⟩
      unfold pj
      rw [h1]
      exact h3
    | loop m left =>
      simp only [wtJ] at h
      unfold pj
      split
      · next hp =>
        obtain ⟨k, d, rfl, hk, hm⟩ := pow_cases hp
        rw [take_t hk]
        have hl : lft s (.at (k + 1) d) < lft s (.at k d) := lft_take (.inr (.inr (.inr hk)))
        dsimp only
        obtain ⟨R, h1, h2⟩ := ih (.expr (powP (tks s k).1.x.toList + 1)) (.at (k + 1) d) (by simp only [wtJ]; omega)
        rw [h1]
        obtain ⟨R2, h3, h4⟩ := ih (.loop m (.bin (tks s k).1.x left R.1 left.l left.c)) R.2 (by simp only [wtJ]; omega)
        exact ⟨R2, h3, by omega⟩
      · exact ⟨_, rfl, Nat.le_refl _⟩
    | oper =>
      simp only [wtJ] at h
      unfold pj
      split
      · obtain ⟨R, h1, h2⟩ := ih .plac st (by simp only [wtJ]; omega)
        exact ⟨R, h1, h2⟩
      · split
        · next ha =>
          have hl : lft s (openS s st).2 < lft s st := by rcases ha with ha | ha <;> exact lft_open ha
          split
          · obtain ⟨R, h1, h2⟩ := ih .oper (openS s st).2 (by simp only [wtJ]; omega)
            rw [h1]
            exact ⟨_, rfl, by dsimp only; rw [lft_dec]; omega⟩
          · exact ⟨_, rfl, Nat.le_of_lt hl⟩
        · split
          · next ha =>
            have hl := lft_open ha
            split
            · obtain ⟨R, h1, h2⟩ := ih (.expr 1) (openS s st).2 (by simp only [wtJ]; omega)
              rw [h1]
              refine ⟨_, rfl, ?_⟩
              have := lft_exp (s := s) bEND (decS R.2)
              rw [lft_dec] at this
              dsimp only
              omega
            · exact ⟨_, rfl, Nat.le_of_lt hl⟩
          · split
            · exact ⟨_, rfl, lft_tk 3 st (by decide)⟩
            · split
              · exact ⟨_, rfl, lft_tk 4 st (by decide)⟩
              · split
                · exact ⟨_, rfl, lft_tk 5 st (by decide)⟩
                · exact ⟨_, rfl, by dsimp only; rw [lft_fail]; exact Nat.zero_le _⟩
    | plac =>
      simp only [wtJ] at h
      have hl := lft_tk (s := s) 2 st (by decide)
      obtain ⟨R, h1, h2⟩ := ih (.placL (.nm (takeS s 2 st).1.x (tokS s st).l (tokS s st).c)) (takeS s 2 st).2 (by simp only [wtJ]; omega)
      refine ⟨R, ?_, by omega⟩
      unfold pj
      exact h1
    | placL e =>
      simp only [wtJ] at h
      unfold pj
      split
      · next ha =>
        have hl := lft_acc1 ha
        have hl2 := lft_tk (s := s) 2 (acceptS s bDOT st).2 (by decide)
        obtain ⟨R, h1, h2⟩ := ih (.placL (.fld e (takeS s 2 (acceptS s bDOT st).2).1.x e.l e.c)) (takeS s 2 (acceptS s bDOT st).2).2 (by simp only [wtJ]; omega)
        exact ⟨R, h1, by omega⟩
      · split
        · next ha =>
          have hl := lft_open ha
          split
          · obtain ⟨R, h1, h2⟩ := ih (.expr 1) (openS s st).2 (by simp only [wtJ]; omega)
            rw [h1]
            dsimp only
            have := lft_exp (s := s) bKET (decS R.2)
            rw [lft_dec] at this
            obtain ⟨R2, h3, h4⟩ := ih (.placL (.idx e R.1 e.l e.c)) (expectS s bKET (decS R.2)) (by simp only [wtJ]; omega)
            exact ⟨R2, h3, by omega⟩
          · exact ⟨_, rfl, Nat.le_of_lt hl⟩
        · exact ⟨_, rfl, Nat.le_refl _⟩
theorem lft_mode (st : PSt) : lft s (modeS s st).2 ≤ lft s st := by
  unfold modeS
  split
  · exact lft_tk 5 st (by decide)
  · exact Nat.le_refl _
theorem pargs_tot (s : List Int) : ∀ (n : Nat) (st : PSt), 6 * lft s st + 5 ≤ n → ∃ R, pargs s n st = some R ∧ lft s R.2 ≤ lft s st := by
  intro n
  induction n with
  | zero => intro st h; omega
  | succ n ih =>
    intro st h
    have h1 := lft_tk (s := s) 2 st (by decide)
    have h2 := lft_exp (s := s) bASG (takeS s 2 st).2
    unfold pargs
    obtain ⟨R, h3, h4⟩ := pj_tot s n (.expr 1) (expectS s bASG (takeS s 2 st).2) (by simp only [wtJ]; omega)
    rw [h3]
    dsimp only
    split
    · next ha =>
      have h5 := lft_acc1 ha
      obtain ⟨R2, h6, h7⟩ := ih (acceptS s bCOM R.2).2 (by omega)
      rw [h6]
      exact ⟨_, rfl, by dsimp only; omega⟩
    · exact ⟨_, rfl, by dsimp only; omega⟩
theorem pcoils_tot (s : List Int) : ∀ (n : Nat) (st : PSt), 6 * lft s st + 5 ≤ n → ∃ R, pcoils s n st = some R ∧ lft s R.2 ≤ lft s st := by
  intro n
  induction n with
  | zero => intro st h; omega
  | succ n ih =>
    intro st h
    have h1 := lft_mode (s := s) st
    unfold pcoils
    obtain ⟨R, h3, h4⟩ := pj_tot s n .plac (modeS s st).2 (by simp only [wtJ]; omega)
    rw [h3]
    dsimp only
    split
    · next ha =>
      have h5 := lft_acc1 ha
      obtain ⟨R2, h6, h7⟩ := ih (acceptS s bCOM R.2).2 (by omega)
      rw [h6]
      exact ⟨_, rfl, by dsimp only; omega⟩
    · exact ⟨_, rfl, by dsimp only; omega⟩
def wtS : SJob → Nat
  | .stmts => 8
  | .simple _ _ => 7
  | .ifs _ _ => 7
  | .arms => 9
  | .fors _ _ => 7
  | .rungs _ _ => 7
theorem ps_tot (s : List Int) : ∀ (n : Nat) (j : SJob) (st : PSt), 10 * lft s st + wtS j ≤ n → (∀ l c, j = .simple l c → (tokS s st).k = 2) → (∀ l c, j = .ifs l c → atS s bIF st = true) → (∀ l c, j = .fors l c → atS s bFOR st = true) → ∃ R, ps s n j st = some R ∧ lft s R.2 ≤ lft s st ∧ (∀ l c, j = .simple l c ∨ j = .ifs l c ∨ j = .fors l c → lft s R.2 < lft s st) := by
  intro n
  induction n with
  | zero => intro j st h; cases j <;> simp [wtS] at h
  | succ n ih =>
    intro j st h hs hi hf
    cases j with
    | stmts =>
      simp only [wtS] at h
      have tail : ∀ (st1 : PSt) (A : S), lft s st1 < lft s st → ∃ R, (match ps s n .stmts (expectS s bSEM st1) with | none => none | some (R, st2) => some (A.app R, st2)) = some R ∧ lft s R.2 ≤ lft s st := by
        intro st1 A hl
        have h2 := lft_exp (s := s) bSEM st1
        obtain ⟨R, h3, h4, _⟩ := ih .stmts (expectS s bSEM st1) (by simp only [wtS]; omega) (fun _ _ z => by cases z) (fun _ _ z => by cases z) (fun _ _ z => by cases z)
        rw [h3]
        exact ⟨_, rfl, by dsimp only; omega⟩
      unfold ps
      split
      · next hk =>
        obtain ⟨R, h1, h2, h3⟩ := ih (.simple (tokS s st).l (tokS s st).c) st (by simp only [wtS]; omega) (fun _ _ _ => hk) (fun _ _ z => by cases z) (fun _ _ z => by cases z)
        rw [h1]
        obtain ⟨R2, h4, h5⟩ := tail R.2 R.1 (h3 _ _ (.inl rfl))
        exact ⟨R2, h4, h5, fun _ _ z => by rcases z with z | z | z <;> cases z⟩
      · split
        · next hk =>
          obtain ⟨R, h1, h2, h3⟩ := ih (.ifs (tokS s st).l (tokS s st).c) st (by simp only [wtS]; omega) (fun _ _ z => by cases z) (fun _ _ _ => hk) (fun _ _ z => by cases z)
          rw [h1]
          obtain ⟨R2, h4, h5⟩ := tail R.2 R.1 (h3 _ _ (.inr (.inl rfl)))
          exact ⟨R2, h4, h5, fun _ _ z => by rcases z with z | z | z <;> cases z⟩
        · split
          · next hk =>
            obtain ⟨R, h1, h2, h3⟩ := ih (.fors (tokS s st).l (tokS s st).c) st (by simp only [wtS]; omega) (fun _ _ z => by cases z) (fun _ _ z => by cases z) (fun _ _ _ => hk)
            rw [h1]
            obtain ⟨R2, h4, h5⟩ := tail R.2 R.1 (h3 _ _ (.inr (.inr rfl)))
            exact ⟨R2, h4, h5, fun _ _ z => by rcases z with z | z | z <;> cases z⟩
          · split
            · next hk =>
              have hl := lft_acc1 hk
              obtain ⟨R, h1, h2, h3⟩ := ih (.rungs (tokS s st).l (tokS s st).c) (acceptS s bRUN st).2 (by simp only [wtS]; omega) (fun _ _ z => by cases z) (fun _ _ z => by cases z) (fun _ _ z => by cases z)
              rw [h1]
              obtain ⟨R2, h4, h5⟩ := tail R.2 R.1 (by omega)
              exact ⟨R2, h4, h5, fun _ _ z => by rcases z with z | z | z <;> cases z⟩
            · exact ⟨_, rfl, Nat.le_refl _, fun _ _ z => by rcases z with z | z | z <;> cases z⟩
    | simple l c =>
      simp only [wtS] at h
      have hk := hs l c rfl
      unfold ps
      have h0 : ∃ R, pj s n .plac st = some R ∧ lft s R.2 < lft s st := by
        cases st with
        | bad e l c => simp [tokS] at hk
        | «at» k d =>
          have hk : (tks s k).1.k = 2 := hk
          have hl : lft s (.at (k + 1) d) < lft s (.at k d) := lft_take (.inl hk)
          obtain ⟨m, rfl⟩ : ∃ m, n = m + 1 := ⟨n - 1, by omega⟩
          have e := take_t (d := d) hk
          obtain ⟨R, h1, h2⟩ := pj_tot s m (.placL (.nm (takeS s 2 (.at k d)).1.x (tokS s (.at k d)).l (tokS s (.at k d)).c)) (takeS s 2 (.at k d)).2 (by simp only [wtJ]; rw [e]; dsimp only; omega)
          refine ⟨R, ?_, ?_⟩
          · unfold pj
            exact h1
          · rw [e] at h2
            dsimp only at h2
            omega
      obtain ⟨R, h1, h2⟩ := h0
      rw [h1]
      dsimp only
      split
      · next ha =>
        have h3 := lft_acc (s := s) bPAR R.2
        split
        · have h4 := lft_exp (s := s) bEND (acceptS s bPAR R.2).2
          exact ⟨_, rfl, by dsimp only; omega, fun _ _ _ => by dsimp only; omega⟩
        · obtain ⟨R2, h5, h6⟩ := pargs_tot s n (acceptS s bPAR R.2).2 (by omega)
          rw [h5]
          have h4 := lft_exp (s := s) bEND R2.2
          exact ⟨_, rfl, by dsimp only; omega, fun _ _ _ => by dsimp only; omega⟩
      · have h3 := lft_exp (s := s) bASG R.2
        obtain ⟨R2, h5, h6⟩ := pj_tot s n (.expr 1) (expectS s bASG R.2) (by simp only [wtJ]; omega)
        rw [h5]
        exact ⟨_, rfl, by dsimp only; omega, fun _ _ _ => by dsimp only; omega⟩
    | ifs l c =>
      simp only [wtS] at h
      have hl := lft_open (hi l c rfl)
      unfold ps
      split
      · obtain ⟨R, h1, h2, _⟩ := ih .arms (openS s st).2 (by simp only [wtS]; omega) (fun _ _ z => by cases z) (fun _ _ z => by cases z) (fun _ _ z => by cases z)
        rw [h1]
        dsimp only
        have h3 := lft_acc (s := s) bELS R.2
        split
        · obtain ⟨R2, h4, h5, _⟩ := ih .stmts (acceptS s bELS R.2).2 (by simp only [wtS]; omega) (fun _ _ z => by cases z) (fun _ _ z => by cases z) (fun _ _ z => by cases z)
          rw [h4]
          have h6 := lft_exp (s := s) bEIF (decS R2.2)
          rw [lft_dec] at h6
          exact ⟨_, rfl, by dsimp only; omega, fun _ _ _ => by dsimp only; omega⟩
        · have h6 := lft_exp (s := s) bEIF (decS R.2)
          rw [lft_dec] at h6
          exact ⟨_, rfl, by dsimp only; omega, fun _ _ _ => by dsimp only; omega⟩
      · exact ⟨_, rfl, Nat.le_of_lt hl, fun _ _ _ => hl⟩
    | arms =>
      simp only [wtS] at h
      unfold ps
      obtain ⟨R, h1, h2⟩ := pj_tot s n (.expr 1) st (by simp only [wtJ]; omega)
      rw [h1]
      dsimp only
      have h3 := lft_exp (s := s) bTHN R.2
      obtain ⟨R2, h4, h5, _⟩ := ih .stmts (expectS s bTHN R.2) (by simp only [wtS]; omega) (fun _ _ z => by cases z) (fun _ _ z => by cases z) (fun _ _ z => by cases z)
      rw [h4]
      dsimp only
      split
      · next ha =>
        have h6 := lft_acc1 ha
        obtain ⟨R3, h7, h8, _⟩ := ih .arms (acceptS s bELI R2.2).2 (by simp only [wtS]; omega) (fun _ _ z => by cases z) (fun _ _ z => by cases z) (fun _ _ z => by cases z)
        rw [h7]
        exact ⟨_, rfl, by dsimp only; omega, fun _ _ z => by rcases z with z | z | z <;> cases z⟩
      · exact ⟨_, rfl, by dsimp only; omega, fun _ _ z => by rcases z with z | z | z <;> cases z⟩
    | fors l c =>
      simp only [wtS] at h
      have hl := lft_open (hf l c rfl)
      unfold ps
      split
      · have g1 := lft_tk (s := s) 2 (openS s st).2 (by decide)
        have g2 := lft_exp (s := s) bASG (takeS s 2 (openS s st).2).2
        obtain ⟨R, h1, h2⟩ := pj_tot s n (.expr 1) (expectS s bASG (takeS s 2 (openS s st).2).2) (by simp only [wtJ]; omega)
        rw [h1]
        dsimp only
        have g3 := lft_exp (s := s) bTO R.2
        obtain ⟨R2, h3, h4⟩ := pj_tot s n (.expr 1) (expectS s bTO R.2) (by simp only [wtJ]; omega)
        rw [h3]
        dsimp only
        have g4 := lft_exp (s := s) bDO R2.2
        obtain ⟨R3, h5, h6, _⟩ := ih .stmts (expectS s bDO R2.2) (by simp only [wtS]; omega) (fun _ _ z => by cases z) (fun _ _ z => by cases z) (fun _ _ z => by cases z)
        rw [h5]
        have g5 := lft_exp (s := s) bEFR (decS R3.2)
        rw [lft_dec] at g5
        exact ⟨_, rfl, by dsimp only; omega, fun _ _ _ => by dsimp only; omega⟩
      · exact ⟨_, rfl, Nat.le_of_lt hl, fun _ _ _ => hl⟩
    | rungs l c =>
      simp only [wtS] at h
      unfold ps
      obtain ⟨R, h1, h2⟩ := pj_tot s n (.expr 1) st (by simp only [wtJ]; omega)
      rw [h1]
      dsimp only
      have h3 := lft_exp (s := s) bARR R.2
      obtain ⟨R2, h4, h5⟩ := pcoils_tot s n (expectS s bARR R.2) (by omega)
      rw [h4]
      exact ⟨_, rfl, by dsimp only; omega, fun _ _ z => by rcases z with z | z | z <;> cases z⟩
end Go.Proofs.Qxb6500774a
