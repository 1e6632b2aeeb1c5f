import Derived.Test.Qxb6500774aHe
namespace Go.Proofs.Qxb6500774a
open Go.RowKit
set_option linter.unusedVariables false
set_option linter.unusedSimpArgs false
variable {s : List Int}

/-! ### Declarations, programs and properties that are read are good -/
theorem lft_arr (st : PSt) : lft s (arrS s st).2 ≤ lft s st := by
  unfold arrS
  dsimp only
  have h1 := lft_exp (s := s) bBRA st
  have h2 := lft_tk (s := s) 3 (expectS s bBRA st) (by decide)
  have h3 := lft_exp (s := s) bDD (takeS s 3 (expectS s bBRA st)).2
  have h4 := lft_tk (s := s) 3 (expectS s bDD (takeS s 3 (expectS s bBRA st)).2) (by decide)
  have h5 := lft_exp (s := s) bKET (takeS s 3 (expectS s bDD (takeS s 3 (expectS s bBRA st)).2)).2
  have h6 := lft_exp (s := s) bOF (expectS s bKET (takeS s 3 (expectS s bDD (takeS s 3 (expectS s bBRA st)).2)).2)
  omega
theorem lft_may (st : PSt) : lft s (mayArr s st).2 ≤ lft s st := by
  unfold mayArr
  split
  · have h1 := lft_acc (s := s) bARY st
    have h2 := lft_arr (s := s) (acceptS s bARY st).2
    dsimp only
    omega
  · exact Nat.le_refl _
theorem pdecl_tot (s : List Int) (n : Nat) (cls : ByteArray) (st : PSt) (hk : (tokS s st).k = 2) (h : 5 * lft s st + 4 ≤ n) : ∃ R, pdecl s n cls st = some R ∧ lft s R.2 < lft s st := by
  cases st with
  | bad e l c => simp [tokS] at hk
  | «at» k d =>
    have hk : (tks s k).1.k = 2 := hk
    have l1 : lft s (.at (k + 1) d) < lft s (.at k d) := lft_take (.inl hk)
    unfold pdecl
    rw [take_t hk]
    dsimp only
    generalize tokS s (.at k d) = tt
    have l2 := lft_exp (s := s) bCOL (.at (k + 1) d)
    have l3 := lft_may (s := s) (expectS s bCOL (.at (k + 1) d))
    generalize mayArr s (expectS s bCOL (.at (k + 1) d)) = M at *
    have l4 := lft_tk (s := s) 2 M.2 (by decide)
    generalize takeS s 2 M.2 = T at *
    have l5 := lft_acc (s := s) bASG T.2
    split
    · obtain ⟨R, h1, h2⟩ := pj_tot s n (.expr 1) (acceptS s bASG T.2).2 (by simp only [wtJ]; omega)
      rw [h1]
      have l6 := lft_exp (s := s) bSEM R.2
      exact ⟨_, rfl, by dsimp only; omega⟩
    · have l6 := lft_exp (s := s) bSEM T.2
      exact ⟨_, rfl, by dsimp only; omega⟩
theorem pbl_tot (s : List Int) : ∀ (n : Nat) (j : BJob) (st : PSt), 10 * lft s st + (match j with | .outer => 5 | .inner _ => 7) ≤ n → ∃ R, pbl s n j st = some R ∧ lft s R.2 ≤ lft s st := by
  intro n
  induction n with
  | zero => intro j st h; cases j <;> simp at h
  | succ n ih =>
    intro j st h
    cases j with
    | outer =>
      dsimp only at h
      unfold pbl
      split
      · next hv =>
        unfold isVar at hv
        rw [Bool.or_eq_true, Bool.or_eq_true] at hv
        have : lft s (takeS s 5 st).2 < lft s st := by
          rcases hv with (hv | hv) | hv
          all_goals
            obtain ⟨k, d, rfl, hk⟩ := at_cases hv
            rw [take_t (isK_k hk)]
            exact lft_take (isK_T hk)
        obtain ⟨R, h1, h2⟩ := ih (.inner (takeS s 5 st).1.x) (takeS s 5 st).2 (by dsimp only; omega)
        exact ⟨R, h1, by omega⟩
      · exact ⟨_, rfl, Nat.le_refl _⟩
    | inner cls =>
      dsimp only at h
      unfold pbl
      split
      · next hk =>
        obtain ⟨R, h1, h2⟩ := pdecl_tot s n cls st hk (by omega)
        rw [h1]
        dsimp only
        obtain ⟨R2, h3, h4⟩ := ih (.inner cls) R.2 (by dsimp only; omega)
        rw [h3]
        exact ⟨_, rfl, by dsimp only; omega⟩
      · have l1 := lft_exp (s := s) bEVR st
        obtain ⟨R, h1, h2⟩ := ih .outer (expectS s bEVR st) (by dsimp only; omega)
        exact ⟨R, h1, by omega⟩
theorem lft_0 (s : List Int) : lft s (.at 0 0) ≤ 1048577 := by
  by_cases h : 1048576 < s.length
  · have : ¬ isT (tks s 0).1 := by
      unfold tks
      rw [if_pos h]
      intro z
      have z : (1 : Int) = 2 ∨ (1 : Int) = 3 ∨ (1 : Int) = 4 ∨ (1 : Int) = 5 := z
      omega
    have e : lft s (.at 0 0) = 0 := if_neg this
    omega
  · have := lft_le s (.at 0 0)
    omega
theorem pprog_all (s : List Int) : ∃ n R, n < 4294967296 ∧ pprog s n = some R := by
  have l0 := lft_0 s
  have l1 := lft_exp (s := s) bPRG (.at 0 0)
  have l2 := lft_tk (s := s) 2 (expectS s bPRG (.at 0 0)) (by decide)
  obtain ⟨R, h1, h2⟩ := pbl_tot s (10 * lft s (.at 0 0) + 20) .outer (takeS s 2 (expectS s bPRG (.at 0 0))).2 (by dsimp only; omega)
  obtain ⟨R2, h3, h4, _⟩ := ps_tot s (10 * lft s (.at 0 0) + 20) .stmts R.2 (by simp only [wtS]; omega) (fun _ _ z => by cases z) (fun _ _ z => by cases z) (fun _ _ z => by cases z)
  refine ⟨10 * lft s (.at 0 0) + 20, (⟨(takeS s 2 (expectS s bPRG (.at 0 0))).1.x, R.1, R2.1⟩, (takeS s 0 (expectS s bEPR R2.2)).2), by omega, ?_⟩
  unfold pprog
  rw [h1]
  dsimp only
  rw [h3]
theorem pprop_all (s : List Int) : ∃ n R, pprop s n = some R := by
  have l1 := lft_acc (s := s) bRSP (.at 0 0)
  have l2 := lft_exp (s := s) bINV (.at 0 0)
  refine ⟨5 * lft s (.at 0 0) + 4, ?_⟩
  unfold pprop
  split
  · obtain ⟨R, h1, h2⟩ := pj_tot s (5 * lft s (.at 0 0) + 4) (.expr 1) (acceptS s bRSP (.at 0 0)).2 (by simp only [wtJ]; omega)
    rw [h1]
    dsimp only
    have l3 := lft_exp (s := s) bWIT R.2
    have l4 := lft_tk (s := s) 3 (expectS s bWIT R.2) (by decide)
    have l5 := lft_exp (s := s) bTHN (takeS s 3 (expectS s bWIT R.2)).2
    obtain ⟨R2, h3, h4⟩ := pj_tot s (5 * lft s (.at 0 0) + 4) (.expr 1) (expectS s bTHN (takeS s 3 (expectS s bWIT R.2)).2) (by simp only [wtJ]; omega)
    rw [h3]
    exact ⟨_, rfl⟩
  · obtain ⟨R, h1, h2⟩ := pj_tot s (5 * lft s (.at 0 0) + 4) (.expr 1) (expectS s bINV (.at 0 0)) (by simp only [wtJ]; omega)
    rw [h1]
    exact ⟨_, rfl⟩
/-! goodness -/
def dD (x : Dc) : Nat := match x.ini with
  | none => 0
  | some e => dE e 0
def dDs : List Dc → Nat
  | [] => 0
  | x :: L => max (dD x) (dDs L)
def szD (x : Dc) : Nat := (strL x.nm).length + (strL x.ty).length + 200 + (match x.ini with
  | none => 0
  | some e => sz e)
def szDs : List Dc → Nat
  | [] => 0
  | x :: L => szD x + szDs L
theorem take3_ok (K : Nat) {k : Nat} {d : Int} (h : ¬ isB (takeS s 3 (.at k d)).2) : takeS s 3 (.at k d) = ((tks s k).1, .at (k + 1) d) ∧ (0 ≤ (tks s k).1.v ∧ (tks s k).1.v ≤ 9223372036854775807) ∧ K * lft s (.at (k + 1) d) + K ≤ K * lft s (.at k d) := by
  obtain ⟨k1, d1, h1, h2, h3⟩ := take_nb h
  injection h1 with h1 h4
  subst h1 h4
  exact ⟨h3, (tks_is s k).num (.inl h2), mulK (lft_take (.inr (.inl h2)))⟩
theorem exp_nb1 {u : ByteArray} {st : PSt} (h : ¬ isB (expectS s u st)) : ¬ isB st := by
  obtain ⟨a, b, c, _⟩ := exp_nb h
  rw [c]
  exact fun z => z
theorem take_nb1 {kk : Int} {st : PSt} (h : ¬ isB (takeS s kk st).2) : ¬ isB st := by
  obtain ⟨a, b, c, _⟩ := take_nb h
  rw [c]
  exact fun z => z
theorem may_ok (K : Nat) {k : Nat} {d : Int} (h : ¬ isB (mayArr s (.at k d)).2) : ((0 ≤ (mayArr s (.at k d)).1.2.1 ∧ (mayArr s (.at k d)).1.2.1 ≤ 9223372036854775807) ∧ (0 ≤ (mayArr s (.at k d)).1.2.2 ∧ (mayArr s (.at k d)).1.2.2 ≤ 9223372036854775807) ∧ ((mayArr s (.at k d)).1.1 = false → (mayArr s (.at k d)).1.2.1 = 0 ∧ (mayArr s (.at k d)).1.2.2 = 0)) ∧ ∃ k', (mayArr s (.at k d)).2 = .at k' d := by
  unfold mayArr at h ⊢
  split
  · next ha =>
    rw [if_pos ha] at h
    obtain ⟨e1, l1⟩ := acc_ok K ha
    rw [e1] at h ⊢
    unfold arrS at h ⊢
    dsimp only at h ⊢
    have n1 := exp_nb1 h
    have n2 := exp_nb1 n1
    have n3 := take_nb1 n2
    have n4 := exp_nb1 n3
    have n5 := take_nb1 n4
    obtain ⟨f1, _⟩ := exp_ok K n5
    rw [f1] at h n1 n2 n3 n4 ⊢
    obtain ⟨f2, v2, _⟩ := take3_ok K n4
    rw [f2] at h n1 n2 n3 ⊢
    obtain ⟨f3, _⟩ := exp_ok K n3
    dsimp only at h n1 n2 n3 f3 ⊢
    rw [f3] at h n1 n2 ⊢
    obtain ⟨f4, v4, _⟩ := take3_ok K n2
    rw [f4] at h n1 ⊢
    dsimp only at h n1 ⊢
    obtain ⟨f5, _⟩ := exp_ok K n1
    rw [f5] at h ⊢
    obtain ⟨f6, _⟩ := exp_ok K h
    rw [f6]
    exact ⟨⟨v2, v4, fun z => by cases z⟩, _, rfl⟩
  · dsimp only
    exact ⟨⟨⟨by decide, by decide⟩, ⟨by decide, by decide⟩, fun _ => ⟨rfl, rfl⟩⟩, _, rfl⟩
theorem pdecl_ok (s : List Int) (K : Nat) (hK : s.length + 1000 ≤ K) (n : Nat) (cls : ByteArray) (hcls : cls = bVAR ∨ cls = bVIN ∨ cls = bVOU) (k : Nat) (d : Int) (R : Dc × PSt) (h : pdecl s n cls (.at k d) = some R) (hd : 0 ≤ d ∧ d ≤ 64) (hR : ¬ isB R.2) : gD R.1 ∧ d + dD R.1 ≤ 64 ∧ szD R.1 + K * lft s R.2 ≤ K * lft s (.at k d) ∧ ∃ k', R.2 = .at k' d := by
  unfold pdecl at h
  have hnT : ¬ isB (takeS s 2 (mayArr s (expectS s bCOL (takeS s 2 (.at k d)).2)).2).2 := by
    split at h
    · next ha => obtain ⟨a, b, c, _⟩ := accept_cases ha; rw [c]; exact fun z => z
    · injection h with h
      subst h
      exact exp_nb1 hR
  have hnM := take_nb1 hnT
  have hnC : ¬ isB (expectS s bCOL (takeS s 2 (.at k d)).2) := fun z => by
    obtain ⟨e, l, c, hz⟩ := z.ex
    rw [hz, mayArr_bad] at hnM
    exact hnM trivial
  have hn0 := exp_nb1 hnC
  obtain ⟨e1, hk, l1⟩ := take_ok K hn0
  rw [e1] at h hnT hnM hnC
  dsimp only at h hnT hnM hnC
  obtain ⟨e2, l2⟩ := exp_ok K hnC
  rw [e2] at h hnT hnM
  obtain ⟨m1, k3, m2⟩ := may_ok K hnM
  have lm := mulE (K := K) (lft_may (s := s) (.at (k + 1 + 1) d))
  rw [m2] at h hnT lm
  obtain ⟨e3, hk3, l3⟩ := take_ok K hnT
  rw [e3] at h
  dsimp only at h
  have hx := (tks_is s k).nm hk
  have hy := (tks_is s k3).nm hk3
  generalize (mayArr s (.at (k + 1 + 1) d)).1 = MA at *
  generalize tokS s (.at k d) = tt at *
  split at h
  · next ha =>
    obtain ⟨e4, l4⟩ := acc_ok K ha
    rw [e4] at h
    split at h
    · cases h
    · next e st4 h1 =>
      injection h with h
      subst h
      obtain ⟨a1, a2, a3, k5, a4⟩ := ex_ok (K := K) (by omega) h1 hd (exp_nb1 hR)
      dsimp only at a1 a2 a3 a4
      subst a4
      obtain ⟨e5, l5⟩ := exp_ok K hR
      refine ⟨⟨hcls, hx.1, hy.1, m1.1, m1.2.1, m1.2.2, ?_⟩, a2, ?_, _, e5⟩
      · intro e' he'
        injection he' with he'
        rw [← he']
        exact a1
      · dsimp only
        rw [e5]
        show (strL (tks s k).1.x).length + (strL (tks s k3).1.x).length + 200 + sz e + _ ≤ _
        omega
  · injection h with h
    subst h
    obtain ⟨e5, l5⟩ := exp_ok K hR
    refine ⟨⟨hcls, hx.1, hy.1, m1.1, m1.2.1, m1.2.2, ?_⟩, ?_, ?_, _, e5⟩
    · intro e' he'
      cases he'
    · show d + ((0 : Nat) : Int) ≤ 64
      omega
    · dsimp only
      rw [e5]
      show (strL (tks s k).1.x).length + (strL (tks s k3).1.x).length + 200 + 0 + _ ≤ _
      omega
theorem pbl_nb {n : Nat} {j : BJob} {st : PSt} {R : List Dc × PSt} (h : pbl s n j st = some R) (hR : ¬ isB R.2) : ¬ isB st := fun z => by
  obtain ⟨e, l, c, rfl⟩ := z.ex
  rw [pbl_bad s e l c n j R h] at hR
  exact hR trivial
theorem pbl_ok (s : List Int) (K : Nat) (hK : s.length + 1000 ≤ K) : ∀ (n : Nat) (j : BJob) (k : Nat) (d : Int) (R : List Dc × PSt), pbl s n j (.at k d) = some R → (0 ≤ d ∧ d ≤ 64) → ¬ isB R.2 → (∀ c, j = .inner c → c = bVAR ∨ c = bVIN ∨ c = bVOU) → (∀ x ∈ R.1, gD x) ∧ d + dDs R.1 ≤ 64 ∧ szDs R.1 + K * lft s R.2 ≤ K * lft s (.at k d) ∧ ∃ k', R.2 = .at k' d := by
  intro n
  induction n with
  | zero => intro j k d R h; unfold pbl at h; cases h
  | succ n ih =>
    intro j k d R h hd hR hj
    cases j with
    | outer =>
      unfold pbl at h
      split at h
      · next hv =>
        unfold isVar at hv
        rw [Bool.or_eq_true, Bool.or_eq_true] at hv
        have hk : (tks s k).1.k = 5 ∧ ((tks s k).1.x = bVAR ∨ (tks s k).1.x = bVIN ∨ (tks s k).1.x = bVOU) := by
          rcases hv with (hv | hv) | hv
          · exact ⟨isK_k (show isK (tks s k).1 _ = true from hv), .inl (ba_eq (isK_x (show isK (tks s k).1 _ = true from hv)))⟩
          · exact ⟨isK_k (show isK (tks s k).1 _ = true from hv), .inr (.inl (ba_eq (isK_x (show isK (tks s k).1 _ = true from hv))))⟩
          · exact ⟨isK_k (show isK (tks s k).1 _ = true from hv), .inr (.inr (ba_eq (isK_x (show isK (tks s k).1 _ = true from hv))))⟩
        rw [take_t hk.1] at h
        have l1 := mulK (K := K) (lft_take (s := s) (d := d) (e := d) (.inr (.inr (.inr hk.1)) : isT (tks s k).1))
        obtain ⟨a1, a2, a3, a4⟩ := ih _ (k + 1) d R h hd hR (fun c hc => by injection hc with hc; rw [← hc]; exact hk.2)
        exact ⟨a1, a2, by omega, a4⟩
      · injection h with h
        subst h
        exact ⟨(fun x hx => by cases hx), by show d + ((0 : Nat) : Int) ≤ 64; omega, by show 0 + K * lft s (.at k d) ≤ _; omega, _, rfl⟩
    | inner cls =>
      unfold pbl at h
      split at h
      · split at h
        · cases h
        · next x st1 h1 =>
          split at h
          · cases h
          · next L st2 h2 =>
            injection h with h
            subst h
            obtain ⟨a1, a2, a3, k1, a4⟩ := pdecl_ok s K hK n cls (hj cls rfl) k d (x, st1) h1 hd (pbl_nb h2 hR)
            dsimp only at a1 a2 a3 a4
            subst a4
            obtain ⟨b1, b2, b3, b4⟩ := ih (.inner cls) k1 d (L, st2) h2 hd hR (fun c hc => by injection hc with hc; rw [← hc]; exact hj cls rfl)
            refine ⟨?_, ?_, ?_, b4⟩
            · intro y hy
              rcases List.mem_cons.1 hy with rfl | hy
              · exact a1
              · exact b1 y hy
            · simp only [dDs] at b2 ⊢
              omega
            · simp only [szDs] at b3 ⊢
              omega
      · have hne := pbl_nb h hR
        obtain ⟨e1, l1⟩ := exp_ok K hne
        rw [e1] at h
        obtain ⟨a1, a2, a3, a4⟩ := ih .outer (k + 1) d R h hd hR (fun c hc => by cases hc)
        exact ⟨a1, a2, by omega, a4⟩
/-- a good program -/
structure gPg (P : Pg) : Prop where
  nm : gN P.nm = true
  ds : ∀ x ∈ P.ds, gD x
  bd : gS P.bd
  wf : wf P.bd false
  dd : dDs P.ds ≤ 64
  db : dS P.bd ≤ 64
theorem pprog_ok (s : List Int) (n : Nat) (R : Pg × PSt) (h : pprog s n = some R) (hR : ¬ isB R.2) : gPg R.1 ∧ (strL R.1.nm).length ≤ s.length ∧ szDs R.1.ds + szS R.1.bd ≤ (s.length + 1000) * (s.length + 1) := by
  unfold pprog at h
  split at h
  · cases h
  · next L st3 h1 =>
    split at h
    · cases h
    · next A st4 h2 =>
      injection h with h
      subst h
      dsimp only at hR
      have n1 := take_nb1 hR
      have n2 := exp_nb1 n1
      have n3 := ps_nb h2 n2
      have n4 := pbl_nb h1 n3
      have n5 := take_nb1 n4
      obtain ⟨e1, l1⟩ := exp_ok (s.length + 1000) n5
      rw [e1] at h1 n4 ⊢
      obtain ⟨e2, hk, l2⟩ := take_ok (s.length + 1000) n4
      rw [e2] at h1 ⊢
      dsimp only at h1 ⊢
      obtain ⟨a1, a2, a3, k3, a4⟩ := pbl_ok s (s.length + 1000) (Nat.le_refl _) n .outer _ 0 (L, st3) h1 ⟨by decide, by decide⟩ n3 (fun c hc => by cases hc)
      dsimp only at a1 a2 a3 a4
      subst a4
      have b := ps_ok s (s.length + 1000) (Nat.le_refl _) n .stmts k3 0 (A, st4) h2 ⟨by decide, by decide⟩ n2 trivial
      have bd := b.dd
      have bz := b.z
      dsimp only at bd bz
      have hx := (tks_is s (0 + 1)).nm hk
      refine ⟨⟨hx.1, a1, b.g, b.w, ?_, ?_⟩, hx.2, ?_⟩
      · dsimp only; omega
      · dsimp only; omega
      · have := mulE (K := s.length + 1000) (lft_le s (.at 0 0))
        omega
structure gPp (P : Pp) : Prop where
  p : gE P.p
  dp : dE P.p 0 ≤ 64
  wi : 0 ≤ P.wi ∧ P.wi ≤ 9223372036854775807
  q : ∀ e, P.q = some e → gE e ∧ dE e 0 ≤ 64
  re : P.re = true → P.q.isSome = true
  nr : P.re = false → P.q = none ∧ P.wi = 0
theorem pprop_ok (s : List Int) (n : Nat) (R : Pp × PSt) (h : pprop s n = some R) (hR : ¬ isB R.2) : gPp R.1 ∧ sz R.1.p + (match R.1.q with | none => 0 | some e => sz e) ≤ (s.length + 1000) * (s.length + 1) := by
  have hlm := mulE (K := s.length + 1000) (lft_le s (.at 0 0))
  unfold pprop at h
  split at h
  · next ha =>
    obtain ⟨e1, l1⟩ := acc_ok (s.length + 1000) ha
    rw [e1] at h
    split at h
    · cases h
    · next p1 st1 h1 =>
      split at h
      · cases h
      · next p2 st2 h2 =>
        injection h with h
        subst h
        dsimp only at hR
        have n1 := exp_nb1 (take_nb1 hR)
        have n2 := pj_nb h2 n1
        have n3 := exp_nb1 n2
        have n4 := take_nb1 n3
        have n5 := exp_nb1 n4
        obtain ⟨a1, a2, a3, k1, a4⟩ := ex_ok (K := s.length + 1000) (by omega) h1 ⟨by decide, by decide⟩ n5
        dsimp only at a1 a2 a3 a4
        subst a4
        obtain ⟨e2, l2⟩ := exp_ok (s.length + 1000) n4
        rw [e2] at h2 n2 n3 ⊢
        obtain ⟨e3, v3, l3⟩ := take3_ok (s.length + 1000) n3
        rw [e3] at h2 n2 ⊢
        dsimp only at h2 n2 ⊢
        obtain ⟨e4, l4⟩ := exp_ok (s.length + 1000) n2
        rw [e4] at h2
        obtain ⟨b1, b2, b3, k2, b4⟩ := ex_ok (K := s.length + 1000) (by omega) h2 ⟨by decide, by decide⟩ n1
        dsimp only at b1 b2 b3
        refine ⟨⟨a1, by dsimp only; omega, v3, ?_, (fun _ => rfl), (fun z => by cases z)⟩, ?_⟩
        · intro e he
          injection he with he
          rw [← he]
          exact ⟨b1, by omega⟩
        · omega
  · split at h
    · cases h
    · next p1 st1 h1 =>
      injection h with h
      subst h
      dsimp only at hR
      have n1 := exp_nb1 (take_nb1 hR)
      have n2 := pj_nb h1 n1
      obtain ⟨e1, l1⟩ := exp_ok (s.length + 1000) n2
      rw [e1] at h1
      obtain ⟨a1, a2, a3, k1, a4⟩ := ex_ok (K := s.length + 1000) (by omega) h1 ⟨by decide, by decide⟩ n1
      dsimp only at a1 a2 a3
      refine ⟨⟨a1, by dsimp only; omega, by dsimp only; decide, (fun e he => by cases he), (fun z => by cases z), fun _ => ⟨rfl, rfl⟩⟩, ?_⟩
      dsimp only
      omega
end Go.Proofs.Qxb6500774a
