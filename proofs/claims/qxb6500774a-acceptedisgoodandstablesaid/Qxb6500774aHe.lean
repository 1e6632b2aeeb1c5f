import Derived.Test.Qxb6500774aHd
namespace Go.Proofs.Qxb6500774a
open Go.RowKit
set_option linter.unusedVariables false
set_option linter.unusedSimpArgs false
variable {s : List Int}

def isArms : SJob → Bool
  | .arms => true
  | _ => false
def PreS (s : List Int) : SJob → PSt → Prop
  | .ifs _ _, st => atS s bIF st = true
  | .fors _ _, st => atS s bFOR st = true
  | _, _ => True
structure PsOk (s : List Int) (K : Nat) (j : SJob) (k : Nat) (d : Int) (R : S × PSt) : Prop where
  g : gS R.1
  dd : d + dS R.1 ≤ 64
  w : wf R.1 (isArms j)
  z : szS R.1 + K * lft s R.2 ≤ (match j with | .rungs _ _ => K | _ => 0) + K * lft s (.at k d)
  e : ∃ k', R.2 = .at k' d
  a : j = .arms → R.1.isNil = false
theorem take_ok (K : Nat) {k : Nat} {d : Int} (h : ¬ isB (takeS s 2 (.at k d)).2) : takeS s 2 (.at k d) = ((tks s k).1, .at (k + 1) d) ∧ (tks s k).1.k = 2 ∧ K * lft s (.at (k + 1) d) + K ≤ K * lft s (.at k d) := by
  obtain ⟨k1, d1, h1, h2, h3⟩ := take_nb h
  injection h1 with h1 h4
  subst h1 h4
  exact ⟨h3, h2, mulK (lft_take (.inl h2))⟩
theorem nm_of {t : E} (h : t.isNm = true) : ∃ x l c, t = .nm x l c := by
  cases t with
  | nm x l c => exact ⟨x, l, c, rfl⟩
  | _ => cases h
theorem ps_ok (s : List Int) (K : Nat) (hK : s.length + 1000 ≤ K) : ∀ (n : Nat) (j : SJob) (k : Nat) (d : Int) (R : S × PSt), ps s n j (.at k d) = some R → (0 ≤ d ∧ d ≤ 64) → ¬ isB R.2 → PreS s j (.at k d) → PsOk s K j k d R := by
  intro n
  induction n with
  | zero => intro j k d R h; unfold ps at h; cases h
  | succ n ih =>
    intro j k d R h hd hR hp
    cases j with
    | stmts =>
      have tail : ∀ (A : S) (st1 : PSt), (match ps s n .stmts (expectS s bSEM st1) with | none => none | some (R, st2) => some (A.app R, st2)) = some R → (¬ isB st1 → gS A ∧ d + dS A ≤ 64 ∧ wf A false ∧ szS A + K * lft s st1 ≤ K * lft s (.at k d) + K ∧ ∃ k', st1 = .at k' d) → PsOk s K .stmts k d R := by
        intro A st1 h hA
        split at h
        · cases h
        · next T st2 h2 =>
          injection h with h
          subst h
          have hne := ps_nb h2 hR
          have hn1 : ¬ isB st1 := by obtain ⟨a, b, c, _⟩ := exp_nb hne; rw [c]; exact fun z => z
          obtain ⟨a1, a2, a3, a4, k1, a5⟩ := hA hn1
          subst a5
          obtain ⟨e1, l1⟩ := exp_ok K hne
          rw [e1] at h2
          have b := ih .stmts (k1 + 1) d (T, st2) h2 hd hR trivial
          have bz := b.z
          have bd := b.dd
          dsimp only at bz bd
          exact ⟨gS_app _ _ a1 b.g, by dsimp only; rw [dS_app]; omega, wf_app _ _ _ a3 b.w, by dsimp only; rw [szS_app]; omega, b.e, (fun z => by cases z)⟩
      unfold ps at h
      split at h
      · next hk =>
        split at h
        · cases h
        · next A st1 h1 =>
          refine tail A st1 h fun hn => ?_
          have a := ih _ k d (A, st1) h1 hd hn trivial
          have az := a.z
          exact ⟨a.g, a.dd, a.w, by dsimp only at az; omega, a.e⟩
      split at h
      · next hk =>
        split at h
        · cases h
        · next A st1 h1 =>
          refine tail A st1 h fun hn => ?_
          have a := ih _ k d (A, st1) h1 hd hn hk
          have az := a.z
          exact ⟨a.g, a.dd, a.w, by dsimp only at az; omega, a.e⟩
      split at h
      · next hk =>
        split at h
        · cases h
        · next A st1 h1 =>
          refine tail A st1 h fun hn => ?_
          have a := ih _ k d (A, st1) h1 hd hn hk
          have az := a.z
          exact ⟨a.g, a.dd, a.w, by dsimp only at az; omega, a.e⟩
      split at h
      · next hk =>
        obtain ⟨e1, l1⟩ := acc_ok K hk
        rw [e1] at h
        split at h
        · cases h
        · next A st1 h1 =>
          refine tail A st1 h fun hn => ?_
          have a := ih _ (k + 1) d (A, st1) h1 hd hn trivial
          have az := a.z
          exact ⟨a.g, a.dd, a.w, by dsimp only at az; omega, a.e⟩
      · injection h with h
        subst h
        exact ⟨trivial, by show d + ((0 : Nat) : Int) ≤ 64; omega, trivial, by show 0 + _ ≤ 0 + _; exact Nat.le_refl _, ⟨k, rfl⟩, (fun z => by cases z)⟩
    | simple l c =>
      unfold ps at h
      split at h
      · cases h
      · next t st1 h1 =>
        split at h
        · next hc =>
          obtain ⟨k1, d1, e1, hk1, e2⟩ := accept_cases hc.2
          subst e1
          obtain ⟨a1, a2, a3, a4, k3, a5⟩ := pl_ok (K := K) (by omega) h1 hd (fun z => z)
          dsimp only at a1 a2 a3 a4 a5
          injection a5 with a5 a6
          subst a5 a6
          obtain ⟨e3, l3⟩ := acc_ok K hc.2
          obtain ⟨x, l', c', rfl⟩ := nm_of hc.1
          rw [e3] at h
          have hx : (strL x).length = sz (.nm x l' c') := rfl
          split at h
          · next he =>
            injection h with h
            subst h
            obtain ⟨e4, l4⟩ := exp_ok K hR
            refine ⟨⟨a1, (fun y hy => by cases hy), trivial⟩, ?_, ⟨rfl, trivial⟩, ?_, ⟨_, e4⟩, (fun z => by cases z)⟩
            · show d1 + ((max 0 0 : Nat) : Int) ≤ 64
              omega
            · dsimp only
              rw [e4]
              show (strL x).length + 0 + 200 + 0 + _ ≤ _
              omega
          · split at h
            · cases h
            · next L st3 h3 =>
              injection h with h
              subst h
              have hn3 : ¬ isB st3 := by obtain ⟨a, b, c, _⟩ := exp_nb hR; rw [c]; exact fun z => z
              obtain ⟨b1, b2, b3, ⟨k4, b4⟩, b5⟩ := pargs_ok s K hK n (k1 + 1) d1 (L, st3) h3 hd hn3
              dsimp only at b1 b2 b3 b4
              subst b4
              obtain ⟨e4, l4⟩ := exp_ok K hR
              refine ⟨⟨a1, b1, trivial⟩, ?_, ⟨rfl, trivial⟩, ?_, ⟨_, e4⟩, (fun z => by cases z)⟩
              · show d1 + ((max (dP L) 0 : Nat) : Int) ≤ 64
                omega
              · dsimp only
                rw [e4]
                show (strL x).length + szP L + 200 + 0 + _ ≤ _
                omega
        · split at h
          · cases h
          · next e st3 h3 =>
            injection h with h
            subst h
            have hne := pj_nb h3 hR
            have hn1 : ¬ isB st1 := by obtain ⟨a, b, c, _⟩ := exp_nb hne; rw [c]; exact fun z => z
            obtain ⟨a1, a2, a3, a4, k3, a5⟩ := pl_ok (K := K) (by omega) h1 hd hn1
            dsimp only at a1 a2 a3 a4 a5
            subst a5
            obtain ⟨e4, l4⟩ := exp_ok K hne
            rw [e4] at h3
            obtain ⟨b1, b2, b3, b4⟩ := ex_ok (K := K) (by omega) h3 hd hR
            refine ⟨⟨a1, b1, a2, trivial⟩, ?_, ⟨rfl, trivial⟩, ?_, b4, (fun z => by cases z)⟩
            · show d + ((max (max (dE t 0) (dE e 0)) 0 : Nat) : Int) ≤ 64
              dsimp only at b2
              omega
            · show sz t + sz e + 200 + 0 + _ ≤ 0 + _
              dsimp only at b3 ⊢
              omega
    | ifs l c =>
      have hp : isK (tks s k).1 bIF = true := hp
      have hl : lft s (.at (k + 1) (d + 1)) < lft s (.at k d) := lft_take (isK_T hp)
      have hl := mulK (K := K) hl
      unfold ps at h
      split at h
      · next ho =>
        obtain ⟨hd64, ho2⟩ := open_nb ho
        rw [ho2] at h
        split at h
        · cases h
        · next A st1 h1 =>
          split at h
          · next ha =>
            obtain ⟨k1, d1, e1, hk1, e2⟩ := accept_cases ha
            subst e1
            have a := ih .arms (k + 1) (d + 1) (A, .at k1 d1) h1 (by omega) (fun z => z) trivial
            obtain ⟨k2, a5⟩ := a.e
            dsimp only at a5
            injection a5 with a5 a6
            subst a5 a6
            obtain ⟨e3, l3⟩ := acc_ok K ha
            rw [e3] at h
            split at h
            · cases h
            · next L st2 h2 =>
              injection h with h
              subst h
              obtain ⟨k3, d3, e4, _, e5⟩ := exp_nb hR
              obtain ⟨k4, d4, e6, e7⟩ := dec_nb (st := st2) (by rw [e4]; exact fun z => z)
              subst e6
              have b := ih .stmts (k1 + 1) (d + 1) (L, .at k4 d4) h2 (by omega) (fun z => z) trivial
              obtain ⟨k5, b5⟩ := b.e
              dsimp only at b5
              injection b5 with b5 b6
              subst b5 b6
              have hm := mulE (K := K) (lft_exp (s := s) bEIF (decS (.at k4 (d + 1))))
              rw [lft_dec] at hm
              have hd3 : d3 = d := by
                have : decS (.at k4 (d + 1)) = .at k4 (d + 1 - 1) := rfl
                rw [this] at e4
                injection e4 with _ e4
                omega
              subst hd3
              have az := a.z
              have bz := b.z
              have ad := a.dd
              have bd := b.dd
              dsimp only at az bz ad bd
              refine ⟨⟨a.g, b.g, a.a rfl, trivial⟩, ?_, ⟨rfl, a.w, b.w, trivial⟩, ?_, ⟨_, e5⟩, (fun z => by cases z)⟩
              · show d3 + ((max (1 + max (dS A) (dS L)) 0 : Nat) : Int) ≤ 64
                omega
              · show szS A + szS L + 600 + 0 + K * lft s (expectS s bEIF (decS (.at k4 (d3 + 1)))) ≤ 0 + _
                omega
          · injection h with h
            subst h
            obtain ⟨k3, d3, e4, _, e5⟩ := exp_nb hR
            obtain ⟨k4, d4, e6, e7⟩ := dec_nb (st := st1) (by rw [e4]; exact fun z => z)
            subst e6
            have a := ih .arms (k + 1) (d + 1) (A, .at k4 d4) h1 (by omega) (fun z => z) trivial
            obtain ⟨k5, b5⟩ := a.e
            dsimp only at b5
            injection b5 with b5 b6
            subst b5 b6
            have hm := mulE (K := K) (lft_exp (s := s) bEIF (decS (.at k4 (d + 1))))
            rw [lft_dec] at hm
            have hd3 : d3 = d := by
              have : decS (.at k4 (d + 1)) = .at k4 (d + 1 - 1) := rfl
              rw [this] at e4
              injection e4 with _ e4
              omega
            subst hd3
            have az := a.z
            have ad := a.dd
            dsimp only at az ad
            refine ⟨⟨a.g, trivial, a.a rfl, trivial⟩, ?_, ⟨rfl, a.w, trivial, trivial⟩, ?_, ⟨_, e5⟩, (fun z => by cases z)⟩
            · show d3 + ((max (1 + max (dS A) 0) 0 : Nat) : Int) ≤ 64
              omega
            · show szS A + 0 + 600 + 0 + K * lft s (expectS s bEIF (decS (.at k4 (d3 + 1)))) ≤ 0 + _
              omega
      · next ho =>
        injection h with h
        subst h
        exact absurd (open_f ho) hR
    | arms =>
      unfold ps at h
      split at h
      · cases h
      · next e st1 h1 =>
        split at h
        · cases h
        · next L st2 h2 =>
          have hn2 : ¬ isB st2 := by
            split at h
            · next ha =>
              obtain ⟨k3, d3, rfl, _⟩ := accept_cases ha
              exact fun z => z
            · injection h with h
              subst h
              exact hR
          have hne := ps_nb h2 hn2
          have hn1 : ¬ isB st1 := by obtain ⟨a, b, c, _⟩ := exp_nb hne; rw [c]; exact fun z => z
          obtain ⟨a1, a2, a3, k1, a4⟩ := ex_ok (K := K) (by omega) h1 hd hn1
          dsimp only at a1 a2 a3 a4
          subst a4
          obtain ⟨e2, l2⟩ := exp_ok K hne
          rw [e2] at h2
          have b := ih .stmts (k1 + 1) d (L, st2) h2 hd hn2 trivial
          obtain ⟨k2, b5⟩ := b.e
          dsimp only at b5
          subst b5
          have bz := b.z
          have bd := b.dd
          dsimp only at bz bd
          split at h
          · next ha =>
            obtain ⟨e3, l3⟩ := acc_ok K ha
            rw [e3] at h
            split at h
            · cases h
            · next T st3 h3 =>
              injection h with h
              subst h
              have cc := ih .arms (k2 + 1) d (T, st3) h3 hd hR trivial
              have cz := cc.z
              have cd := cc.dd
              dsimp only at cz cd
              refine ⟨⟨a1, b.g, cc.g⟩, ?_, ⟨rfl, b.w, cc.w⟩, ?_, cc.e, fun _ => rfl⟩
              · show d + ((max (max (dE e 0) (dS L)) (dS T) : Nat) : Int) ≤ 64
                omega
              · show sz e + szS L + 400 + szS T + _ ≤ 0 + _
                dsimp only
                omega
          · injection h with h
            subst h
            refine ⟨⟨a1, b.g, trivial⟩, ?_, ⟨rfl, b.w, trivial⟩, ?_, ⟨_, rfl⟩, fun _ => rfl⟩
            · show d + ((max (max (dE e 0) (dS L)) 0 : Nat) : Int) ≤ 64
              omega
            · show sz e + szS L + 400 + 0 + _ ≤ 0 + _
              dsimp only
              omega
    | fors l c =>
      have hp : isK (tks s k).1 bFOR = true := hp
      have hl : lft s (.at (k + 1) (d + 1)) < lft s (.at k d) := lft_take (isK_T hp)
      have hl := mulK (K := K) hl
      unfold ps at h
      split at h
      · next ho =>
        obtain ⟨hd64, ho2⟩ := open_nb ho
        rw [ho2] at h
        split at h
        · cases h
        · next e1 st1 h1 =>
          split at h
          · cases h
          · next e2 st2 h2 =>
            split at h
            · cases h
            · next L st3 h3 =>
              injection h with h
              subst h
              obtain ⟨k3, d3, f4, _, f5⟩ := exp_nb hR
              obtain ⟨k4, d4, f6, f7⟩ := dec_nb (st := st3) (by rw [f4]; exact fun z => z)
              subst f6
              have hne2 := ps_nb h3 (fun z => z)
              have hn2 : ¬ isB st2 := by obtain ⟨a, b, c, _⟩ := exp_nb hne2; rw [c]; exact fun z => z
              have hne1 := pj_nb h2 hn2
              have hn1 : ¬ isB st1 := by obtain ⟨a, b, c, _⟩ := exp_nb hne1; rw [c]; exact fun z => z
              have hne0 := pj_nb h1 hn1
              have hn0 : ¬ isB (takeS s 2 (.at (k + 1) (d + 1))).2 := by obtain ⟨a, b, c, _⟩ := exp_nb hne0; rw [c]; exact fun z => z
              obtain ⟨t1, t2, t3⟩ := take_ok K hn0
              rw [t1] at h1 hne0
              dsimp only at h1 hne0
              obtain ⟨g1, l1⟩ := exp_ok K hne0
              rw [g1] at h1
              obtain ⟨a1, a2, a3, k5, a4⟩ := ex_ok (K := K) (by omega) h1 (by omega) hn1
              dsimp only at a1 a2 a3 a4
              subst a4
              obtain ⟨g2, l2⟩ := exp_ok K hne1
              rw [g2] at h2
              obtain ⟨b1, b2, b3, k6, b4⟩ := ex_ok (K := K) (by omega) h2 (by omega) hn2
              dsimp only at b1 b2 b3 b4
              subst b4
              obtain ⟨g3, l3⟩ := exp_ok K hne2
              rw [g3] at h3
              have cc := ih .stmts (k6 + 1) (d + 1) (L, .at k4 d4) h3 (by omega) (fun z => z) trivial
              obtain ⟨k7, c5⟩ := cc.e
              dsimp only at c5
              injection c5 with c5 c6
              subst c5 c6
              have hm := mulE (K := K) (lft_exp (s := s) bEFR (decS (.at k4 (d + 1))))
              rw [lft_dec] at hm
              have hd3 : d3 = d := by
                have : decS (.at k4 (d + 1)) = .at k4 (d + 1 - 1) := rfl
                rw [this] at f4
                injection f4 with _ f4
                omega
              subst hd3
              have cz := cc.z
              have cd := cc.dd
              dsimp only at cz cd
              have hx := (tks_is s (k + 1)).nm t2
              rw [t1]
              refine ⟨⟨hx.1, a1, b1, cc.g, trivial⟩, ?_, ⟨rfl, cc.w, trivial⟩, ?_, ⟨_, f5⟩, (fun z => by cases z)⟩
              · show d3 + ((max (1 + max (max (dE e1 0) (dE e2 0)) (dS L)) 0 : Nat) : Int) ≤ 64
                omega
              · show (strL (tks s (k + 1)).1.x).length + sz e1 + sz e2 + szS L + 600 + 0 + K * lft s (expectS s bEFR (decS (.at k4 (d3 + 1)))) ≤ 0 + _
                omega
      · next ho =>
        injection h with h
        subst h
        exact absurd (open_f ho) hR
    | rungs l c =>
      unfold ps at h
      split at h
      · cases h
      · next e st1 h1 =>
        split at h
        · cases h
        · next L st2 h2 =>
          injection h with h
          subst h
          have hne := pcoils_nb h2 hR
          have hn1 : ¬ isB st1 := by obtain ⟨a, b, c, _⟩ := exp_nb hne; rw [c]; exact fun z => z
          obtain ⟨a1, a2, a3, k1, a4⟩ := ex_ok (K := K) (by omega) h1 hd hn1
          dsimp only at a1 a2 a3 a4
          subst a4
          obtain ⟨e2, l2⟩ := exp_ok K hne
          rw [e2] at h2
          obtain ⟨b1, b2, b3, b4, b5⟩ := pcoils_ok s K hK n (k1 + 1) d (L, st2) h2 hd hR
          dsimp only at b1 b2 b3 b4 b5
          refine ⟨⟨a1, b1, b5, trivial⟩, ?_, ⟨rfl, trivial⟩, ?_, b4, (fun z => by cases z)⟩
          · show d + ((max (max (dE e 0) (dP L)) 0 : Nat) : Int) ≤ 64
            omega
          · show sz e + szP L + 200 + 0 + _ ≤ K + _
            dsimp only
            omega
end Go.Proofs.Qxb6500774a
