import Derived.Test.Qxb6500773aGreatZN
import Derived.Test.Qxb6500773aGreatPr6
namespace Go.Proofs.Qxb6500773aGreat
open Go.RowKit

/-! ### The formula's observers -/
theorem atZ_any (w : World) (B b o : Nat) (va ve : Value) (L E : List Int) (h : AR w B b o va ve L E) (hE : EOk L E) (hL : E.length ≤ 1000000000) (i : Nat) (hi : i < E.length) :
    Calls Tryz.prog 109 #[.pointer (some ⟨b, o, none⟩), .int .i64 i] w (AtPost w va (clP L E i)) := by
  obtain ⟨aa, ca, rfl⟩ := own_form h.r0
  have hlo := hE.lo hi
  exact at_any w B b o aa ca ve L E h (own_capZ h.r0) i (loP E i) (loP E (i + 1)) hlo.2.2.2 hlo.2.2.1 hlo.1 hlo.2.1 (by omega)
set_option maxRecDepth 100000 in
set_option maxHeartbeats 4000000 in
/-- cnflaw.truth -/
theorem truth_any (w : World) (b : Bool) : Calls Tryz.prog 44 #[.bool b] w fun e w' => e = .returned (.int .i64 (if b = true then 1 else 0)) ∧ w' = w := by
  cases b
  · go_enter Tryz.func44, Tryz.ntmps44
    go_wp2
    go_ret
    exact ⟨rfl, rfl⟩
  · go_enter Tryz.func44, Tryz.ntmps44
    go_wp2
    go_ret
    exact ⟨rfl, rfl⟩
/-- is i the index of one of n -/
def inP (i : Int) (n : Nat) : Bool := decide (0 ≤ i) && decide (i < n)
theorem inP_some {i : Int} {n : Nat} (h : inP i n = true) : ∃ k : Nat, i = (k : Int) ∧ k < n := by
  unfold inP at h
  rw [Bool.and_eq_true, decide_eq_true_iff, decide_eq_true_iff] at h
  exact ⟨i.toNat, by omega, by omega⟩
set_option linter.unusedSimpArgs false in
set_option maxRecDepth 100000 in
set_option maxHeartbeats 4000000 in
/-- cnf.Formula.InRange -/
theorem fInRangeZ_any (w : World) (B b : Nat) (va ve : Value) (L E : List Int) (i : Int) (h : AR w B b 1 va ve L E) :
    Calls Tryz.prog 59 #[.pointer (some ⟨b, 0, none⟩), .int .i64 i] w fun e w' => e = .returned (.bool (inP i E.length)) ∧ w' = w := by
  have hc := hide (numClauses_any w B b va ve L E h)
  by_cases h0 : 0 ≤ i
  · have hb : decide (0 ≤ i) = true := decide_eq_true h0
    unfold inP
    rw [hb, Bool.true_and]
    clear h h0
    go_enter Tryz.func59, Tryz.ntmps59
    go_wp2_with fail
    refine hc.out.mono ?_
    rintro e w' ⟨rfl, hw⟩
    rw [hw]
    clear hw w' hc
    go_wp2
    go_ret
    exact ⟨rfl, rfl⟩
  · have hb : decide (0 ≤ i) = false := decide_eq_false h0
    unfold inP
    rw [hb, Bool.false_and]
    clear h h0 hc
    go_enter Tryz.func59, Tryz.ntmps59
    go_wp2
    go_ret
    exact ⟨rfl, rfl⟩
set_option linter.unusedSimpArgs false in
set_option maxRecDepth 100000 in
set_option maxHeartbeats 4000000 in
/-- cnf.Proof.InRange -/
theorem pInRangeZ_any (w : World) (B b : Nat) (va ve : Value) (L E : List Int) (i : Int) (h : AR w B b 0 va ve L E) :
    Calls Tryz.prog 64 #[.pointer (some ⟨b, 0, none⟩), .int .i64 i] w fun e w' => e = .returned (.bool (inP i E.length)) ∧ w' = w := by
  have hc := hide (numSteps_any w B b va ve L E h)
  by_cases h0 : 0 ≤ i
  · have hb : decide (0 ≤ i) = true := decide_eq_true h0
    unfold inP
    rw [hb, Bool.true_and]
    clear h h0
    go_enter Tryz.func64, Tryz.ntmps64
    go_wp2_with fail
    refine hc.out.mono ?_
    rintro e w' ⟨rfl, hw⟩
    rw [hw]
    clear hw w' hc
    go_wp2
    go_ret
    exact ⟨rfl, rfl⟩
  · have hb : decide (0 ≤ i) = false := decide_eq_false h0
    unfold inP
    rw [hb, Bool.false_and]
    clear h h0 hc
    go_enter Tryz.func64, Tryz.ntmps64
    go_wp2
    go_ret
    exact ⟨rfl, rfl⟩
/-- the clause with the index i, or none -/
def clZ (L E : List Int) (i : Int) : List Int := if inP i E.length = true then clP L E i.toNat else []
theorem clZ_ok {L E : List Int} (h : ∀ x ∈ L, LitOk x) (i : Int) : ∀ x ∈ clZ L E i, LitOk x := by
  unfold clZ
  split
  · exact clP_ok h _
  · intro x hx; cases hx
theorem clP_le (L E : List Int) (i : Nat) : (clP L E i).length ≤ L.length := by
  unfold clP
  rw [List.length_drop, List.length_take]
  omega
theorem clZ_le (L E : List Int) (i : Int) : (clZ L E i).length ≤ L.length := by
  unfold clZ
  split
  · exact clP_le L E _
  · simp
/-- a view of a clause -/
def VwPost (w : World) (va : Value) (X : List Int) (e : Ending) (w' : World) : Prop := ∃ a' c', e = .returned (.slice a' X.length c') ∧ CL w' a' X ∧ (∀ g off, a' = some ⟨g, off, none⟩ → va.ownBlock = some g) ∧ Below w.heap.size w w'
set_option linter.unusedSimpArgs false in
set_option maxRecDepth 100000 in
set_option maxHeartbeats 4000000 in
/-- cnf.Formula.Clause -/
theorem fClauseZ_any (w : World) (B b : Nat) (va ve : Value) (L E : List Int) (h : AR w B b 1 va ve L E) (hE : EOk L E) (hL : E.length ≤ 1000000000) (i : Int) :
    Calls Tryz.prog 61 #[.pointer (some ⟨b, 0, none⟩), .int .i64 i] w (VwPost w va (clZ L E i)) := by
  have hin := hide (fInRangeZ_any w B b va ve L E i h)
  unfold clZ
  by_cases hb : inP i E.length = true
  · rw [if_pos hb]
    rw [hb] at hin
    obtain ⟨k, rfl, hk⟩ := inP_some hb
    have cAt := hide (atZ_any w B b 1 va ve L E h hE hL k hk)
    rw [Int.toNat_natCast]
    clear hb hk hE hL h
    generalize clP L E k = C at *
    go_enter Tryz.func61, Tryz.ntmps61
    go_wp2_with fail
    refine hin.out.mono ?_
    rintro e w' ⟨rfl, hw⟩
    rw [hw]
    clear hin hw w'
    go_wp2_with fail
    refine cAt.out.mono ?_
    rintro e w5 ⟨a5, c5, rfl, hc5, hg5, b5⟩
    have HP5 := hide (show VwPost w va C (.returned (.slice a5 C.length c5)) w5 from ⟨a5, c5, rfl, hc5, hg5, b5⟩)
    clear hc5 b5 cAt hg5
    go_wp2
    exact bodyPost_ret (v := .slice a5 C.length c5) (by simp [results, Tryz.results61, go_sem]) rfl HP5.out
  · rw [if_neg hb]
    rw [Bool.not_eq_true] at hb
    rw [hb] at hin
    have HP5 := hide (show VwPost w va [] (.returned (.slice none 0 0)) w from ⟨none, 0, rfl, (fun j x hx => by cases hx), (fun g off z => by cases z), Below.refl _ _⟩)
    clear hb hE hL h
    go_enter Tryz.func61, Tryz.ntmps61
    go_wp2_with fail
    refine hin.out.mono ?_
    rintro e w' ⟨rfl, hw⟩
    rw [hw]
    clear hin hw w'
    go_wp2
    exact bodyPost_ret (v := .slice none 0 0) (by simp [results, Tryz.results61, go_sem]) rfl HP5.out
/-- the value of a clause by its index -/
def ecP (V L E : List Int) (i : Int) : Int × Int := if inP i E.length = true then (evalP V (clP L E i.toNat) (-1), 0) else (0, 4)
def scP (V L E : List Int) (i : Int) : Int × Int × Int := if inP i E.length = true then ((statP V (clP L E i.toNat) 0 false).1, (statP V (clP L E i.toNat) 0 false).2, 0) else (0, 0, 4)
set_option linter.unusedSimpArgs false in
set_option maxRecDepth 100000 in
set_option maxHeartbeats 4000000 in
/-- cnf.Formula.EvalClause -/
theorem evalClauseZ_any (w : World) (B b : Nat) (va ve : Value) (L E : List Int) (h : AR w B b 1 va ve L E) (hE : EOk L E) (hL : E.length ≤ 1000000000) (hLL : L.length ≤ 1000000000) (hok : ∀ x ∈ L, LitOk x) (B' b' : Nat) (vb : Value) (k : Int) (V : List Int) (ha : AT w B' b' vb k V) (hr : ∀ x ∈ V, -1 ≤ x ∧ x ≤ 1) (i : Int) :
    Calls Tryz.prog 40 #[.pointer (some ⟨b, 0, none⟩), .int .i64 i, .pointer (some ⟨b', 0, none⟩)] w fun e w' => e = .returned (.tuple #[.int .i8 (ecP V L E i).1, .int .i64 (ecP V L E i).2]) ∧ Below w.heap.size w w' := by
  have hin := hide (fInRangeZ_any w B b va ve L E i h)
  unfold ecP
  by_cases hb : inP i E.length = true
  · rw [if_pos hb]
    rw [hb] at hin
    obtain ⟨q, rfl, hk⟩ := inP_some hb
    have cAt := hide (atZ_any w B b 1 va ve L E h hE hL q hk)
    rw [Int.toNat_natCast]
    have HOK := hide (clP_ok (E := E) hok q)
    have HLN := hide (clP_le L E q)
    have HA := hide ha
    have HR := hide hr
    clear hb hk hE hL h hok ha hr
    generalize clP L E q = C at *
    dsimp only
    obtain ⟨R, hR⟩ : ∃ R, evalP V C (-1) = R := ⟨_, rfl⟩
    have HRR := hide hR
    rw [hR]
    clear hR
    go_enter Tryz.func40, Tryz.ntmps40
    go_wp2_with fail
    refine hin.out.mono ?_
    rintro e w' ⟨rfl, hw⟩
    rw [hw]
    clear hin hw w'
    go_wp2_with fail
    refine cAt.out.mono ?_
    rintro e w5 ⟨a5, c5, rfl, hc5, hg5, b5⟩
    have cE := hide (eval_any w5 B' b' vb k V (HA.out.below b5) HR.out a5 c5 C hc5 HOK.out (by have := HLN.out; omega))
    rw [HRR.out] at cE
    have HB5 := hide b5
    clear hc5 b5 cAt hg5
    go_wp2_with fail
    refine cE.out.mono ?_
    rintro e w' ⟨rfl, hw⟩
    rw [hw]
    clear hw w' cE
    go_wp2
    exact bodyPost_ret (v := .tuple #[.int .i8 R, .int .i64 0]) (by simp [results, Tryz.results40, go_sem]) rfl ⟨rfl, HB5.out⟩
  · rw [if_neg hb]
    rw [Bool.not_eq_true] at hb
    rw [hb] at hin
    clear hb hE hL h hok ha hr
    go_enter Tryz.func40, Tryz.ntmps40
    go_wp2_with fail
    refine hin.out.mono ?_
    rintro e w' ⟨rfl, hw⟩
    rw [hw]
    clear hin hw w'
    go_wp2
    exact bodyPost_ret (v := .tuple #[.int .i8 0, .int .i64 4]) (by simp [results, Tryz.results40, go_sem]) rfl ⟨rfl, Below.refl _ _⟩
set_option linter.unusedSimpArgs false in
set_option maxRecDepth 100000 in
set_option maxHeartbeats 4000000 in
/-- cnf.Formula.Status -/
theorem statusZ_any (w : World) (B b : Nat) (va ve : Value) (L E : List Int) (h : AR w B b 1 va ve L E) (hE : EOk L E) (hL : E.length ≤ 1000000000) (hLL : L.length ≤ 1000000000) (hok : ∀ x ∈ L, LitOk x) (B' b' : Nat) (vb : Value) (k : Int) (V : List Int) (ha : AT w B' b' vb k V) (hr : ∀ x ∈ V, -1 ≤ x ∧ x ≤ 1) (i : Int) :
    Calls Tryz.prog 41 #[.pointer (some ⟨b, 0, none⟩), .int .i64 i, .pointer (some ⟨b', 0, none⟩)] w fun e w' => e = .returned (.tuple #[.int .i64 (scP V L E i).1, .int .i32 (scP V L E i).2.1, .int .i64 (scP V L E i).2.2]) ∧ Below w.heap.size w w' := by
  have hin := hide (fInRangeZ_any w B b va ve L E i h)
  unfold scP
  by_cases hb : inP i E.length = true
  · rw [if_pos hb]
    rw [hb] at hin
    obtain ⟨q, rfl, hk⟩ := inP_some hb
    have cAt := hide (atZ_any w B b 1 va ve L E h hE hL q hk)
    rw [Int.toNat_natCast]
    have HOK := hide (clP_ok (E := E) hok q)
    have HLN := hide (clP_le L E q)
    have HA := hide ha
    have HR := hide hr
    clear hb hk hE hL h hok ha hr
    generalize clP L E q = C at *
    dsimp only
    obtain ⟨R, hR⟩ : ∃ R, statP V C 0 false = R := ⟨_, rfl⟩
    have HRR := hide hR
    rw [hR]
    clear hR
    obtain ⟨R1, R2⟩ := R
    dsimp only
    go_enter Tryz.func41, Tryz.ntmps41
    go_wp2_with fail
    refine hin.out.mono ?_
    rintro e w' ⟨rfl, hw⟩
    rw [hw]
    clear hin hw w'
    go_wp2_with fail
    refine cAt.out.mono ?_
    rintro e w5 ⟨a5, c5, rfl, hc5, hg5, b5⟩
    have cE := hide (status_any w5 B' b' vb k V (HA.out.below b5) HR.out a5 c5 C hc5 HOK.out (by have := HLN.out; omega))
    rw [HRR.out] at cE
    have HB5 := hide b5
    clear hc5 b5 cAt hg5
    go_wp2_with fail
    refine cE.out.mono ?_
    rintro e w' ⟨rfl, hw⟩
    rw [hw]
    clear hw w' cE
    go_wp2
    exact bodyPost_ret (v := .tuple #[.int .i64 R1, .int .i32 R2, .int .i64 0]) (by simp [results, Tryz.results41, go_sem]) rfl ⟨rfl, HB5.out⟩
  · rw [if_neg hb]
    rw [Bool.not_eq_true] at hb
    rw [hb] at hin
    clear hb hE hL h hok ha hr
    go_enter Tryz.func41, Tryz.ntmps41
    go_wp2_with fail
    refine hin.out.mono ?_
    rintro e w' ⟨rfl, hw⟩
    rw [hw]
    clear hin hw w'
    go_wp2
    exact bodyPost_ret (v := .tuple #[.int .i64 0, .int .i32 0, .int .i64 4]) (by simp [results, Tryz.results41, go_sem]) rfl ⟨rfl, Below.refl _ _⟩
/-- the value of the clauses from i on -/
def feP (V L E : List Int) : Nat → Nat → Int → Int
  | _, 0, s => s
  | i, n + 1, s => if evalP V (clP L E i) (-1) = -1 then -1 else if evalP V (clP L E i) (-1) = 0 then feP V L E (i + 1) n 0 else feP V L E (i + 1) n s
/-- the first clause from i on of which p holds -/
def ffP (p : Int → Bool) (V L E : List Int) : Nat → Nat → Int
  | _, 0 => -1
  | i, n + 1 => if p (evalP V (clP L E i) (-1)) = true then (i : Int) else ffP p V L E (i + 1) n
set_option linter.unusedSimpArgs false in
set_option maxRecDepth 100000 in
set_option maxHeartbeats 8000000 in
/-- cnf.Formula.Eval -/
theorem fEvalZ_any (w : World) (B b : Nat) (va ve : Value) (L E : List Int) (h : AR w B b 1 va ve L E) (hE : EOk L E) (hL : E.length ≤ 1000000000) (hLL : L.length ≤ 1000000000) (hok : ∀ x ∈ L, LitOk x) (B' b' : Nat) (vb : Value) (k : Int) (V : List Int) (ha : AT w B' b' vb k V) (hr : ∀ x ∈ V, -1 ≤ x ∧ x ≤ 1) :
    Calls Tryz.prog 43 #[.pointer (some ⟨b, 0, none⟩), .pointer (some ⟨b', 0, none⟩)] w fun e w' => e = .returned (.int .i8 (feP V L E 0 E.length 1)) ∧ Below w.heap.size w w' := by
  have HA := hide ha
  have HR := hide hr
  have HF := hide h
  have HEO := hide hE
  have HOK := hide hok
  clear h hE hok ha hr
  obtain ⟨R, hR⟩ : ∃ R, feP V L E 0 E.length 1 = R := ⟨_, rfl⟩
  have HRR := hide hR
  rw [hR]
  clear hR
  obtain ⟨n, hn⟩ : ∃ n, E.length = n := ⟨_, rfl⟩
  have HN := hide hn
  rw [hn] at hL HRR
  clear hn
  go_enter Tryz.func43, Tryz.ntmps43
  go_wp2_with fail
  go_loopw [5, 6, 7] (fun s5 s6 _ wx => ∃ (i : Nat) (s : Int), s6 = .int .i64 i ∧ s5 = .int .i8 s ∧ i ≤ n ∧ Hid (feP V L E i (n - i) s = R) ∧ Hid (Below w.heap.size w wx)) (fun _ s6 _ _ => n - (intOf s6).toNat)
  case atStart => exact ⟨0, 1, rfl, rfl, Nat.zero_le _, HRR, Below.refl _ _⟩
  case round =>
    clear HRR
    obtain ⟨i, s, rfl, rfl, hi, HS, HB⟩ := hrel
    have hnc := hide (numClauses_any wr B b va ve L E (HF.out.below HB.out))
    rw [HN.out] at hnc
    have hw1 : wrap64 ((i : Int) + 1) = ((i + 1 : Nat) : Int) := by unfold wrap64; omega
    by_cases hlt : i < n
    · have hib : decide ((i : Int) < (n : Int)) = true := decide_eq_true (by omega)
      have cAt := hide (atZ_any wr B b 1 va ve L E (HF.out.below HB.out) HEO.out (by rw [HN.out]; exact hL) i (by rw [HN.out]; exact hlt))
      have HCO := hide (clP_ok (E := E) HOK.out i)
      have HLN := hide (clP_le L E i)
      obtain ⟨m, hm⟩ : ∃ m, n - i = m + 1 := ⟨n - i - 1, by omega⟩
      have HM : Hid (n - (i + 1) = m) := by show _ = _; omega
      rw [hm] at HS
      unfold feP at HS
      clear hm
      generalize clP L E i = C at *
      obtain ⟨v, hv⟩ : ∃ v, evalP V C (-1) = v := ⟨_, rfl⟩
      have HV := hide hv
      rw [hv] at HS
      clear hv
      go_wp2_with fail
      refine hnc.out.mono ?_
      rintro e w' ⟨rfl, hw⟩
      rw [hw]
      clear hnc hw w'
      go_wp2_with fail
      refine cAt.out.mono ?_
      rintro e w5 ⟨a5, c5, rfl, hc5, hg5, b5⟩
      have HB5 : Hid (Below w.heap.size w w5) := lec HB.out b5
      have cE := hide (eval_any w5 B' b' vb k V (HA.out.below HB5.out) HR.out a5 c5 C hc5 HCO.out (by have := HLN.out; omega))
      rw [HV.out] at cE
      clear hc5 b5 cAt hg5 HB
      go_wp2_with fail
      refine cE.out.mono ?_
      rintro e w' ⟨rfl, hw⟩
      rw [hw]
      clear hw w' cE
      by_cases h1 : v = -1
      · have h1b : (v == -1) = true := by simp [h1]
        rw [if_pos h1] at HS
        have HQ : Hid (R = -1) := HS.out.symm
        clear h1 HS HV
        go_wp2
        go_ret
        exact ⟨ret_int HQ.out.symm, HB5.out⟩
      · have h1b : (v == -1) = false := by simp [h1]
        rw [if_neg h1] at HS
        by_cases h2 : v = 0
        · have h2b : (v == 0) = true := by simp [h2]
          rw [if_pos h2] at HS
          clear h1 h2 HV
          go_wp2
          go_roundw
          case rel => exact ⟨i + 1, 0, by go_num, rfl, by omega, (by show _ = _; rw [HM.out]; exact HS.out), HB5⟩
          case measure => (simp [intOf]; try omega)
        · have h2b : (v == 0) = false := by simp [h2]
          rw [if_neg h2] at HS
          clear h1 h2 HV
          go_wp2
          go_roundw
          case rel => exact ⟨i + 1, s, by go_num, rfl, by omega, (by show _ = _; rw [HM.out]; exact HS.out), HB5⟩
          case measure => (simp [intOf]; try omega)
    · have hib : decide ((i : Int) < (n : Int)) = false := decide_eq_false (by omega)
      rw [show n - i = 0 by omega] at HS
      have HQ : Hid (s = R) := HS.out
      clear HS
      go_wp2_with fail
      refine hnc.out.mono ?_
      rintro e w' ⟨rfl, hw⟩
      rw [hw]
      clear hnc hw w'
      go_wp2
      go_ret
      exact ⟨ret_int HQ.out, HB.out⟩
set_option linter.unusedSimpArgs false in
set_option maxRecDepth 100000 in
set_option maxHeartbeats 8000000 in
/-- cnf.Formula.FirstFalsified -/
theorem firstFals_any (w : World) (B b : Nat) (va ve : Value) (L E : List Int) (h : AR w B b 1 va ve L E) (hE : EOk L E) (hL : E.length ≤ 1000000000) (hLL : L.length ≤ 1000000000) (hok : ∀ x ∈ L, LitOk x) (B' b' : Nat) (vb : Value) (k : Int) (V : List Int) (ha : AT w B' b' vb k V) (hr : ∀ x ∈ V, -1 ≤ x ∧ x ≤ 1) :
    Calls Tryz.prog 46 #[.pointer (some ⟨b, 0, none⟩), .pointer (some ⟨b', 0, none⟩)] w fun e w' => e = .returned (.int .i64 (ffP (fun v => v == -1) V L E 0 E.length)) ∧ Below w.heap.size w w' := by
  have HA := hide ha
  have HR := hide hr
  have HF := hide h
  have HEO := hide hE
  have HOK := hide hok
  clear h hE hok ha hr
  obtain ⟨R, hR⟩ : ∃ R, ffP (fun v => v == -1) V L E 0 E.length = R := ⟨_, rfl⟩
  have HRR := hide hR
  rw [hR]
  clear hR
  obtain ⟨n, hn⟩ : ∃ n, E.length = n := ⟨_, rfl⟩
  have HN := hide hn
  rw [hn] at hL HRR
  clear hn
  go_enter Tryz.func46, Tryz.ntmps46
  go_wp2_with fail
  go_loopw [5] (fun s5 wx => ∃ (i : Nat), s5 = .int .i64 i ∧ i ≤ n ∧ Hid (ffP (fun v => v == -1) V L E i (n - i) = R) ∧ Hid (Below w.heap.size w wx)) (fun s5 _ => n - (intOf s5).toNat)
  case atStart => exact ⟨0, rfl, Nat.zero_le _, HRR, Below.refl _ _⟩
  case round =>
    clear HRR
    obtain ⟨i, rfl, hi, HS, HB⟩ := hrel
    have hnc := hide (numClauses_any wr B b va ve L E (HF.out.below HB.out))
    rw [HN.out] at hnc
    have hw1 : wrap64 ((i : Int) + 1) = ((i + 1 : Nat) : Int) := by unfold wrap64; omega
    by_cases hlt : i < n
    · have hib : decide ((i : Int) < (n : Int)) = true := decide_eq_true (by omega)
      have cAt := hide (atZ_any wr B b 1 va ve L E (HF.out.below HB.out) HEO.out (by rw [HN.out]; exact hL) i (by rw [HN.out]; exact hlt))
      have HCO := hide (clP_ok (E := E) HOK.out i)
      have HLN := hide (clP_le L E i)
      obtain ⟨m, hm⟩ : ∃ m, n - i = m + 1 := ⟨n - i - 1, by omega⟩
      have HM : Hid (n - (i + 1) = m) := by show _ = _; omega
      rw [hm] at HS
      unfold ffP at HS
      clear hm
      generalize clP L E i = C at *
      obtain ⟨v, hv⟩ : ∃ v, evalP V C (-1) = v := ⟨_, rfl⟩
      have HV := hide hv
      rw [hv] at HS
      clear hv
      go_wp2_with fail
      refine hnc.out.mono ?_
      rintro e w' ⟨rfl, hw⟩
      rw [hw]
      clear hnc hw w'
      go_wp2_with fail
      refine cAt.out.mono ?_
      rintro e w5 ⟨a5, c5, rfl, hc5, hg5, b5⟩
      have HB5 : Hid (Below w.heap.size w w5) := lec HB.out b5
      have cE := hide (eval_any w5 B' b' vb k V (HA.out.below HB5.out) HR.out a5 c5 C hc5 HCO.out (by have := HLN.out; omega))
      rw [HV.out] at cE
      clear hc5 b5 cAt hg5 HB
      go_wp2_with fail
      refine cE.out.mono ?_
      rintro e w' ⟨rfl, hw⟩
      rw [hw]
      clear hw w' cE
      by_cases h1 : (v == -1) = true
      · rw [if_pos h1] at HS
        clear HV
        go_wp2
        go_ret
        exact ⟨ret_int HS.out, HB5.out⟩
      · rw [if_neg h1] at HS
        rw [Bool.not_eq_true] at h1
        clear HV
        go_wp2
        go_roundw
        case rel => exact ⟨i + 1, by go_num, by omega, (by show _ = _; rw [HM.out]; exact HS.out), HB5⟩
        case measure => (simp [intOf]; try omega)
    · have hib : decide ((i : Int) < (n : Int)) = false := decide_eq_false (by omega)
      rw [show n - i = 0 by omega] at HS
      have HQ : Hid (-1 = R) := HS.out
      clear HS
      go_wp2_with fail
      refine hnc.out.mono ?_
      rintro e w' ⟨rfl, hw⟩
      rw [hw]
      clear hnc hw w'
      go_wp2
      go_ret
      exact ⟨ret_int HQ.out, HB.out⟩
set_option linter.unusedSimpArgs false in
set_option maxRecDepth 100000 in
set_option maxHeartbeats 8000000 in
/-- cnf.Formula.FirstUnsatisfied -/
theorem firstUnsat_any (w : World) (B b : Nat) (va ve : Value) (L E : List Int) (h : AR w B b 1 va ve L E) (hE : EOk L E) (hL : E.length ≤ 1000000000) (hLL : L.length ≤ 1000000000) (hok : ∀ x ∈ L, LitOk x) (B' b' : Nat) (vb : Value) (k : Int) (V : List Int) (ha : AT w B' b' vb k V) (hr : ∀ x ∈ V, -1 ≤ x ∧ x ≤ 1) :
    Calls Tryz.prog 111 #[.pointer (some ⟨b, 0, none⟩), .pointer (some ⟨b', 0, none⟩)] w fun e w' => e = .returned (.int .i64 (ffP (fun v => v != 1) V L E 0 E.length)) ∧ Below w.heap.size w w' := by
  have HA := hide ha
  have HR := hide hr
  have HF := hide h
  have HEO := hide hE
  have HOK := hide hok
  clear h hE hok ha hr
  obtain ⟨R, hR⟩ : ∃ R, ffP (fun v => v != 1) V L E 0 E.length = R := ⟨_, rfl⟩
  have HRR := hide hR
  rw [hR]
  clear hR
  obtain ⟨n, hn⟩ : ∃ n, E.length = n := ⟨_, rfl⟩
  have HN := hide hn
  rw [hn] at hL HRR
  clear hn
  go_enter Tryz.func111, Tryz.ntmps111
  go_wp2_with fail
  go_loopw [5] (fun s5 wx => ∃ (i : Nat), s5 = .int .i64 i ∧ i ≤ n ∧ Hid (ffP (fun v => v != 1) V L E i (n - i) = R) ∧ Hid (Below w.heap.size w wx)) (fun s5 _ => n - (intOf s5).toNat)
  case atStart => exact ⟨0, rfl, Nat.zero_le _, HRR, Below.refl _ _⟩
  case round =>
    clear HRR
    obtain ⟨i, rfl, hi, HS, HB⟩ := hrel
    have hnc := hide (numClauses_any wr B b va ve L E (HF.out.below HB.out))
    rw [HN.out] at hnc
    have hw1 : wrap64 ((i : Int) + 1) = ((i + 1 : Nat) : Int) := by unfold wrap64; omega
    by_cases hlt : i < n
    · have hib : decide ((i : Int) < (n : Int)) = true := decide_eq_true (by omega)
      have cAt := hide (atZ_any wr B b 1 va ve L E (HF.out.below HB.out) HEO.out (by rw [HN.out]; exact hL) i (by rw [HN.out]; exact hlt))
      have HCO := hide (clP_ok (E := E) HOK.out i)
      have HLN := hide (clP_le L E i)
      obtain ⟨m, hm⟩ : ∃ m, n - i = m + 1 := ⟨n - i - 1, by omega⟩
      have HM : Hid (n - (i + 1) = m) := by show _ = _; omega
      rw [hm] at HS
      unfold ffP at HS
      clear hm
      generalize clP L E i = C at *
      obtain ⟨v, hv⟩ : ∃ v, evalP V C (-1) = v := ⟨_, rfl⟩
      have HV := hide hv
      rw [hv] at HS
      clear hv
      go_wp2_with fail
      refine hnc.out.mono ?_
      rintro e w' ⟨rfl, hw⟩
      rw [hw]
      clear hnc hw w'
      go_wp2_with fail
      refine cAt.out.mono ?_
      rintro e w5 ⟨a5, c5, rfl, hc5, hg5, b5⟩
      have HB5 : Hid (Below w.heap.size w w5) := lec HB.out b5
      have cE := hide (eval_any w5 B' b' vb k V (HA.out.below HB5.out) HR.out a5 c5 C hc5 HCO.out (by have := HLN.out; omega))
      rw [HV.out] at cE
      clear hc5 b5 cAt hg5 HB
      go_wp2_with fail
      refine cE.out.mono ?_
      rintro e w' ⟨rfl, hw⟩
      rw [hw]
      clear hw w' cE
      by_cases h1 : (v != 1) = true
      · rw [if_pos h1] at HS
        clear HV
        go_wp2
        go_ret
        exact ⟨ret_int HS.out, HB5.out⟩
      · rw [if_neg h1] at HS
        rw [Bool.not_eq_true] at h1
        clear HV
        go_wp2
        go_roundw
        case rel => exact ⟨i + 1, by go_num, by omega, (by show _ = _; rw [HM.out]; exact HS.out), HB5⟩
        case measure => (simp [intOf]; try omega)
    · have hib : decide ((i : Int) < (n : Int)) = false := decide_eq_false (by omega)
      rw [show n - i = 0 by omega] at HS
      have HQ : Hid (-1 = R) := HS.out
      clear HS
      go_wp2_with fail
      refine hnc.out.mono ?_
      rintro e w' ⟨rfl, hw⟩
      rw [hw]
      clear hnc hw w'
      go_wp2
      go_ret
      exact ⟨ret_int HQ.out, HB.out⟩
set_option linter.unusedSimpArgs false in
set_option maxRecDepth 100000 in
set_option maxHeartbeats 4000000 in
/-- cnf.Formula.SatisfiedBy -/
theorem satisfiedBy_any (w : World) (B b : Nat) (va ve : Value) (L E : List Int) (h : AR w B b 1 va ve L E) (hE : EOk L E) (hL : E.length ≤ 1000000000) (hLL : L.length ≤ 1000000000) (hok : ∀ x ∈ L, LitOk x) (B' b' : Nat) (vb : Value) (k : Int) (V : List Int) (ha : AT w B' b' vb k V) (hr : ∀ x ∈ V, -1 ≤ x ∧ x ≤ 1) :
    Calls Tryz.prog 45 #[.pointer (some ⟨b, 0, none⟩), .pointer (some ⟨b', 0, none⟩)] w fun e w' => e = .returned (.bool (decide (ffP (fun v => v != 1) V L E 0 E.length < 0))) ∧ Below w.heap.size w w' := by
  have cc := hide (firstUnsat_any w B b va ve L E h hE hL hLL hok B' b' vb k V ha hr)
  clear h hE hok ha hr
  generalize ffP (fun v => v != 1) V L E 0 E.length = R at *
  go_enter Tryz.func45, Tryz.ntmps45
  go_wp2_with fail
  refine cc.out.mono ?_
  rintro e w' ⟨rfl, hb⟩
  have HB := hide hb
  clear hb cc
  go_wp2
  go_ret
  exact ⟨rfl, HB.out⟩
end Go.Proofs.Qxb6500773aGreat
