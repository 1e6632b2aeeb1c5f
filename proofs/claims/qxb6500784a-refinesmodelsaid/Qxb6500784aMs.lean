import Derived.Test.Qxb6500784aMs1
import Derived.Test.Qxb6500784aMs2
import Derived.Test.Qxb6500784aMs3
import Derived.Test.Qxb6500784aRq
namespace Go.Proofs.Qxb6500784a
open Go.RowKit

/-- bundlem.World.Step -/
theorem mstep_any (w : World) (b : Nat) (P : Pr) (S : List Nat) (h : PP w b P S) (hsm : PSm P) (hoa : P.la.opn = true) (hob : P.lb.opn = true) (kd : Int) (a : Option Addr) (n cap : Nat) (L : Nat → Leg) (T : Nat → List Int) (hn : n ≤ 9223372036854775807) (hL : LegsAt w a n L) (h1 : LegsOne n L) (hV : ordCode n L = 0 → ∀ i, i < n → LegV (legL (L i)) (L i).ch (T i)) (z : Nat) (hz : Bnd z P) (hzl : z ≤ 800000000000) (ch pt gs ac tk am : Int) (hg : 0 ≤ gs) (hb2 : 0 ≤ ac ∧ ac < 256) (hb3 : 0 ≤ tk ∧ tk < 256) (hb4 : 0 ≤ am ∧ am < m64) :
    Calls Try.prog 31 #[.pointer (some ⟨b, 0, none⟩), .agg (opV kd a n cap ch pt gs ac tk am).toArray] w fun e w' => ∃ v, StPost w b S (stepS P kd n L T ch pt gs ac tk am) (stepAn P kd n L T ch pt gs ac tk am v) e w' := by
  have hl : P.b1.out.length ≤ 900000000000 := by have := hz.o 3; simp only [Pr.box, show ((3 : Int) = 1) = False by simp, show ((3 : Int) = 2) = False by simp, if_false] at this; omega
  by_cases k1 : kd = 1
  · subst k1
    have e1 : stepS P 1 n L T ch pt gs ac tk am = simS true P n L T := if_pos rfl
    have e2 : ∀ v, stepAn P 1 n L T ch pt gs ac tk am v = ⟨(simR P n L T v).code, simR P n L T v, msg0⟩ := fun v => if_pos (.inl rfl)
    rw [e1]
    simp only [e2]
    exact m_i w b P S h hsm a n cap L T hn hL h1 hV z hz hzl ch pt gs ac tk am
  by_cases k2 : kd = 2
  · subst k2
    have e1 : stepS P 2 n L T ch pt gs ac tk am = P := by unfold stepS; rw [if_neg (by decide), if_neg (by decide), if_neg (by decide), if_neg (by decide)]
    have e2 : ∀ v, stepAn P 2 n L T ch pt gs ac tk am v = ⟨(simR P n L T v).code, simR P n L T v, msg0⟩ := fun v => if_pos (.inr rfl)
    have := m_y w b P S h hsm a n cap L T hn hL h1 hV z hz hzl ch pt gs ac tk am
    rw [e1]
    simp only [e2]
    exact this
  by_cases k3 : kd = 3
  · subst k3
    have e1 : stepS P 3 n L T ch pt gs ac tk am = P := by unfold stepS; rw [if_neg (by decide), if_neg (by decide), if_neg (by decide), if_neg (by decide)]
    have e2 : ∀ v, stepAn P 3 n L T ch pt gs ac tk am v = ⟨ordCode n L, ordR n L v, msg0⟩ := fun v => by unfold stepAn; rw [if_neg (by decide), if_pos rfl]
    rw [e1]
    simp only [e2]
    exact m_o w b P S h a n cap L hn hL h1 ch pt gs ac tk am
  by_cases k4 : kd = 4
  · subst k4
    have e1 : stepS P 4 n L T ch pt gs ac tk am = depS P ch ac tk am := by unfold stepS; rw [if_neg (by decide), if_pos rfl]
    have e2 : ∀ v, stepAn P 4 n L T ch pt gs ac tk am v = ⟨depC P ch ac tk am, refR 0 (-1), depA P ch ac tk am⟩ := fun v => by unfold stepAn; rw [if_neg (by decide), if_neg (by decide), if_pos rfl]
    rw [e1]
    simp only [e2]
    exact (m_p w b P S h hl a n cap ch pt gs ac tk am hb2 hb3 hb4).mono fun e w' hh => ⟨nilS, hh⟩
  by_cases k5 : kd = 5
  · subst k5
    have e1 : stepS P 5 n L T ch pt gs ac tk am = nextS P gs := by unfold stepS; rw [if_neg (by decide), if_neg (by decide), if_pos rfl]
    have e2 : ∀ v, stepAn P 5 n L T ch pt gs ac tk am v = ⟨nextC P gs, refR 0 (-1), msg0⟩ := fun v => by unfold stepAn; rw [if_neg (by decide), if_neg (by decide), if_neg (by decide), if_pos rfl]
    rw [e1]
    simp only [e2]
    exact (m_n w b P S h hsm hoa hob a n cap ch pt gs ac tk am hg).mono fun e w' hh => ⟨nilS, hh⟩
  by_cases k6 : kd = 6 ∨ kd = 7
  · have e1 : stepS P kd n L T ch pt gs ac tk am = dpS P kd ch pt := by unfold stepS; rw [if_neg k1, if_neg k4, if_neg k5, if_pos k6]
    have e2 : ∀ v, stepAn P kd n L T ch pt gs ac tk am v = ⟨dpC P kd ch pt, refR 0 (-1), msg0⟩ := fun v => by unfold stepAn; rw [if_neg (by omega), if_neg k3, if_neg k4, if_neg k5, if_pos k6]
    rw [e1]
    simp only [e2]
    rcases k6 with rfl | rfl
    · exact (m_d6 w b P S h hsm a n cap ch pt gs ac tk am).mono fun e w' hh => ⟨nilS, hh⟩
    · exact (m_d7 w b P S h hsm a n cap ch pt gs ac tk am).mono fun e w' hh => ⟨nilS, hh⟩
  · have e1 : stepS P kd n L T ch pt gs ac tk am = P := by unfold stepS; rw [if_neg k1, if_neg k4, if_neg k5, if_neg k6]
    have e2 : ∀ v, stepAn P kd n L T ch pt gs ac tk am v = ⟨41, refR 0 (-1), msg0⟩ := fun v => by unfold stepAn; rw [if_neg (by omega), if_neg k3, if_neg k4, if_neg k5, if_neg k6]
    rw [e1]
    simp only [e2]
    exact (m_t w b P S h kd a n cap ch pt gs ac tk am (by omega)).mono fun e w' hh => ⟨nilS, hh⟩
theorem stepAn_E (P : Pr) (kd : Int) (n : Nat) (L : Nat → Leg) (T : Nat → List Int) (ch pt gs ac tk am : Int) (v v' : Value) : (stepAn P kd n L T ch pt gs ac tk am v).code = (stepAn P kd n L T ch pt gs ac tk am v').code ∧ RsE (stepAn P kd n L T ch pt gs ac tk am v).r (stepAn P kd n L T ch pt gs ac tk am v').r ∧ (stepAn P kd n L T ch pt gs ac tk am v).m = (stepAn P kd n L T ch pt gs ac tk am v').m := by
  unfold stepAn
  by_cases h1 : kd = 1 ∨ kd = 2
  · rw [if_pos h1, if_pos h1]
    have e := simR_E P n L T v v'
    exact ⟨e.c.symm, e, rfl⟩
  · rw [if_neg h1, if_neg h1]
    by_cases h2 : kd = 3
    · rw [if_pos h2, if_pos h2]
      exact ⟨rfl, ⟨rfl, rfl, rfl, rfl, rfl, rfl, rfl, rfl⟩, rfl⟩
    · rw [if_neg h2, if_neg h2]
      exact ⟨rfl, RsE.refl _, rfl⟩
end Go.Proofs.Qxb6500784a
