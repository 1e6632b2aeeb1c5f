import Derived.Test.Qxb6500778aIv0
import Derived.Test.Qxb6500778aOv0
namespace Go.Proofs.Qxb6500778a
open Go.RowKit

theorem applyS_N (x : Sn) (id : Int) (C : List Chg) : (applyS x id C).N = applyP x.N id C := by unfold applyS applyP; split <;> rfl
/-- what is offered is what is applied -/
theorem off_net (x : Sn) (p : Opn) (h : (offP x p).2.2 = true) : (stepS x p).1.N = applyP x.N (offP x p).1 (offP x p).2.1 := by
  by_cases k3 : p.kd = 3
  · have eo : offP x p = (p.a, x.st, true) := by unfold offP; rw [if_pos k3]
    have es : (stepS x p).1 = applyS { x with st := [] } p.a x.st := by unfold stepS; rw [if_neg (by omega), if_neg (by omega), if_neg (by omega), if_pos k3]
    rw [eo, es]
    exact applyS_N _ _ _
  · by_cases k1 : p.kd = 1
    · have eo : offP x p = ((parseP p.d).id, (parseP p.d).cs, decide ((parseP p.d).er = 0)) := by unfold offP; rw [if_neg (by omega), if_pos k1]
      rw [eo] at h ⊢
      simp only [decide_eq_true_eq] at h
      have es : (stepS x p).1 = applyS x (parseP p.d).id (parseP p.d).cs := by unfold stepS; rw [if_neg (by omega), if_pos k1, if_pos h]
      rw [es]
      exact applyS_N _ _ _
    · have eo : offP x p = (0, [], false) := by unfold offP; rw [if_neg k3, if_neg k1]
      rw [eo] at h
      cases h
theorem applyP_lk {N : Nat → Dv} (hok : NetOk N) (hlk : LkOk N) (id : Int) (C : List Chg) : LkOk (applyP N id C) := by
  unfold applyP
  split
  · exact runP_lk hok hlk
  · exact hlk
theorem step_lkS (x : Sn) (p : Opn) (hok : NetOk x.N) (hlk : LkOk x.N) : LkOk (stepS x p).1.N := by
  unfold stepS
  split
  · split <;> exact hlk
  · split
    · split
      · show LkOk (applyS _ _ _).N; rw [applyS_N]; exact applyP_lk hok hlk _ _
      · exact hlk
    · split
      · exact hlk
      · split
        · show LkOk (applyS _ _ _).N; rw [applyS_N]; exact applyP_lk (N := x.N) hok hlk _ _
        · split
          · split
            · exact applyP_lk (N := x.N) hok hlk _ _
            · exact hlk
          · exact hlk
theorem off_len (x : Sn) (p : Opn) (n : Nat) (h : x.st.length ≤ n) : (offP x p).2.1.length ≤ n + 128 := by
  unfold offP
  split
  · show x.st.length ≤ _; omega
  · split
    · have := (parse_good p.d).1
      show (parseP p.d).cs.length ≤ _
      omega
    · exact Nat.zero_le _
theorem lk_zero : LkOk (fun _ => dv0) := ⟨fun d _ => ⟨Int.le_refl 0, (by show (0 : Int) < 65536; decide)⟩, fun d h _ hh => by
  show lkB 0 h = lkB 0 d
  have e : ∀ i : Nat, lkB ((0 : Nat) : Int) i = false := fun i => by rw [lk_nat 0 i (by decide)]; exact Nat.zero_testBit i
  exact (e h).trans (e d).symm⟩
end Go.Proofs.Qxb6500778a
