import Derived.Test.Qxb6500778aMB
namespace Go.Proofs.Qxb6500778a
open Go.RowKit

def giB (i : Int) : Bool := decide (0 ≤ i ∧ i ≤ 63)
set_option maxRecDepth 100000 in
theorem goodDevM_any (w : World) (d : Int) : Calls Try.prog 85 #[.int .i64 d] w fun e w' => e = .returned (.bool (gdB d)) ∧ w = w' := by
  obtain ⟨b1, d1⟩ : ∃ b, decide ((0 : Int) ≤ d) = b := ⟨_, rfl⟩
  obtain ⟨b2, d2⟩ : ∃ b, decide (d < (16 : Int)) = b := ⟨_, rfl⟩
  have e : gdB d = (b1 && b2) := by
    rw [← d1, ← d2, ← Bool.decide_and]
    unfold gdB
    exact decide_eq_decide.2 (by omega)
  rw [e]
  clear e
  cases b1 <;> cases b2 <;> (go_enter Try.func85, Try.ntmps85; go_wp2; go_ret; exact ⟨rfl, rfl⟩)
set_option maxRecDepth 100000 in
theorem goodIdxM_any (w : World) (d : Int) : Calls Try.prog 86 #[.int .i64 d] w fun e w' => e = .returned (.bool (giB d)) ∧ w = w' := by
  obtain ⟨b1, d1⟩ : ∃ b, decide ((0 : Int) ≤ d) = b := ⟨_, rfl⟩
  obtain ⟨b2, d2⟩ : ∃ b, decide (d < (64 : Int)) = b := ⟨_, rfl⟩
  have e : giB d = (b1 && b2) := by
    rw [← d1, ← d2, ← Bool.decide_and]
    unfold giB
    exact decide_eq_decide.2 (by omega)
  rw [e]
  clear e
  cases b1 <;> cases b2 <;> (go_enter Try.func86, Try.ntmps86; go_wp2; go_ret; exact ⟨rfl, rfl⟩)
theorem gf_gp (p l : Int) : (gfM p l = true) ↔ GoodP p l := by
  unfold gfM GoodP
  rw [Bool.and_eq_true, decide_eq_true_eq]
  constructor
  · rintro ⟨⟨a, b, c, d⟩, e⟩; exact ⟨⟨a, b⟩, ⟨c, d⟩, e⟩
  · rintro ⟨⟨a, b⟩, ⟨c, d⟩, e⟩; exact ⟨⟨a, b, c, d⟩, e⟩
theorem gd_iff (d : Int) : gdB d = true ↔ (0 ≤ d ∧ d ≤ 15) := by unfold gdB; rw [decide_eq_true_eq]
theorem gi_iff (d : Int) : giB d = true ↔ (0 ≤ d ∧ d ≤ 63) := by unfold giB; rw [decide_eq_true_eq]
/-- what WellFormed reckons, kind by kind -/
def wfB (c : Chg) : Bool :=
  if c.kd = 0 then gdB c.dv && (gdB c.hp && (gfM c.pr c.ln && (((c.cl == 0) && !c.pm) && ((c.ix == 0) && !c.up)))) else
  if c.kd = 1 then gdB c.dv && (gfM c.pr c.ln && ((c.hp == 0) && (((c.cl == 0) && !c.pm) && ((c.ix == 0) && !c.up)))) else
  if c.kd = 2 then gdB c.dv && (giB c.ix && (gfM c.pr c.ln && (decide (0 ≤ c.cl) && (decide (c.cl ≤ 16) && ((c.hp == 0) && !c.up))))) else
  if c.kd = 3 then gdB c.dv && (giB c.ix && ((c.hp == 0) && (((c.pr == 0) && (c.ln == 0)) && (((c.cl == 0) && !c.pm) && !c.up)))) else
  if c.kd = 4 then gdB c.dv && (gdB c.hp && (decide (c.dv < c.hp) && (((c.pr == 0) && (c.ln == 0)) && (((c.cl == 0) && !c.pm) && (c.ix == 0))))) else
  if c.kd = 5 then gdB c.dv && ((c.hp == 0) && (((c.pr == 0) && (c.ln == 0)) && (((c.cl == 0) && !c.pm) && (c.ix == 0)))) else false
theorem wf_good (c : Chg) : wfB c = true ↔ GoodC c := by
  obtain ⟨kd, dv, hp, pr, ln, ix, cl, pm, up⟩ := c
  unfold wfB GoodC
  simp only []
  by_cases k0 : kd = 0
  · subst k0; simp [gf_gp, gd_iff]; grind
  · rw [if_neg k0]
    by_cases k1 : kd = 1
    · subst k1; simp [gf_gp, gd_iff]; grind
    · rw [if_neg k1]
      by_cases k2 : kd = 2
      · subst k2; simp [gf_gp, gd_iff, gi_iff]; grind
      · rw [if_neg k2]
        by_cases k3 : kd = 3
        · subst k3; simp [gd_iff, gi_iff]; grind
        · rw [if_neg k3]
          by_cases k4 : kd = 4
          · subst k4; simp [gd_iff]; grind
          · rw [if_neg k4]
            by_cases k5 : kd = 5
            · subst k5; simp [gd_iff]; grind
            · rw [if_neg k5]; simp [k0, k1, k2, k3, k4, k5]
end Go.Proofs.Qxb6500778a
