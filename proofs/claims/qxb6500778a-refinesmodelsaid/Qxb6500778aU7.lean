import Derived.Test.Qxb6500778aU6
namespace Go.Proofs.Qxb6500778a
open Go.RowKit

/-- The model's session. -/
structure SM where
  now : MN
  st : List Chg
  bef : MN
  cu : Bool
def applyM (y : SM) (id : Int) (C : List Chg) : SM × Ans :=
  if (mapply y.now id C).2.1 = 0 then (⟨(mapply y.now id C).1, y.st, y.now, true⟩, ⟨0, 0, ⟨#[]⟩⟩) else (y, ⟨(mapply y.now id C).2.1, (mapply y.now id C).2.2, ⟨#[]⟩⟩)
/-- the model's step, plain (the parser's answer is the real one's) -/
def stepM (y : SM) (p : Opn) : SM × Ans :=
  if p.kd = 0 then (if (parseP p.d).er = 0 then (y, ⟨0, 0, strOfNums (printT (parseP p.d).id (parseP p.d).cs)⟩) else (y, ⟨(parseP p.d).er, (parseP p.d).at_, ⟨#[]⟩⟩))
  else if p.kd = 1 then (if (parseP p.d).er = 0 then applyM y (parseP p.d).id (parseP p.d).cs else (y, ⟨(parseP p.d).er, (parseP p.d).at_, ⟨#[]⟩⟩))
  else if p.kd = 2 then ({ y with st := y.st ++ [p.c] }, ⟨0, 0, ⟨#[]⟩⟩)
  else if p.kd = 3 then applyM { y with st := [] } p.a y.st
  else if p.kd = 4 then (if y.cu = true then ({ y with now := y.bef, cu := false }, ⟨0, 0, ⟨#[]⟩⟩) else (y, ⟨9, 0, ⟨#[]⟩⟩))
  else (y, ⟨0, 0, ⟨#[]⟩⟩)
structure SR (x : Sn) (y : SM) : Prop where
  net : MR x.N y.now
  st : y.st = x.st
  cu : y.cu = x.cu
  un : x.cu = true → (runP x.N x.uid x.us).2.2 = (0, 0) ∧ MR (runP x.N x.uid x.us).1 y.bef
theorem run_zero_at {N : Nat → Dv} {id : Int} {C : List Chg} (h : (runP N id C).2.2.1 = 0) : (runP N id C).2.2.2 = 0 := (runP_len h).2
theorem apply_rel {x : Sn} {y : SM} (h : SR x y) (hok : NetOk x.N) (hlk : LkOk x.N) (id : Int) (C : List Chg) :
    (applyM y id C).2 = ⟨(runP x.N id C).2.2.1, (runP x.N id C).2.2.2, ⟨#[]⟩⟩ ∧ SR (applyS x id C) (applyM y id C).1 := by
  obtain ⟨r1, r2⟩ := mapply_rel h.net hok hlk id C
  unfold applyM applyS
  rw [r1]
  by_cases he : (runP x.N id C).2.2.1 = 0
  · rw [if_pos he, if_pos he]
    refine ⟨by rw [he, run_zero_at he], ?_⟩
    obtain ⟨_, _, _, u4, u5⟩ := run_undo hok hlk he
    have e : applyP x.N id C = (runP x.N id C).1 := by unfold applyP; rw [if_pos he]
    rw [e] at r2
    exact ⟨r2, h.st, rfl, fun _ => ⟨u5, by rw [u4]; exact h.net⟩⟩
  · rw [if_neg he, if_neg he]
    exact ⟨rfl, h⟩
/-- THE SESSIONS GO TOGETHER -/
theorem step_rel {x : Sn} {y : SM} (h : SR x y) (hok : NetOk x.N) (hlk : LkOk x.N) (p : Opn) : (stepM y p).2 = (stepS x p).2 ∧ SR (stepS x p).1 (stepM y p).1 := by
  unfold stepM stepS
  by_cases k0 : p.kd = 0
  · rw [if_pos k0, if_pos k0]
    split
    · exact ⟨rfl, h⟩
    · exact ⟨rfl, h⟩
  · rw [if_neg k0, if_neg k0]
    by_cases k1 : p.kd = 1
    · rw [if_pos k1, if_pos k1]
      split
      · exact apply_rel h hok hlk _ _
      · exact ⟨rfl, h⟩
    · rw [if_neg k1, if_neg k1]
      by_cases k2 : p.kd = 2
      · rw [if_pos k2, if_pos k2]
        exact ⟨rfl, h.net, by show y.st ++ [p.c] = x.st ++ [p.c]; rw [h.st], h.cu, h.un⟩
      · rw [if_neg k2, if_neg k2]
        by_cases k3 : p.kd = 3
        · rw [if_pos k3, if_pos k3, h.st]
          exact apply_rel (x := { x with st := [] }) (y := { y with st := [] }) ⟨h.net, rfl, h.cu, h.un⟩ hok hlk _ _
        · rw [if_neg k3, if_neg k3]
          by_cases k4 : p.kd = 4
          · rw [if_pos k4, if_pos k4, h.cu]
            by_cases hc : x.cu = true
            · rw [if_pos hc, if_pos hc]
              obtain ⟨u1, u2⟩ := h.un hc
              have e : applyP x.N x.uid x.us = (runP x.N x.uid x.us).1 := by unfold applyP; rw [if_pos (by rw [u1])]
              refine ⟨by rw [u1], ?_⟩
              exact ⟨by show MR (applyP x.N x.uid x.us) y.bef; rw [e]; exact u2, h.st, rfl, fun z => (by cases z)⟩
            · rw [if_neg hc, if_neg hc]
              exact ⟨rfl, h⟩
          · rw [if_neg k4, if_neg k4]
            exact ⟨rfl, h⟩
def mn0 : MN := ⟨fun _ => [], fun _ => [], fun _ => false, fun _ _ => false⟩
theorem sr_zero : SR sn0 ⟨mn0, [], mn0, false⟩ := by
  refine ⟨⟨fun d _ => rfl, fun d _ => rfl, fun d _ => List.Perm.nil, fun d e _ _ => ?_⟩, rfl, rfl, fun h => (by cases h)⟩
  show false = lkB 0 e
  have : lkB ((0 : Nat) : Int) e = false := by rw [lk_nat 0 e (by decide)]; exact Nat.zero_testBit e
  exact this.symm
end Go.Proofs.Qxb6500778a
