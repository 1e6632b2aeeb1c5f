import Derived.Test.Qxb6500784aSi1
namespace Go.Proofs.Qxb6500784a
open Go.RowKit

/-! ### A run of legs does not look at the open checkpoints -/
structure SameP (P Q : Pr) : Prop where
  a : Q.la = P.la
  b : Q.lb = P.lb
  c : Q.ba = P.ba
  d : Q.bb = P.bb
  e : Q.b1 = P.b1
theorem SameP.led {P Q : Pr} (h : SameP P Q) (c : Int) : Q.led c = P.led c := by unfold Pr.led; rw [h.a, h.b]
theorem SameP.box {P Q : Pr} (h : SameP P Q) (c : Int) : Q.box c = P.box c := by unfold Pr.box; rw [h.c, h.d, h.e]
theorem SameP.setL {P Q : Pr} (h : SameP P Q) (c : Int) (l : Led0) (s s' : List Led0) : SameP (P.setL c l s) (Q.setL c l s') := by
  unfold Pr.setL
  split
  · exact ⟨rfl, h.b, h.c, h.d, h.e⟩
  · exact ⟨h.a, rfl, h.c, h.d, h.e⟩
theorem SameP.setB {P Q : Pr} (h : SameP P Q) (c : Int) (x : Box0) (s s' : List Box0) : SameP (P.setB c x s) (Q.setB c x s') := by
  unfold Pr.setB
  split
  · exact ⟨h.a, h.b, rfl, h.d, h.e⟩
  · split
    · exact ⟨h.a, h.b, h.c, rfl, h.e⟩
    · exact ⟨h.a, h.b, h.c, h.d, rfl⟩
theorem SameP.legC {P Q : Pr} (h : SameP P Q) (c : Int) (t : List Int) : legC Q c t = legC P c t := by
  unfold Go.Proofs.Qxb6500784a.legC; rw [h.led, h.box, h.box]
theorem SameP.legR {P Q : Pr} (h : SameP P Q) (c : Int) (t : List Int) (r : Rs) : legR Q c t r = legR P c t r := by
  unfold Go.Proofs.Qxb6500784a.legR; rw [h.led, h.box]
theorem SameP.legS {P Q : Pr} (h : SameP P Q) (c : Int) (t : List Int) : SameP (legS P c t) (legS Q c t) := by
  unfold Go.Proofs.Qxb6500784a.legS
  rw [h.led, h.box, h.box]
  split
  · exact h
  · split
    · exact (h.setL _ _ _ _).setB _ _ _ _
    · split
      · exact (h.setL _ _ _ _).setB _ _ _ _
      · exact h.setL _ _ _ _
theorem runK_same {L : Nat → Leg} {T : Nat → List Int} : ∀ (is : List Nat) (P Q : Pr) (r : Rs), SameP P Q → SameP (runK L T is P r).1 (runK L T is Q r).1 ∧ (runK L T is Q r).2 = (runK L T is P r).2
  | [], P, Q, r, h => ⟨h, rfl⟩
  | i :: is, P, Q, r, h => by
    rw [runK, runK, h.legC, h.legR]
    split
    · exact runK_same is _ _ _ (h.legS _ _)
    · exact ⟨h.legS _ _, rfl⟩
theorem open_same (P : Pr) : SameP P (opened P) := ⟨rfl, rfl, rfl, rfl, rfl⟩
end Go.Proofs.Qxb6500784a
