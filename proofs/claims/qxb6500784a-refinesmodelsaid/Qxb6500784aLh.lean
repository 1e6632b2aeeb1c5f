import Derived.Test.Qxb6500784aHpW
import Derived.Test.Qxb6500784aSy
import Derived.Test.Qxb6500784aWp
namespace Go.Proofs.Qxb6500784a
open Go.RowKit

theorem HL.link0 {w : World} {b k : Nat} {P : Pr} {S S' : List Nat} {x y : World} (h : HL w b k P S x) (hb : w.heap.size ≤ b) (l : Link x b S y S') (p : PP y b P S') : HL w b k P S' y :=
  ⟨h.iv, p, below_of h.be hb h.ge l, fun j hj => by
    rcases l.2 j hj with z | z
    · exact h.ge j z
    · exact Nat.le_trans h.be.size z⟩
theorem sameP_any (w : World) (b1 b2 : Nat) (P : Pr) (S1 S2 : List Nat) (h1 : PP w b1 P S1) (h2 : PP w b2 P S2) (hsm : PSm P) :
    Calls Try.prog 23 #[.pointer (some ⟨b1, 0, none⟩), .pointer (some ⟨b2, 0, none⟩)] w fun e w' => e = .returned (.bool true) ∧ Below w.heap.size w w' := by
  obtain ⟨f1, k1, _⟩ := h1
  obtain ⟨f2, k2, _⟩ := h2
  exact sameW_any w b1 b2 P f1 f2 k1 k2 hsm
end Go.Proofs.Qxb6500784a
