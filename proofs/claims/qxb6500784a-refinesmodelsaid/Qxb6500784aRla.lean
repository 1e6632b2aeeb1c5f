import Derived.Test.Qxb6500784aRl1
import Derived.Test.Qxb6500784aRl2
import Derived.Test.Qxb6500784aRl3
import Derived.Test.Qxb6500784aRl4
import Derived.Test.Qxb6500784aRl5
import Derived.Test.Qxb6500784aRl6
namespace Go.Proofs.Qxb6500784a
open Go.RowKit

/-- Pair.runLeg -/
theorem runLeg_any (w : World) (b d : Nat) (P : Pr) (S : List Nat) (r : Rs) (C : List Nat) (h : RW w b P S d r C) (c : Int) (t : List Int) (Lv : List Value) (hv : LegV Lv c t) (hsz : Sz P r) :
    Calls Try.prog 86 #[.pointer (some ⟨b, 0, none⟩), .agg Lv.toArray, .pointer (some ⟨d, 0, none⟩)] w (LegPost w b d S C P c t r) := by
  by_cases hc : refP (P.led c) t = 0
  · have hk := (refA0 (ref0 hc).1).1
    by_cases h1 : fld t 0 = 1
    · exact runLeg_f w b d P S r C h c t Lv hv hsz hc h1
    · by_cases h2 : fld t 0 = 2 ∨ fld t 0 = 4
      · by_cases h3 : 32 ≤ (P.box c).sn
        · exact runLeg_d w b d P S r C h c t Lv hv hsz hc h2 h3
        · exact runLeg_e w b d P S r C h c t Lv hv hsz hc h2 (by omega)
      · have h3 : fld t 0 = 3 ∨ fld t 0 = 5 := by omega
        by_cases h4 : conP (P.box c) (P.box (fld t 43)) (txMsg t) = 0
        · exact runLeg_c w b d P S r C h c t Lv hv hsz hc h3 h4
        · exact runLeg_b w b d P S r C h c t Lv hv hsz hc h3 h4
  · exact runLeg_a w b d P S r C h c t Lv hv hsz hc
end Go.Proofs.Qxb6500784a
