import Derived.Test.Qxb6500784aSets
import Derived.Laws.Cells
namespace Go.Proofs.Qxb6500784a
open Go.RowKit

def legCode (l : Leg) : Int := if l.ch = 1 ∨ l.ch = 2 then (if l.tch = l.ch then (if l.nn > 8 then 64 else 0) else 63) else 62
def legArr (l : Leg) : Array Value := ((List.range 86).map l.v).toArray
theorem legArr_size (l : Leg) : (legArr l).size = 86 := by simp [legArr]
theorem legArr_at (l : Leg) (j : Nat) (h : j < 86) : (legArr l)[j]? = some (l.v j) := by simp [legArr, h]

theorem checkLeg_any (w : World) (l : Leg) (hl : LegOk w l) :
    Calls Try.prog 72 #[.agg (legArr l)] w fun e w' => e = .returned (.int .i64 (legCode l)) ∧ Below w.heap.size w w' := by
  have s := legArr_size l
  have a1 : (legArr l)[1]? = some (.int .u8 l.ch) := (legArr_at l 1 (by omega)).trans (by rw [hl.v1])
  have a3 : (legArr l)[3]? = some (.int .u8 l.tch) := (legArr_at l 3 (by omega)).trans (by rw [hl.v3])
  have a85 : (legArr l)[85]? = some (.slice l.na l.nn l.nc) := (legArr_at l 85 (by omega)).trans (by rw [hl.v85])
  have nn := hl.nn
  generalize legArr l = A at *
  have b1 : A[1] = .int .u8 l.ch := by rw [Array.getElem?_eq_getElem (by omega)] at a1; exact Option.some.inj a1
  have b3 : A[3] = .int .u8 l.tch := by rw [Array.getElem?_eq_getElem (by omega)] at a3; exact Option.some.inj a3
  have b85 : A[85] = .slice l.na l.nn l.nc := by rw [Array.getElem?_eq_getElem (by omega)] at a85; exact Option.some.inj a85
  clear a1 a3 a85
  go_enter Try.func72, Try.ntmps72
  go_wp2_with fail
  refine (roll_any _ l.ch).mono ?_
  rintro e w' ⟨rfl, rfl⟩
  have HB := hide ((Below.refl w.heap.size w).alloc (Nat.le_refl _) (.cells A 95))
  by_cases h1 : l.ch = 1 ∨ l.ch = 2
  · rw [decide_eq_true h1]
    by_cases h2 : l.tch = l.ch
    · by_cases h3 : l.nn > 8
      · have HC : Hid (legCode l = 64) := by show legCode l = 64; simp [legCode, h1, h2, h3]
        clear h1
        go_wp2
        go_ret
        exact ⟨by rw [HC.out]; rfl, HB.out⟩
      · have HC : Hid (legCode l = 0) := by show legCode l = 0; simp [legCode, h1, h2, h3]
        clear h1
        go_wp2
        go_ret
        exact ⟨by rw [HC.out]; rfl, HB.out⟩
    · have HC : Hid (legCode l = 63) := by show legCode l = 63; simp [legCode, h1, h2]
      clear h1
      go_wp2
      go_ret
      exact ⟨by rw [HC.out]; rfl, HB.out⟩
  · rw [decide_eq_false h1]
    have HC : Hid (legCode l = 62) := by show legCode l = 62; simp [legCode, h1]
    clear h1
    go_wp2
    go_ret
    exact ⟨by rw [HC.out]; rfl, HB.out⟩
end Go.Proofs.Qxb6500784a
