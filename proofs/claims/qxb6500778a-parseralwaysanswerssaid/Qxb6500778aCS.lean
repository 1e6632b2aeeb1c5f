import Derived.Test.Qxb6500778aLex
namespace Go.Proofs.Qxb6500778a
open Go.RowKit

/-- A change in block q. -/
structure CS (w : World) (q : Nat) (kd dv hp pr ln ix cl : Int) (pm up : Bool) : Prop where
  c0 : w.cell? ⟨q, 0, none⟩ = some (.int .i64 kd)
  c1 : w.cell? ⟨q, 1, none⟩ = some (.int .i64 dv)
  c2 : w.cell? ⟨q, 2, none⟩ = some (.int .i64 hp)
  c3 : w.cell? ⟨q, 3, none⟩ = some (.int .i64 pr)
  c4 : w.cell? ⟨q, 4, none⟩ = some (.int .i64 ln)
  c5 : w.cell? ⟨q, 5, none⟩ = some (.int .i64 ix)
  c6 : w.cell? ⟨q, 6, none⟩ = some (.int .i64 cl)
  c7 : w.cell? ⟨q, 7, none⟩ = some (.bool pm)
  c8 : w.cell? ⟨q, 8, none⟩ = some (.bool up)
  fr : ∀ j, w.frozen? ⟨q, j, none⟩ = false
theorem CS.put0 {w : World} {q : Nat} {kd dv hp pr ln ix cl : Int} {pm up : Bool} {kd' : Int} (h : CS w q kd dv hp pr ln ix cl pm up) : CS (w.setCell ⟨q, 0, none⟩ (.int .i64 kd')) q kd' dv hp pr ln ix cl pm up := by
  refine ⟨?_, ?_, ?_, ?_, ?_, ?_, ?_, ?_, ?_, fun i => by simpa [go_sem] using h.fr i⟩
  · exact World.cell?_setCell_same _ _ _ h.c0
  · rw [World.cell?_setCell_other _ _ _ _ (by simp)]; exact h.c1
  · rw [World.cell?_setCell_other _ _ _ _ (by simp)]; exact h.c2
  · rw [World.cell?_setCell_other _ _ _ _ (by simp)]; exact h.c3
  · rw [World.cell?_setCell_other _ _ _ _ (by simp)]; exact h.c4
  · rw [World.cell?_setCell_other _ _ _ _ (by simp)]; exact h.c5
  · rw [World.cell?_setCell_other _ _ _ _ (by simp)]; exact h.c6
  · rw [World.cell?_setCell_other _ _ _ _ (by simp)]; exact h.c7
  · rw [World.cell?_setCell_other _ _ _ _ (by simp)]; exact h.c8
theorem CS.put1 {w : World} {q : Nat} {kd dv hp pr ln ix cl : Int} {pm up : Bool} {dv' : Int} (h : CS w q kd dv hp pr ln ix cl pm up) : CS (w.setCell ⟨q, 1, none⟩ (.int .i64 dv')) q kd dv' hp pr ln ix cl pm up := by
  refine ⟨?_, ?_, ?_, ?_, ?_, ?_, ?_, ?_, ?_, fun i => by simpa [go_sem] using h.fr i⟩
  · rw [World.cell?_setCell_other _ _ _ _ (by simp)]; exact h.c0
  · exact World.cell?_setCell_same _ _ _ h.c1
  · rw [World.cell?_setCell_other _ _ _ _ (by simp)]; exact h.c2
  · rw [World.cell?_setCell_other _ _ _ _ (by simp)]; exact h.c3
  · rw [World.cell?_setCell_other _ _ _ _ (by simp)]; exact h.c4
  · rw [World.cell?_setCell_other _ _ _ _ (by simp)]; exact h.c5
  · rw [World.cell?_setCell_other _ _ _ _ (by simp)]; exact h.c6
  · rw [World.cell?_setCell_other _ _ _ _ (by simp)]; exact h.c7
  · rw [World.cell?_setCell_other _ _ _ _ (by simp)]; exact h.c8
theorem CS.put2 {w : World} {q : Nat} {kd dv hp pr ln ix cl : Int} {pm up : Bool} {hp' : Int} (h : CS w q kd dv hp pr ln ix cl pm up) : CS (w.setCell ⟨q, 2, none⟩ (.int .i64 hp')) q kd dv hp' pr ln ix cl pm up := by
  refine ⟨?_, ?_, ?_, ?_, ?_, ?_, ?_, ?_, ?_, fun i => by simpa [go_sem] using h.fr i⟩
  · rw [World.cell?_setCell_other _ _ _ _ (by simp)]; exact h.c0
  · rw [World.cell?_setCell_other _ _ _ _ (by simp)]; exact h.c1
  · exact World.cell?_setCell_same _ _ _ h.c2
  · rw [World.cell?_setCell_other _ _ _ _ (by simp)]; exact h.c3
  · rw [World.cell?_setCell_other _ _ _ _ (by simp)]; exact h.c4
  · rw [World.cell?_setCell_other _ _ _ _ (by simp)]; exact h.c5
  · rw [World.cell?_setCell_other _ _ _ _ (by simp)]; exact h.c6
  · rw [World.cell?_setCell_other _ _ _ _ (by simp)]; exact h.c7
  · rw [World.cell?_setCell_other _ _ _ _ (by simp)]; exact h.c8
theorem CS.put3 {w : World} {q : Nat} {kd dv hp pr ln ix cl : Int} {pm up : Bool} {pr' : Int} (h : CS w q kd dv hp pr ln ix cl pm up) : CS (w.setCell ⟨q, 3, none⟩ (.int .i64 pr')) q kd dv hp pr' ln ix cl pm up := by
  refine ⟨?_, ?_, ?_, ?_, ?_, ?_, ?_, ?_, ?_, fun i => by simpa [go_sem] using h.fr i⟩
  · rw [World.cell?_setCell_other _ _ _ _ (by simp)]; exact h.c0
  · rw [World.cell?_setCell_other _ _ _ _ (by simp)]; exact h.c1
  · rw [World.cell?_setCell_other _ _ _ _ (by simp)]; exact h.c2
  · exact World.cell?_setCell_same _ _ _ h.c3
  · rw [World.cell?_setCell_other _ _ _ _ (by simp)]; exact h.c4
  · rw [World.cell?_setCell_other _ _ _ _ (by simp)]; exact h.c5
  · rw [World.cell?_setCell_other _ _ _ _ (by simp)]; exact h.c6
  · rw [World.cell?_setCell_other _ _ _ _ (by simp)]; exact h.c7
  · rw [World.cell?_setCell_other _ _ _ _ (by simp)]; exact h.c8
theorem CS.put4 {w : World} {q : Nat} {kd dv hp pr ln ix cl : Int} {pm up : Bool} {ln' : Int} (h : CS w q kd dv hp pr ln ix cl pm up) : CS (w.setCell ⟨q, 4, none⟩ (.int .i64 ln')) q kd dv hp pr ln' ix cl pm up := by
  refine ⟨?_, ?_, ?_, ?_, ?_, ?_, ?_, ?_, ?_, fun i => by simpa [go_sem] using h.fr i⟩
  · rw [World.cell?_setCell_other _ _ _ _ (by simp)]; exact h.c0
  · rw [World.cell?_setCell_other _ _ _ _ (by simp)]; exact h.c1
  · rw [World.cell?_setCell_other _ _ _ _ (by simp)]; exact h.c2
  · rw [World.cell?_setCell_other _ _ _ _ (by simp)]; exact h.c3
  · exact World.cell?_setCell_same _ _ _ h.c4
  · rw [World.cell?_setCell_other _ _ _ _ (by simp)]; exact h.c5
  · rw [World.cell?_setCell_other _ _ _ _ (by simp)]; exact h.c6
  · rw [World.cell?_setCell_other _ _ _ _ (by simp)]; exact h.c7
  · rw [World.cell?_setCell_other _ _ _ _ (by simp)]; exact h.c8
theorem CS.put5 {w : World} {q : Nat} {kd dv hp pr ln ix cl : Int} {pm up : Bool} {ix' : Int} (h : CS w q kd dv hp pr ln ix cl pm up) : CS (w.setCell ⟨q, 5, none⟩ (.int .i64 ix')) q kd dv hp pr ln ix' cl pm up := by
  refine ⟨?_, ?_, ?_, ?_, ?_, ?_, ?_, ?_, ?_, fun i => by simpa [go_sem] using h.fr i⟩
  · rw [World.cell?_setCell_other _ _ _ _ (by simp)]; exact h.c0
  · rw [World.cell?_setCell_other _ _ _ _ (by simp)]; exact h.c1
  · rw [World.cell?_setCell_other _ _ _ _ (by simp)]; exact h.c2
  · rw [World.cell?_setCell_other _ _ _ _ (by simp)]; exact h.c3
  · rw [World.cell?_setCell_other _ _ _ _ (by simp)]; exact h.c4
  · exact World.cell?_setCell_same _ _ _ h.c5
  · rw [World.cell?_setCell_other _ _ _ _ (by simp)]; exact h.c6
  · rw [World.cell?_setCell_other _ _ _ _ (by simp)]; exact h.c7
  · rw [World.cell?_setCell_other _ _ _ _ (by simp)]; exact h.c8
theorem CS.put6 {w : World} {q : Nat} {kd dv hp pr ln ix cl : Int} {pm up : Bool} {cl' : Int} (h : CS w q kd dv hp pr ln ix cl pm up) : CS (w.setCell ⟨q, 6, none⟩ (.int .i64 cl')) q kd dv hp pr ln ix cl' pm up := by
  refine ⟨?_, ?_, ?_, ?_, ?_, ?_, ?_, ?_, ?_, fun i => by simpa [go_sem] using h.fr i⟩
  · rw [World.cell?_setCell_other _ _ _ _ (by simp)]; exact h.c0
  · rw [World.cell?_setCell_other _ _ _ _ (by simp)]; exact h.c1
  · rw [World.cell?_setCell_other _ _ _ _ (by simp)]; exact h.c2
  · rw [World.cell?_setCell_other _ _ _ _ (by simp)]; exact h.c3
  · rw [World.cell?_setCell_other _ _ _ _ (by simp)]; exact h.c4
  · rw [World.cell?_setCell_other _ _ _ _ (by simp)]; exact h.c5
  · exact World.cell?_setCell_same _ _ _ h.c6
  · rw [World.cell?_setCell_other _ _ _ _ (by simp)]; exact h.c7
  · rw [World.cell?_setCell_other _ _ _ _ (by simp)]; exact h.c8
theorem CS.put7 {w : World} {q : Nat} {kd dv hp pr ln ix cl : Int} {pm up : Bool} {pm' : Bool} (h : CS w q kd dv hp pr ln ix cl pm up) : CS (w.setCell ⟨q, 7, none⟩ (.bool pm')) q kd dv hp pr ln ix cl pm' up := by
  refine ⟨?_, ?_, ?_, ?_, ?_, ?_, ?_, ?_, ?_, fun i => by simpa [go_sem] using h.fr i⟩
  · rw [World.cell?_setCell_other _ _ _ _ (by simp)]; exact h.c0
  · rw [World.cell?_setCell_other _ _ _ _ (by simp)]; exact h.c1
  · rw [World.cell?_setCell_other _ _ _ _ (by simp)]; exact h.c2
  · rw [World.cell?_setCell_other _ _ _ _ (by simp)]; exact h.c3
  · rw [World.cell?_setCell_other _ _ _ _ (by simp)]; exact h.c4
  · rw [World.cell?_setCell_other _ _ _ _ (by simp)]; exact h.c5
  · rw [World.cell?_setCell_other _ _ _ _ (by simp)]; exact h.c6
  · exact World.cell?_setCell_same _ _ _ h.c7
  · rw [World.cell?_setCell_other _ _ _ _ (by simp)]; exact h.c8
theorem CS.put8 {w : World} {q : Nat} {kd dv hp pr ln ix cl : Int} {pm up : Bool} {up' : Bool} (h : CS w q kd dv hp pr ln ix cl pm up) : CS (w.setCell ⟨q, 8, none⟩ (.bool up')) q kd dv hp pr ln ix cl pm up' := by
  refine ⟨?_, ?_, ?_, ?_, ?_, ?_, ?_, ?_, ?_, fun i => by simpa [go_sem] using h.fr i⟩
  · rw [World.cell?_setCell_other _ _ _ _ (by simp)]; exact h.c0
  · rw [World.cell?_setCell_other _ _ _ _ (by simp)]; exact h.c1
  · rw [World.cell?_setCell_other _ _ _ _ (by simp)]; exact h.c2
  · rw [World.cell?_setCell_other _ _ _ _ (by simp)]; exact h.c3
  · rw [World.cell?_setCell_other _ _ _ _ (by simp)]; exact h.c4
  · rw [World.cell?_setCell_other _ _ _ _ (by simp)]; exact h.c5
  · rw [World.cell?_setCell_other _ _ _ _ (by simp)]; exact h.c6
  · rw [World.cell?_setCell_other _ _ _ _ (by simp)]; exact h.c7
  · exact World.cell?_setCell_same _ _ _ h.c8
theorem CS.other {w w' : World} {q : Nat} {kd dv hp pr ln ix cl : Int} {pm up : Bool} {S : Nat → Prop} (h : CS w q kd dv hp pr ln ix cl pm up) (e : Ex S w w') (hn : ¬ S q) : CS w' q kd dv hp pr ln ix cl pm up :=
  ⟨e.cell hn h.c0, e.cell hn h.c1, e.cell hn h.c2, e.cell hn h.c3, e.cell hn h.c4, e.cell hn h.c5, e.cell hn h.c6, e.cell hn h.c7, e.cell hn h.c8, fun j => (e.frozen hn (World.block_lt_of_cell? _ _ h.c0)).trans (h.fr j)⟩
end Go.Proofs.Qxb6500778a
