import Derived.Test.Qxb6500777aMix
import Derived.Deep.CutBlock
import Derived.Deep.DeepCutAuto
namespace Go.Proofs.Qxb6500777a
open Go.RowKit

/-- the block of a number -/
def blkOf (n : Nat) : Code → Option Code
  | .block k c => if k = n then some (.block k c) else blkOf n c
  | .seq a b => match blkOf n a with
    | some c => some c
    | none => blkOf n b
  | .loop c => blkOf n c
  | .scope c => blkOf n c
  | .cond _ a b => match blkOf n a with
    | some c => some c
    | none => blkOf n b
  | _ => none
noncomputable def tblk (n : Nat) : Code := ((Try.f44.body.bind (blkOf n)).getD .skip)

def MtPost (w : World) (mb o : Nat) (R : List Slt → Int → Prop) (e : Ending) (w' : World) : Prop := ∃ (a : Option Addr) (c : Nat) (E : List Slt) (nx : Int), e = .returned (.tuple #[]) ∧ VA w' mb o w.heap.size a E.length c E nx ∧ Fr mb o 2 w w' ∧ R E nx
theorem z8 {w : World} {x p tn : Nat} {e : Slt} {W : Nat → Tgt} (h : RA w x 0 (Ev e)) (ht : e.tg = tn) (hW : WA w p W) (htn : tn < 112) : w.cell? ⟨x, 0, none⟩ = some (.int .i64 (tn : Int)) ∧ w.cell? ⟨x, 1, none⟩ = some (.int .i64 e.sk) ∧ w.cell? ⟨x, 2, none⟩ = some (.int .i64 e.tr.num) ∧ w.cell? ⟨x, 3, none⟩ = some (.int .i64 e.tr.x) ∧ w.cell? ⟨x, 4, none⟩ = some (.int .i64 e.tr.y) ∧ w.cell? ⟨x, 5, none⟩ = some (.int .i64 e.tr.co) ∧ w.cell? ⟨x, 6, none⟩ = some (.int .i64 e.tr.sp) ∧ w.cell? ⟨x, 7, none⟩ = some (.int .i64 e.tr.st) ∧ w.cell? ⟨x, 8, none⟩ = some (.int .i64 e.tr.ag) ∧ w.cell? ⟨p, tn * 4, none⟩ = some (.int .i64 (W tn).x) ∧ w.cell? ⟨p, tn * 4 + 1, none⟩ = some (.int .i64 (W tn).y) ∧ w.cell? ⟨p, tn * 4 + 2, none⟩ = some (.int .i64 (W tn).co) ∧ w.cell? ⟨p, tn * 4 + 3, none⟩ = some (.int .i64 (W tn).sp) :=
  ⟨by have := h.c 0 _ rfl; rw [ht] at this; exact this, by have := h.c 1 _ rfl; rw [Nat.zero_add] at this; exact this, by have := h.c 2 _ rfl; rw [Nat.zero_add] at this; exact this, by have := h.c 3 _ rfl; rw [Nat.zero_add] at this; exact this, by have := h.c 4 _ rfl; rw [Nat.zero_add] at this; exact this, by have := h.c 5 _ rfl; rw [Nat.zero_add] at this; exact this, by have := h.c 6 _ rfl; rw [Nat.zero_add] at this; exact this, by have := h.c 7 _ rfl; rw [Nat.zero_add] at this; exact this, by have := h.c 8 _ rfl; rw [Nat.zero_add] at this; exact this, hW tn htn 0 _ rfl, hW tn htn 1 _ rfl, hW tn htn 2 _ rfl, hW tn htn 3 _ rfl⟩
theorem dr_lt {w : World} {g : Nat} (h : g < w.heap.size) : g < w.drew.heap.size := h
theorem AA.dr {w : World} {g n : Nat} {A : Nat → Slt} (h : AA w g n A) : AA w.drew g n A := ⟨fun i hi => (h.c i hi).drew, h.f⟩
theorem z16 {w' : World} {mb o B n c ge ga i j : Nat} {a : Option Addr} {E : List Slt} {nx : Int} {A : Nat → Slt} {ei ej ai aj : Slt} (hv : VA w' mb o B a n c E nx) (ea : a = some ⟨ge, 0, none⟩) (hi : E[i]? = some ei) (hj : E[j]? = some ej) (h : AA w' ga n A) (hin : i < n) (hjn : j < n) (e1 : A i = ai) (e2 : A j = aj) :
    w'.cell? ⟨mb, o, none⟩ = some (.slice (some ⟨ge, 0, none⟩) n c) ∧ RA w' ge (i * 9) (Ev ei) ∧ RA w' ge (j * 9) (Ev ej) ∧ RA w' ga (i * 9) (Ev ai) ∧ RA w' ga (j * 9) (Ev aj) := by
  subst ea
  obtain ⟨g1, q1, r1⟩ := hv.row.get hv.len hi
  obtain ⟨g2, q2, r2⟩ := hv.row.get hv.len hj
  cases q1
  cases q2
  exact ⟨hv.c0, r1, r2, by rw [← e1]; exact h.c i hin, by rw [← e2]; exact h.c j hjn⟩
theorem swap_at {A : Nat → Slt} {i j : Nat} {ai aj : Slt} (hij : i ≠ j) (e1 : A i = ai) (e2 : A j = aj) (k : Nat) :
    upd (upd (upd (upd A i aj) j ai) i (numd (upd (upd A i aj) j ai i) ai.tr.num)) j (numd (upd (upd (upd A i aj) j ai) i (numd (upd (upd A i aj) j ai i) ai.tr.num) j) aj.tr.num) k = upd (upd A i (numd aj ai.tr.num)) j (numd ai aj.tr.num) k := by
  by_cases k1 : k = j
  · subst k1; rw [upd_same, upd_same, upd_ne _ _ (Ne.symm hij), upd_same]
  · rw [upd_ne _ _ k1, upd_ne _ _ k1]
    by_cases k2 : k = i
    · subst k2; rw [upd_same, upd_same, upd_ne _ _ hij, upd_same]
    · rw [upd_ne _ _ k2, upd_ne _ _ k2, upd_ne _ _ k1, upd_ne _ _ k2]
end Go.Proofs.Qxb6500777a
