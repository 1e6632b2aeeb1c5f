import Derived.Test.Qxb6500773aLo1
import Derived.Test.Qxb6500773aPr1
import Derived.Laws.IdiomCopy
import Derived.Deep.CutBlock
namespace Go.Proofs.Qxb6500773a
open Go.RowKit

theorem Try.info93 : (Try.prog.info? 93).map (fun i => (i.zero, i.size, i.bytes)) = some (some (.int .i8 0), 1, 1) := by kernel_rfl
theorem Try.size93 : (Try.prog.info? 93).map (·.size) = some 1 := by kernel_rfl
/-- An assignment in memory. -/
structure AS (w : World) (b g n : Nat) (k : Int) (f : Nat → Int) : Prop where
  c0 : w.cell? ⟨b, 0, none⟩ = some (.slice (some ⟨g, 0, none⟩) n n)
  c1 : w.cell? ⟨b, 1, none⟩ = some (.int .i64 k)
  fz : ∀ j, w.frozen? ⟨b, j, none⟩ = false
  row : w.rowIs g 93 n (fun i => .int .i8 (f i))
  ne : g ≠ b
theorem AS.lt {w : World} {b g n : Nat} {k : Int} {f : Nat → Int} (h : AS w b g n k f) : b < w.heap.size := World.block_lt_of_cell? _ _ h.c0
theorem rowKeep {w w' : World} {g t n : Nat} {f : Nat → Value} (h : w.rowIs g t n f) {S : Nat → Prop} (k : Ex S w w') (hg : ¬ S g) : w'.rowIs g t n f := h.of_block (k.block g h.lt hg)
theorem AS.keep {w w' : World} {b g n : Nat} {k : Int} {f : Nat → Int} (h : AS w b g n k f) {S : Nat → Prop} (e : Ex S w w') (hb : ¬ S b) (hg : ¬ S g) : AS w' b g n k f :=
  ⟨e.cell hb h.c0, e.cell hb h.c1, fun j => (e.frozen hb h.lt).trans (h.fz j), rowKeep h.row e hg, h.ne⟩
theorem AS.below {w w' : World} {b g n : Nat} {k : Int} {f : Nat → Int} (h : AS w b g n k f) (e : Below w.heap.size w w') : AS w' b g n k f := h.keep (Ex.of (S := fun _ => False) e) (fun z => z) (fun z => z)
theorem as_store {w : World} {b g n : Nat} {k : Int} {f : Nat → Int} {u : Value} (h0 : w.cell? ⟨b, 0, none⟩ = some u) (h1 : w.cell? ⟨b, 1, none⟩ = some (.int .i64 k)) (hf : ∀ j, w.frozen? ⟨b, j, none⟩ = false) (hr : w.rowIs g 93 n (fun i => .int .i8 (f i))) (hg : g ≠ b) :
    AS (w.setCell ⟨b, 0, none⟩ (.slice (some ⟨g, 0, none⟩) n n)) b g n k f := by
  have e : Ex (fun k => k = b) w (w.setCell ⟨b, 0, none⟩ (.slice (some ⟨g, 0, none⟩) n n)) := (Ex.refl (fun k => k = b) w).set (p := b) rfl _
  exact ⟨World.cell?_setCell_same _ _ _ h0, by rw [World.cell?_setCell_other _ _ _ _ (by simp)]; exact h1, fun j => by rw [set_frozen]; exact hf j, rowKeep hr e (fun z => hg z), hg⟩
def GrPost (w : World) (b n : Nat) (k : Int) (e : Ending) (w' : World) : Prop := e = .returned (.tuple #[]) ∧ ∃ g, AS w' b g n k (fun _ => 0) ∧ w.heap.size ≤ g ∧ Ex (fun k => k = b) w w'
set_option linter.unusedSimpArgs false in
set_option maxRecDepth 100000 in
set_option maxHeartbeats 4000000 in
/-- cnf.Assignment.Grow, the first -/
theorem grow0_any (w : World) (b : Nat) (k : Int) (h0 : w.cell? ⟨b, 0, none⟩ = some (.slice none 0 0)) (h1 : w.cell? ⟨b, 1, none⟩ = some (.int .i64 k)) (hf : ∀ j, w.frozen? ⟨b, j, none⟩ = false) :
    Calls Try.prog 76 #[.pointer (some ⟨b, 0, none⟩), .int .i64 0] w (GrPost w b 1 k) := by
  have H1 := hide h1
  have HF := hide hf
  have HLT := hide (show b < w.heap.size from World.block_lt_of_cell? _ _ h0)
  have hmk := run_make_row' (P := Try.prog) 109 93 (.int .i8 0) 1 Try.underlying109 Try.info93 rfl .i64 .i64 1 (by decide) (by decide) w
  rw [show ((1 : Nat) : Int) = 1 from rfl] at hmk
  have hcp := fun ty => run_copy_none (P := Try.prog) (w.alloc (.cells (madeCells #[.int .i8 0] 1) 93)) 109 109 ty 93 (some ⟨w.heap.size, 0, none⟩) none 1 1 0 0 Try.underlying109 Try.size93 rfl
  have x0 := (cellKeep (be1 w (.cells (madeCells #[.int .i8 0] 1) 93)) h0)
  have x1 := (cellKeep (be1 w (.cells (madeCells #[.int .i8 0] 1) 93)) h1)
  have xf : ∀ j, (w.alloc (.cells (madeCells #[.int .i8 0] 1) 93)).frozen? ⟨b, j, none⟩ = false := fun j => (World.frozen?_of_block ((be1 w (.cells (madeCells #[.int .i8 0] 1) 93)).block b HLT.out)).trans (hf j)
  have HR := hide (World.rowIs_made w (.int .i8 0) 1 93)
  have HB := hide (be1 w (.cells (madeCells #[.int .i8 0] 1) 93))
  clear h1 hf
  go_enter Try.func76, Try.ntmps76
  go_upto_region 9 with fail
  clear h0 hmk
  generalize w.alloc (.cells (madeCells #[.int .i8 0] 1) 93) = w1 at *
  have hg : w.heap.size ≠ b := by have := HLT.out; omega
  obtain ⟨g, hgg⟩ : ∃ g, w.heap.size = g := ⟨_, rfl⟩
  rw [hgg] at HR hcp hg ⊢
  have HG := hide (show w.heap.size ≤ g by omega)
  clear hgg
  have HA := hide (as_store (f := fun _ => 0) x0 x1 xf HR.out hg)
  have HPO := hide (show GrPost w b 1 k (.returned (.tuple #[])) (w1.setCell ⟨b, 0, none⟩ (.slice (some ⟨g, 0, none⟩) 1 1)) from ⟨rfl, g, HA.out, HG.out, (Ex.of (S := fun k => k = b) HB.out).set (p := b) (j := 0) rfl _⟩)
  clear HA HR HB
  go_wp2
  exact bodyPost_ret (v := .tuple #[]) (by simp [results, Try.results76, go_sem]) rfl HPO.out
def szP (v : Nat) : Nat := if 2 < v + 1 then v + 1 else 2
set_option linter.unusedSimpArgs false in
set_option maxRecDepth 100000 in
set_option maxHeartbeats 4000000 in
/-- cnf.Assignment.Grow, the second -/
theorem grow1_any (w : World) (b g : Nat) (k : Int) (v : Nat) (h : AS w b g 1 k (fun _ => 0)) (hv : 1 ≤ v ∧ v ≤ 16777215) :
    Calls Try.prog 76 #[.pointer (some ⟨b, 0, none⟩), .int .i64 v] w (GrPost w b (szP v) k) := by
  have HA := hide h
  have HLT := hide h.lt
  have h0 := h.c0
  have hsz : 2 ≤ szP v ∧ v < szP v ∧ szP v ≤ 16777216 := by unfold szP; split <;> omega
  have hsv := (show (if 2 < v + 1 then v + 1 else 2) = szP v from rfl)
  obtain ⟨z, hz⟩ : ∃ z, szP v = z := ⟨_, rfl⟩
  rw [hz] at hsz hsv ⊢
  clear hz h
  have hmk := run_make_row' (P := Try.prog) 109 93 (.int .i8 0) 1 Try.underlying109 Try.info93 rfl .i64 .i64 z (by omega) (by omega) w
  have hc1 : (w.alloc (.cells (madeCells #[.int .i8 0] z) 93)).cell? ⟨w.heap.size, 0, none⟩ = some (.int .i8 0) := (World.rowIs_made w (.int .i8 0) z 93).cell (by omega)
  have hcf : ∀ j, (w.alloc (.cells (madeCells #[.int .i8 0] z) 93)).frozen? ⟨w.heap.size, j, none⟩ = false := fun j => (World.rowIs_made w (.int .i8 0) z 93).frozen j
  have HA1 := hide (HA.out.below (be1 w (.cells (madeCells #[.int .i8 0] z) 93)))
  have hsrc := HA1.out.row.cell (i := 0) (by decide)
  have hcp := fun ty => run_copy_cells (P := Try.prog) (w.alloc (.cells (madeCells #[.int .i8 0] z) 93)) 109 109 ty 93 w.heap.size 0 z z ⟨g, 0, none⟩ 1 1 [.int .i8 0] Try.underlying109 Try.size93 (by show (1 : Nat) = min 1 z; omega) (fun j v hj => by
    match j, hj with
    | 0, hj => cases hj; exact hsrc) (fun j hj => by
    match j, hj with
    | 0, _ => show ((w.alloc (.cells (madeCells #[.int .i8 0] z) 93)).cell? ⟨w.heap.size, 0 + 0, none⟩).isSome = true; rw [Nat.add_zero, hc1]; rfl) (fun j hj => by rw [hcf]) (fun v hv => by simp at hv; subst hv; rfl)
  have HR := hide (((World.rowIs_made w (.int .i8 0) z 93).set 0 (.int .i8 0)).congr (g := fun _ => .int .i8 0) (fun i _ => by split <;> rfl))
  have HB := hide (be1 w (.cells (madeCells #[.int .i8 0] z) 93))
  have HBG := hide (show w.heap.size ≠ b ∧ w.heap.size ≠ g from ⟨by have := HLT.out; omega, by have := HA.out.row.lt; omega⟩)
  have a1 : decide (16777215 < (v : Int)) = false := by simp; omega
  have a1n : decide (16777215 < v) = false := by simp; omega
  have a2 : decide ((v : Int) < 1) = false := by simp; omega
  have a2n : decide (v < 1) = false := by simp; omega
  have a3 : IntKind.i64.wrap ((v : Int) + 1) = (v : Int) + 1 := by rw [IntKind.wrap_i64]; omega
  have a5 : decide (16777216 < (z : Int)) = false := by simp; omega
  have a5n : decide (16777216 < z) = false := by simp; omega
  clear hc1 hcf hsrc
  by_cases h2 : 2 < v + 1
  · rw [if_pos h2] at hsv
    have a4 : decide ((2 : Int) < (v : Int) + 1) = true := by simp; omega
    have hzv : (v : Int) + 1 = (z : Int) := by omega
    have a4z : decide ((2 : Int) < (z : Int)) = true := by simp; omega
    have a4n : decide (2 < z) = true := by simp; omega
    have a6 : IntKind.i64.wrap (z : Int) = (z : Int) := by rw [IntKind.wrap_i64]; omega
    go_enter Try.func76, Try.ntmps76
    go_upto_region 9 with fail
    generalize hw1 : w.alloc (.cells (madeCells #[.int .i8 0] z) 93) = w1 at *
    clear hw1 hmk h0
    have h0 := HA1.out.c0
    obtain ⟨g2, hgg⟩ : ∃ g, w.heap.size = g := ⟨_, rfl⟩
    have HG := hide (show w.heap.size ≤ g2 by omega)
    rw [hgg] at HR hcp HBG ⊢
    clear hgg
    go_upto_region 10 with fail
    rw [show w1.setCells g2 0 [.int .i8 0] = w1.setCell ⟨g2, 0, none⟩ (.int .i8 0) from rfl]
    have e2 : Ex (fun k => k = g2) w1 (w1.setCell ⟨g2, 0, none⟩ (.int .i8 0)) := (Ex.refl (fun k => k = g2) w1).set (p := g2) (j := 0) rfl _
    have HA2 := hide (HA1.out.keep e2 (fun z => HBG.out.1 z.symm) (fun z => HBG.out.2 z.symm))
    have HX2 := hide (show Ex (fun k => k = b) w (w1.setCell ⟨g2, 0, none⟩ (.int .i8 0)) from (Ex.of (S := fun k => k = b) HB.out).setNew (p := g2) (j := 0) HG.out _)
    clear e2 hcp HA1 HB h0
    generalize w1.setCell ⟨g2, 0, none⟩ (.int .i8 0) = w2 at *
    have x0 := HA2.out.c0
    have x1 := HA2.out.c1
    have xf := HA2.out.fz
    have HAS := hide (as_store (f := fun _ => 0) x0 x1 xf HR.out HBG.out.1)
    have HPO := hide (show GrPost w b z k (.returned (.tuple #[])) (w2.setCell ⟨b, 0, none⟩ (.slice (some ⟨g2, 0, none⟩) z z)) from ⟨rfl, g2, HAS.out, HG.out, HX2.out.set (p := b) (j := 0) rfl _⟩)
    clear HAS HR HX2
    go_wp2
    exact bodyPost_ret (v := .tuple #[]) (by simp [results, Try.results76, go_sem]) rfl HPO.out
  · rw [if_neg h2] at hsv
    subst hsv
    have hv1 : v = 1 := by omega
    subst hv1
    rw [show ((2 : Nat) : Int) = 2 from rfl] at hmk
    go_enter Try.func76, Try.ntmps76
    go_upto_region 9 with fail
    generalize hw1 : w.alloc (.cells (madeCells #[.int .i8 0] 2) 93) = w1 at *
    clear hw1 hmk h0
    have h0 := HA1.out.c0
    obtain ⟨g2, hgg⟩ : ∃ g, w.heap.size = g := ⟨_, rfl⟩
    have HG := hide (show w.heap.size ≤ g2 by omega)
    rw [hgg] at HR hcp HBG ⊢
    clear hgg
    go_upto_region 10 with fail
    rw [show w1.setCells g2 0 [.int .i8 0] = w1.setCell ⟨g2, 0, none⟩ (.int .i8 0) from rfl]
    have e2 : Ex (fun k => k = g2) w1 (w1.setCell ⟨g2, 0, none⟩ (.int .i8 0)) := (Ex.refl (fun k => k = g2) w1).set (p := g2) (j := 0) rfl _
    have HA2 := hide (HA1.out.keep e2 (fun z => HBG.out.1 z.symm) (fun z => HBG.out.2 z.symm))
    have HX2 := hide (show Ex (fun k => k = b) w (w1.setCell ⟨g2, 0, none⟩ (.int .i8 0)) from (Ex.of (S := fun k => k = b) HB.out).setNew (p := g2) (j := 0) HG.out _)
    clear e2 hcp HA1 HB h0
    generalize w1.setCell ⟨g2, 0, none⟩ (.int .i8 0) = w2 at *
    have x0 := HA2.out.c0
    have x1 := HA2.out.c1
    have xf := HA2.out.fz
    have HAS := hide (as_store (f := fun _ => 0) x0 x1 xf HR.out HBG.out.1)
    have HPO := hide (show GrPost w b 2 k (.returned (.tuple #[])) (w2.setCell ⟨b, 0, none⟩ (.slice (some ⟨g2, 0, none⟩) 2 2)) from ⟨rfl, g2, HAS.out, HG.out, HX2.out.set (p := b) (j := 0) rfl _⟩)
    clear HAS HR HX2
    go_wp2
    exact bodyPost_ret (v := .tuple #[]) (by simp [results, Try.results76, go_sem]) rfl HPO.out
def NaaPost (w : World) (e : Ending) (w' : World) : Prop := ∃ b g, e = .returned (.pointer (some ⟨b, 0, none⟩)) ∧ AS w' b g 1 0 (fun _ => 0) ∧ w.heap.size ≤ b ∧ w.heap.size ≤ g ∧ Below w.heap.size w w'
set_option linter.unusedSimpArgs false in
set_option maxRecDepth 100000 in
set_option maxHeartbeats 4000000 in
/-- cnf.NewAssignment, at 0 -/
theorem newAssignment_any (w : World) : Calls Try.prog 47 #[.int .i64 0] w (NaaPost w) := by
  go_enter Try.func47, Try.ntmps47
  go_upto_region 2 with fail
  have x0 : (w.alloc (.cells #[.slice none 0 0, .int .i64 0] 111)).cell? ⟨w.heap.size, 0, none⟩ = some (.slice none 0 0) := by simp [go_sem]
  have x1 : (w.alloc (.cells #[.slice none 0 0, .int .i64 0] 111)).cell? ⟨w.heap.size, 1, none⟩ = some (.int .i64 0) := by simp [go_sem]
  have xf : ∀ j, (w.alloc (.cells #[.slice none 0 0, .int .i64 0] 111)).frozen? ⟨w.heap.size, j, none⟩ = false := by intro j; simp [go_sem]
  have cg := grow0_any _ w.heap.size 0 x0 x1 xf
  have HB := hide (be1 w (.cells #[.slice none 0 0, .int .i64 0] 111))
  clear x0 x1 xf
  generalize w.alloc (.cells #[.slice none 0 0, .int .i64 0] 111) = w1 at *
  go_wp2_with fail
  refine cg.mono ?_
  rintro e w2 ⟨rfl, g, has, hg, hex⟩
  have HPO := hide (show NaaPost w (.returned (.pointer (some ⟨w.heap.size, 0, none⟩))) w2 from ⟨_, g, rfl, has, Nat.le_refl _, Nat.le_trans HB.out.size hg, HB.out.trans (hex.below HB.out.size (fun k hk e => by omega))⟩)
  clear has hg hex cg
  go_wp2
  exact bodyPost_ret (v := .pointer (some ⟨w.heap.size, 0, none⟩)) (by simp [results, Try.results47, go_sem]) rfl HPO.out
set_option linter.unusedSimpArgs false in
set_option maxRecDepth 100000 in
set_option maxHeartbeats 4000000 in
/-- cnf.Assignment.Assigned -/
theorem assigned_any (w : World) (b g n : Nat) (k : Int) (f : Nat → Int) (h : AS w b g n k f) : Calls Try.prog 52 #[.pointer (some ⟨b, 0, none⟩)] w fun e w' => e = .returned (.int .i64 k) ∧ w' = w := by
  have h1 := h.c1
  go_enter Try.func52, Try.ntmps52
  go_wp2
  go_ret
  exact ⟨rfl, rfl⟩
set_option linter.unusedSimpArgs false in
set_option maxRecDepth 100000 in
set_option maxHeartbeats 4000000 in
/-- cnf.Assignment.Var, within -/
theorem asVar_any (w : World) (b g n : Nat) (k : Int) (f : Nat → Int) (v : Nat) (h : AS w b g n k f) (hv : 1 ≤ v ∧ v < n ∧ v ≤ 16777215) (hn : n ≤ 16777216) : Calls Try.prog 80 #[.pointer (some ⟨b, 0, none⟩), .int .i32 v] w fun e w' => e = .returned (.int .i8 (f v)) ∧ w' = w := by
  have h0 := h.c0
  have hr := h.row.cell hv.2.1
  have a1 : decide ((v : Int) < 1) = false := by simp; omega
  have a1n : decide (v < 1) = false := by simp; omega
  have a2 : IntKind.i64.wrap (v : Int) = (v : Int) := by rw [IntKind.wrap_i64]; omega
  have a3 : decide ((n : Int) ≤ (v : Int)) = false := by simp; omega
  have a3n : decide (n ≤ v) = false := by simp; omega
  have a4 : decide ((v : Int) < 0) = false := by simp
  have a5 : (v : Int) < (n : Int) := by omega
  clear h
  go_enter Try.func80, Try.ntmps80
  go_wp2
  go_ret
  exact ⟨rfl, rfl⟩
set_option linter.unusedSimpArgs false in
set_option maxRecDepth 100000 in
set_option maxHeartbeats 4000000 in
/-- cnf.Assignment.Lit, within -/
theorem asLit_any (w : World) (b g n : Nat) (k : Int) (f : Nat → Int) (l : Int) (v : Nat) (h : AS w b g n k f) (hl : l / 2 = v) (hlo : LitOk l) (hv : v < n) (hn : n ≤ 16777216) (hf : -1 ≤ f v ∧ f v ≤ 1) :
    Calls Try.prog 55 #[.pointer (some ⟨b, 0, none⟩), .int .i32 l] w fun e w' => e = .returned (.int .i8 (if l % 2 = 0 then f v else -(f v))) ∧ w' = w := by
  unfold LitOk at hlo
  have cV := asVar_any w b g n k f v h ⟨by omega, hv, by omega⟩ hn
  have cL := litVar_any w l (by omega)
  have cN := negative_any w l (by omega)
  rw [hl] at cL
  obtain ⟨x, hx⟩ : ∃ x, f v = x := ⟨_, rfl⟩
  rw [hx] at cV hf ⊢
  have hw : IntKind.i8.wrap (-x) = -x := by
    rcases (by omega : x = -1 ∨ x = 0 ∨ x = 1) with rfl | rfl | rfl <;> rfl
  clear h hx
  obtain ⟨R, hR⟩ : ∃ R, (if l % 2 = 0 then x else -x) = R := ⟨_, rfl⟩
  rw [hR]
  go_enter Try.func55, Try.ntmps55
  go_wp2_with fail
  refine cL.mono ?_
  rintro e w' ⟨rfl, hw'⟩
  rw [hw']
  clear hw' w'
  go_wp2_with fail
  refine cV.mono ?_
  rintro e w' ⟨rfl, hw'⟩
  rw [hw']
  clear hw' w'
  go_wp2_with fail
  refine cN.mono ?_
  rintro e w' ⟨rfl, hw'⟩
  rw [hw']
  clear hw' w' cL cV cN
  by_cases h2 : l % 2 = 0
  · have hb : (l % 2 != 0) = false := by simp [h2]
    rw [if_pos h2] at hR
    have HR := hide hR
    rw [hb]
    clear hR h2 hb
    go_wp2
    go_ret
    exact ⟨ret_int HR.out, rfl⟩
  · have hb : (l % 2 != 0) = true := by simpa using h2
    rw [if_neg h2] at hR
    have HR := hide hR
    rw [hb]
    clear hR h2 hb
    go_wp2
    go_ret
    exact ⟨ret_int HR.out, rfl⟩
def StsPost' (w : World) (b v z : Nat) (k s : Int) (w' : World) : Prop := ∃ g, AS w' b g z (k + 1) (fun i => if i = v then s else 0) ∧ w.heap.size ≤ g ∧ Ex (fun k => k = b) w w'
def StsPost (w : World) (b v z : Nat) (k s : Int) (e : Ending) (w' : World) : Prop := e = .returned (.tuple #[]) ∧ StsPost' w b v z k s w'
set_option linter.unusedSimpArgs false in
set_option maxRecDepth 100000 in
set_option maxHeartbeats 4000000 in
/-- cnf.Assignment.Set, at a literal -/
theorem asSet_any (w : World) (b g : Nat) (k : Int) (l : Int) (v : Nat) (h : AS w b g 1 k (fun _ => 0)) (hl : l / 2 = v) (hlo : LitOk l) (hk : 0 ≤ k ∧ k ≤ 1000) :
    Calls Try.prog 50 #[.pointer (some ⟨b, 0, none⟩), .int .i32 l] w (StsPost w b v (szP v) k (if l % 2 = 0 then 1 else -1)) := by
  unfold LitOk at hlo
  have cVa := valid_any w l (by omega)
  rw [show validP l = true from by unfold validP; simp; omega] at cVa
  have cL := litVar_any w l (by omega)
  have cG := hide (grow1_any w b g k v h (by omega))
  have cN := fun w' => hide (negative_any w' l (by omega))
  rw [hl] at cL
  have hsz : 2 ≤ szP v ∧ v < szP v ∧ szP v ≤ 16777216 := by unfold szP; split <;> omega
  have HSV := hide hsz
  have w1 : IntKind.i64.wrap (v : Int) = (v : Int) := by rw [IntKind.wrap_i64]; omega
  have w2 : IntKind.i64.wrap (k + 1) = k + 1 := by rw [IntKind.wrap_i64]; omega
  obtain ⟨R, hR⟩ : ∃ R : Int, (if l % 2 = 0 then 1 else -1) = R := ⟨_, rfl⟩
  rw [hR]
  have HR := hide hR
  clear h hR
  obtain ⟨z, hz⟩ : ∃ z, szP v = z := ⟨_, rfl⟩
  rw [hz] at cG hsz ⊢
  clear hz HSV
  go_enter Try.func50, Try.ntmps50
  go_wp2_with fail
  refine cVa.mono ?_
  rintro e w' ⟨rfl, hw'⟩
  rw [hw']
  clear hw' w'
  go_wp2_with fail
  refine cL.mono ?_
  rintro e w' ⟨rfl, hw'⟩
  rw [hw']
  clear hw' w'
  go_wp2_with fail
  refine cG.out.mono ?_
  rintro e w3 ⟨rfl, g3, has, hg3, hex⟩
  have HAS := hide has
  have HG3 := hide hg3
  have HX := hide hex
  clear has hg3 hex cVa cL cG
  have x0 := HAS.out.c0
  have x1 := HAS.out.c1
  have xf := HAS.out.fz
  have xr := HAS.out.row.cell hsz.2.1
  have a4 : decide ((v : Int) < 0) = false := by simp
  have a5 : (v : Int) < (z : Int) := by omega
  go_upto_region 5 with fail
  have e4 : Ex (fun k => k = b) w3 (w3.setCell ⟨b, 1, none⟩ (.int .i64 (k + 1))) := (Ex.refl (fun k => k = b) w3).set (p := b) (j := 1) rfl _
  have HA4 := hide (show AS (w3.setCell ⟨b, 1, none⟩ (.int .i64 (k + 1))) b g3 z (k + 1) (fun _ => 0) from ⟨by rw [World.cell?_setCell_other _ _ _ _ (by simp)]; exact x0, World.cell?_setCell_same _ _ _ x1, fun j => by rw [set_frozen]; exact xf j, rowKeep HAS.out.row e4 (fun z => HAS.out.ne z), HAS.out.ne⟩)
  have HX4 := hide (HX.out.trans e4)
  clear e4 x0 x1 xf xr HAS HX
  generalize w3.setCell ⟨b, 1, none⟩ (.int .i64 (k + 1)) = w4 at *
  go_wp2_with fail
  refine (cN w4).out.mono ?_
  rintro e w' ⟨rfl, hw'⟩
  rw [hw']
  clear hw' w' cN
  have x0 := HA4.out.c0
  have xr := HA4.out.row.cell hsz.2.1
  have xf := HA4.out.row.frozen
  have HFI := hide (show ∀ s : Int, R = s → StsPost' w b v z k R (w4.setCell ⟨g3, v, none⟩ (.int .i8 s)) from fun s hs => by
    subst hs
    have e5 : Ex (fun k => k = g3) w4 (w4.setCell ⟨g3, v, none⟩ (.int .i8 R)) := (Ex.refl (fun k => k = g3) w4).set (p := g3) (j := v) rfl _
    have nb : ¬ b = g3 := fun z => HA4.out.ne z.symm
    exact ⟨g3, ⟨e5.cell nb HA4.out.c0, e5.cell nb HA4.out.c1, fun j => by rw [set_frozen]; exact HA4.out.fz j, (HA4.out.row.set v (.int .i8 R)).congr (fun i _ => by split <;> rfl), HA4.out.ne⟩, HG3.out, HX4.out.setNew (p := g3) (j := v) HG3.out _⟩)
  by_cases h2 : l % 2 = 0
  · have hb : (l % 2 != 0) = false := by simp [h2]
    have HPO := hide (show StsPost w b v z k R (.returned (.tuple #[])) _ from ⟨rfl, HFI.out 1 (by rw [← HR.out, if_pos h2])⟩)
    rw [hb]
    clear h2 hb HFI
    go_wp2
    exact bodyPost_ret (v := .tuple #[]) (by simp [results, Try.results50, go_sem]) rfl HPO.out
  · have hb : (l % 2 != 0) = true := by simpa using h2
    have HPO := hide (show StsPost w b v z k R (.returned (.tuple #[])) _ from ⟨rfl, HFI.out (-1) (by rw [← HR.out, if_neg h2])⟩)
    rw [hb]
    clear h2 hb HFI
    go_wp2
    exact bodyPost_ret (v := .tuple #[]) (by simp [results, Try.results50, go_sem]) rfl HPO.out
end Go.Proofs.Qxb6500773a
