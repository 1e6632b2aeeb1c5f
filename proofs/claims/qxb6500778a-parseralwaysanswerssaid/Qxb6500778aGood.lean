import Derived.Test.Qxb6500778aCS
namespace Go.Proofs.Qxb6500778a
open Go.RowKit

theorem goodDevice_any (w : World) (d : Int) (h : 0 ≤ d ∧ d ≤ 15) : Calls Try.prog 59 #[.int .i64 d] w fun e w' => e = .returned (.bool true) ∧ w' = w := by
  obtain ⟨h0, h1⟩ := h
  go_enter Try.func59, Try.ntmps59
  go_wp2
  go_ret
  exact ⟨by simp; omega, rfl⟩
def algB (pr ln : Int) : Bool := bits BinOp.and .i64 pr (wrap64 (wrap64 (2 ^ (8 - ln).toNat) - 1)) == 0
theorem aligned_any (w : World) (pr ln : Int) (h : 0 ≤ ln ∧ ln ≤ 8) : Calls Try.prog 76 #[.int .i64 pr, .int .i64 ln] w fun e w' => e = .returned (.bool (algB pr ln)) ∧ w' = w := by
  obtain ⟨h0, h1⟩ := h
  go_enter Try.func76, Try.ntmps76
  go_wp2
  go_ret
  exact ⟨rfl, rfl⟩
theorem goodPrefix_any (w : World) (pr ln : Int) (h : 0 ≤ ln ∧ ln ≤ 8) (hp : 0 ≤ pr ∧ pr ≤ 255) (ha : algB pr ln = true) : Calls Try.prog 60 #[.int .i64 pr, .int .i64 ln] w fun e w' => e = .returned (.bool true) ∧ w' = w := by
  obtain ⟨h0, h1⟩ := h
  obtain ⟨h2, h3⟩ := hp
  go_enter Try.func60, Try.ntmps60
  go_wp2_with fail
  refine (aligned_any _ pr ln ⟨h0, h1⟩).mono ?_
  rintro e w' ⟨rfl, rfl⟩
  rw [ha]
  go_wp2
  go_ret
  exact ⟨rfl, rfl⟩
/-- A change somewhere in memory. -/
structure CO (w : World) (q o : Nat) (kd dv hp pr ln ix cl : Int) (pm up : Bool) : Prop where
  c0 : w.cell? ⟨q, o, none⟩ = some (.int .i64 kd)
  c1 : w.cell? ⟨q, o + 1, none⟩ = some (.int .i64 dv)
  c2 : w.cell? ⟨q, o + 2, none⟩ = some (.int .i64 hp)
  c3 : w.cell? ⟨q, o + 3, none⟩ = some (.int .i64 pr)
  c4 : w.cell? ⟨q, o + 4, none⟩ = some (.int .i64 ln)
  c5 : w.cell? ⟨q, o + 5, none⟩ = some (.int .i64 ix)
  c6 : w.cell? ⟨q, o + 6, none⟩ = some (.int .i64 cl)
  c7 : w.cell? ⟨q, o + 7, none⟩ = some (.bool pm)
  c8 : w.cell? ⟨q, o + 8, none⟩ = some (.bool up)
/-- A change that is in bounds and leaves at zero what its kind does not use. -/
def GoodC (kd dv hp pr ln ix cl : Int) (pm up : Bool) : Prop :=
  (0 ≤ dv ∧ dv ≤ 15) ∧
  ((kd = 0 ∧ ((0 ≤ ln ∧ ln ≤ 8) ∧ (0 ≤ pr ∧ pr ≤ 255) ∧ algB pr ln = true) ∧ (0 ≤ hp ∧ hp ≤ 15) ∧ ix = 0 ∧ cl = 0 ∧ pm = false ∧ up = false) ∨
   (kd = 1 ∧ ((0 ≤ ln ∧ ln ≤ 8) ∧ (0 ≤ pr ∧ pr ≤ 255) ∧ algB pr ln = true) ∧ hp = 0 ∧ ix = 0 ∧ cl = 0 ∧ pm = false ∧ up = false) ∨
   (kd = 2 ∧ ((0 ≤ ln ∧ ln ≤ 8) ∧ (0 ≤ pr ∧ pr ≤ 255) ∧ algB pr ln = true) ∧ hp = 0 ∧ (0 ≤ ix ∧ ix ≤ 63) ∧ (0 ≤ cl ∧ cl ≤ 16) ∧ up = false) ∨
   (kd = 3 ∧ pr = 0 ∧ ln = 0 ∧ hp = 0 ∧ (0 ≤ ix ∧ ix ≤ 63) ∧ cl = 0 ∧ pm = false ∧ up = false) ∨
   (kd = 4 ∧ pr = 0 ∧ ln = 0 ∧ (dv < hp ∧ hp ≤ 15) ∧ ix = 0 ∧ cl = 0 ∧ pm = false) ∨
   (kd = 5 ∧ pr = 0 ∧ ln = 0 ∧ hp = 0 ∧ ix = 0 ∧ cl = 0 ∧ pm = false))
/-- What goodChange has at hand: the change, and the one that holds only what the kind uses. -/
structure GB (w0 w : World) (q o r : Nat) (kd dv hp pr ln ix cl : Int) (pm up : Bool) (hp' pr' ln' ix' cl' : Int) (pm' up' : Bool) : Prop where
  co : CO w q o kd dv hp pr ln ix cl pm up
  cs : CS w r kd dv hp' pr' ln' ix' cl' pm' up'
  bel : Below w0.heap.size w0 w
  hr : w0.heap.size ≤ r
  hq : q < w0.heap.size
theorem CO.other {w w' : World} {q o : Nat} {kd dv hp pr ln ix cl : Int} {pm up : Bool} {S : Nat → Prop} (h : CO w q o kd dv hp pr ln ix cl pm up) (e : Ex S w w') (hn : ¬ S q) : CO w' q o kd dv hp pr ln ix cl pm up :=
  ⟨e.cell hn h.c0, e.cell hn h.c1, e.cell hn h.c2, e.cell hn h.c3, e.cell hn h.c4, e.cell hn h.c5, e.cell hn h.c6, e.cell hn h.c7, e.cell hn h.c8⟩
theorem GB.put2 {w0 w : World} {q o r : Nat} {kd dv hp pr ln ix cl : Int} {pm up : Bool} {hp' pr' ln' ix' cl' : Int} {pm' up' : Bool} {y : Int} (h : GB w0 w q o r kd dv hp pr ln ix cl pm up hp' pr' ln' ix' cl' pm' up') : GB w0 (w.setCell ⟨r, 2, none⟩ (.int .i64 y)) q o r kd dv hp pr ln ix cl pm up y pr' ln' ix' cl' pm' up' := by
  have e : Ex (Is r) w (w.setCell ⟨r, 2, none⟩ (.int .i64 y)) := (Ex.refl (Is r) w).set (p := r) rfl _
  have hr := h.hr
  have hq := h.hq
  exact ⟨h.co.other e (fun (x : q = r) => by omega), h.cs.put2, h.bel.setCell (by simp; omega) _, hr, hq⟩
theorem GB.put3 {w0 w : World} {q o r : Nat} {kd dv hp pr ln ix cl : Int} {pm up : Bool} {hp' pr' ln' ix' cl' : Int} {pm' up' : Bool} {y : Int} (h : GB w0 w q o r kd dv hp pr ln ix cl pm up hp' pr' ln' ix' cl' pm' up') : GB w0 (w.setCell ⟨r, 3, none⟩ (.int .i64 y)) q o r kd dv hp pr ln ix cl pm up hp' y ln' ix' cl' pm' up' := by
  have e : Ex (Is r) w (w.setCell ⟨r, 3, none⟩ (.int .i64 y)) := (Ex.refl (Is r) w).set (p := r) rfl _
  have hr := h.hr
  have hq := h.hq
  exact ⟨h.co.other e (fun (x : q = r) => by omega), h.cs.put3, h.bel.setCell (by simp; omega) _, hr, hq⟩
theorem GB.put4 {w0 w : World} {q o r : Nat} {kd dv hp pr ln ix cl : Int} {pm up : Bool} {hp' pr' ln' ix' cl' : Int} {pm' up' : Bool} {y : Int} (h : GB w0 w q o r kd dv hp pr ln ix cl pm up hp' pr' ln' ix' cl' pm' up') : GB w0 (w.setCell ⟨r, 4, none⟩ (.int .i64 y)) q o r kd dv hp pr ln ix cl pm up hp' pr' y ix' cl' pm' up' := by
  have e : Ex (Is r) w (w.setCell ⟨r, 4, none⟩ (.int .i64 y)) := (Ex.refl (Is r) w).set (p := r) rfl _
  have hr := h.hr
  have hq := h.hq
  exact ⟨h.co.other e (fun (x : q = r) => by omega), h.cs.put4, h.bel.setCell (by simp; omega) _, hr, hq⟩
theorem GB.put5 {w0 w : World} {q o r : Nat} {kd dv hp pr ln ix cl : Int} {pm up : Bool} {hp' pr' ln' ix' cl' : Int} {pm' up' : Bool} {y : Int} (h : GB w0 w q o r kd dv hp pr ln ix cl pm up hp' pr' ln' ix' cl' pm' up') : GB w0 (w.setCell ⟨r, 5, none⟩ (.int .i64 y)) q o r kd dv hp pr ln ix cl pm up hp' pr' ln' y cl' pm' up' := by
  have e : Ex (Is r) w (w.setCell ⟨r, 5, none⟩ (.int .i64 y)) := (Ex.refl (Is r) w).set (p := r) rfl _
  have hr := h.hr
  have hq := h.hq
  exact ⟨h.co.other e (fun (x : q = r) => by omega), h.cs.put5, h.bel.setCell (by simp; omega) _, hr, hq⟩
theorem GB.put6 {w0 w : World} {q o r : Nat} {kd dv hp pr ln ix cl : Int} {pm up : Bool} {hp' pr' ln' ix' cl' : Int} {pm' up' : Bool} {y : Int} (h : GB w0 w q o r kd dv hp pr ln ix cl pm up hp' pr' ln' ix' cl' pm' up') : GB w0 (w.setCell ⟨r, 6, none⟩ (.int .i64 y)) q o r kd dv hp pr ln ix cl pm up hp' pr' ln' ix' y pm' up' := by
  have e : Ex (Is r) w (w.setCell ⟨r, 6, none⟩ (.int .i64 y)) := (Ex.refl (Is r) w).set (p := r) rfl _
  have hr := h.hr
  have hq := h.hq
  exact ⟨h.co.other e (fun (x : q = r) => by omega), h.cs.put6, h.bel.setCell (by simp; omega) _, hr, hq⟩
theorem GB.put7 {w0 w : World} {q o r : Nat} {kd dv hp pr ln ix cl : Int} {pm up : Bool} {hp' pr' ln' ix' cl' : Int} {pm' up' : Bool} {y : Bool} (h : GB w0 w q o r kd dv hp pr ln ix cl pm up hp' pr' ln' ix' cl' pm' up') : GB w0 (w.setCell ⟨r, 7, none⟩ (.bool y)) q o r kd dv hp pr ln ix cl pm up hp' pr' ln' ix' cl' y up' := by
  have e : Ex (Is r) w (w.setCell ⟨r, 7, none⟩ (.bool y)) := (Ex.refl (Is r) w).set (p := r) rfl _
  have hr := h.hr
  have hq := h.hq
  exact ⟨h.co.other e (fun (x : q = r) => by omega), h.cs.put7, h.bel.setCell (by simp; omega) _, hr, hq⟩
theorem GB.put8 {w0 w : World} {q o r : Nat} {kd dv hp pr ln ix cl : Int} {pm up : Bool} {hp' pr' ln' ix' cl' : Int} {pm' up' : Bool} {y : Bool} (h : GB w0 w q o r kd dv hp pr ln ix cl pm up hp' pr' ln' ix' cl' pm' up') : GB w0 (w.setCell ⟨r, 8, none⟩ (.bool y)) q o r kd dv hp pr ln ix cl pm up hp' pr' ln' ix' cl' pm' y := by
  have e : Ex (Is r) w (w.setCell ⟨r, 8, none⟩ (.bool y)) := (Ex.refl (Is r) w).set (p := r) rfl _
  have hr := h.hr
  have hq := h.hq
  exact ⟨h.co.other e (fun (x : q = r) => by omega), h.cs.put8, h.bel.setCell (by simp; omega) _, hr, hq⟩
theorem GB.drewN {w0 w : World} {q o r : Nat} {kd dv hp pr ln ix cl : Int} {pm up : Bool} {hp' pr' ln' ix' cl' : Int} {pm' up' : Bool} (h : GB w0 w q o r kd dv hp pr ln ix cl pm up hp' pr' ln' ix' cl' pm' up') (m : Nat) : GB w0 (w.drewN m) q o r kd dv hp pr ln ix cl pm up hp' pr' ln' ix' cl' pm' up' :=
  ⟨h.co.other ((Ex.refl (fun _ => False) w).drewN m) id, h.cs.other ((Ex.refl (fun _ => False) w).drewN m) id, h.bel.trans (below_drewN _ _ _), h.hr, h.hq⟩
theorem GB.drew {w0 w : World} {q o r : Nat} {kd dv hp pr ln ix cl : Int} {pm up : Bool} {hp' pr' ln' ix' cl' : Int} {pm' up' : Bool} (h : GB w0 w q o r kd dv hp pr ln ix cl pm up hp' pr' ln' ix' cl' pm' up') : GB w0 w.drew q o r kd dv hp pr ln ix cl pm up hp' pr' ln' ix' cl' pm' up' := h.drewN 1
theorem cs_alloc (w : World) (kd dv hp pr ln ix cl : Int) (pm up : Bool) (t : Nat) : CS (w.alloc (.cells #[.int .i64 kd, .int .i64 dv, .int .i64 hp, .int .i64 pr, .int .i64 ln, .int .i64 ix, .int .i64 cl, .bool pm, .bool up] t)) w.heap.size kd dv hp pr ln ix cl pm up := by
  refine ⟨by simp [go_sem], by simp [go_sem], by simp [go_sem], by simp [go_sem], by simp [go_sem], by simp [go_sem], by simp [go_sem], by simp [go_sem], by simp [go_sem], fun j => by simp [go_sem]⟩
set_option maxRecDepth 100000 in
set_option maxHeartbeats 8000000 in
theorem goodChange_any (w : World) (q o : Nat) (kd dv hp pr ln ix cl : Int) (pm up : Bool) (h : CO w q o kd dv hp pr ln ix cl pm up) (hg : GoodC kd dv hp pr ln ix cl pm up) :
    Calls Try.prog 36 #[.pointer (some ⟨q, o, none⟩)] w fun e w' => e = .returned (.bool true) ∧ Below w.heap.size w w' := by
  obtain ⟨c0, c1, c2, c3, c4, c5, c6, c7, c8⟩ := h
  have hq : q < w.heap.size := World.block_lt_of_cell? _ _ c0
  have hqn : w.heap.size ≠ q := by omega
  have hqm : q ≠ w.heap.size := by omega
  obtain ⟨hdv, hg⟩ := hg
  obtain ⟨hd0, hd1⟩ := hdv
  go_enter Try.func36, Try.ntmps36
  go_wp2_with fail
  refine (goodDevice_any _ dv ⟨hd0, hd1⟩).mono ?_
  rintro e w' ⟨rfl, rfl⟩
  go_upto_region 3 with fail
  go_region
  obtain ⟨W, hW⟩ : ∃ W, W = (w'.alloc (.cells #[.int .i64 kd, .int .i64 dv, .int .i64 0, .int .i64 0, .int .i64 0, .int .i64 0, .int .i64 0, .bool false, .bool false] 45)).drew := ⟨_, rfl⟩
  have HG : Hid (GB w' W q o w'.heap.size kd dv hp pr ln ix cl pm up 0 0 0 0 0 false false) := by
    rw [hW]
    refine GB.drew ⟨?_, cs_alloc _ _ _ _ _ _ _ _ _ _ _, (Below.refl _ _).alloc (Nat.le_refl _) _, Nat.le_refl _, hq⟩
    exact CO.other ⟨c0, c1, c2, c3, c4, c5, c6, c7, c8⟩ ((Ex.refl (fun _ => False) w').alloc _) id
  rw [← hW]
  clear hW c0 c1 c2 c3 c4 c5 c6 c7 c8
  generalize hr : w'.heap.size = r at *
  clear hr
  rcases hg with ⟨rfl, ⟨hl, hp_, ha⟩, hh, rfl, rfl, rfl, rfl⟩ | ⟨rfl, ⟨hl, hp_, ha⟩, rfl, rfl, rfl, rfl, rfl⟩ | ⟨rfl, ⟨hl, hp_, ha⟩, rfl, hi, hc, rfl⟩ | ⟨rfl, rfl, rfl, rfl, hi, rfl, rfl, rfl⟩ | ⟨rfl, rfl, rfl, hh, rfl, rfl, rfl⟩ | ⟨rfl, rfl, rfl, rfl, rfl, rfl, rfl⟩
  · have HA := hide ha
    clear ha
    have HH := hide hh
    clear hh
    have hg_ := HG.out
    have c0 := hg_.co.c0
    have d0 := hg_.cs.c0
    have c1 := hg_.co.c1
    have d1 := hg_.cs.c1
    have c2 := hg_.co.c2
    have d2 := hg_.cs.c2
    have c3 := hg_.co.c3
    have d3 := hg_.cs.c3
    have c4 := hg_.co.c4
    have d4 := hg_.cs.c4
    have c5 := hg_.co.c5
    have d5 := hg_.cs.c5
    have c6 := hg_.co.c6
    have d6 := hg_.cs.c6
    have c7 := hg_.co.c7
    have d7 := hg_.cs.c7
    have c8 := hg_.co.c8
    have d8 := hg_.cs.c8
    have fr := hg_.cs.fr
    clear hg_
    go_upto_region 7 with fail
    go_region
    replace HG := hide (((HG.out.put3 (y := pr)).put4 (y := ln)).put2 (y := hp)).drew
    clear c0 d0 c1 d1 c2 d2 c3 d3 c4 d4 c5 d5 c6 d6 c7 d7 c8 d8 fr
    generalize (((W.setCell ⟨r, 3, none⟩ (.int .i64 pr)).setCell ⟨r, 4, none⟩ (.int .i64 ln)).setCell ⟨r, 2, none⟩ (.int .i64 hp)).drew = W1 at *
    have hg_ := HG.out
    have c0 := hg_.co.c0
    have d0 := hg_.cs.c0
    have c1 := hg_.co.c1
    have d1 := hg_.cs.c1
    have c2 := hg_.co.c2
    have d2 := hg_.cs.c2
    have c3 := hg_.co.c3
    have d3 := hg_.cs.c3
    have c4 := hg_.co.c4
    have d4 := hg_.cs.c4
    have c5 := hg_.co.c5
    have d5 := hg_.cs.c5
    have c6 := hg_.co.c6
    have d6 := hg_.cs.c6
    have c7 := hg_.co.c7
    have d7 := hg_.cs.c7
    have c8 := hg_.co.c8
    have d8 := hg_.cs.c8
    have fr := hg_.cs.fr
    clear hg_
    go_upto_region 8 with fail
    go_quiet (first | (go_at_call 60; refine Calls.quiet_of_same (goodPrefix_any _ pr ln hl hp_ HA.out)) | (go_at_call 59; refine Calls.quiet_of_same (goodDevice_any _ hp HH.out)))
    replace HG := hide (HG.out.drewN nq)
    clear c0 d0 c1 d1 c2 d2 c3 d3 c4 d4 c5 d5 c6 d6 c7 d7 c8 d8 fr
    generalize W1.drewN nq = W2 at *
    clear nq
    have hg_ := HG.out
    have c0 := hg_.co.c0
    have d0 := hg_.cs.c0
    have c1 := hg_.co.c1
    have d1 := hg_.cs.c1
    have c2 := hg_.co.c2
    have d2 := hg_.cs.c2
    have c3 := hg_.co.c3
    have d3 := hg_.cs.c3
    have c4 := hg_.co.c4
    have d4 := hg_.cs.c4
    have c5 := hg_.co.c5
    have d5 := hg_.cs.c5
    have c6 := hg_.co.c6
    have d6 := hg_.cs.c6
    have c7 := hg_.co.c7
    have d7 := hg_.cs.c7
    have c8 := hg_.co.c8
    have d8 := hg_.cs.c8
    have fr := hg_.cs.fr
    clear hg_
    go_upto_region 27 with fail
    go_quiet (fail)
    replace HG := hide (HG.out.drewN nq)
    go_wp2
    go_ret
    exact ⟨by first | rfl | (simp <;> omega), HG.out.bel⟩
  · have HA := hide ha
    clear ha
    have hg_ := HG.out
    have c0 := hg_.co.c0
    have d0 := hg_.cs.c0
    have c1 := hg_.co.c1
    have d1 := hg_.cs.c1
    have c2 := hg_.co.c2
    have d2 := hg_.cs.c2
    have c3 := hg_.co.c3
    have d3 := hg_.cs.c3
    have c4 := hg_.co.c4
    have d4 := hg_.cs.c4
    have c5 := hg_.co.c5
    have d5 := hg_.cs.c5
    have c6 := hg_.co.c6
    have d6 := hg_.cs.c6
    have c7 := hg_.co.c7
    have d7 := hg_.cs.c7
    have c8 := hg_.co.c8
    have d8 := hg_.cs.c8
    have fr := hg_.cs.fr
    clear hg_
    go_upto_region 11 with fail
    go_region
    replace HG := hide ((HG.out.put3 (y := pr)).put4 (y := ln)).drew
    clear c0 d0 c1 d1 c2 d2 c3 d3 c4 d4 c5 d5 c6 d6 c7 d7 c8 d8 fr
    generalize ((W.setCell ⟨r, 3, none⟩ (.int .i64 pr)).setCell ⟨r, 4, none⟩ (.int .i64 ln)).drew = W1 at *
    have hg_ := HG.out
    have c0 := hg_.co.c0
    have d0 := hg_.cs.c0
    have c1 := hg_.co.c1
    have d1 := hg_.cs.c1
    have c2 := hg_.co.c2
    have d2 := hg_.cs.c2
    have c3 := hg_.co.c3
    have d3 := hg_.cs.c3
    have c4 := hg_.co.c4
    have d4 := hg_.cs.c4
    have c5 := hg_.co.c5
    have d5 := hg_.cs.c5
    have c6 := hg_.co.c6
    have d6 := hg_.cs.c6
    have c7 := hg_.co.c7
    have d7 := hg_.cs.c7
    have c8 := hg_.co.c8
    have d8 := hg_.cs.c8
    have fr := hg_.cs.fr
    clear hg_
    go_upto_region 12 with fail
    go_quiet (first | (go_at_call 60; refine Calls.quiet_of_same (goodPrefix_any _ pr ln hl hp_ HA.out)))
    replace HG := hide (HG.out.drewN nq)
    clear c0 d0 c1 d1 c2 d2 c3 d3 c4 d4 c5 d5 c6 d6 c7 d7 c8 d8 fr
    generalize W1.drewN nq = W2 at *
    clear nq
    have hg_ := HG.out
    have c0 := hg_.co.c0
    have d0 := hg_.cs.c0
    have c1 := hg_.co.c1
    have d1 := hg_.cs.c1
    have c2 := hg_.co.c2
    have d2 := hg_.cs.c2
    have c3 := hg_.co.c3
    have d3 := hg_.cs.c3
    have c4 := hg_.co.c4
    have d4 := hg_.cs.c4
    have c5 := hg_.co.c5
    have d5 := hg_.cs.c5
    have c6 := hg_.co.c6
    have d6 := hg_.cs.c6
    have c7 := hg_.co.c7
    have d7 := hg_.cs.c7
    have c8 := hg_.co.c8
    have d8 := hg_.cs.c8
    have fr := hg_.cs.fr
    clear hg_
    go_upto_region 27 with fail
    go_quiet (fail)
    replace HG := hide (HG.out.drewN nq)
    go_wp2
    go_ret
    exact ⟨by first | rfl | (simp <;> omega), HG.out.bel⟩
  · have HA := hide ha
    clear ha
    obtain ⟨hi0, hi1⟩ := hi
    obtain ⟨hc0, hc1⟩ := hc
    have g1 : decide (cl < 0) = false := decide_eq_false (by omega)
    have g2 : decide (16 < cl) = false := decide_eq_false (by omega)
    have g3 : decide (0 ≤ ix) = true := decide_eq_true hi0
    have g4 : decide (ix < 64) = true := decide_eq_true (by omega)
    have hg_ := HG.out
    have c0 := hg_.co.c0
    have d0 := hg_.cs.c0
    have c1 := hg_.co.c1
    have d1 := hg_.cs.c1
    have c2 := hg_.co.c2
    have d2 := hg_.cs.c2
    have c3 := hg_.co.c3
    have d3 := hg_.cs.c3
    have c4 := hg_.co.c4
    have d4 := hg_.cs.c4
    have c5 := hg_.co.c5
    have d5 := hg_.cs.c5
    have c6 := hg_.co.c6
    have d6 := hg_.cs.c6
    have c7 := hg_.co.c7
    have d7 := hg_.cs.c7
    have c8 := hg_.co.c8
    have d8 := hg_.cs.c8
    have fr := hg_.cs.fr
    clear hg_
    go_upto_region 15 with fail
    go_region
    replace HG := hide (((HG.out.put3 (y := pr)).put4 (y := ln)).put5 (y := ix)).drew
    clear c0 d0 c1 d1 c2 d2 c3 d3 c4 d4 c5 d5 c6 d6 c7 d7 c8 d8 fr
    generalize (((W.setCell ⟨r, 3, none⟩ (.int .i64 pr)).setCell ⟨r, 4, none⟩ (.int .i64 ln)).setCell ⟨r, 5, none⟩ (.int .i64 ix)).drew = W1 at *
    have hg_ := HG.out
    have c0 := hg_.co.c0
    have d0 := hg_.cs.c0
    have c1 := hg_.co.c1
    have d1 := hg_.cs.c1
    have c2 := hg_.co.c2
    have d2 := hg_.cs.c2
    have c3 := hg_.co.c3
    have d3 := hg_.cs.c3
    have c4 := hg_.co.c4
    have d4 := hg_.cs.c4
    have c5 := hg_.co.c5
    have d5 := hg_.cs.c5
    have c6 := hg_.co.c6
    have d6 := hg_.cs.c6
    have c7 := hg_.co.c7
    have d7 := hg_.cs.c7
    have c8 := hg_.co.c8
    have d8 := hg_.cs.c8
    have fr := hg_.cs.fr
    clear hg_
    go_upto_region 16 with fail
    go_region
    replace HG := hide ((HG.out.put6 (y := cl)).put7 (y := pm)).drew
    clear c0 d0 c1 d1 c2 d2 c3 d3 c4 d4 c5 d5 c6 d6 c7 d7 c8 d8 fr
    generalize ((W1.setCell ⟨r, 6, none⟩ (.int .i64 cl)).setCell ⟨r, 7, none⟩ (.bool pm)).drew = W2 at *
    have hg_ := HG.out
    have c0 := hg_.co.c0
    have d0 := hg_.cs.c0
    have c1 := hg_.co.c1
    have d1 := hg_.cs.c1
    have c2 := hg_.co.c2
    have d2 := hg_.cs.c2
    have c3 := hg_.co.c3
    have d3 := hg_.cs.c3
    have c4 := hg_.co.c4
    have d4 := hg_.cs.c4
    have c5 := hg_.co.c5
    have d5 := hg_.cs.c5
    have c6 := hg_.co.c6
    have d6 := hg_.cs.c6
    have c7 := hg_.co.c7
    have d7 := hg_.cs.c7
    have c8 := hg_.co.c8
    have d8 := hg_.cs.c8
    have fr := hg_.cs.fr
    clear hg_
    go_upto_region 17 with fail
    go_quiet (first | (go_at_call 60; refine Calls.quiet_of_same (goodPrefix_any _ pr ln hl hp_ HA.out)))
    replace HG := hide (HG.out.drewN nq)
    clear c0 d0 c1 d1 c2 d2 c3 d3 c4 d4 c5 d5 c6 d6 c7 d7 c8 d8 fr
    generalize W2.drewN nq = W3 at *
    clear nq
    have hg_ := HG.out
    have c0 := hg_.co.c0
    have d0 := hg_.cs.c0
    have c1 := hg_.co.c1
    have d1 := hg_.cs.c1
    have c2 := hg_.co.c2
    have d2 := hg_.cs.c2
    have c3 := hg_.co.c3
    have d3 := hg_.cs.c3
    have c4 := hg_.co.c4
    have d4 := hg_.cs.c4
    have c5 := hg_.co.c5
    have d5 := hg_.cs.c5
    have c6 := hg_.co.c6
    have d6 := hg_.cs.c6
    have c7 := hg_.co.c7
    have d7 := hg_.cs.c7
    have c8 := hg_.co.c8
    have d8 := hg_.cs.c8
    have fr := hg_.cs.fr
    clear hg_
    go_upto_region 27 with fail
    go_quiet (fail)
    replace HG := hide (HG.out.drewN nq)
    go_wp2
    go_ret
    exact ⟨by first | rfl | (simp <;> omega), HG.out.bel⟩
  · obtain ⟨hi0, hi1⟩ := hi
    have g3 : decide (0 ≤ ix) = true := decide_eq_true hi0
    have g4 : decide (ix < 64) = true := decide_eq_true (by omega)
    have hg_ := HG.out
    have c0 := hg_.co.c0
    have d0 := hg_.cs.c0
    have c1 := hg_.co.c1
    have d1 := hg_.cs.c1
    have c2 := hg_.co.c2
    have d2 := hg_.cs.c2
    have c3 := hg_.co.c3
    have d3 := hg_.cs.c3
    have c4 := hg_.co.c4
    have d4 := hg_.cs.c4
    have c5 := hg_.co.c5
    have d5 := hg_.cs.c5
    have c6 := hg_.co.c6
    have d6 := hg_.cs.c6
    have c7 := hg_.co.c7
    have d7 := hg_.cs.c7
    have c8 := hg_.co.c8
    have d8 := hg_.cs.c8
    have fr := hg_.cs.fr
    clear hg_
    go_upto_region 27 with fail
    replace HG := hide (HG.out.put5 (y := ix))
    clear c0 d0 c1 d1 c2 d2 c3 d3 c4 d4 c5 d5 c6 d6 c7 d7 c8 d8 fr
    generalize (W.setCell ⟨r, 5, none⟩ (.int .i64 ix)) = W1 at *
    have hg_ := HG.out
    have c0 := hg_.co.c0
    have d0 := hg_.cs.c0
    have c1 := hg_.co.c1
    have d1 := hg_.cs.c1
    have c2 := hg_.co.c2
    have d2 := hg_.cs.c2
    have c3 := hg_.co.c3
    have d3 := hg_.cs.c3
    have c4 := hg_.co.c4
    have d4 := hg_.cs.c4
    have c5 := hg_.co.c5
    have d5 := hg_.cs.c5
    have c6 := hg_.co.c6
    have d6 := hg_.cs.c6
    have c7 := hg_.co.c7
    have d7 := hg_.cs.c7
    have c8 := hg_.co.c8
    have d8 := hg_.cs.c8
    have fr := hg_.cs.fr
    clear hg_
    go_upto_region 27 with fail
    go_quiet (fail)
    replace HG := hide (HG.out.drewN nq)
    go_wp2
    go_ret
    exact ⟨by first | rfl | (simp <;> omega), HG.out.bel⟩
  · obtain ⟨hh0, hh1⟩ := hh
    have HH : Hid (0 ≤ hp ∧ hp ≤ 15) := ⟨by omega, hh1⟩
    have g1 : decide (hp ≤ dv) = false := decide_eq_false (by omega)
    have hg_ := HG.out
    have c0 := hg_.co.c0
    have d0 := hg_.cs.c0
    have c1 := hg_.co.c1
    have d1 := hg_.cs.c1
    have c2 := hg_.co.c2
    have d2 := hg_.cs.c2
    have c3 := hg_.co.c3
    have d3 := hg_.cs.c3
    have c4 := hg_.co.c4
    have d4 := hg_.cs.c4
    have c5 := hg_.co.c5
    have d5 := hg_.cs.c5
    have c6 := hg_.co.c6
    have d6 := hg_.cs.c6
    have c7 := hg_.co.c7
    have d7 := hg_.cs.c7
    have c8 := hg_.co.c8
    have d8 := hg_.cs.c8
    have fr := hg_.cs.fr
    clear hg_
    go_upto_region 22 with fail
    go_region
    replace HG := hide ((HG.out.put2 (y := hp)).put8 (y := up)).drew
    clear c0 d0 c1 d1 c2 d2 c3 d3 c4 d4 c5 d5 c6 d6 c7 d7 c8 d8 fr
    generalize ((W.setCell ⟨r, 2, none⟩ (.int .i64 hp)).setCell ⟨r, 8, none⟩ (.bool up)).drew = W1 at *
    have hg_ := HG.out
    have c0 := hg_.co.c0
    have d0 := hg_.cs.c0
    have c1 := hg_.co.c1
    have d1 := hg_.cs.c1
    have c2 := hg_.co.c2
    have d2 := hg_.cs.c2
    have c3 := hg_.co.c3
    have d3 := hg_.cs.c3
    have c4 := hg_.co.c4
    have d4 := hg_.cs.c4
    have c5 := hg_.co.c5
    have d5 := hg_.cs.c5
    have c6 := hg_.co.c6
    have d6 := hg_.cs.c6
    have c7 := hg_.co.c7
    have d7 := hg_.cs.c7
    have c8 := hg_.co.c8
    have d8 := hg_.cs.c8
    have fr := hg_.cs.fr
    clear hg_
    go_upto_region 23 with fail
    go_quiet (first | (go_at_call 59; refine Calls.quiet_of_same (goodDevice_any _ hp HH.out)))
    replace HG := hide (HG.out.drewN nq)
    clear c0 d0 c1 d1 c2 d2 c3 d3 c4 d4 c5 d5 c6 d6 c7 d7 c8 d8 fr
    generalize W1.drewN nq = W2 at *
    clear nq
    have hg_ := HG.out
    have c0 := hg_.co.c0
    have d0 := hg_.cs.c0
    have c1 := hg_.co.c1
    have d1 := hg_.cs.c1
    have c2 := hg_.co.c2
    have d2 := hg_.cs.c2
    have c3 := hg_.co.c3
    have d3 := hg_.cs.c3
    have c4 := hg_.co.c4
    have d4 := hg_.cs.c4
    have c5 := hg_.co.c5
    have d5 := hg_.cs.c5
    have c6 := hg_.co.c6
    have d6 := hg_.cs.c6
    have c7 := hg_.co.c7
    have d7 := hg_.cs.c7
    have c8 := hg_.co.c8
    have d8 := hg_.cs.c8
    have fr := hg_.cs.fr
    clear hg_
    go_upto_region 27 with fail
    go_quiet (fail)
    replace HG := hide (HG.out.drewN nq)
    go_wp2
    go_ret
    exact ⟨by first | rfl | (simp <;> omega), HG.out.bel⟩
  · have hg_ := HG.out
    have c0 := hg_.co.c0
    have d0 := hg_.cs.c0
    have c1 := hg_.co.c1
    have d1 := hg_.cs.c1
    have c2 := hg_.co.c2
    have d2 := hg_.cs.c2
    have c3 := hg_.co.c3
    have d3 := hg_.cs.c3
    have c4 := hg_.co.c4
    have d4 := hg_.cs.c4
    have c5 := hg_.co.c5
    have d5 := hg_.cs.c5
    have c6 := hg_.co.c6
    have d6 := hg_.cs.c6
    have c7 := hg_.co.c7
    have d7 := hg_.cs.c7
    have c8 := hg_.co.c8
    have d8 := hg_.cs.c8
    have fr := hg_.cs.fr
    clear hg_
    go_upto_region 27 with fail
    replace HG := hide (HG.out.put8 (y := up))
    clear c0 d0 c1 d1 c2 d2 c3 d3 c4 d4 c5 d5 c6 d6 c7 d7 c8 d8 fr
    generalize (W.setCell ⟨r, 8, none⟩ (.bool up)) = W1 at *
    have hg_ := HG.out
    have c0 := hg_.co.c0
    have d0 := hg_.cs.c0
    have c1 := hg_.co.c1
    have d1 := hg_.cs.c1
    have c2 := hg_.co.c2
    have d2 := hg_.cs.c2
    have c3 := hg_.co.c3
    have d3 := hg_.cs.c3
    have c4 := hg_.co.c4
    have d4 := hg_.cs.c4
    have c5 := hg_.co.c5
    have d5 := hg_.cs.c5
    have c6 := hg_.co.c6
    have d6 := hg_.cs.c6
    have c7 := hg_.co.c7
    have d7 := hg_.cs.c7
    have c8 := hg_.co.c8
    have d8 := hg_.cs.c8
    have fr := hg_.cs.fr
    clear hg_
    go_upto_region 27 with fail
    go_quiet (fail)
    replace HG := hide (HG.out.drewN nq)
    go_wp2
    go_ret
    exact ⟨by first | rfl | (simp <;> omega), HG.out.bel⟩
end Go.Proofs.Qxb6500778a
