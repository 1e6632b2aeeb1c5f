import Derived.Test.Qxb6500777aTb
import Derived.Laws.IdiomCopy
namespace Go.Proofs.Qxb6500777a
open Go.RowKit

/-- The targets' truth in block p. -/
def WA (w : World) (p : Nat) (W : Nat → Tgt) : Prop := ∀ t, t < 112 → ∀ (j : Nat) (v : Value), (W t).vals[j]? = some v → w.cell? ⟨p, t * 4 + j, none⟩ = some v
theorem WA.keep {w w' : World} {p : Nat} {W : Nat → Tgt} (h : WA w p W) {S : Nat → Prop} (e : Ex S w w') (hs : ¬ S p) : WA w' p W := fun t ht j v hv => e.cell hs (h t ht j v hv)
theorem WA.below {w w' : World} {p : Nat} {W : Nat → Tgt} (h : WA w p W) (hb : Below w.heap.size w w') : WA w' p W := h.keep (Ex.of (S := fun _ => False) hb) (fun e => e)
/-- .. that can be written. -/
def WR (w : World) (p : Nat) (W : Nat → Tgt) : Prop := ∀ t, t < 112 → RA w p (t * 4) (W t).vals
theorem WR.wa {w : World} {p : Nat} {W : Nat → Tgt} (h : WR w p W) : WA w p W := fun t ht j v hv => (h t ht).c j v hv
theorem WR.lt {w : World} {p : Nat} {W : Nat → Tgt} (h : WR w p W) : p < w.heap.size := (h 0 (by omega)).lt (by simp [Tgt.vals])
theorem WR.below {w w' : World} {p : Nat} {W : Nat → Tgt} (h : WR w p W) (k : Below w.heap.size w w') : WR w' p W := fun t ht => (h t ht).below h.lt k
theorem WR.keep {w w' : World} {p : Nat} {W : Nat → Tgt} (h : WR w p W) {b lo n : Nat} (k : Fr b lo n w w') (hb : p ≠ b) : WR w' p W := fun t ht => (h t ht).keep k h.lt (.inl hb)
theorem WR.drew {w : World} {p : Nat} {W : Nat → Tgt} (h : WR w p W) : WR w.drew p W := fun t ht => (h t ht).drew
theorem Tgt.len (t : Tgt) : t.vals.length = 4 := rfl
theorem WR.fill {w : World} {p : Nat} {W : Nat → Tgt} (h : WR w p W) {i : Nat} (hi : i < 112) (c : Tgt) : WR (w.setCells p (i * 4) c.vals) p (upd W i c) ∧ Fr p 0 448 w (w.setCells p (i * 4) c.vals) := by
  have k : Fr p (i * 4) 4 w (w.setCells p (i * 4) c.vals) := Fr.sets c.vals _ _ (Fr.refl _ _ _ _) (Nat.le_refl _) (by rw [Tgt.len]; omega)
  refine ⟨fun j hj => ?_, k.mono (by omega) (by omega)⟩
  by_cases e : j = i
  · subst e; rw [upd_same]; exact (h j hj).fill rfl
  · rw [upd_ne _ _ e]
    exact (h j hj).keep k h.lt (.inr (by rw [Tgt.len]; omega))
def WStPost (w : World) (p : Nat) (W : Nat → Tgt) (e : Ending) (w' : World) : Prop := e = .returned (.tuple #[]) ∧ WR w' p W ∧ Fr p 0 448 w w'
def tgt0 : Tgt := ⟨0, 0, 0, 0⟩
theorem tgt0_ok : TgtOk tgt0 := by refine ⟨?_, ?_, ?_, ?_⟩ <;> decide
theorem Try.z63 : Try.zeroCells63 = Array.replicate 448 (.int .i64 0) := by kernel_rfl
theorem Try.z90 : Try.zeroCells90 = Array.replicate 1792 (.int .i64 0) := by kernel_rfl
theorem zero_wr (w : World) : WR (w.alloc (.cells Try.zeroCells63 63)) w.heap.size (fun _ => tgt0) := fun i hi => by
  refine ⟨fun j v hv => ?_, fun j => by simp [go_sem]⟩
  have hj : j < 4 := (List.getElem?_eq_some_iff.1 hv).1
  have hv0 : v = .int .i64 0 := by
    have := List.mem_of_getElem? hv
    simp [Tgt.vals, tgt0] at this
    exact this
  rw [Try.z63, hv0]
  have : i * 4 + j < 448 := by omega
  simp [go_sem, this]
/-- worldm.New -/
theorem newW_any (w : World) : Calls Try.prog 14 #[] w (fun e w' => e = .returned (.pointer (some ⟨w.heap.size, 0, none⟩)) ∧ WR w' w.heap.size (fun _ => tgt0) ∧ Below w.heap.size w w') := by
  have HW := hide (zero_wr w)
  go_enter Try.func14, Try.ntmps14
  go_wp2
  exact bodyPost_ret (v := .pointer (some ⟨w.heap.size, 0, none⟩)) (by simp [results, Try.results14, go_sem]) rfl ⟨rfl, HW.out, be1 _ _⟩
/-- What is pending in block q. -/
structure PA (w : World) (q : Nat) (G : Nat → Int) : Prop where
  c : ∀ i, i < 1792 → w.cell? ⟨q, i, none⟩ = some (.int .i64 (G i))
  f : ∀ j, w.frozen? ⟨q, j, none⟩ = false
section
variable {w w' : World} {q : Nat} {G : Nat → Int}
theorem PA.lt (h : PA w q G) : q < w.heap.size := World.block_lt_of_cell? _ _ (h.c 0 (by omega))
theorem PA.below (h : PA w q G) (hb : Below w.heap.size w w') : PA w' q G := ⟨fun i hi => cellKeep hb (h.c i hi), fun j => (World.frozen?_of_block (hb.block q h.lt)).trans (h.f j)⟩
theorem PA.keep (h : PA w q G) {b lo n : Nat} (k : Fr b lo n w w') (hq : q ≠ b) : PA w' q G := ⟨fun i hi => k.ex.cell hq (h.c i hi), fun j => (k.ex.frozen hq h.lt).trans (h.f j)⟩
theorem PA.drew (h : PA w q G) : PA w.drew q G := ⟨h.c, h.f⟩
theorem PA.set (h : PA w q G) {i : Nat} (hi : i < 1792) (u : Int) : PA (w.setCell ⟨q, i, none⟩ (.int .i64 u)) q (upd G i u) := by
  refine ⟨fun j hj => ?_, fun j => by rw [set_frozen]; exact h.f j⟩
  by_cases e : j = i
  · subst e; rw [upd_same]; exact World.cell?_setCell_same _ _ _ (h.c j hj)
  · rw [upd_ne _ _ e, World.cell?_setCell_other _ _ _ _ (by simp <;> omega)]; exact h.c j hj
end
theorem zero_pa (w : World) : PA (w.alloc (.cells Try.zeroCells90 90)) w.heap.size (fun _ => 0) := by
  refine ⟨fun i hi => ?_, fun j => by simp [go_sem]⟩
  rw [Try.z90]
  simp [go_sem, hi]
/-- sensorsm.New -/
theorem newP_any (w : World) : Calls Try.prog 15 #[] w (fun e w' => e = .returned (.pointer (some ⟨w.heap.size, 0, none⟩)) ∧ PA w' w.heap.size (fun _ => 0) ∧ Below w.heap.size w w') := by
  have HW := hide (zero_pa w)
  go_enter Try.func15, Try.ntmps15
  go_wp2
  exact bodyPost_ret (v := .pointer (some ⟨w.heap.size, 0, none⟩)) (by simp [results, Try.results15, go_sem]) rfl ⟨rfl, HW.out, be1 _ _⟩
def PStPost (w : World) (q : Nat) (G : Nat → Int) (e : Ending) (w' : World) : Prop := e = .returned (.tuple #[]) ∧ PA w' q G ∧ Fr q 0 1792 w w'
/-- A step of a script. -/
structure Opn where
  kd : Int
  a : Int
  b : Int
  c : Int
  d : Int
  e : Int
  on : Int
def I64 (v : Int) : Prop := -9223372036854775808 ≤ v ∧ v < 9223372036854775808
structure OpnOk (op : Opn) : Prop where
  a : I64 op.a
  b : I64 op.b
  c : I64 op.c
  d : I64 op.d
def Opn.vals (op : Opn) : List Value := [.int .i64 op.kd, .int .i64 op.a, .int .i64 op.b, .int .i64 op.c, .int .i64 op.d, .int .i64 op.e, .int .i64 op.on]
def wstP (W : Nat → Tgt) (op : Opn) : Nat → Tgt := if op.kd = 0 then upd W (op.a % 112).toNat ⟨holdP op.b (-1048576) 1048576, holdP op.c (-1048576) 1048576, op.d % 4096, holdP op.e 0 2000⟩ else W
def pstP (G : Nat → Int) (op : Opn) : Nat → Int := if op.kd = 1 then upd G ((op.a % 4).toNat * 448 + (op.b % 112).toNat * 4 + (op.c % 4).toNat) (op.d % 4) else if op.kd = 2 then (fun _ => 0) else G
theorem hold_rng (v : Int) {lo hi : Int} (h : lo ≤ hi) : lo ≤ holdP v lo hi ∧ holdP v lo hi ≤ hi := by unfold holdP; split <;> (try split) <;> omega
theorem wst_ok {W : Nat → Tgt} (op : Opn) (h : ∀ t, t < 112 → TgtOk (W t)) : ∀ t, t < 112 → TgtOk (wstP W op t) := fun t ht => by
  unfold wstP
  split
  · unfold upd
    split
    · exact ⟨hold_rng _ (by omega), hold_rng _ (by omega), ⟨by dsimp only; omega, by dsimp only; omega⟩, hold_rng _ (by omega)⟩
    · exact h t ht
  · exact h t ht
theorem pst_ok {G : Nat → Int} (op : Opn) (h : ∀ i, 0 ≤ G i ∧ G i ≤ 3) : ∀ i, 0 ≤ pstP G op i ∧ pstP G op i ≤ 3 := fun i => by
  unfold pstP
  split
  · unfold upd
    split
    · omega
    · exact h i
  · split
    · exact ⟨Int.le_refl 0, by show (0 : Int) ≤ 3; omega⟩
    · exact h i
set_option linter.unusedSimpArgs false in
set_option maxRecDepth 100000 in
set_option maxHeartbeats 4000000 in
/-- worldm.World.Step -/
theorem stepW_any (w : World) (p : Nat) (W : Nat → Tgt) (h : WR w p W) (op : Opn) (ho : OpnOk op) :
    Calls Try.prog 18 #[.pointer (some ⟨p, 0, none⟩), .agg #[.int .i64 op.kd, .int .i64 op.a, .int .i64 op.b, .int .i64 op.c, .int .i64 op.d, .int .i64 op.e, .int .i64 op.on]] w (WStPost w p (wstP W op)) := by
  have HW := hide (h.below (be1 w (.cells #[.int .i64 op.kd, .int .i64 op.a, .int .i64 op.b, .int .i64 op.c, .int .i64 op.d, .int .i64 op.e, .int .i64 op.on] 37)))
  have HF := hide (Fr.of (lo := 0) (n := 448) h.lt (be1 w (.cells #[.int .i64 op.kd, .int .i64 op.a, .int .i64 op.b, .int .i64 op.c, .int .i64 op.d, .int .i64 op.e, .int .i64 op.on] 37)))
  have zC : ∀ j v, op.vals[j]? = some v → (w.alloc (.cells #[.int .i64 op.kd, .int .i64 op.a, .int .i64 op.b, .int .i64 op.c, .int .i64 op.d, .int .i64 op.e, .int .i64 op.on] 37)).cell? ⟨w.heap.size, j, none⟩ = some v := fun j v hv => by
    have := new_cells w op.vals 37 j v hv
    rw [Addr.add_mid, Nat.zero_add] at this
    exact this
  have HO := hide ho
  have hpl := h.lt
  clear h ho
  go_enter Try.func18, Try.ntmps18
  go_upto_region 1 with fail
  generalize w.alloc (.cells #[.int .i64 op.kd, .int .i64 op.a, .int .i64 op.b, .int .i64 op.c, .int .i64 op.d, .int .i64 op.e, .int .i64 op.on] 37) = w1 at *
  obtain ⟨x, hx⟩ : ∃ x, w.heap.size = x := ⟨_, rfl⟩
  rw [hx] at zC hpl ⊢
  clear hx
  have hpx : p ≠ x := by omega
  have hxp : x ≠ p := by omega
  have o0 := zC 0 _ rfl
  have o1 := zC 1 _ rfl
  have o2 := zC 2 _ rfl
  have o3 := zC 3 _ rfl
  have o4 := zC 4 _ rfl
  have o5 := zC 5 _ rfl
  clear zC
  by_cases hk : op.kd = 0
  · have hkb : (op.kd != 0) = false := by simp [hk]
    obtain ⟨t, ht⟩ : ∃ t : Nat, op.a % 112 = t := ⟨(op.a % 112).toNat, by omega⟩
    have htl : t < 112 := by omega
    have htli : (t : Int) < 112 := by omega
    have HX := hide (show wstP W op = upd W t ⟨holdP op.b (-1048576) 1048576, holdP op.c (-1048576) 1048576, op.d % 4096, holdP op.e 0 2000⟩ by unfold wstP; rw [if_pos hk, ht, Int.toNat_natCast])
    have ca := fun w => hide (show Calls Try.prog 34 #[.int .i64 op.a, .int .i64 112] w (fun e w' => e = .returned (.int .i64 (t : Int)) ∧ w' = w) by have := wrap_any w op.a 112 (by omega) (by omega) HO.out.a.1 HO.out.a.2; rw [ht] at this; exact this)
    have cd := fun w => hide (wrap_any w op.d 4096 (by omega) (by omega) HO.out.d.1 HO.out.d.2)
    obtain ⟨c0, c1, c2, c3⟩ : w1.cell? ⟨p, t * 4, none⟩ = some (.int .i64 (W t).x) ∧ w1.cell? ⟨p, t * 4 + 1, none⟩ = some (.int .i64 (W t).y) ∧ w1.cell? ⟨p, t * 4 + 2, none⟩ = some (.int .i64 (W t).co) ∧ w1.cell? ⟨p, t * 4 + 3, none⟩ = some (.int .i64 (W t).sp) := ⟨(HW.out t htl).c 0 _ rfl, (HW.out t htl).c 1 _ rfl, (HW.out t htl).c 2 _ rfl, (HW.out t htl).c 3 _ rfl⟩
    have f0 := (HW.out t htl).f (t * 4)
    have f1 := (HW.out t htl).f (t * 4 + 1)
    have f2 := (HW.out t htl).f (t * 4 + 2)
    have f3 := (HW.out t htl).f (t * 4 + 3)
    clear hk ht
    have zS := And.intro o1 (And.intro o2 (And.intro o3 (And.intro o4 o5)))
    go_upto_region 2 with fail
    refine wp_region_held_drew (S := fun w' => w'.cell? ⟨x, 1, none⟩ = some (.int .i64 op.a) ∧ w'.cell? ⟨x, 2, none⟩ = some (.int .i64 op.b) ∧ w'.cell? ⟨x, 3, none⟩ = some (.int .i64 op.c) ∧ w'.cell? ⟨x, 4, none⟩ = some (.int .i64 op.d) ∧ w'.cell? ⟨x, 5, none⟩ = some (.int .i64 op.e)) (by kernel_rfl) zS (fun hHeld => ?_)
    refine wpAnyH_take (i := 0) (v := ?_) rfl (by kernel_rfl) (by kernel_rfl) (by kernel_rfl) (fun _ _ _ h => h) (Or.inl ⟨by rfl, ?_⟩) (by assumption) ?_
    rotate_left
    · (intro w hSw; (try dsimp only at hSw); go_simp; try (with_reducible rfl))
    try simp only [Act.put, List.getElem_toArray, List.getElem_cons_zero, List.getElem_cons_succ, List.setIfInBounds_toArray, List.set_cons_zero, List.set_cons_succ]
    refine wpAnyH_take (i := 1) (v := ?_) rfl (by kernel_rfl) (by kernel_rfl) (by kernel_rfl) (fun _ _ _ h => h) (Or.inl ⟨by rfl, ?_⟩) (by assumption) ?_
    rotate_left
    · (intro w hSw; (try dsimp only at hSw); go_simp; try (with_reducible rfl))
    try simp only [Act.put, List.getElem_toArray, List.getElem_cons_zero, List.getElem_cons_succ, List.setIfInBounds_toArray, List.set_cons_zero, List.set_cons_succ]
    refine wpAnyH_take (i := 2) (v := ?_) rfl (by kernel_rfl) (by kernel_rfl) (by kernel_rfl) (fun _ _ _ h => h) (Or.inl ⟨by rfl, ?_⟩) (by assumption) ?_
    rotate_left
    · (intro w hSw; (try dsimp only at hSw); go_simp; try (with_reducible rfl))
    try simp only [Act.put, List.getElem_toArray, List.getElem_cons_zero, List.getElem_cons_succ, List.setIfInBounds_toArray, List.set_cons_zero, List.set_cons_succ]
    refine wpAnyH_take (i := 4) (v := ?_) rfl (by kernel_rfl) (by kernel_rfl) (by kernel_rfl) (fun _ _ _ h => h) (Or.inl ⟨by rfl, ?_⟩) (by assumption) ?_
    rotate_left
    · (intro w hSw; (try dsimp only at hSw); go_simp; try (with_reducible rfl))
    try simp only [Act.put, List.getElem_toArray, List.getElem_cons_zero, List.getElem_cons_succ, List.setIfInBounds_toArray, List.set_cons_zero, List.set_cons_succ]
    refine wpAnyH_take (i := 5) (v := ?_) rfl (by kernel_rfl) (by kernel_rfl) (by kernel_rfl) (fun _ _ _ h => h) (Or.inl ⟨by rfl, ?_⟩) (by assumption) ?_
    rotate_left
    · (intro w hSw; (try dsimp only at hSw); go_simp; try (with_reducible rfl))
    try simp only [Act.put, List.getElem_toArray, List.getElem_cons_zero, List.getElem_cons_succ, List.setIfInBounds_toArray, List.set_cons_zero, List.set_cons_succ]
    refine wpAnyH_take (i := 7) (v := ?_) rfl (by kernel_rfl) (by kernel_rfl) (by kernel_rfl) (fun _ _ _ h => h) (Or.inl ⟨by rfl, ?_⟩) (by assumption) ?_
    rotate_left
    · (intro w hSw; (try dsimp only at hSw); go_simp; try (with_reducible rfl))
    try simp only [Act.put, List.getElem_toArray, List.getElem_cons_zero, List.getElem_cons_succ, List.setIfInBounds_toArray, List.set_cons_zero, List.set_cons_succ]
    refine wpAnyH_take (i := 8) (v := ?_) rfl (by kernel_rfl) (by kernel_rfl) (by kernel_rfl) (fun _ _ _ h => h) (Or.inl ⟨by rfl, ?_⟩) (by assumption) ?_
    rotate_left
    · (intro w hSw; (try dsimp only at hSw); go_simp; try (with_reducible rfl))
    try simp only [Act.put, List.getElem_toArray, List.getElem_cons_zero, List.getElem_cons_succ, List.setIfInBounds_toArray, List.set_cons_zero, List.set_cons_succ]
    refine wpAnyH_take (i := 10) (v := ?_) rfl (by kernel_rfl) (by kernel_rfl) (by kernel_rfl) (fun _ _ _ h => h) (Or.inl ⟨by rfl, ?_⟩) (by assumption) ?_
    rotate_left
    · (intro w hSw; (try dsimp only at hSw); go_simp; try (with_reducible rfl))
    try simp only [Act.put, List.getElem_toArray, List.getElem_cons_zero, List.getElem_cons_succ, List.setIfInBounds_toArray, List.set_cons_zero, List.set_cons_succ]
    refine wpAnyH_take (i := 11) (v := ?_) rfl (by kernel_rfl) (by kernel_rfl) (by kernel_rfl) (fun _ _ _ h => h) (Or.inl ⟨by rfl, ?_⟩) (by assumption) ?_
    rotate_left
    · (intro w hSw; (try dsimp only at hSw); go_simp; try (with_reducible rfl))
    try simp only [Act.put, List.getElem_toArray, List.getElem_cons_zero, List.getElem_cons_succ, List.setIfInBounds_toArray, List.set_cons_zero, List.set_cons_succ]
    refine wpAnyH_take (i := 13) (v := ?_) rfl (by kernel_rfl) (by kernel_rfl) (by kernel_rfl) (fun _ _ _ h => h) (Or.inl ⟨by rfl, ?_⟩) (by assumption) ?_
    rotate_left
    · (intro w hSw; (try dsimp only at hSw); go_simp; try (with_reducible rfl))
    try simp only [Act.put, List.getElem_toArray, List.getElem_cons_zero, List.getElem_cons_succ, List.setIfInBounds_toArray, List.set_cons_zero, List.set_cons_succ]
    refine wpAnyH_take (i := 14) (v := ?_) rfl (by kernel_rfl) (by kernel_rfl) (by kernel_rfl) (fun _ _ _ h => h) (Or.inl ⟨by rfl, ?_⟩) (by assumption) ?_
    rotate_left
    · (intro w hSw; (try dsimp only at hSw); go_simp; try (with_reducible rfl))
    try simp only [Act.put, List.getElem_toArray, List.getElem_cons_zero, List.getElem_cons_succ, List.setIfInBounds_toArray, List.set_cons_zero, List.set_cons_succ]
    refine wpAnyH_take (i := 17) (v := ?_) rfl (by kernel_rfl) (by kernel_rfl) (by kernel_rfl) (fun _ _ _ h => h) (Or.inl ⟨by rfl, ?_⟩) (by assumption) ?_
    rotate_left
    · (intro w hSw; (try dsimp only at hSw); go_simp; try (with_reducible rfl))
    try simp only [Act.put, List.getElem_toArray, List.getElem_cons_zero, List.getElem_cons_succ, List.setIfInBounds_toArray, List.set_cons_zero, List.set_cons_succ]
    refine wpAnyH_take (i := 18) (v := ?_) rfl (by kernel_rfl) (by kernel_rfl) (by kernel_rfl) (fun _ _ _ h => h) (Or.inl ⟨by rfl, ?_⟩) (by assumption) ?_
    rotate_left
    · (intro w hSw; (try dsimp only at hSw); go_simp; try (with_reducible rfl))
    try simp only [Act.put, List.getElem_toArray, List.getElem_cons_zero, List.getElem_cons_succ, List.setIfInBounds_toArray, List.set_cons_zero, List.set_cons_succ]
    refine wpAnyH_ready (rs := [3]) (by kernel_rfl) (by simp) ?_
    refine (AllReadyH.cons rfl (fun K hK => ?_) AllReadyH.nil)
    · refine step_call rfl 34 #[.int .i64 op.a, .int .i64 112] (by simp [go_sem]) (ca _).out ?_
      rintro e w2 ⟨rfl, rfl⟩
      refine ⟨_, rfl, ?_⟩
      refine hK.out _ _ ?_ (fun hHeld => ?_)
      · (first | with_reducible exact zS | (simp [zS, hpx, hxp, go_sem]; done) | trace_state)
      clear hK K
      try simp only [Act.put, List.getElem_toArray, List.getElem_cons_zero, List.getElem_cons_succ, List.setIfInBounds_toArray, List.set_cons_zero, List.set_cons_succ]
      refine wpAnyH_ready (rs := [6]) (by kernel_rfl) (by simp) ?_
      refine (AllReadyH.cons rfl (fun K hK => ?_) AllReadyH.nil)
      · refine step_call rfl 42 #[.int .i64 op.b, .int .i64 (-1048576), .int .i64 1048576] (by simp [go_sem]) (hold_any _ _ _ _) ?_
        rintro e w2 ⟨rfl, rfl⟩
        refine ⟨_, rfl, ?_⟩
        refine hK.out _ _ ?_ (fun hHeld => ?_)
        · (first | with_reducible exact zS | (simp [zS, hpx, hxp, go_sem]; done) | trace_state)
        clear hK K
        try simp only [Act.put, List.getElem_toArray, List.getElem_cons_zero, List.getElem_cons_succ, List.setIfInBounds_toArray, List.set_cons_zero, List.set_cons_succ]
        refine wpAnyH_ready (rs := [9]) (by kernel_rfl) (by simp) ?_
        refine (AllReadyH.cons rfl (fun K hK => ?_) AllReadyH.nil)
        · refine step_call rfl 42 #[.int .i64 op.c, .int .i64 (-1048576), .int .i64 1048576] (by simp [go_sem]) (hold_any _ _ _ _) ?_
          rintro e w2 ⟨rfl, rfl⟩
          refine ⟨_, rfl, ?_⟩
          refine hK.out _ _ ?_ (fun hHeld => ?_)
          · (first | with_reducible exact zS | (simp [zS, hpx, hxp, go_sem]; done) | trace_state)
          clear hK K
          try simp only [Act.put, List.getElem_toArray, List.getElem_cons_zero, List.getElem_cons_succ, List.setIfInBounds_toArray, List.set_cons_zero, List.set_cons_succ]
          refine wpAnyH_ready (rs := [12]) (by kernel_rfl) (by simp) ?_
          refine (AllReadyH.cons rfl (fun K hK => ?_) AllReadyH.nil)
          · refine step_call rfl 34 #[.int .i64 op.d, .int .i64 4096] (by simp [go_sem]) (cd _).out ?_
            rintro e w2 ⟨rfl, rfl⟩
            refine ⟨_, rfl, ?_⟩
            refine hK.out _ _ ?_ (fun hHeld => ?_)
            · (first | with_reducible exact zS | (simp [zS, hpx, hxp, go_sem]; done) | trace_state)
            clear hK K
            try simp only [Act.put, List.getElem_toArray, List.getElem_cons_zero, List.getElem_cons_succ, List.setIfInBounds_toArray, List.set_cons_zero, List.set_cons_succ]
            refine wpAnyH_ready (rs := [15]) (by kernel_rfl) (by simp) ?_
            refine (AllReadyH.cons rfl (fun K hK => ?_) AllReadyH.nil)
            · refine step_call rfl 42 #[.int .i64 op.e, .int .i64 0, .int .i64 2000] (by simp [go_sem]) (hold_any _ _ _ _) ?_
              rintro e w2 ⟨rfl, rfl⟩
              refine ⟨_, rfl, ?_⟩
              refine hK.out _ _ ?_ (fun hHeld => ?_)
              · (first | with_reducible exact zS | (simp [zS, hpx, hxp, go_sem]; done) | trace_state)
              clear hK K
              try simp only [Act.put, List.getElem_toArray, List.getElem_cons_zero, List.getElem_cons_succ, List.setIfInBounds_toArray, List.set_cons_zero, List.set_cons_succ]
              refine wpAnyH_take (i := 16) (v := ?_) rfl (by kernel_rfl) (by kernel_rfl) (by kernel_rfl) (fun _ _ _ h => h) (Or.inl ⟨by rfl, ?_⟩) (by assumption) ?_
              rotate_left
              · (intro w hSw; (try dsimp only at hSw); go_simp; try (with_reducible rfl))
              try simp only [Act.put, List.getElem_toArray, List.getElem_cons_zero, List.getElem_cons_succ, List.setIfInBounds_toArray, List.set_cons_zero, List.set_cons_succ]
              refine wpAnyH_take (i := 19) (v := ?_) rfl (by kernel_rfl) (by kernel_rfl) (by kernel_rfl) (fun _ _ _ h => h) (Or.inl ⟨by rfl, ?_⟩) (by assumption) ?_
              rotate_left
              · (intro w hSw; (try dsimp only at hSw); go_simp; try (with_reducible rfl))
              try simp only [Act.put, List.getElem_toArray, List.getElem_cons_zero, List.getElem_cons_succ, List.setIfInBounds_toArray, List.set_cons_zero, List.set_cons_succ]
              refine wpAnyH_ready (rs := [20]) (by kernel_rfl) (by simp) ?_
              refine (AllReadyH.cons rfl (fun K hK => ?_) AllReadyH.nil)
              · go_simp
                refine hK.out _ _ ?_ (fun hHeld => ?_)
                · (first | with_reducible exact zS | (simp [zS, hpx, hxp, go_sem]; done) | trace_state)
                clear hK K
                try simp only [Act.put, List.getElem_toArray, List.getElem_cons_zero, List.getElem_cons_succ, List.setIfInBounds_toArray, List.set_cons_zero, List.set_cons_succ]
                refine wpAnyH_done (by kernel_rfl) ?_ _
                clear zS o0 o1 o2 o3 o4 o5 c0 c1 c2 c3 f0 f1 f2 f3 ca cd
                rw [show ((((w1.setCell ⟨p, t * 4, none⟩ (.int .i64 (holdP op.b (-1048576) 1048576))).setCell ⟨p, t * 4 + 1, none⟩ (.int .i64 (holdP op.c (-1048576) 1048576))).setCell ⟨p, t * 4 + 2, none⟩ (.int .i64 (op.d % 4096))).setCell ⟨p, t * 4 + 3, none⟩ (.int .i64 (holdP op.e 0 2000))) = w1.setCells p (t * 4) (Tgt.vals ⟨holdP op.b (-1048576) 1048576, holdP op.c (-1048576) 1048576, op.d % 4096, holdP op.e 0 2000⟩) from rfl]
                obtain ⟨r1, r2⟩ := HW.out.fill htl ⟨holdP op.b (-1048576) 1048576, holdP op.c (-1048576) 1048576, op.d % 4096, holdP op.e 0 2000⟩
                have H2 := hide r1.drew
                have H3 := hide (HF.out.trans r2.drew)
                generalize (w1.setCells p (t * 4) (Tgt.vals ⟨holdP op.b (-1048576) 1048576, holdP op.c (-1048576) 1048576, op.d % 4096, holdP op.e 0 2000⟩)).drew = w2 at *
                clear r1 r2
                go_wp2
                exact bodyPost_ret (v := .tuple #[]) (by simp [results, Try.results18, go_sem]) rfl ⟨rfl, by rw [HX.out]; exact H2.out, H3.out⟩
  · have hkb : (op.kd != 0) = true := by simp [hk]
    have HX := hide (show wstP W op = W by unfold wstP; rw [if_neg hk])
    clear hk
    go_wp2
    exact bodyPost_ret (v := .tuple #[]) (by simp [results, Try.results18, go_sem]) rfl ⟨rfl, by rw [HX.out]; exact HW.out, HF.out⟩
def pz : List Value := List.replicate 1792 (.int .i64 0)
theorem pz_eq : Try.zeroCells90.toList = pz := by rw [Try.z90, Array.toList_replicate]; rfl
theorem PA.clear {w : World} {q : Nat} {G : Nat → Int} (h : PA w q G) : (storeCells ⟨q, 0, none⟩ Try.zeroCells90.toList 0).run Try.prog w = .ok () (w.setCells q 0 pz) ∧ PA (w.setCells q 0 pz) q (fun _ => 0) ∧ Fr q 0 1792 w (w.setCells q 0 pz) := by
  have hl : pz.length = 1792 := by unfold pz; exact List.length_replicate
  rw [pz_eq]
  refine ⟨?_, ⟨fun i hi => ?_, fun j => by rw [World.frozen?_setCells]; exact h.f j⟩, Fr.sets pz _ _ (Fr.refl _ _ _ _) (Nat.le_refl _) (by rw [hl]; omega)⟩
  · refine run_storeCells_cells q 0 pz 0 w (fun j hj => ?_) (fun j _ => h.f _) (fun v hv => ?_)
    · rw [Nat.add_zero, Nat.zero_add, h.c j (by omega)]; rfl
    · unfold pz at hv
      rw [List.eq_of_mem_replicate hv]; rfl
  · have := World.cell?_setCells_in q pz 0 w (fun j hj => by rw [Nat.zero_add, h.c j (by omega)]; rfl) i (by omega)
    rw [Nat.zero_add] at this
    rw [this]
    simp only [pz, List.getElem_replicate]
set_option linter.unusedSimpArgs false in
set_option maxRecDepth 100000 in
set_option maxHeartbeats 4000000 in
/-- sensorsm.Pending.Step -/
theorem stepP_any (w : World) (q : Nat) (G : Nat → Int) (h : PA w q G) (op : Opn) (ho : OpnOk op) :
    Calls Try.prog 26 #[.pointer (some ⟨q, 0, none⟩), .agg #[.int .i64 op.kd, .int .i64 op.a, .int .i64 op.b, .int .i64 op.c, .int .i64 op.d, .int .i64 op.e, .int .i64 op.on]] w (PStPost w q (pstP G op)) := by
  have HW := hide (h.below (be1 w (.cells #[.int .i64 op.kd, .int .i64 op.a, .int .i64 op.b, .int .i64 op.c, .int .i64 op.d, .int .i64 op.e, .int .i64 op.on] 37)))
  have HF := hide (Fr.of (lo := 0) (n := 1792) h.lt (be1 w (.cells #[.int .i64 op.kd, .int .i64 op.a, .int .i64 op.b, .int .i64 op.c, .int .i64 op.d, .int .i64 op.e, .int .i64 op.on] 37)))
  have zC : ∀ j v, op.vals[j]? = some v → (w.alloc (.cells #[.int .i64 op.kd, .int .i64 op.a, .int .i64 op.b, .int .i64 op.c, .int .i64 op.d, .int .i64 op.e, .int .i64 op.on] 37)).cell? ⟨w.heap.size, j, none⟩ = some v := fun j v hv => by
    have := new_cells w op.vals 37 j v hv
    rw [Addr.add_mid, Nat.zero_add] at this
    exact this
  have HO := hide ho
  have hql := h.lt
  clear h ho
  go_enter Try.func26, Try.ntmps26
  go_upto_region 1 with fail
  generalize w.alloc (.cells #[.int .i64 op.kd, .int .i64 op.a, .int .i64 op.b, .int .i64 op.c, .int .i64 op.d, .int .i64 op.e, .int .i64 op.on] 37) = w1 at *
  obtain ⟨x, hx⟩ : ∃ x, w.heap.size = x := ⟨_, rfl⟩
  rw [hx] at zC hql ⊢
  clear hx
  have hpx : q ≠ x := by omega
  have hxp : x ≠ q := by omega
  have o0 := zC 0 _ rfl
  have o1 := zC 1 _ rfl
  have o2 := zC 2 _ rfl
  have o3 := zC 3 _ rfl
  have o4 := zC 4 _ rfl
  clear zC
  by_cases hk : op.kd = 1
  · have hkb : (op.kd == 1) = true := by simp [hk]
    have hkb2 : (op.kd == 2) = false := by simp [hk]
    obtain ⟨a, ha⟩ : ∃ t : Nat, op.a % 4 = t := ⟨(op.a % 4).toNat, by omega⟩
    obtain ⟨b, hb⟩ : ∃ t : Nat, op.b % 112 = t := ⟨(op.b % 112).toNat, by omega⟩
    obtain ⟨c, hc⟩ : ∃ t : Nat, op.c % 4 = t := ⟨(op.c % 4).toNat, by omega⟩
    have hal : a < 4 := by omega
    have hbl : b < 112 := by omega
    have hcl : c < 4 := by omega
    have hali : (a : Int) < 4 := by omega
    have hbli : (b : Int) < 112 := by omega
    have hcli : (c : Int) < 4 := by omega
    have HX := hide (show pstP G op = upd G (a * 448 + b * 4 + c) (op.d % 4) by unfold pstP; rw [if_pos hk, ha, hb, hc, Int.toNat_natCast, Int.toNat_natCast, Int.toNat_natCast])
    have ca := fun w => hide (show Calls Try.prog 34 #[.int .i64 op.a, .int .i64 4] w (fun e w' => e = .returned (.int .i64 (a : Int)) ∧ w' = w) by have := wrap_any w op.a 4 (by omega) (by omega) HO.out.a.1 HO.out.a.2; rw [ha] at this; exact this)
    have cb := fun w => hide (show Calls Try.prog 34 #[.int .i64 op.b, .int .i64 112] w (fun e w' => e = .returned (.int .i64 (b : Int)) ∧ w' = w) by have := wrap_any w op.b 112 (by omega) (by omega) HO.out.b.1 HO.out.b.2; rw [hb] at this; exact this)
    have cc := fun w => hide (show Calls Try.prog 34 #[.int .i64 op.c, .int .i64 4] w (fun e w' => e = .returned (.int .i64 (c : Int)) ∧ w' = w) by have := wrap_any w op.c 4 (by omega) (by omega) HO.out.c.1 HO.out.c.2; rw [hc] at this; exact this)
    have cd := fun w => hide (wrap_any w op.d 4 (by omega) (by omega) HO.out.d.1 HO.out.d.2)
    have c0 := HW.out.c (a * 448 + b * 4 + c) (by omega)
    have f0 := HW.out.f (a * 448 + b * 4 + c)
    clear hk ha hb hc
    have zS := And.intro o1 (And.intro o2 (And.intro o3 o4))
    go_upto_region 2 with fail
    refine wp_region_held_drew (S := fun w' => w'.cell? ⟨x, 1, none⟩ = some (.int .i64 op.a) ∧ w'.cell? ⟨x, 2, none⟩ = some (.int .i64 op.b) ∧ w'.cell? ⟨x, 3, none⟩ = some (.int .i64 op.c) ∧ w'.cell? ⟨x, 4, none⟩ = some (.int .i64 op.d)) (by kernel_rfl) zS (fun hHeld => ?_)
    refine wpAnyH_take (i := 0) (v := ?_) rfl (by kernel_rfl) (by kernel_rfl) (by kernel_rfl) (fun _ _ _ h => h) (Or.inl ⟨by rfl, ?_⟩) (by assumption) ?_
    rotate_left
    · (intro w hSw; (try dsimp only at hSw); go_simp; try (with_reducible rfl))
    try simp only [Act.put, List.getElem_toArray, List.getElem_cons_zero, List.getElem_cons_succ, List.setIfInBounds_toArray, List.set_cons_zero, List.set_cons_succ]
    refine wpAnyH_take (i := 1) (v := ?_) rfl (by kernel_rfl) (by kernel_rfl) (by kernel_rfl) (fun _ _ _ h => h) (Or.inl ⟨by rfl, ?_⟩) (by assumption) ?_
    rotate_left
    · (intro w hSw; (try dsimp only at hSw); go_simp; try (with_reducible rfl))
    try simp only [Act.put, List.getElem_toArray, List.getElem_cons_zero, List.getElem_cons_succ, List.setIfInBounds_toArray, List.set_cons_zero, List.set_cons_succ]
    refine wpAnyH_take (i := 2) (v := ?_) rfl (by kernel_rfl) (by kernel_rfl) (by kernel_rfl) (fun _ _ _ h => h) (Or.inl ⟨by rfl, ?_⟩) (by assumption) ?_
    rotate_left
    · (intro w hSw; (try dsimp only at hSw); go_simp; try (with_reducible rfl))
    try simp only [Act.put, List.getElem_toArray, List.getElem_cons_zero, List.getElem_cons_succ, List.setIfInBounds_toArray, List.set_cons_zero, List.set_cons_succ]
    refine wpAnyH_take (i := 4) (v := ?_) rfl (by kernel_rfl) (by kernel_rfl) (by kernel_rfl) (fun _ _ _ h => h) (Or.inl ⟨by rfl, ?_⟩) (by assumption) ?_
    rotate_left
    · (intro w hSw; (try dsimp only at hSw); go_simp; try (with_reducible rfl))
    try simp only [Act.put, List.getElem_toArray, List.getElem_cons_zero, List.getElem_cons_succ, List.setIfInBounds_toArray, List.set_cons_zero, List.set_cons_succ]
    refine wpAnyH_take (i := 5) (v := ?_) rfl (by kernel_rfl) (by kernel_rfl) (by kernel_rfl) (fun _ _ _ h => h) (Or.inl ⟨by rfl, ?_⟩) (by assumption) ?_
    rotate_left
    · (intro w hSw; (try dsimp only at hSw); go_simp; try (with_reducible rfl))
    try simp only [Act.put, List.getElem_toArray, List.getElem_cons_zero, List.getElem_cons_succ, List.setIfInBounds_toArray, List.set_cons_zero, List.set_cons_succ]
    refine wpAnyH_take (i := 7) (v := ?_) rfl (by kernel_rfl) (by kernel_rfl) (by kernel_rfl) (fun _ _ _ h => h) (Or.inl ⟨by rfl, ?_⟩) (by assumption) ?_
    rotate_left
    · (intro w hSw; (try dsimp only at hSw); go_simp; try (with_reducible rfl))
    try simp only [Act.put, List.getElem_toArray, List.getElem_cons_zero, List.getElem_cons_succ, List.setIfInBounds_toArray, List.set_cons_zero, List.set_cons_succ]
    refine wpAnyH_take (i := 8) (v := ?_) rfl (by kernel_rfl) (by kernel_rfl) (by kernel_rfl) (fun _ _ _ h => h) (Or.inl ⟨by rfl, ?_⟩) (by assumption) ?_
    rotate_left
    · (intro w hSw; (try dsimp only at hSw); go_simp; try (with_reducible rfl))
    try simp only [Act.put, List.getElem_toArray, List.getElem_cons_zero, List.getElem_cons_succ, List.setIfInBounds_toArray, List.set_cons_zero, List.set_cons_succ]
    refine wpAnyH_take (i := 10) (v := ?_) rfl (by kernel_rfl) (by kernel_rfl) (by kernel_rfl) (fun _ _ _ h => h) (Or.inl ⟨by rfl, ?_⟩) (by assumption) ?_
    rotate_left
    · (intro w hSw; (try dsimp only at hSw); go_simp; try (with_reducible rfl))
    try simp only [Act.put, List.getElem_toArray, List.getElem_cons_zero, List.getElem_cons_succ, List.setIfInBounds_toArray, List.set_cons_zero, List.set_cons_succ]
    refine wpAnyH_take (i := 11) (v := ?_) rfl (by kernel_rfl) (by kernel_rfl) (by kernel_rfl) (fun _ _ _ h => h) (Or.inl ⟨by rfl, ?_⟩) (by assumption) ?_
    rotate_left
    · (intro w hSw; (try dsimp only at hSw); go_simp; try (with_reducible rfl))
    try simp only [Act.put, List.getElem_toArray, List.getElem_cons_zero, List.getElem_cons_succ, List.setIfInBounds_toArray, List.set_cons_zero, List.set_cons_succ]
    refine wpAnyH_take (i := 13) (v := ?_) rfl (by kernel_rfl) (by kernel_rfl) (by kernel_rfl) (fun _ _ _ h => h) (Or.inl ⟨by rfl, ?_⟩) (by assumption) ?_
    rotate_left
    · (intro w hSw; (try dsimp only at hSw); go_simp; try (with_reducible rfl))
    try simp only [Act.put, List.getElem_toArray, List.getElem_cons_zero, List.getElem_cons_succ, List.setIfInBounds_toArray, List.set_cons_zero, List.set_cons_succ]
    refine wpAnyH_take (i := 14) (v := ?_) rfl (by kernel_rfl) (by kernel_rfl) (by kernel_rfl) (fun _ _ _ h => h) (Or.inl ⟨by rfl, ?_⟩) (by assumption) ?_
    rotate_left
    · (intro w hSw; (try dsimp only at hSw); go_simp; try (with_reducible rfl))
    try simp only [Act.put, List.getElem_toArray, List.getElem_cons_zero, List.getElem_cons_succ, List.setIfInBounds_toArray, List.set_cons_zero, List.set_cons_succ]
    refine wpAnyH_ready (rs := [3]) (by kernel_rfl) (by simp) ?_
    refine (AllReadyH.cons rfl (fun K hK => ?_) AllReadyH.nil)
    · refine step_call rfl 34 #[.int .i64 op.a, .int .i64 4] (by simp [go_sem]) (ca _).out ?_
      rintro e w2 ⟨rfl, rfl⟩
      refine ⟨_, rfl, ?_⟩
      refine hK.out _ _ ?_ (fun hHeld => ?_)
      · (first | with_reducible exact zS | (simp [zS, hpx, hxp, go_sem]; done) | trace_state)
      clear hK K
      try simp only [Act.put, List.getElem_toArray, List.getElem_cons_zero, List.getElem_cons_succ, List.setIfInBounds_toArray, List.set_cons_zero, List.set_cons_succ]
      refine wpAnyH_take (i := 15) (v := ?_) rfl (by kernel_rfl) (by kernel_rfl) (by kernel_rfl) (fun _ _ _ h => h) (Or.inl ⟨by rfl, ?_⟩) (by assumption) ?_
      rotate_left
      · (intro w hSw; (try dsimp only at hSw); go_simp; try (with_reducible rfl))
      try simp only [Act.put, List.getElem_toArray, List.getElem_cons_zero, List.getElem_cons_succ, List.setIfInBounds_toArray, List.set_cons_zero, List.set_cons_succ]
      refine wpAnyH_ready (rs := [6]) (by kernel_rfl) (by simp) ?_
      refine (AllReadyH.cons rfl (fun K hK => ?_) AllReadyH.nil)
      · refine step_call rfl 34 #[.int .i64 op.b, .int .i64 112] (by simp [go_sem]) (cb _).out ?_
        rintro e w2 ⟨rfl, rfl⟩
        refine ⟨_, rfl, ?_⟩
        refine hK.out _ _ ?_ (fun hHeld => ?_)
        · (first | with_reducible exact zS | (simp [zS, hpx, hxp, go_sem]; done) | trace_state)
        clear hK K
        try simp only [Act.put, List.getElem_toArray, List.getElem_cons_zero, List.getElem_cons_succ, List.setIfInBounds_toArray, List.set_cons_zero, List.set_cons_succ]
        refine wpAnyH_take (i := 16) (v := ?_) rfl (by kernel_rfl) (by kernel_rfl) (by kernel_rfl) (fun _ _ _ h => h) (Or.inl ⟨by rfl, ?_⟩) (by assumption) ?_
        rotate_left
        · (intro w hSw; (try dsimp only at hSw); go_simp; try (with_reducible rfl))
        try simp only [Act.put, List.getElem_toArray, List.getElem_cons_zero, List.getElem_cons_succ, List.setIfInBounds_toArray, List.set_cons_zero, List.set_cons_succ]
        refine wpAnyH_ready (rs := [9]) (by kernel_rfl) (by simp) ?_
        refine (AllReadyH.cons rfl (fun K hK => ?_) AllReadyH.nil)
        · refine step_call rfl 34 #[.int .i64 op.c, .int .i64 4] (by simp [go_sem]) (cc _).out ?_
          rintro e w2 ⟨rfl, rfl⟩
          refine ⟨_, rfl, ?_⟩
          refine hK.out _ _ ?_ (fun hHeld => ?_)
          · (first | with_reducible exact zS | (simp [zS, hpx, hxp, go_sem]; done) | trace_state)
          clear hK K
          try simp only [Act.put, List.getElem_toArray, List.getElem_cons_zero, List.getElem_cons_succ, List.setIfInBounds_toArray, List.set_cons_zero, List.set_cons_succ]
          refine wpAnyH_ready (rs := [12]) (by kernel_rfl) (by simp) ?_
          refine (AllReadyH.cons rfl (fun K hK => ?_) AllReadyH.nil)
          · refine step_call rfl 34 #[.int .i64 op.d, .int .i64 4] (by simp [go_sem]) (cd _).out ?_
            rintro e w2 ⟨rfl, rfl⟩
            refine ⟨_, rfl, ?_⟩
            refine hK.out _ _ ?_ (fun hHeld => ?_)
            · (first | with_reducible exact zS | (simp [zS, hpx, hxp, go_sem]; done) | trace_state)
            clear hK K
            try simp only [Act.put, List.getElem_toArray, List.getElem_cons_zero, List.getElem_cons_succ, List.setIfInBounds_toArray, List.set_cons_zero, List.set_cons_succ]
            refine wpAnyH_take (i := 17) (v := ?_) rfl (by kernel_rfl) (by kernel_rfl) (by kernel_rfl) (fun _ _ _ h => h) (Or.inl ⟨by rfl, ?_⟩) (by assumption) ?_
            rotate_left
            · (intro w hSw; (try dsimp only at hSw); go_simp; try (with_reducible rfl))
            try simp only [Act.put, List.getElem_toArray, List.getElem_cons_zero, List.getElem_cons_succ, List.setIfInBounds_toArray, List.set_cons_zero, List.set_cons_succ]
            refine wpAnyH_ready (rs := [18]) (by kernel_rfl) (by simp) ?_
            refine (AllReadyH.cons rfl (fun K hK => ?_) AllReadyH.nil)
            · go_simp
              refine hK.out _ _ ?_ (fun hHeld => ?_)
              · (first | with_reducible exact zS | (simp [zS, hpx, hxp, go_sem]; done) | trace_state)
              clear hK K
              try simp only [Act.put, List.getElem_toArray, List.getElem_cons_zero, List.getElem_cons_succ, List.setIfInBounds_toArray, List.set_cons_zero, List.set_cons_succ]
              refine wpAnyH_done (by kernel_rfl) ?_ _
              clear zS o1 o2 o3 o4 ca cb cc cd c0 f0
              replace o0 := (((Fr.refl q 0 1792 w1).set (j := a * 448 + b * 4 + c) (by omega) (by omega) (.int .i64 (op.d % 4))).drew).ex.cell hxp o0
              have H2 := hide ((HW.out.set (i := a * 448 + b * 4 + c) (by omega) (op.d % 4)).drew)
              have H3 := hide ((HF.out.set (j := a * 448 + b * 4 + c) (by omega) (by omega) (.int .i64 (op.d % 4))).drew)
              generalize (w1.setCell ⟨q, a * 448 + b * 4 + c, none⟩ (.int .i64 (op.d % 4))).drew = w2 at *
              go_wp2
              exact bodyPost_ret (v := .tuple #[]) (by simp [results, Try.results26, go_sem]) rfl ⟨rfl, by rw [HX.out]; exact H2.out, H3.out⟩
  · have hkb : (op.kd == 1) = false := by simp [hk]
    by_cases hk2 : op.kd = 2
    · have hkb2 : (op.kd == 2) = true := by simp [hk2]
      have HX := hide (show pstP G op = (fun _ => 0) by unfold pstP; rw [if_neg hk, if_pos hk2])
      clear hk hk2
      go_upto_region 4 with fail
      go_wp2_with fail
      obtain ⟨r1, r2, r3⟩ := HW.out.clear
      rw [r1]
      simp only [Result.andThen]
      rw [Oper.upon_skip]
      have H2 := hide r2
      have H3 := hide (HF.out.trans r3)
      generalize w1.setCells q 0 pz = w2 at *
      clear r1 r2 r3
      go_wp2
      exact bodyPost_ret (v := .tuple #[]) (by simp [results, Try.results26, go_sem]) rfl ⟨rfl, by rw [HX.out]; exact H2.out, H3.out⟩
    · have hkb2 : (op.kd == 2) = false := by simp [hk2]
      have HX := hide (show pstP G op = G by unfold pstP; rw [if_neg hk, if_neg hk2])
      clear hk hk2
      go_wp2
      exact bodyPost_ret (v := .tuple #[]) (by simp [results, Try.results26, go_sem]) rfl ⟨rfl, by rw [HX.out]; exact HW.out, HF.out⟩
end Go.Proofs.Qxb6500777a
