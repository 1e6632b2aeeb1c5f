import Derived.Test.Qxb6500773aGreatSc5
import Derived.Deep.AppendLies
import Derived.Deep.OwnRows
namespace Go.Proofs.Qxb6500773aGreat
set_option maxRecDepth 100000
open Go.RowKit

/-! ### Rows that the program owns -/
theorem Tryz.info64 : (Tryz.prog.info? 64).map (fun i => (i.zero, i.size, i.bytes)) = some (some (.int .i32 0), 1, 4) := by kernel_rfl
theorem Tryz.info3 : (Tryz.prog.info? 3).map (fun i => (i.zero, i.size, i.bytes)) = some (some (.int .i64 0), 1, 8) := by kernel_rfl
theorem Tryz.info4 : (Tryz.prog.info? 4).map (fun i => (i.zero, i.size, i.bytes)) = some (some (.bool false), 1, 1) := by kernel_rfl
theorem Tryz.info5 : (Tryz.prog.info? 5).map (fun i => (i.zero, i.size, i.bytes)) = some (some (.int .u8 0), 1, 1) := by kernel_rfl
theorem info_of {P : Program} {e : TypeId} {z : Value} {s b : Nat} (h : (P.info? e).map (fun i => (i.zero, i.size, i.bytes)) = some (some z, s, b)) : ∃ i0, P.info? e = some i0 ∧ i0.zero = some z ∧ i0.size = s ∧ i0.bytes = b := by
  obtain ⟨i, hi, hzz⟩ := Option.map_eq_some_iff.1 h
  simp only [Prod.mk.injEq] at hzz
  exact ⟨i, hi, hzz.1, hzz.2.1, hzz.2.2⟩
theorem row_cell {w : World} {B e n : Nat} {v : Value} {xs : List Value} (h : w.ownsRow B e 1 v n xs) {i : Nat} {u : Value} (hu : xs[i]? = some u) : ∃ g c, v = .slice (some ⟨g, 0, none⟩) n c ∧ w.cell? ⟨g, i, none⟩ = some u ∧ i < n := by
  have hl := (List.getElem?_eq_some_iff.1 hu).1
  rcases h.2 with ⟨rfl, rfl⟩ | ⟨g, c, cur, rfl, hb, hg, h1, h2, h3, h4⟩
  · rw [h.1] at hl; omega
  · refine ⟨g, c, rfl, ?_, by rw [h.1] at hl; omega⟩
    rw [cell_of_row w g i cur e (0, 0) hg]
    rw [← h4] at hu
    rw [List.getElem?_take_of_lt (by rw [h.1] at hl; omega)] at hu
    simpa using hu
theorem own_far {w : World} {B e s n : Nat} {v : Value} {xs : List Value} (h : w.ownsRow B e s v n xs) {k : Nat} (hk : w.heap.size ≤ k) : v.ownBlock ≠ some k := fun z => by
  have := (h.lt k z).2
  omega
/-- The arena at block b from cell o on: literals, ends. -/
structure AR (w : World) (B b o : Nat) (va ve : Value) (L E : List Int) : Prop where
  c0 : w.cell? ⟨b, o, none⟩ = some va
  c1 : w.cell? ⟨b, o + 1, none⟩ = some ve
  f : ∀ j, w.frozen? ⟨b, j, none⟩ = false
  r0 : w.ownsRow B 64 1 va L.length (L.map (Value.int .i32))
  r1 : w.ownsRow B 3 1 ve E.length (E.map (Value.int .i64))
  a0 : va.ownBlock ≠ some b
  a1 : ve.ownBlock ≠ some b
  a2 : ∀ k, va.ownBlock = some k → ve.ownBlock ≠ some k
section
variable {w w' : World} {B b o : Nat} {va ve : Value} {L E : List Int}
theorem AR.lt (h : AR w B b o va ve L E) : b < w.heap.size := World.block_lt_of_cell? _ _ h.c0
theorem AR.keep (h : AR w B b o va ve L E) {S : Nat → Prop} (k : Ex S w w') (h1 : ¬ S b) (h2 : ∀ j, va.ownBlock = some j → ¬ S j) (h3 : ∀ j, ve.ownBlock = some j → ¬ S j) : AR w' B b o va ve L E :=
  ⟨k.cell h1 h.c0, k.cell h1 h.c1, fun j => (k.frozen h1 h.lt).trans (h.f j), own_kept h.r0 k h2, own_kept h.r1 k h3, h.a0, h.a1, h.a2⟩
theorem AR.below (h : AR w B b o va ve L E) (k : Below w.heap.size w w') : AR w' B b o va ve L E := h.keep (Ex.of (S := fun _ => False) k) (fun e => e) (fun _ _ e => e) (fun _ _ e => e)
end
/-- The end of the last finished clause. -/
def clsP (E : List Int) : Int := E.getLast?.getD 0
set_option maxHeartbeats 2000000 in
/-- cnf.arena.count -/
theorem count_any (w : World) (B b o : Nat) (va ve : Value) (L E : List Int) (h : AR w B b o va ve L E) :
    Calls Tryz.prog 122 #[.pointer (some ⟨b, o, none⟩)] w fun e w' => e = .returned (.int .i64 E.length) ∧ w' = w := by
  have c1 := h.c1
  obtain ⟨a, c, rfl⟩ := own_form h.r1
  clear h
  go_enter Tryz.func122, Tryz.ntmps122
  go_wp2
  go_ret
  exact ⟨rfl, rfl⟩
set_option linter.unusedSimpArgs false in
set_option maxHeartbeats 2000000 in
/-- cnf.arena.closed -/
theorem closed_any (w : World) (B b o : Nat) (va ve : Value) (L E : List Int) (h : AR w B b o va ve L E) (hE : E.length ≤ 4611686018427387904) :
    Calls Tryz.prog 154 #[.pointer (some ⟨b, o, none⟩)] w fun e w' => e = .returned (.int .i64 (clsP E)) ∧ Below w.heap.size w w' := by
  have c1 := h.c1
  have HR := hide h.r1
  obtain ⟨a, c, rfl⟩ := own_form h.r1
  clear h
  by_cases h0 : E.length = 0
  · have h0b : ((E.length : Int) == 0) = true := by rw [beq_iff_eq]; omega
    obtain rfl : E = [] := List.length_eq_zero_iff.1 h0
    clear h0
    go_enter Tryz.func154, Tryz.ntmps154
    go_wp2
    go_ret
    exact ⟨rfl, Below.refl _ _⟩
  · have h0b : ((E.length : Int) == 0) = false := by rw [beq_eq_false_iff_ne]; omega
    have HX := hide (show E[E.length - 1]? = some (clsP E) by
      unfold clsP
      rw [List.getLast?_eq_getElem?]
      rw [List.getElem?_eq_getElem (by omega)]
      rfl)
    obtain ⟨g, c', e1, hc, hi⟩ := row_cell HR.out (i := E.length - 1) (u := .int .i64 (clsP E)) (by rw [List.getElem?_map, HX.out]; rfl)
    cases e1
    clear HX
    obtain ⟨m, hm⟩ : ∃ m, E.length = m + 1 := ⟨E.length - 1, by omega⟩
    rw [hm] at c1 h0b HR hE
    rw [hm, Nat.add_sub_cancel] at hc
    have w1 : IntKind.i64.wrap (((m + 1 : Nat) : Int) - 1) = (m : Int) := by rw [IntKind.wrap_i64]; omega
    have w2 : decide ((m : Int) < 0) = false := by simp
    have w3 : (m : Int) < ((m + 1 : Nat) : Int) := by omega
    clear hm hi h0 HR
    go_enter Tryz.func154, Tryz.ntmps154
    go_upto_region 3 with fail
    go_quiet (fail)
    rename_i nq
    go_wp2
    go_ret
    exact ⟨rfl, belN _ nq⟩
set_option linter.unusedSimpArgs false in
set_option maxHeartbeats 2000000 in
/-- cnf.arena.pending -/
theorem pending_any (w : World) (B b o : Nat) (va ve : Value) (L E : List Int) (h : AR w B b o va ve L E) (hE : E.length ≤ 4611686018427387904) :
    Calls Tryz.prog 121 #[.pointer (some ⟨b, o, none⟩)] w fun e w' => e = .returned (.bool (decide (clsP E < L.length))) ∧ Below w.heap.size w w' := by
  have HA := hide h
  have c0 := h.c0
  obtain ⟨a, c, rfl⟩ := own_form h.r0
  clear h
  have cc := fun w2 (k : Below w.heap.size w w2) => hide (closed_any w2 B b o _ ve L E (HA.out.below k) hE)
  go_enter Tryz.func121, Tryz.ntmps121
  go_upto_region 1 with fail
  refine wp_region_held_drew (S := fun w' => w'.cell? ⟨b, o, none⟩ = some (.slice a L.length c)) (by kernel_rfl) c0 (fun hHeld => ?_)
  refine wpAnyH_take (i := 0) (v := ?_) rfl (by kernel_rfl) (by kernel_rfl) (by kernel_rfl) (fun _ _ _ h => h) (Or.inl ⟨by rfl, ?_⟩) (by assumption) ?_
  rotate_left
  · (intro w hSw; (try dsimp only at hSw); go_simp; try (with_reducible rfl))
  try simp only [Act.put, List.getElem_toArray, List.getElem_cons_zero, List.getElem_cons_succ, List.setIfInBounds_toArray, List.set_cons_zero, List.set_cons_succ]
  refine wpAnyH_take (i := 1) (v := ?_) rfl (by kernel_rfl) (by kernel_rfl) (by kernel_rfl) (fun _ _ _ h => h) (Or.inl ⟨by rfl, ?_⟩) (by assumption) ?_
  rotate_left
  · (intro w hSw; (try dsimp only at hSw); go_simp; try (with_reducible rfl))
  try simp only [Act.put, List.getElem_toArray, List.getElem_cons_zero, List.getElem_cons_succ, List.setIfInBounds_toArray, List.set_cons_zero, List.set_cons_succ]
  refine wpAnyH_take (i := 2) (v := ?_) rfl (by kernel_rfl) (by kernel_rfl) (by kernel_rfl) (fun _ _ _ h => h) (Or.inl ⟨by rfl, ?_⟩) (by assumption) ?_
  rotate_left
  · (intro w hSw; (try dsimp only at hSw); go_simp; try (with_reducible rfl))
  try simp only [Act.put, List.getElem_toArray, List.getElem_cons_zero, List.getElem_cons_succ, List.setIfInBounds_toArray, List.set_cons_zero, List.set_cons_succ]
  refine wpAnyH_take (i := 3) (v := ?_) rfl (by kernel_rfl) (by kernel_rfl) (by kernel_rfl) (fun _ _ _ h => h) (Or.inl ⟨by rfl, ?_⟩) (by assumption) ?_
  rotate_left
  · (intro w hSw; (try dsimp only at hSw); go_simp; try (with_reducible rfl))
  try simp only [Act.put, List.getElem_toArray, List.getElem_cons_zero, List.getElem_cons_succ, List.setIfInBounds_toArray, List.set_cons_zero, List.set_cons_succ]
  refine wpAnyH_take (i := 4) (v := ?_) rfl (by kernel_rfl) (by kernel_rfl) (by kernel_rfl) (fun _ _ _ h => h) (Or.inl ⟨by rfl, ?_⟩) (by assumption) ?_
  rotate_left
  · (intro w hSw; (try dsimp only at hSw); go_simp; try (with_reducible rfl))
  try simp only [Act.put, List.getElem_toArray, List.getElem_cons_zero, List.getElem_cons_succ, List.setIfInBounds_toArray, List.set_cons_zero, List.set_cons_succ]
  refine wpAnyH_take (i := 5) (v := ?_) rfl (by kernel_rfl) (by kernel_rfl) (by kernel_rfl) (fun _ _ _ h => h) (Or.inl ⟨by rfl, ?_⟩) (by assumption) ?_
  rotate_left
  · (intro w hSw; (try dsimp only at hSw); go_simp; try (with_reducible rfl))
  try simp only [Act.put, List.getElem_toArray, List.getElem_cons_zero, List.getElem_cons_succ, List.setIfInBounds_toArray, List.set_cons_zero, List.set_cons_succ]
  refine wpAnyH_ready (rs := [6]) (by kernel_rfl) (by simp) ?_
  refine (AllReadyH.cons rfl (fun K hK => ?_) AllReadyH.nil)
  · refine step_call rfl 154 #[.pointer (some ⟨b, o, none⟩)] (by simp [go_sem]) (cc _ ((Below.refl _ _).drew)).out ?_
    rintro e w8 ⟨rfl, b8⟩
    replace b8 := of_drew b8
    have zS8 := cellKeep b8 c0
    refine ⟨_, rfl, ?_⟩
    refine hK.out _ _ ?_ (fun hHeld => ?_)
    · (first | with_reducible exact zS8 | exact zS8 | exact c0)
    clear hK K
    try simp only [Act.put, List.getElem_toArray, List.getElem_cons_zero, List.getElem_cons_succ, List.setIfInBounds_toArray, List.set_cons_zero, List.set_cons_succ]
    refine wpAnyH_take (i := 7) (v := ?_) rfl (by kernel_rfl) (by kernel_rfl) (by kernel_rfl) (fun _ _ _ h => h) (Or.inl ⟨by rfl, ?_⟩) (by assumption) ?_
    rotate_left
    · (intro w hSw; (try dsimp only at hSw); go_simp; try (with_reducible rfl))
    try simp only [Act.put, List.getElem_toArray, List.getElem_cons_zero, List.getElem_cons_succ, List.setIfInBounds_toArray, List.set_cons_zero, List.set_cons_succ]
    refine wpAnyH_take (i := 8) (v := ?_) rfl (by kernel_rfl) (by kernel_rfl) (by kernel_rfl) (fun _ _ _ h => h) (Or.inl ⟨by rfl, ?_⟩) (by assumption) ?_
    rotate_left
    · (intro w hSw; (try dsimp only at hSw); go_simp; try (with_reducible rfl))
    try simp only [Act.put, List.getElem_toArray, List.getElem_cons_zero, List.getElem_cons_succ, List.setIfInBounds_toArray, List.set_cons_zero, List.set_cons_succ]
    refine wpAnyH_done (by kernel_rfl) ?_ _
    go_wp2
    go_ret
    exact ⟨rfl, b8⟩
/-- What an append does to the arena's rows. -/
theorem AR.put1 {w w1 w2 : World} {B b o : Nat} {va ve : Value} {L E : List Int} (h : AR w B b o va ve L E) (k1 : Below w.heap.size w w1) {x : Int} {g cap : Nat} (hr : w2.ownsRow B 64 1 (.slice (some ⟨g, 0, none⟩) (L.length + 1) cap) (L.length + 1) (L.map (Value.int .i32) ++ [.int .i32 x])) (hg : w1.grownBy w2 va.ownBlock) (hat : va.ownBlock = some g ∨ g = w1.heap.size) :
    AR (w2.setCell ⟨b, o, none⟩ (.slice (some ⟨g, 0, none⟩) (L.length + 1) cap)) B b o (.slice (some ⟨g, 0, none⟩) (L ++ [x]).length cap) ve (L ++ [x]) E ∧ Ex (fun k => k = b ∨ va.ownBlock = some k) w (w2.setCell ⟨b, o, none⟩ (.slice (some ⟨g, 0, none⟩) (L.length + 1) cap)) ∧ ∀ j u, j ≠ o → w.cell? ⟨b, j, none⟩ = some u → (w2.setCell ⟨b, o, none⟩ (.slice (some ⟨g, 0, none⟩) (L.length + 1) cap)).cell? ⟨b, j, none⟩ = some u := by
  have hsz := k1.size
  have e1 : Ex (fun k => va.ownBlock = some k) w w2 := (Ex.of k1).trans (Ex.ofGrown hg (fun k z => z.symm))
  have ex : Ex (fun k => k = b ∨ va.ownBlock = some k) w (w2.setCell ⟨b, o, none⟩ (.slice (some ⟨g, 0, none⟩) (L.length + 1) cap)) := (e1.mono fun k z => .inr z).set (.inl rfl) _
  have gb : g ≠ b := by
    rcases hat with z | z
    · exact fun e => h.a0 (e ▸ z)
    · have := h.lt; omega
  have gv : ve.ownBlock ≠ some g := by
    rcases hat with z | z
    · exact h.a2 g z
    · exact own_far h.r1 (by omega)
  have c0 : w2.cell? ⟨b, o, none⟩ = some va := e1.cell h.a0 h.c0
  have hse : Ex (fun k => k = b) w2 (w2.setCell ⟨b, o, none⟩ (.slice (some ⟨g, 0, none⟩) (L.length + 1) cap)) := (Ex.refl (fun k => k = b) _).set (p := b) rfl _
  have hl : (L ++ [x]).length = L.length + 1 := by simp
  refine ⟨⟨?_, ?_, ?_, ?_, ?_, ?_, h.a1, ?_⟩, ex, fun j u hj hu => by rw [World.cell?_setCell_other _ _ _ _ (by simp)]; exact e1.cell h.a0 hu⟩
  · rw [World.cell?_setCell_same _ _ _ c0, hl]
  · rw [World.cell?_setCell_other _ _ _ _ (by simp)]
    exact e1.cell h.a0 h.c1
  · intro j
    rw [set_frozen]
    exact (e1.frozen h.a0 h.lt).trans (h.f j)
  · rw [hl, List.map_append]
    exact own_kept hr hse (fun k z e => gb (by cases z; exact e))
  · exact own_kept h.r1 ex (fun k z e => e.elim (fun e => h.a1 (e ▸ z)) (fun e => h.a2 k e z))
  · intro z; cases z; exact gb rfl
  · intro k z; cases z; exact gv
theorem AR.fin1 {w w1 w2 : World} {B b o : Nat} {va ve : Value} {L E : List Int} (h : AR w B b o va ve L E) (k1 : Below w.heap.size w w1) {x : Int} {g cap : Nat} (hr : w2.ownsRow B 3 1 (.slice (some ⟨g, 0, none⟩) (E.length + 1) cap) (E.length + 1) (E.map (Value.int .i64) ++ [.int .i64 x])) (hg : w1.grownBy w2 ve.ownBlock) (hat : ve.ownBlock = some g ∨ g = w1.heap.size) :
    AR (w2.setCell ⟨b, o + 1, none⟩ (.slice (some ⟨g, 0, none⟩) (E.length + 1) cap)) B b o va (.slice (some ⟨g, 0, none⟩) (E ++ [x]).length cap) L (E ++ [x]) ∧ Ex (fun k => k = b ∨ ve.ownBlock = some k) w (w2.setCell ⟨b, o + 1, none⟩ (.slice (some ⟨g, 0, none⟩) (E.length + 1) cap)) ∧ ∀ j u, j ≠ o + 1 → w.cell? ⟨b, j, none⟩ = some u → (w2.setCell ⟨b, o + 1, none⟩ (.slice (some ⟨g, 0, none⟩) (E.length + 1) cap)).cell? ⟨b, j, none⟩ = some u := by
  have hsz := k1.size
  have e1 : Ex (fun k => ve.ownBlock = some k) w w2 := (Ex.of k1).trans (Ex.ofGrown hg (fun k z => z.symm))
  have ex : Ex (fun k => k = b ∨ ve.ownBlock = some k) w (w2.setCell ⟨b, o + 1, none⟩ (.slice (some ⟨g, 0, none⟩) (E.length + 1) cap)) := (e1.mono fun k z => .inr z).set (.inl rfl) _
  have gb : g ≠ b := by
    rcases hat with z | z
    · exact fun e => h.a1 (e ▸ z)
    · have := h.lt; omega
  have gv : va.ownBlock ≠ some g := by
    rcases hat with z | z
    · exact fun e => h.a2 g e z
    · exact own_far h.r0 (by omega)
  have c1 : w2.cell? ⟨b, o + 1, none⟩ = some ve := e1.cell h.a1 h.c1
  have hse : Ex (fun k => k = b) w2 (w2.setCell ⟨b, o + 1, none⟩ (.slice (some ⟨g, 0, none⟩) (E.length + 1) cap)) := (Ex.refl (fun k => k = b) _).set (p := b) rfl _
  have hl : (E ++ [x]).length = E.length + 1 := by simp
  refine ⟨⟨?_, ?_, ?_, ?_, ?_, h.a0, ?_, ?_⟩, ex, fun j u hj hu => by rw [World.cell?_setCell_other _ _ _ _ (by simp)]; exact e1.cell h.a1 hu⟩
  · rw [World.cell?_setCell_other _ _ _ _ (by simp)]
    exact e1.cell h.a1 h.c0
  · rw [World.cell?_setCell_same _ _ _ c1, hl]
  · intro j
    rw [set_frozen]
    exact (e1.frozen h.a1 h.lt).trans (h.f j)
  · exact own_kept h.r0 ex (fun k z e => e.elim (fun e => h.a0 (e ▸ z)) (fun e => h.a2 k z e))
  · rw [hl, List.map_append]
    exact own_kept hr hse (fun k z e => gb (by cases z; exact e))
  · intro z; cases z; exact gb rfl
  · intro k z y; cases y; exact gv z
def PuPost (w : World) (B b o : Nat) (va ve : Value) (L E : List Int) (x : Int) (e : Ending) (w' : World) : Prop := e = .returned (.tuple #[]) ∧ ∃ g c, AR w' B b o (.slice (some ⟨g, 0, none⟩) (L ++ [x]).length c) ve (L ++ [x]) E ∧ Ex (fun k => k = b ∨ va.ownBlock = some k) w w' ∧ (va.ownBlock = some g ∨ w.heap.size ≤ g) ∧ ∀ j u, j ≠ o → w.cell? ⟨b, j, none⟩ = some u → w'.cell? ⟨b, j, none⟩ = some u
def FiPost (w : World) (B b o : Nat) (va ve : Value) (L E : List Int) (e : Ending) (w' : World) : Prop := e = .returned (.tuple #[]) ∧ ∃ g c, AR w' B b o va (.slice (some ⟨g, 0, none⟩) (E ++ [(L.length : Int)]).length c) L (E ++ [(L.length : Int)]) ∧ Ex (fun k => k = b ∨ ve.ownBlock = some k) w w' ∧ (ve.ownBlock = some g ∨ w.heap.size ≤ g) ∧ ∀ j u, j ≠ o + 1 → w.cell? ⟨b, j, none⟩ = some u → w'.cell? ⟨b, j, none⟩ = some u
set_option linter.unusedSimpArgs false in
set_option maxHeartbeats 4000000 in
/-- cnf.arena.put -/
theorem put_any (w : World) (B b o : Nat) (va ve : Value) (L E : List Int) (x : Int) (h : AR w B b o va ve L E) (hB : B ≤ w.heap.size) (hL : L.length ≤ 1000000000000) :
    Calls Tryz.prog 120 #[.pointer (some ⟨b, o, none⟩), .int .i32 x] w (PuPost w B b o va ve L E x) := by
  obtain ⟨i0, hi0, hz0, hz1, hz2⟩ := info_of Tryz.info64
  have HI := hide (And.intro hi0 (And.intro hz0 (And.intro hz1 hz2)))
  clear hi0 hz0 hz1 hz2
  have HA := hide h
  have c0 := h.c0
  have f0 := h.f
  have hlt := h.lt
  obtain ⟨a, c, rfl⟩ := own_form h.r0
  clear h
  go_enter Tryz.func120, Tryz.ntmps120
  have HW := hide (HA.out.below (be1 w (.cells #[.int .i32 x] 64)))
  have HSZ := hide (show B ≤ (w.alloc (.cells #[.int .i32 x] 64)).heap.size from Nat.le_trans hB (be1 w _).size)
  have HNC := hide (show ∀ (j : Nat) (u : Value), [Value.int .i32 x][j]? = some u → (w.alloc (.cells #[.int .i32 x] 64)).cell? ((⟨w.heap.size, 0, none⟩ : Addr).add j) = some u from fun j u hj => new_cells w [.int .i32 x] 64 j u hj)
  go_wp2_with (at_builtin; go_loud (refine wpList_append_lies _ rfl (.tmp 8) (.tmp 10) 53 rfl B 64 i0 _ 1 4 Tryz.underlying53 HI.out.1 HI.out.2.1 HI.out.2.2.1 HI.out.2.2.2 rfl (by decide) (.slice a L.length c) L.length (L.map (Value.int .i32)) rfl HW.out.r0 ⟨w.heap.size, 0, none⟩ 1 1 [.int .i32 x] rfl rfl HNC.out (fun u hu => by simp at hu; subst hu; rfl) (by decide) (by unfold maxLen; omega) (by omega) HSZ.out _ rfl ?_; intro g cap w2 hr hg hat hlt2; have HP := hide (HA.out.put1 (be1 w (.cells #[.int .i32 x] 64)) hr hg hat); have HG := hide (show Value.ownBlock (.slice a L.length c) = some g ∨ w.heap.size ≤ g from hat.imp id (fun z => by rw [z]; exact (be1 w _).size)); have c0' := (show w2.cell? ⟨b, o, none⟩ = some (.slice a L.length c) from (Ex.ofGrown hg (S := fun k => Value.ownBlock (.slice a L.length c) = some k) (fun k z => z.symm)).cell HA.out.a0 HW.out.c0); have f0' := (show w2.frozen? ⟨b, o, none⟩ = false from ((Ex.ofGrown hg (S := fun k => Value.ownBlock (.slice a L.length c) = some k) (fun k z => z.symm)).frozen HA.out.a0 (by simp; omega)).trans (HW.out.f o)); clear hr hg hat))
  have HPO := hide (show PuPost w B b o (.slice a L.length c) ve L E x (.returned (.tuple #[])) _ from ⟨rfl, g, cap, HP.out.1, HP.out.2.1, HG.out, HP.out.2.2⟩)
  exact bodyPost_ret (v := .tuple #[]) (by simp [results, Tryz.results120, go_sem]) rfl HPO.out
set_option linter.unusedSimpArgs false in
set_option maxRecDepth 100000 in
set_option maxHeartbeats 4000000 in
/-- cnf.arena.finish -/
theorem finish_any (w : World) (B b o : Nat) (va ve : Value) (L E : List Int) (h : AR w B b o va ve L E) (hB : B ≤ w.heap.size) (hE : E.length ≤ 1000000000000) :
    Calls Tryz.prog 119 #[.pointer (some ⟨b, o, none⟩)] w (FiPost w B b o va ve L E) := by
  obtain ⟨i0, hi0, hz0, hz1, hz2⟩ := info_of Tryz.info3
  have HI := hide (And.intro hi0 (And.intro hz0 (And.intro hz1 hz2)))
  clear hi0 hz0 hz1 hz2
  have HA := hide h
  have hlt := h.lt
  obtain ⟨a, c, rfl⟩ := own_form h.r1
  obtain ⟨a0, c0, rfl⟩ := own_form h.r0
  clear h
  go_enter Tryz.func119, Tryz.ntmps119
  have z0 := HA.out.c0
  have z1 := HA.out.c1
  have zf := HA.out.f
  have b10 := hide ((be1 w (.cells #[.int .i64 (L.length : Int)] 3)).drew)
  have HAA := hide (HA.out.below b10.out)
  go_upto_region 0 with fail
  go_region_law (first
    | (refine step_append_lies _ rfl (.tmp 6) (.tmp 12) 30 rfl B 3 i0 _ 1 8 Tryz.underlying30 HI.out.1 HI.out.2.1 HI.out.2.2.1 HI.out.2.2.2 rfl (by decide) (.slice a E.length c) E.length (E.map (Value.int .i64)) rfl HAA.out.r1 ⟨w.heap.size, 0, none⟩ 1 1 [.int .i64 (L.length : Int)] rfl rfl (fun j u hj => new_cells w [.int .i64 (L.length : Int)] 3 j u hj) (fun u hu => by simp at hu; subst hu; rfl) (by decide) (by unfold maxLen; omega) (by omega) (Nat.le_trans hB b10.out.size) _ rfl ?_
       intro g cap w2 hr hg hat hlt2
       have HP := hide (HA.out.fin1 b10.out hr hg hat)
       have HG := hide (show Value.ownBlock (.slice a E.length c) = some g ∨ w.heap.size ≤ g from hat.imp id (fun z => by rw [z]; exact b10.out.size))
       obtain ⟨y0, y1, yf⟩ : w2.cell? ⟨b, o, none⟩ = some (.slice a0 L.length c0) ∧ w2.cell? ⟨b, o + 1, none⟩ = some (.slice a E.length c) ∧ ∀ j, w2.frozen? ⟨b, j, none⟩ = false := by
         have ex := Ex.ofGrown hg (S := fun k => Value.ownBlock (.slice a E.length c) = some k) (fun k z => z.symm)
         exact ⟨ex.cell HA.out.a1 HAA.out.c0, ex.cell HA.out.a1 HAA.out.c1, fun j => (ex.frozen HA.out.a1 HAA.out.lt).trans (HAA.out.f j)⟩
       clear hr hg hat))
  all_goals
    have HPO := hide (show FiPost w B b o (.slice a0 L.length c0) (.slice a E.length c) L E (.returned (.tuple #[])) _ from ⟨rfl, g, cap, HP.out.1, HP.out.2.1, HG.out, HP.out.2.2⟩)
    go_wp2
    exact bodyPost_ret (v := .tuple #[]) (by simp [results, Tryz.results119, go_sem]) rfl HPO.out
end Go.Proofs.Qxb6500773aGreat
