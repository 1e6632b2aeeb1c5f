import Derived.Test.Qxb6500773aGreatPr4
import Derived.Deep.CutBlock
namespace Go.Proofs.Qxb6500773aGreat
set_option maxRecDepth 100000
open Go.RowKit

def PrPost (w : World) (Y : List Int) (e : Ending) (w' : World) : Prop := ∃ a c, e = .returned (.slice a Y.length c) ∧ BB w' w.heap.size (.slice a Y.length c) Y ∧ Below w.heap.size w w'
theorem clsP_lo {L E : List Int} (h : EOk L E) : 0 ≤ clsP E ∧ clsP E ≤ L.length := by
  unfold clsP
  cases hl : E.getLast? with
  | none => exact ⟨Int.le_refl _, by show (0 : Int) ≤ _; omega⟩
  | some x => exact h.rng x (List.mem_of_getLast? hl)
set_option linter.unusedSimpArgs false in
set_option maxRecDepth 100000 in
set_option maxHeartbeats 4000000 in
/-- cnf.PrintDrat -/
theorem printDrat_any (w : World) (B' b : Nat) (va ve vd : Value) (L E : List Int) (D : List Bool) (hp : PF w B' b va ve vd L E D) (hE : EOk L E) (hD : D.length = E.length) (hok : ∀ x ∈ L, LitOk x) (hX : 10 * L.length + 4 * E.length + 10 ≤ 100000000) :
    Calls Tryz.prog 56 #[.pointer (some ⟨b, 0, none⟩)] w (PrPost w (drT L E D E.length)) := by
  have HPF := hide hp
  have hcl := clsP_lo hE
  obtain ⟨m, hm⟩ : ∃ m : Nat, 8 * clsP E + 4 * (E.length : Int) = m := ⟨(8 * clsP E + 4 * (E.length : Int)).toNat, by omega⟩
  have w1 : IntKind.i64.wrap (8 * clsP E) = 8 * clsP E := by rw [IntKind.wrap_i64]; omega
  have w2 : IntKind.i64.wrap (4 * (E.length : Int)) = 4 * (E.length : Int) := by rw [IntKind.wrap_i64]; omega
  have w3 : IntKind.i64.wrap (m : Int) = (m : Int) := by rw [IntKind.wrap_i64]; omega
  have hmk := run_make0 (P := Tryz.prog) 35 5 (.int .u8 0) 1 Tryz.underlying35 Tryz.info5 m (by omega) (by omega)
  have HMM := hide (show m ≤ 1000000000 by omega)
  have HE := hide hE
  have HD := hide hD
  have HOK := hide hok
  have HX := hide hX
  clear hp hcl hE hD hok hX
  obtain ⟨Y, hY⟩ : ∃ Y, drT L E D E.length = Y := ⟨_, rfl⟩
  rw [hY]
  have HY := hide hY
  clear hY
  go_enter Tryz.func56, Tryz.ntmps56
  go_wp2_with fail
  refine (numLits_any _ B' b _ ve L E HPF.out.ar (by have := HX.out; omega)).mono ?_
  rintro e w4 ⟨rfl, b4⟩
  have HPF4 := hide (HPF.out.below b4)
  have HB4 := hide b4
  clear b4
  go_wp2_with fail
  refine (numSteps_any _ B' b _ ve L E HPF4.out.ar).mono ?_
  rintro e w5 ⟨rfl, rfl⟩
  go_wp2_with fail
  have HBM := hide (show BB (w5.alloc (.cells (madeCells #[.int .u8 0] m) 5)) w.heap.size (.slice (some ⟨w5.heap.size, 0, none⟩) 0 m) [] from World.ownsRow_made (base := w.heap.size) (e := 5) (size := 1) w5 (madeCells #[.int .u8 0] m) m HB4.out.size (by have := HMM.out; unfold maxLen; omega) (by rw [size_madeCells, Nat.mul_one]))
  have HB6 := hide (lec HB4.out (be1 w5 (.cells (madeCells #[.int .u8 0] m) 5)))
  have HPF6 := hide (HPF4.out.below (be1 w5 (.cells (madeCells #[.int .u8 0] m) 5)))
  have HPA := hide (show PAp (.slice (some ⟨w5.heap.size, 0, none⟩) 0 m) b va ve vd from fun j z => by cases z; exact HPF4.out.far (Nat.le_refl _))
  have HGE := hide HB4.out.size
  refine (appendDrat_any _ w.heap.size _ [] B' b va ve vd L E D HBM.out HB6.out.size HPF6.out HPA.out HE.out HD.out HOK.out (by have := HX.out; simpa using this)).mono ?_
  rintro e w7 ⟨v7, rfl, hb7⟩
  rw [List.nil_append, HY.out] at hb7
  obtain ⟨a7, c7, rfl⟩ := own_form hb7.bb
  have HPO := hide (show PrPost w Y (.returned (.slice a7 Y.length c7)) w7 from ⟨a7, c7, rfl, hb7.bb, HB6.out.trans (hb7.ex.below HB6.out.size (fun k hk z => by have e : w5.heap.size = k := Option.some.inj z; have := HGE.out; omega))⟩)
  clear hb7
  go_wp2
  exact bodyPost_ret (v := .slice a7 Y.length c7) (by simp [results, Tryz.results56, go_sem]) rfl HPO.out
set_option linter.unusedSimpArgs false in
set_option maxRecDepth 100000 in
set_option maxHeartbeats 4000000 in
/-- cnf.Proof.InRange -/
theorem inRange_any (w : World) (B b : Nat) (va ve : Value) (L E : List Int) (i : Nat) (h : AR w B b 0 va ve L E) :
    Calls Tryz.prog 64 #[.pointer (some ⟨b, 0, none⟩), .int .i64 i] w fun e w' => e = .returned (.bool (decide (i < E.length))) ∧ w' = w := by
  have hc := numSteps_any w B b va ve L E h
  have h0 : decide (0 ≤ (i : Int)) = true := by simp
  go_enter Tryz.func64, Tryz.ntmps64
  go_wp2_with fail
  refine hc.mono ?_
  rintro e w' ⟨rfl, rfl⟩
  go_wp2
  go_ret
  exact ⟨ret_bool (by simp), rfl⟩
def StPost (w : World) (X : List Int) (d : Bool) (e : Ending) (w' : World) : Prop := ∃ a' c', e = .returned (.tuple #[.slice a' X.length c', .bool d]) ∧ CL w' a' X ∧ Below w.heap.size w w'
set_option linter.unusedSimpArgs false in
set_option maxRecDepth 100000 in
set_option maxHeartbeats 4000000 in
/-- cnf.Proof.Step -/
theorem step_any (w : World) (B b : Nat) (va ve vd : Value) (L E : List Int) (D : List Bool) (hp : PF w B b va ve vd L E D) (hE : EOk L E) (hD : D.length = E.length) (hL : E.length ≤ 1000000000) (i : Nat) (hi : i < E.length) :
    Calls Tryz.prog 63 #[.pointer (some ⟨b, 0, none⟩), .int .i64 i] w (StPost w (clP L E i) (D.getD i false)) := by
  have HPF := hide hp
  have hin := inRange_any w B b va ve L E i hp.ar
  obtain ⟨ad, cd, rfl⟩ := own_form hp.r2
  obtain ⟨aa, ca, rfl⟩ := own_form hp.ar.r0
  have HCA := hide (show L.length ≤ ca from by
    rcases hp.ar.r0.2 with ⟨z, z2⟩ | ⟨g, cap, cur, z, -, -, hnc, -⟩
    · simp only [Value.slice.injEq] at z; omega
    · simp only [Value.slice.injEq] at z; omega)
  have hlo := hE.lo hi
  have hde : D[i]? = some (D.getD i false) := by rw [List.getD_eq_getElem?_getD, List.getElem?_eq_getElem (by omega)]; rfl
  have cAt := fun w' (h : PF w' B b (.slice aa L.length ca) ve (.slice ad D.length cd) L E D) => hide (at_any w' B b 0 aa ca ve L E h.ar HCA.out i (loP E i) (loP E (i + 1)) hlo.2.2.2 hlo.2.2.1 hlo.1 hlo.2.1 (by omega))
  rw [show (L.take (loP E (i + 1))).drop (loP E i) = clP L E i from rfl] at cAt
  obtain ⟨gd, cd', e1, hcd, hid⟩ := row_cell hp.r2 (i := i) (u := .bool (D.getD i false)) (by rw [List.getElem?_map, hde]; rfl)
  cases e1
  have HL := hide hi
  have hb : decide (i < E.length) = true := by simpa using hi
  rw [hb] at hin
  have h2 : decide ((i : Int) < 0) = false := by simp
  have h3 : (i : Int) < (D.length : Int) := by omega
  clear hde hlo hE hD hi hb hL
  generalize clP L E i = C at *
  generalize D.getD i false = d at *
  have zS : w.cell? ⟨b, 2, none⟩ = some (.slice (some ⟨gd, 0, none⟩) D.length cd) ∧ w.cell? ⟨gd, i, none⟩ = some (.bool d) := ⟨hp.c2, hcd⟩
  clear hcd hp
  go_enter Tryz.func63, Tryz.ntmps63
  go_wp2_with fail
  refine hin.mono ?_
  rintro e w' ⟨rfl, hw⟩
  rw [hw]
  clear hin hw w'
  go_upto_region 3 with fail
  refine wp_region_held_drew (S := fun w' => w'.cell? ⟨b, 2, none⟩ = some (.slice (some ⟨gd, 0, none⟩) D.length cd) ∧ w'.cell? ⟨gd, i, none⟩ = some (.bool d)) (by kernel_rfl) zS (fun hHeld => ?_)
  refine wpAnyH_take (i := 0) (v := ?_) rfl (by kernel_rfl) (by kernel_rfl) (by kernel_rfl) (fun _ _ _ h => h) (Or.inl ⟨by rfl, ?_⟩) (by assumption) ?_
  rotate_left
  · (intro w hSw; (try dsimp only at hSw); go_simp; try (with_reducible rfl))
  try simp only [Act.put, List.getElem_toArray, List.getElem_cons_zero, List.getElem_cons_succ, List.setIfInBounds_toArray, List.set_cons_zero, List.set_cons_succ]
  refine wpAnyH_take (i := 1) (v := ?_) rfl (by kernel_rfl) (by kernel_rfl) (by kernel_rfl) (fun _ _ _ h => h) (Or.inl ⟨by rfl, ?_⟩) (by assumption) ?_
  rotate_left
  · (intro w hSw; (try dsimp only at hSw); go_simp; try (with_reducible rfl))
  try simp only [Act.put, List.getElem_toArray, List.getElem_cons_zero, List.getElem_cons_succ, List.setIfInBounds_toArray, List.set_cons_zero, List.set_cons_succ]
  refine wpAnyH_take (i := 2) (v := ?_) rfl (by kernel_rfl) (by kernel_rfl) (by kernel_rfl) (fun _ _ _ h => h) (Or.inl ⟨by rfl, ?_⟩) (by assumption) ?_
  rotate_left
  · (intro w hSw; (try dsimp only at hSw); go_simp; try (with_reducible rfl))
  try simp only [Act.put, List.getElem_toArray, List.getElem_cons_zero, List.getElem_cons_succ, List.setIfInBounds_toArray, List.set_cons_zero, List.set_cons_succ]
  refine wpAnyH_take (i := 3) (v := ?_) rfl (by kernel_rfl) (by kernel_rfl) (by kernel_rfl) (fun _ _ _ h => h) (Or.inl ⟨by rfl, ?_⟩) (by assumption) ?_
  rotate_left
  · (intro w hSw; (try dsimp only at hSw); go_simp; try (with_reducible rfl))
  try simp only [Act.put, List.getElem_toArray, List.getElem_cons_zero, List.getElem_cons_succ, List.setIfInBounds_toArray, List.set_cons_zero, List.set_cons_succ]
  refine wpAnyH_take (i := 5) (v := ?_) rfl (by kernel_rfl) (by kernel_rfl) (by kernel_rfl) (fun _ _ _ h => h) (Or.inl ⟨by rfl, ?_⟩) (by assumption) ?_
  rotate_left
  · (intro w hSw; (try dsimp only at hSw); go_simp; try (with_reducible rfl))
  try simp only [Act.put, List.getElem_toArray, List.getElem_cons_zero, List.getElem_cons_succ, List.setIfInBounds_toArray, List.set_cons_zero, List.set_cons_succ]
  refine wpAnyH_take (i := 6) (v := ?_) rfl (by kernel_rfl) (by kernel_rfl) (by kernel_rfl) (fun _ _ _ h => h) (Or.inl ⟨by rfl, ?_⟩) (by assumption) ?_
  rotate_left
  · (intro w hSw; (try dsimp only at hSw); go_simp; try (with_reducible rfl))
  try simp only [Act.put, List.getElem_toArray, List.getElem_cons_zero, List.getElem_cons_succ, List.setIfInBounds_toArray, List.set_cons_zero, List.set_cons_succ]
  refine wpAnyH_take (i := 7) (v := ?_) rfl (by kernel_rfl) (by kernel_rfl) (by kernel_rfl) (fun _ _ _ h => h) (Or.inl ⟨by rfl, ?_⟩) (by assumption) ?_
  rotate_left
  · (intro w hSw; (try dsimp only at hSw); go_simp; try (with_reducible rfl))
  try simp only [Act.put, List.getElem_toArray, List.getElem_cons_zero, List.getElem_cons_succ, List.setIfInBounds_toArray, List.set_cons_zero, List.set_cons_succ]
  refine wpAnyH_take (i := 8) (v := ?_) rfl (by kernel_rfl) (by kernel_rfl) (by kernel_rfl) (fun _ _ _ h => h) (Or.inl ⟨by rfl, ?_⟩) (by assumption) ?_
  rotate_left
  · (intro w hSw; (try dsimp only at hSw); ((obtain ⟨z1, z2⟩ := hSw)); go_simp; try (with_reducible rfl))
  try simp only [Act.put, List.getElem_toArray, List.getElem_cons_zero, List.getElem_cons_succ, List.setIfInBounds_toArray, List.set_cons_zero, List.set_cons_succ]
  refine wpAnyH_take (i := 9) (v := ?_) rfl (by kernel_rfl) (by kernel_rfl) (by kernel_rfl) (fun _ _ _ h => h) (Or.inl ⟨by rfl, ?_⟩) (by assumption) ?_
  rotate_left
  · (intro w hSw; (try dsimp only at hSw); go_simp; try (with_reducible rfl))
  try simp only [Act.put, List.getElem_toArray, List.getElem_cons_zero, List.getElem_cons_succ, List.setIfInBounds_toArray, List.set_cons_zero, List.set_cons_succ]
  refine wpAnyH_take (i := 10) (v := ?_) rfl (by kernel_rfl) (by kernel_rfl) (by kernel_rfl) (fun _ _ _ h => h) (Or.inl ⟨by rfl, ?_⟩) (by assumption) ?_
  rotate_left
  · (intro w hSw; (try dsimp only at hSw); go_simp; try (with_reducible rfl))
  try simp only [Act.put, List.getElem_toArray, List.getElem_cons_zero, List.getElem_cons_succ, List.setIfInBounds_toArray, List.set_cons_zero, List.set_cons_succ]
  refine wpAnyH_take (i := 11) (v := ?_) rfl (by kernel_rfl) (by kernel_rfl) (by kernel_rfl) (fun _ _ _ h => h) (Or.inl ⟨by rfl, ?_⟩) (by assumption) ?_
  rotate_left
  · (intro w hSw; (try dsimp only at hSw); ((obtain ⟨z1, z2⟩ := hSw)); go_simp; try (with_reducible rfl))
  try simp only [Act.put, List.getElem_toArray, List.getElem_cons_zero, List.getElem_cons_succ, List.setIfInBounds_toArray, List.set_cons_zero, List.set_cons_succ]
  refine wpAnyH_ready (rs := [4]) (by kernel_rfl) (by simp) ?_
  refine (AllReadyH.cons rfl (fun K hK => ?_) AllReadyH.nil)
  · refine step_call rfl 109 #[.pointer (some ⟨b, 0, none⟩), .int .i64 i] (by simp [go_sem]) (cAt _ (HPF.out.below ((Below.refl _ _).drew))).out ?_
    rintro e w5 ⟨a5, c5, rfl, hc5, -, b5⟩
    replace b5 := of_drew b5
    have zS5 : w5.cell? ⟨b, 2, none⟩ = some (.slice (some ⟨gd, 0, none⟩) D.length cd) ∧ w5.cell? ⟨gd, i, none⟩ = some (.bool d) := ⟨cellKeep b5 zS.1, cellKeep b5 zS.2⟩
    have HP5 := hide (show StPost w C d (.returned (.tuple #[.slice a5 C.length c5, .bool d])) w5 from ⟨a5, c5, rfl, hc5, b5⟩)
    clear b5 hc5
    refine ⟨_, rfl, ?_⟩
    refine hK.out _ _ ?_ (fun hHeld => ?_)
    · (first | with_reducible exact zS5 | with_reducible exact zS | exact zS)
    clear hK K
    try simp only [Act.put, List.getElem_toArray, List.getElem_cons_zero, List.getElem_cons_succ, List.setIfInBounds_toArray, List.set_cons_zero, List.set_cons_succ]
    refine wpAnyH_take (i := 12) (v := ?_) rfl (by kernel_rfl) (by kernel_rfl) (by kernel_rfl) (fun _ _ _ h => h) (Or.inl ⟨by rfl, ?_⟩) (by assumption) ?_
    rotate_left
    · (intro w hSw; (try dsimp only at hSw); go_simp; try (with_reducible rfl))
    try simp only [Act.put, List.getElem_toArray, List.getElem_cons_zero, List.getElem_cons_succ, List.setIfInBounds_toArray, List.set_cons_zero, List.set_cons_succ]
    refine wpAnyH_take (i := 13) (v := ?_) rfl (by kernel_rfl) (by kernel_rfl) (by kernel_rfl) (fun _ _ _ h => h) (Or.inl ⟨by rfl, ?_⟩) (by assumption) ?_
    rotate_left
    · (intro w hSw; (try dsimp only at hSw); go_simp; try (with_reducible rfl))
    try simp only [Act.put, List.getElem_toArray, List.getElem_cons_zero, List.getElem_cons_succ, List.setIfInBounds_toArray, List.set_cons_zero, List.set_cons_succ]
    refine wpAnyH_done (by kernel_rfl) ?_ _
    clear zS zS5 cAt
    go_wp2
    exact bodyPost_ret (v := .tuple #[.slice a5 C.length c5, .bool d]) (by simp [results, Tryz.results63, go_sem]) rfl HP5.out
/-- Integers behind an address. -/
def IL (w : World) (a : Option Addr) (X : List Int) : Prop := ∀ (j : Nat) (x : Int), X[j]? = some x → ∃ g off, a = some ⟨g, off, none⟩ ∧ w.cell? ⟨g, off + j, none⟩ = some (.int .i64 x)
theorem IL.keep {w w' : World} {a : Option Addr} {X : List Int} (h : IL w a X) {S : Nat → Prop} (k : Ex S w w') (hs : ∀ g off, a = some ⟨g, off, none⟩ → ¬ S g) : IL w' a X := fun j x hx => by
  obtain ⟨g, off, e, hc⟩ := h j x hx
  exact ⟨g, off, e, k.cell (hs g off e) hc⟩
theorem IL.below {w w' : World} {a : Option Addr} {X : List Int} (h : IL w a X) (k : Below w.heap.size w w') : IL w' a X := h.keep (Ex.of (S := fun _ => False) k) (fun _ _ _ e => e)
/-- cnflaw.sameLits: the clause and the numbers agree. -/
def SaPost (w : World) (b : Bool) (e : Ending) (w' : World) : Prop := e = .returned (.bool b) ∧ Below w.heap.size w w'
set_option linter.unusedSimpArgs false in
set_option maxRecDepth 100000 in
set_option maxHeartbeats 4000000 in
theorem sameLits_any (w : World) (a : Option Addr) (c : Nat) (C : List Int) (a2 : Option Addr) (c2 : Nat) (h : CL w a C) (h2 : IL w a2 (C.map dimP)) (hok : ∀ x ∈ C, LitOk x) (hl : C.length ≤ 1000000000) :
    Calls Tryz.prog 98 #[.slice a C.length c, .slice a2 C.length c2] w (SaPost w true) := by
  have HC := hide h
  have HI := hide h2
  have HOK := hide hok
  have hn : ((C.length : Int) != (C.length : Int)) = false := by simp
  clear h h2 hok
  go_enter Tryz.func98, Tryz.ntmps98
  go_wp2
  go_loopw [5, 6, 14] (fun _ _ s14 wx => ∃ (i : Nat), s14 = .int .i64 i ∧ i ≤ C.length ∧ Below w.heap.size w wx) (fun _ _ s14 _ => C.length - (intOf s14).toNat)
  case atStart => exact ⟨0, rfl, Nat.zero_le _, Below.refl _ _⟩
  case round =>
    obtain ⟨i, rfl, hi, hb⟩ := hrel
    have HB := hide hb
    clear hb
    by_cases hlt : i < C.length
    · obtain ⟨x, hx⟩ : ∃ x, C[i]? = some x := ⟨_, List.getElem?_eq_getElem hlt⟩
      have HXO := hide (HOK.out x (List.mem_of_getElem? hx))
      obtain ⟨g, o, ea, hc⟩ := (HC.out.below HB.out) i x hx
      cases ea
      obtain ⟨g2, o2, ea, hc2⟩ := (HI.out.below HB.out) i (dimP x) (by rw [List.getElem?_map, hx]; rfl)
      cases ea
      clear hx
      have h1 : decide ((i : Int) < (C.length : Int)) = true := by simp; omega
      have h1n : decide (i < C.length) = true := by simp; omega
      have h2 : decide ((i : Int) < 0) = false := by simp
      have h3 : (i : Int) < (C.length : Int) := by omega
      have h4 : IntKind.i64.wrap ((i : Int) + 1) = (i : Int) + 1 := by rw [IntKind.wrap_i64]; omega
      have h5 : (dimP x != dimP x) = false := by simp
      have HDI := fun w' => hide (dimacs_any w' x (by have := HXO.out; unfold LitOk at this; omega))
      go_upto_region 6 with fail
      have zS := hc2
      refine wp_region_held_drew (S := fun w' => w'.cell? ⟨g2, o2 + i, none⟩ = some (.int .i64 (dimP x))) (by kernel_rfl) zS (fun hHeld => ?_)
      refine wpAnyH_take (i := 0) (v := ?_) rfl (by kernel_rfl) (by kernel_rfl) (by kernel_rfl) (fun _ _ _ h => h) (Or.inl ⟨by rfl, ?_⟩) (by assumption) ?_
      rotate_left
      · (intro w hSw; (try dsimp only at hSw); go_simp; try (with_reducible rfl))
      try simp only [Act.put, List.getElem_toArray, List.getElem_cons_zero, List.getElem_cons_succ, List.setIfInBounds_toArray, List.set_cons_zero, List.set_cons_succ]
      refine wpAnyH_take (i := 2) (v := ?_) rfl (by kernel_rfl) (by kernel_rfl) (by kernel_rfl) (fun _ _ _ h => h) (Or.inl ⟨by rfl, ?_⟩) (by assumption) ?_
      rotate_left
      · (intro w hSw; (try dsimp only at hSw); go_simp; try (with_reducible rfl))
      try simp only [Act.put, List.getElem_toArray, List.getElem_cons_zero, List.getElem_cons_succ, List.setIfInBounds_toArray, List.set_cons_zero, List.set_cons_succ]
      refine wpAnyH_take (i := 3) (v := ?_) rfl (by kernel_rfl) (by kernel_rfl) (by kernel_rfl) (fun _ _ _ h => h) (Or.inl ⟨by rfl, ?_⟩) (by assumption) ?_
      rotate_left
      · (intro w hSw; (try dsimp only at hSw); go_simp; try (with_reducible rfl))
      try simp only [Act.put, List.getElem_toArray, List.getElem_cons_zero, List.getElem_cons_succ, List.setIfInBounds_toArray, List.set_cons_zero, List.set_cons_succ]
      refine wpAnyH_take (i := 4) (v := ?_) rfl (by kernel_rfl) (by kernel_rfl) (by kernel_rfl) (fun _ _ _ h => h) (Or.inl ⟨by rfl, ?_⟩) (by assumption) ?_
      rotate_left
      · (intro w hSw; (try dsimp only at hSw); go_simp; try (with_reducible rfl))
      try simp only [Act.put, List.getElem_toArray, List.getElem_cons_zero, List.getElem_cons_succ, List.setIfInBounds_toArray, List.set_cons_zero, List.set_cons_succ]
      refine wpAnyH_take (i := 5) (v := ?_) rfl (by kernel_rfl) (by kernel_rfl) (by kernel_rfl) (fun _ _ _ h => h) (Or.inl ⟨by rfl, ?_⟩) (by assumption) ?_
      rotate_left
      · (intro w hSw; (try dsimp only at hSw); go_simp; try (with_reducible rfl))
      try simp only [Act.put, List.getElem_toArray, List.getElem_cons_zero, List.getElem_cons_succ, List.setIfInBounds_toArray, List.set_cons_zero, List.set_cons_succ]
      refine wpAnyH_ready (rs := [1]) (by kernel_rfl) (by simp) ?_
      refine (AllReadyH.cons rfl (fun K hK => ?_) AllReadyH.nil)
      · refine step_call rfl 42 #[.int .i32 x] (by simp [go_sem]) (HDI _).out ?_
        rintro e w5 ⟨rfl, hw5⟩
        have zS5 : w5.cell? ⟨g2, o2 + i, none⟩ = some (.int .i64 (dimP x)) := by rw [hw5]; exact zS
        have HB5 := hide (show Below w.heap.size w w5 by rw [hw5]; exact HB.out.drew)
        clear hw5
        refine ⟨_, rfl, ?_⟩
        refine hK.out _ _ ?_ (fun hHeld => ?_)
        · (first | with_reducible exact zS5 | with_reducible exact zS | exact zS)
        clear hK K
        try simp only [Act.put, List.getElem_toArray, List.getElem_cons_zero, List.getElem_cons_succ, List.setIfInBounds_toArray, List.set_cons_zero, List.set_cons_succ]
        refine wpAnyH_take (i := 6) (v := ?_) rfl (by kernel_rfl) (by kernel_rfl) (by kernel_rfl) (fun _ _ _ h => h) (Or.inl ⟨by rfl, ?_⟩) (by assumption) ?_
        rotate_left
        · (intro w hSw; (try dsimp only at hSw); go_simp; try (with_reducible rfl))
        try simp only [Act.put, List.getElem_toArray, List.getElem_cons_zero, List.getElem_cons_succ, List.setIfInBounds_toArray, List.set_cons_zero, List.set_cons_succ]
        refine wpAnyH_done (by kernel_rfl) ?_ _
        clear zS zS5 HDI
        go_wp2
        go_roundw
        case rel => exact ⟨i + 1, by simp, by omega, HB5.out⟩
        case measure => simp [intOf]; omega
    · have h1 : decide ((i : Int) < (C.length : Int)) = false := by simp; omega
      have h1n : decide (i < C.length) = false := by simp; omega
      go_wp2
      go_ret
      exact ⟨rfl, HB.out⟩
/-- cnf.Clause.Dimacs -/
def CdPost (w : World) (X : List Int) (e : Ending) (w' : World) : Prop := ∃ a' c', e = .returned (.slice a' X.length c') ∧ IL w' a' X ∧ Below w.heap.size w w'
set_option linter.unusedSimpArgs false in
set_option maxRecDepth 100000 in
set_option maxHeartbeats 4000000 in
theorem clDimacs_any (w : World) (a : Option Addr) (c : Nat) (C : List Int) (h : CL w a C) (hok : ∀ x ∈ C, LitOk x) (hl : C.length ≤ 1000000000) :
    Calls Tryz.prog 144 #[.slice a C.length c] w (CdPost w (C.map dimP)) := by
  have HC := hide h
  have HOK := hide hok
  have HLL := hide hl
  have hmk := run_make_row' (P := Tryz.prog) 30 3 (.int .i64 0) 8 Tryz.underlying30 Tryz.info3 rfl .i64 .i64 C.length (by omega) (by omega)
  clear h hok
  obtain ⟨Y, hY⟩ : ∃ Y, C.map dimP = Y := ⟨_, rfl⟩
  rw [hY]
  have HY := hide hY
  clear hY
  go_enter Tryz.func144, Tryz.ntmps144
  go_upto_region 2 with fail
  have HR := hide ((World.rowIs_made w (.int .i64 0) C.length 3).congr (g := fun j => if j < 0 then .int .i64 (dimP (C.getD j 0)) else .int .i64 0) (fun i _ => by rw [if_neg (by omega)]))
  have HB := hide (be1 w (.cells (madeCells #[.int .i64 0] C.length) 3))
  generalize w.alloc (.cells (madeCells #[.int .i64 0] C.length) 3) = w1 at *
  obtain ⟨g0, hg0⟩ : ∃ g, w.heap.size = g := ⟨_, rfl⟩
  have HG := hide (show w.heap.size ≤ g0 by omega)
  rw [hg0] at HR ⊢
  clear hg0 hmk
  go_wp2
  go_loopw [4, 5, 11] (fun _ _ s11 wx => ∃ (i : Nat), s11 = .int .i64 i ∧ i ≤ C.length ∧ wx.rowIs g0 3 C.length (fun j => if j < i then .int .i64 (dimP (C.getD j 0)) else .int .i64 0) ∧ Below w.heap.size w wx) (fun _ _ s11 _ => C.length - (intOf s11).toNat)
  case atStart => exact ⟨0, rfl, Nat.zero_le _, HR.out, HB.out⟩
  case round =>
    clear HR HB
    obtain ⟨i, rfl, hi, hr, hb⟩ := hrel
    have HR := hide hr
    have HB := hide hb
    clear hr hb
    by_cases hlt : i < C.length
    · obtain ⟨x, hx⟩ : ∃ x, C[i]? = some x := ⟨_, List.getElem?_eq_getElem hlt⟩
      have HXO := hide (HOK.out x (List.mem_of_getElem? hx))
      have HGX := hide (show C.getD i 0 = x by rw [List.getD_eq_getElem?_getD, hx]; rfl)
      obtain ⟨g, o, ea, hc⟩ := (HC.out.below HB.out) i x hx
      cases ea
      clear hx
      have h1 : decide ((i : Int) < (C.length : Int)) = true := by simp; omega
      have h1n : decide (i < C.length) = true := by simp; omega
      have h2 : decide ((i : Int) < 0) = false := by simp
      have h3 : (i : Int) < (C.length : Int) := by omega
      have h4 : IntKind.i64.wrap ((i : Int) + 1) = (i : Int) + 1 := by rw [IntKind.wrap_i64]; have := HLL.out; omega
      have hcr := HR.out.cell hlt
      have hfr := HR.out.frozen
      go_wp2_with fail
      refine (dimacs_any _ x (by have := HXO.out; unfold LitOk at this; omega)).mono ?_
      rintro e w3 ⟨rfl, rfl⟩
      have HR2 := hide ((HR.out.set i (.int .i64 (dimP x))).congr (g := fun j => if j < i + 1 then .int .i64 (dimP (C.getD j 0)) else .int .i64 0) (fun j _ => by
        by_cases e : j = i
        · subst e; rw [if_pos rfl, if_pos (by omega), HGX.out]
        · rw [if_neg e]
          by_cases e2 : j < i
          · rw [if_pos e2, if_pos (by omega)]
          · rw [if_neg e2, if_neg (by omega)]))
      have HB2 := hide (HB.out.setCell (p := ⟨g0, i, none⟩) HG.out (.int .i64 (dimP x)))
      clear HR HB
      go_wp2
      go_roundw
      case rel => exact ⟨i + 1, by simp, by omega, HR2.out, HB2.out⟩
      case measure => simp [intOf]; omega
    · have h1 : decide ((i : Int) < (C.length : Int)) = false := by simp; omega
      have h1n : decide (i < C.length) = false := by simp; omega
      have HPO := hide (show CdPost w Y (.returned (.slice (some ⟨g0, 0, none⟩) C.length C.length)) wr from by
        rw [← HY.out]
        refine ⟨some ⟨g0, 0, none⟩, C.length, by rw [List.length_map], fun j x hx => ⟨g0, 0, rfl, ?_⟩, HB.out⟩
        rw [List.getElem?_map] at hx
        cases hj : C[j]? with
        | none => rw [hj] at hx; cases hx
        | some y =>
          rw [hj] at hx
          cases hx
          have hjl : j < C.length := (List.getElem?_eq_some_iff.1 hj).1
          rw [Nat.zero_add, HR.out.cell hjl, if_pos (by omega), List.getD_eq_getElem?_getD, hj]
          rfl)
      go_wp2
      exact bodyPost_ret (v := .slice (some ⟨g0, 0, none⟩) C.length C.length) (by simp [results, Tryz.results144, go_sem]) rfl HPO.out
end Go.Proofs.Qxb6500773aGreat
