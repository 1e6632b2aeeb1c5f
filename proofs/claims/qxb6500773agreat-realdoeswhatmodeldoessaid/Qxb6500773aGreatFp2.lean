import Derived.Test.Qxb6500773aGreatFp1
import Derived.Deep.CutBlock
namespace Go.Proofs.Qxb6500773aGreat
set_option maxRecDepth 100000
open Go.RowKit

set_option linter.unusedSimpArgs false in
set_option maxRecDepth 100000 in
set_option maxHeartbeats 4000000 in
/-- cnf.Formula.InRange -/
theorem fInRange_any (w : World) (B b : Nat) (va ve : Value) (L E : List Int) (i : Nat) (h : AR w B b 1 va ve L E) :
    Calls Tryz.prog 59 #[.pointer (some ⟨b, 0, none⟩), .int .i64 i] w fun e w' => e = .returned (.bool (decide (i < E.length))) ∧ w' = w := by
  have hc := numClauses_any w B b va ve L E h
  have h0 : decide (0 ≤ (i : Int)) = true := by simp
  go_enter Tryz.func59, Tryz.ntmps59
  go_wp2_with fail
  refine hc.mono ?_
  rintro e w' ⟨rfl, rfl⟩
  go_wp2
  go_ret
  exact ⟨ret_bool (by simp), rfl⟩
def ClPost (w : World) (X : List Int) (e : Ending) (w' : World) : Prop := ∃ a' c', e = .returned (.slice a' X.length c') ∧ CL w' a' X ∧ Below w.heap.size w w'
set_option linter.unusedSimpArgs false in
set_option maxRecDepth 100000 in
set_option maxHeartbeats 4000000 in
/-- cnf.Formula.Clause -/
theorem fClause_any (w : World) (B b : Nat) (va ve : Value) (L E : List Int) (hp : AR w B b 1 va ve L E) (hE : EOk L E) (hL : E.length ≤ 1000000000) (i : Nat) (hi : i < E.length) :
    Calls Tryz.prog 61 #[.pointer (some ⟨b, 0, none⟩), .int .i64 i] w (ClPost w (clP L E i)) := by
  have hin := fInRange_any w B b va ve L E i hp
  obtain ⟨aa, ca, rfl⟩ := own_form hp.r0
  have HCA := hide (show L.length ≤ ca from by
    rcases hp.r0.2 with ⟨z, z2⟩ | ⟨g, cap, cur, z, -, -, hnc, -⟩
    · simp only [Value.slice.injEq] at z; omega
    · simp only [Value.slice.injEq] at z; omega)
  have hlo := hE.lo hi
  have cAt := hide (at_any w B b 1 aa ca ve L E hp HCA.out i (loP E i) (loP E (i + 1)) hlo.2.2.2 hlo.2.2.1 hlo.1 hlo.2.1 (by omega))
  rw [show (L.take (loP E (i + 1))).drop (loP E i) = clP L E i from rfl] at cAt
  have hb : decide (i < E.length) = true := by simpa using hi
  rw [hb] at hin
  clear hlo hE hi hb hL hp
  generalize clP L E i = C at *
  go_enter Tryz.func61, Tryz.ntmps61
  go_wp2_with fail
  refine hin.mono ?_
  rintro e w' ⟨rfl, hw⟩
  rw [hw]
  clear hin hw w'
  go_wp2_with fail
  refine cAt.out.mono ?_
  rintro e w5 ⟨a5, c5, rfl, hc5, -, b5⟩
  have HP5 := hide (show ClPost w C (.returned (.slice a5 C.length c5)) w5 from ⟨a5, c5, rfl, hc5, b5⟩)
  clear hc5 b5 cAt
  go_wp2
  exact bodyPost_ret (v := .slice a5 C.length c5) (by simp [results, Tryz.results61, go_sem]) rfl HP5.out
set_option linter.unusedSimpArgs false in
set_option maxRecDepth 100000 in
set_option maxHeartbeats 4000000 in
/-- cnflaw.sameFormula, at equal formulas -/
theorem sameFormula_any (w : World) (B1 b1 B2 b2 : Nat) (va1 ve1 va2 ve2 : Value) (nv : Int) (L E : List Int) (hp : FF w B1 b1 va1 ve1 nv L E) (hq : FF w B2 b2 va2 ve2 nv L E) (hE : EOk L E) (hok : ∀ x ∈ L, LitOk x) (hl : E.length ≤ 1000000000) (hll : L.length ≤ 1000000000) :
    Calls Tryz.prog 99 #[.pointer (some ⟨b1, 0, none⟩), .pointer (some ⟨b2, 0, none⟩)] w (SaPost w true) := by
  have HP := hide hp
  have HQ := hide hq
  have HE := hide hE
  have HOK := hide hok
  have HLL := hide hll
  have hn : ((E.length : Int) != (E.length : Int)) = false := by simp
  have hn2 : (nv != nv) = false := by simp
  have c1 := numClauses_any w B1 b1 va1 ve1 L E hp.ar
  have c2 := numClauses_any w B2 b2 va2 ve2 L E hq.ar
  have c3 := numVars_any w B1 b1 va1 ve1 nv L E hp
  have c4 := numVars_any w B2 b2 va2 ve2 nv L E hq
  clear hp hq hE hok hll
  go_enter Tryz.func99, Tryz.ntmps99
  go_wp2_with fail
  refine c3.mono ?_
  rintro e w' ⟨rfl, hw⟩
  rw [hw]
  clear hw w'
  go_wp2_with fail
  refine c4.mono ?_
  rintro e w' ⟨rfl, hw⟩
  rw [hw]
  clear hw w'
  go_wp2_with fail
  refine c1.mono ?_
  rintro e w' ⟨rfl, hw⟩
  rw [hw]
  clear hw w'
  go_wp2_with fail
  refine c2.mono ?_
  rintro e w' ⟨rfl, hw⟩
  rw [hw]
  clear hw w' c1 c2 c3 c4
  go_wp2
  go_loopw [5] (fun s5 wx => ∃ (i : Nat), s5 = .int .i64 i ∧ i ≤ E.length ∧ Below w.heap.size w wx) (fun s5 _ => E.length - (intOf s5).toNat)
  case atStart => exact ⟨0, rfl, Nat.zero_le _, Below.refl _ _⟩
  case round =>
    obtain ⟨i, rfl, hi, hb⟩ := hrel
    have HB := hide hb
    clear hb
    go_wp2_with fail
    refine (numClauses_any wr B1 b1 va1 ve1 L E (HP.out.below HB.out).ar).mono ?_
    rintro e w' ⟨rfl, hw⟩
    rw [hw]
    clear hw w'
    by_cases hlt : i < E.length
    · have h1 : decide ((i : Int) < (E.length : Int)) = true := by simp; omega
      have h1n : decide (i < E.length) = true := by simp; omega
      have h4 : IntKind.i64.wrap ((i : Int) + 1) = (i : Int) + 1 := by rw [IntKind.wrap_i64]; omega
      have HCO := hide (clP_ok (E := E) HOK.out i)
      have HCN := hide (show (clP L E i).length ≤ 1000000000 from by have := clP_len HE.out hlt; have := (HE.out.lo hlt).2.1; have := HLL.out; omega)
      have cS1 := fun w' (k : Below w.heap.size w w') => hide (fClause_any w' B1 b1 va1 ve1 L E (HP.out.below k).ar HE.out hl i hlt)
      have cS2 := fun w' (k : Below w.heap.size w w') => hide (fClause_any w' B2 b2 va2 ve2 L E (HQ.out.below k).ar HE.out hl i hlt)
      generalize clP L E i = C at *
      go_wp2_with fail
      refine (cS1 _ HB.out).out.mono ?_
      rintro e w3 ⟨a3, c3, rfl, hc3, b3⟩
      have HC3 := hide hc3
      have HB3 := hide (lec HB.out b3)
      clear hc3 b3 HB
      go_wp2_with fail
      refine (cS2 _ HB3.out).out.mono ?_
      rintro e w4 ⟨a4, c4, rfl, hc4, b4⟩
      have HC4 := hide hc4
      replace HC3 := hide (HC3.out.below b4)
      have HB4 := hide (lec HB3.out b4)
      clear hc4 b4 HB3
      go_wp2_with fail
      refine (clDimacs_any _ a4 c4 C HC4.out HCO.out HCN.out).mono ?_
      rintro e w5 ⟨a5, c5, rfl, hi5, b5⟩
      have HI5 := hide hi5
      replace HC3 := hide (HC3.out.below b5)
      have HB5 := hide (lec HB4.out b5)
      clear hi5 b5 HB4 HC4
      go_wp2_with fail
      refine (sameLits_any _ a3 c3 C a5 c5 HC3.out HI5.out HCO.out HCN.out).mono ?_
      rintro e w6 ⟨rfl, b6⟩
      have HB6 := hide (lec HB5.out b6)
      clear b6 HB5 cS1 cS2
      go_wp2
      go_roundw
      case rel => exact ⟨i + 1, by simp, by omega, HB6.out⟩
      case measure => simp [intOf]; omega
    · have h1 : decide ((i : Int) < (E.length : Int)) = false := by simp; omega
      have h1n : decide (i < E.length) = false := by simp; omega
      go_wp2
      go_ret
      exact ⟨rfl, HB.out⟩
set_option linter.unusedSimpArgs false in
set_option maxRecDepth 100000 in
set_option maxHeartbeats 4000000 in
/-- cnf.Formula.Equal, at equal formulas -/
theorem fEqual_any (w : World) (B1 b1 B2 b2 : Nat) (va1 ve1 va2 ve2 : Value) (nv : Int) (L E : List Int) (hp : FF w B1 b1 va1 ve1 nv L E) (hq : FF w B2 b2 va2 ve2 nv L E) (hl : E.length ≤ 1000000000) (hll : L.length ≤ 1000000000) :
    Calls Tryz.prog 71 #[.pointer (some ⟨b1, 0, none⟩), .pointer (some ⟨b2, 0, none⟩)] w (SaPost w true) := by
  have ce := fun w' (k : Below w.heap.size w w') => hide (arEqual_any w' B1 b1 1 B2 b2 1 va1 ve1 va2 ve2 L E (hp.below k).ar (hq.below k).ar hl hll)
  have zS : w.cell? ⟨b1, 0, none⟩ = some (.int .i64 nv) ∧ w.cell? ⟨b2, 0, none⟩ = some (.int .i64 nv) := ⟨hp.c, hq.c⟩
  have hn2 : (nv == nv) = true := by simp
  clear hp hq
  go_enter Tryz.func71, Tryz.ntmps71
  go_upto_region 1 with fail
  refine wp_region_held_drew (S := fun w' => w'.cell? ⟨b1, 0, none⟩ = some (.int .i64 nv) ∧ w'.cell? ⟨b2, 0, none⟩ = some (.int .i64 nv)) (by kernel_rfl) zS (fun hHeld => ?_)
  refine wpAnyH_take (i := 0) (v := ?_) rfl (by kernel_rfl) (by kernel_rfl) (by kernel_rfl) (fun _ _ _ h => h) (Or.inl ⟨by rfl, ?_⟩) (by assumption) ?_
  rotate_left
  · (intro w hSw; (try dsimp only at hSw); go_simp; try (with_reducible rfl))
  try simp only [Act.put, List.getElem_toArray, List.getElem_cons_zero, List.getElem_cons_succ, List.setIfInBounds_toArray, List.set_cons_zero, List.set_cons_succ]
  refine wpAnyH_take (i := 1) (v := ?_) rfl (by kernel_rfl) (by kernel_rfl) (by kernel_rfl) (fun _ _ _ h => h) (Or.inl ⟨by rfl, ?_⟩) (by assumption) ?_
  rotate_left
  · (intro w hSw; (try dsimp only at hSw); go_simp; try (with_reducible rfl))
  try simp only [Act.put, List.getElem_toArray, List.getElem_cons_zero, List.getElem_cons_succ, List.setIfInBounds_toArray, List.set_cons_zero, List.set_cons_succ]
  refine wpAnyH_take (i := 2) (v := ?_) rfl (by kernel_rfl) (by kernel_rfl) (by kernel_rfl) (fun _ _ _ h => h) (Or.inl ⟨by rfl, ?_⟩) (by assumption) ?_
  rotate_left
  · (intro w hSw; (try dsimp only at hSw); go_simp; try (with_reducible rfl))
  try simp only [Act.put, List.getElem_toArray, List.getElem_cons_zero, List.getElem_cons_succ, List.setIfInBounds_toArray, List.set_cons_zero, List.set_cons_succ]
  refine wpAnyH_take (i := 3) (v := ?_) rfl (by kernel_rfl) (by kernel_rfl) (by kernel_rfl) (fun _ _ _ h => h) (Or.inl ⟨by rfl, ?_⟩) (by assumption) ?_
  rotate_left
  · (intro w hSw; (try dsimp only at hSw); ((obtain ⟨z1, z2⟩ := hSw)); go_simp; try (with_reducible rfl))
  try simp only [Act.put, List.getElem_toArray, List.getElem_cons_zero, List.getElem_cons_succ, List.setIfInBounds_toArray, List.set_cons_zero, List.set_cons_succ]
  refine wpAnyH_take (i := 4) (v := ?_) rfl (by kernel_rfl) (by kernel_rfl) (by kernel_rfl) (fun _ _ _ h => h) (Or.inl ⟨by rfl, ?_⟩) (by assumption) ?_
  rotate_left
  · (intro w hSw; (try dsimp only at hSw); go_simp; try (with_reducible rfl))
  try simp only [Act.put, List.getElem_toArray, List.getElem_cons_zero, List.getElem_cons_succ, List.setIfInBounds_toArray, List.set_cons_zero, List.set_cons_succ]
  refine wpAnyH_take (i := 5) (v := ?_) rfl (by kernel_rfl) (by kernel_rfl) (by kernel_rfl) (fun _ _ _ h => h) (Or.inl ⟨by rfl, ?_⟩) (by assumption) ?_
  rotate_left
  · (intro w hSw; (try dsimp only at hSw); go_simp; try (with_reducible rfl))
  try simp only [Act.put, List.getElem_toArray, List.getElem_cons_zero, List.getElem_cons_succ, List.setIfInBounds_toArray, List.set_cons_zero, List.set_cons_succ]
  refine wpAnyH_take (i := 6) (v := ?_) rfl (by kernel_rfl) (by kernel_rfl) (by kernel_rfl) (fun _ _ _ h => h) (Or.inl ⟨by rfl, ?_⟩) (by assumption) ?_
  rotate_left
  · (intro w hSw; (try dsimp only at hSw); go_simp; try (with_reducible rfl))
  try simp only [Act.put, List.getElem_toArray, List.getElem_cons_zero, List.getElem_cons_succ, List.setIfInBounds_toArray, List.set_cons_zero, List.set_cons_succ]
  refine wpAnyH_take (i := 7) (v := ?_) rfl (by kernel_rfl) (by kernel_rfl) (by kernel_rfl) (fun _ _ _ h => h) (Or.inl ⟨by rfl, ?_⟩) (by assumption) ?_
  rotate_left
  · (intro w hSw; (try dsimp only at hSw); ((obtain ⟨z1, z2⟩ := hSw)); go_simp; try (with_reducible rfl))
  try simp only [Act.put, List.getElem_toArray, List.getElem_cons_zero, List.getElem_cons_succ, List.setIfInBounds_toArray, List.set_cons_zero, List.set_cons_succ]
  refine wpAnyH_take (i := 8) (v := ?_) rfl (by kernel_rfl) (by kernel_rfl) (by kernel_rfl) (fun _ _ _ h => h) (Or.inl ⟨by rfl, ?_⟩) (by assumption) ?_
  rotate_left
  · (intro w hSw; (try dsimp only at hSw); go_simp; try (with_reducible rfl))
  try simp only [Act.put, List.getElem_toArray, List.getElem_cons_zero, List.getElem_cons_succ, List.setIfInBounds_toArray, List.set_cons_zero, List.set_cons_succ]
  refine wpAnyH_take (i := 9) (v := ?_) rfl (by kernel_rfl) (by kernel_rfl) (by kernel_rfl) (fun _ _ _ h => h) (Or.inl ⟨by rfl, ?_⟩) (by assumption) ?_
  rotate_left
  · (intro w hSw; (try dsimp only at hSw); go_simp; try (with_reducible rfl))
  try simp only [Act.put, List.getElem_toArray, List.getElem_cons_zero, List.getElem_cons_succ, List.setIfInBounds_toArray, List.set_cons_zero, List.set_cons_succ]
  refine wpAnyH_take (i := 10) (v := ?_) rfl (by kernel_rfl) (by kernel_rfl) (by kernel_rfl) (fun _ _ _ h => h) (Or.inl ⟨by rfl, ?_⟩) (by assumption) ?_
  rotate_left
  · (intro w hSw; (try dsimp only at hSw); go_simp; try (with_reducible rfl))
  try simp only [Act.put, List.getElem_toArray, List.getElem_cons_zero, List.getElem_cons_succ, List.setIfInBounds_toArray, List.set_cons_zero, List.set_cons_succ]
  refine wpAnyH_take (i := 11) (v := ?_) rfl (by kernel_rfl) (by kernel_rfl) (by kernel_rfl) (fun _ _ _ h => h) (Or.inl ⟨by rfl, ?_⟩) (by assumption) ?_
  rotate_left
  · (intro w hSw; (try dsimp only at hSw); go_simp; try (with_reducible rfl))
  try simp only [Act.put, List.getElem_toArray, List.getElem_cons_zero, List.getElem_cons_succ, List.setIfInBounds_toArray, List.set_cons_zero, List.set_cons_succ]
  refine wpAnyH_take (i := 12) (v := ?_) rfl (by kernel_rfl) (by kernel_rfl) (by kernel_rfl) (fun _ _ _ h => h) (Or.inl ⟨by rfl, ?_⟩) (by assumption) ?_
  rotate_left
  · (intro w hSw; (try dsimp only at hSw); go_simp; try (with_reducible rfl))
  try simp only [Act.put, List.getElem_toArray, List.getElem_cons_zero, List.getElem_cons_succ, List.setIfInBounds_toArray, List.set_cons_zero, List.set_cons_succ]
  refine wpAnyH_take (i := 13) (v := ?_) rfl (by kernel_rfl) (by kernel_rfl) (by kernel_rfl) (fun _ _ _ h => h) (Or.inl ⟨by rfl, ?_⟩) (by assumption) ?_
  rotate_left
  · (intro w hSw; (try dsimp only at hSw); go_simp; try (with_reducible rfl))
  try simp only [Act.put, List.getElem_toArray, List.getElem_cons_zero, List.getElem_cons_succ, List.setIfInBounds_toArray, List.set_cons_zero, List.set_cons_succ]
  refine wpAnyH_take (i := 14) (v := ?_) rfl (by kernel_rfl) (by kernel_rfl) (by kernel_rfl) (fun _ _ _ h => h) (Or.inl ⟨by rfl, ?_⟩) (by assumption) ?_
  rotate_left
  · (intro w hSw; (try dsimp only at hSw); go_simp; try (with_reducible rfl))
  try simp only [Act.put, List.getElem_toArray, List.getElem_cons_zero, List.getElem_cons_succ, List.setIfInBounds_toArray, List.set_cons_zero, List.set_cons_succ]
  refine wpAnyH_take (i := 15) (v := ?_) rfl (by kernel_rfl) (by kernel_rfl) (by kernel_rfl) (fun _ _ _ h => h) (Or.inl ⟨by rfl, ?_⟩) (by assumption) ?_
  rotate_left
  · (intro w hSw; (try dsimp only at hSw); go_simp; try (with_reducible rfl))
  try simp only [Act.put, List.getElem_toArray, List.getElem_cons_zero, List.getElem_cons_succ, List.setIfInBounds_toArray, List.set_cons_zero, List.set_cons_succ]
  refine wpAnyH_ready (rs := [16]) (by kernel_rfl) (by simp) ?_
  refine (AllReadyH.cons rfl (fun K hK => ?_) AllReadyH.nil)
  · refine step_call_g (by rfl) 132 #[.pointer (some ⟨b1, 1, none⟩), .pointer (some ⟨b2, 1, none⟩)] (by simp [go_sem]) (ce _ ((Below.refl _ _).drew)).out ?_
    rintro e w5 ⟨rfl, b5⟩
    have HB := hide (of_drew b5)
    have zS5 : w5.cell? ⟨b1, 0, none⟩ = some (.int .i64 nv) ∧ w5.cell? ⟨b2, 0, none⟩ = some (.int .i64 nv) := ⟨cellKeep HB.out zS.1, cellKeep HB.out zS.2⟩
    clear b5
    refine ⟨_, rfl, ?_⟩
    refine hK.out _ _ ?_ (fun hHeld => ?_)
    · (first | with_reducible exact zS5 | with_reducible exact zS | exact zS)
    clear hK K
    try simp only [Act.put, List.getElem_toArray, List.getElem_cons_zero, List.getElem_cons_succ, List.setIfInBounds_toArray, List.set_cons_zero, List.set_cons_succ]
    refine wpAnyH_take (i := 17) (v := ?_) rfl (by kernel_rfl) (by kernel_rfl) (by kernel_rfl) (fun _ _ _ h => h) (Or.inl ⟨by rfl, ?_⟩) (by assumption) ?_
    rotate_left
    · (intro w hSw; (try dsimp only at hSw); go_simp; try (with_reducible rfl))
    try simp only [Act.put, List.getElem_toArray, List.getElem_cons_zero, List.getElem_cons_succ, List.setIfInBounds_toArray, List.set_cons_zero, List.set_cons_succ]
    refine wpAnyH_take (i := 18) (v := ?_) rfl (by kernel_rfl) (by kernel_rfl) (by kernel_rfl) (fun _ _ _ h => h) (Or.inl ⟨by rfl, ?_⟩) (by assumption) ?_
    rotate_left
    · (intro w hSw; (try dsimp only at hSw); go_simp; try (with_reducible rfl))
    try simp only [Act.put, List.getElem_toArray, List.getElem_cons_zero, List.getElem_cons_succ, List.setIfInBounds_toArray, List.set_cons_zero, List.set_cons_succ]
    refine wpAnyH_done (by kernel_rfl) ?_ _
    clear ce zS zS5
    go_wp2
    go_ret
    exact ⟨rfl, HB.out⟩
end Go.Proofs.Qxb6500773aGreat
