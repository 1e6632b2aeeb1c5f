import Derived.Test.Qxb6500773aGreatPr5
import Derived.Deep.CutBlock
namespace Go.Proofs.Qxb6500773aGreat
set_option maxRecDepth 100000
open Go.RowKit

set_option linter.unusedSimpArgs false in
set_option maxRecDepth 100000 in
set_option maxHeartbeats 4000000 in
/-- cnflaw.sameProof, at equal proofs -/
theorem sameProof_any (w : World) (B1 b1 B2 b2 : Nat) (va1 ve1 vd1 va2 ve2 vd2 : Value) (L E : List Int) (D : List Bool) (hp : PF w B1 b1 va1 ve1 vd1 L E D) (hq : PF w B2 b2 va2 ve2 vd2 L E D) (hE : EOk L E) (hD : D.length = E.length) (hok : ∀ x ∈ L, LitOk x) (hl : E.length ≤ 1000000000) (hll : L.length ≤ 1000000000) :
    Calls Tryz.prog 100 #[.pointer (some ⟨b1, 0, none⟩), .pointer (some ⟨b2, 0, none⟩)] w (SaPost w true) := by
  have HP := hide hp
  have HQ := hide hq
  have HE := hide hE
  have HDL := hide hD
  have HOK := hide hok
  have HLL := hide hll
  have hn : ((E.length : Int) != (E.length : Int)) = false := by simp
  have c1 := numSteps_any w B1 b1 va1 ve1 L E hp.ar
  have c2 := numSteps_any w B2 b2 va2 ve2 L E hq.ar
  clear hp hq hE hD hok hll
  go_enter Tryz.func100, Tryz.ntmps100
  go_wp2_with fail
  refine c1.mono ?_
  rintro e w' ⟨rfl, hw⟩
  rw [hw]
  clear hw w'
  go_wp2_with fail
  refine c2.mono ?_
  rintro e w' ⟨rfl, hw⟩
  rw [hw]
  clear hw w' c1 c2
  go_wp2
  go_loopw [5, 6, 7, 8, 9] (fun s5 _ _ _ _ wx => ∃ (i : Nat), s5 = .int .i64 i ∧ i ≤ E.length ∧ Below w.heap.size w wx) (fun s5 _ _ _ _ _ => E.length - (intOf s5).toNat)
  case atStart => exact ⟨0, rfl, Nat.zero_le _, Below.refl _ _⟩
  case round =>
    obtain ⟨i, rfl, hi, hb⟩ := hrel
    have HB := hide hb
    clear hb
    go_wp2_with fail
    refine (numSteps_any wr B1 b1 va1 ve1 L E (HP.out.below HB.out).ar).mono ?_
    rintro e w' ⟨rfl, hw⟩
    rw [hw]
    clear hw w'
    by_cases hlt : i < E.length
    · have h1 : decide ((i : Int) < (E.length : Int)) = true := by simp; omega
      have h1n : decide (i < E.length) = true := by simp; omega
      have h4 : IntKind.i64.wrap ((i : Int) + 1) = (i : Int) + 1 := by rw [IntKind.wrap_i64]; omega
      have HCO := hide (clP_ok (E := E) HOK.out i)
      have HCN := hide (show (clP L E i).length ≤ 1000000000 from by have := clP_len HE.out hlt; have := (HE.out.lo hlt).2.1; have := HLL.out; omega)
      have cS1 := fun w' (k : Below w.heap.size w w') => hide (step_any w' B1 b1 va1 ve1 vd1 L E D (HP.out.below k) HE.out HDL.out hl i hlt)
      have cS2 := fun w' (k : Below w.heap.size w w') => hide (step_any w' B2 b2 va2 ve2 vd2 L E D (HQ.out.below k) HE.out HDL.out hl i hlt)
      generalize clP L E i = C at *
      generalize D.getD i false = d at *
      have hdd : (d != d) = false := by simp
      go_wp2_with fail
      refine (cS1 _ HB.out).out.mono ?_
      rintro e w3 ⟨a3, c3, rfl, hc3, b3⟩
      have HC3 := hide hc3
      have HB3 := hide (lec HB.out b3)
      clear hc3 b3 HB
      go_wp2_with fail
      refine (cS2 _ HB3.out).out.mono ?_
      rintro e w4 ⟨a4, c4, rfl, hc4, b4⟩
      have HC4 := hide hc4
      replace HC3 := hide (HC3.out.below b4)
      have HB4 := hide (lec HB3.out b4)
      clear hc4 b4 HB3
      go_wp2_with fail
      refine (clDimacs_any _ a4 c4 C HC4.out HCO.out HCN.out).mono ?_
      rintro e w5 ⟨a5, c5, rfl, hi5, b5⟩
      have HI5 := hide hi5
      replace HC3 := hide (HC3.out.below b5)
      have HB5 := hide (lec HB4.out b5)
      clear hi5 b5 HB4 HC4
      go_wp2_with fail
      refine (sameLits_any _ a3 c3 C a5 c5 HC3.out HI5.out HCO.out HCN.out).mono ?_
      rintro e w6 ⟨rfl, b6⟩
      have HB6 := hide (lec HB5.out b6)
      clear b6 HB5 cS1 cS2
      go_wp2
      go_roundw
      case rel => exact ⟨i + 1, by simp, by omega, HB6.out⟩
      case measure => simp [intOf]; omega
    · have h1 : decide ((i : Int) < (E.length : Int)) = false := by simp; omega
      have h1n : decide (i < E.length) = false := by simp; omega
      go_wp2
      go_ret
      exact ⟨rfl, HB.out⟩
set_option linter.unusedSimpArgs false in
set_option maxRecDepth 100000 in
set_option maxHeartbeats 4000000 in
/-- cnf.arena.equal, at equal arenas -/
theorem arEqual_any (w : World) (B1 b1 o1 B2 b2 o2 : Nat) (va1 ve1 va2 ve2 : Value) (L E : List Int) (hp : AR w B1 b1 o1 va1 ve1 L E) (hq : AR w B2 b2 o2 va2 ve2 L E) (hl : E.length ≤ 1000000000) (hll : L.length ≤ 1000000000) :
    Calls Tryz.prog 132 #[.pointer (some ⟨b1, o1, none⟩), .pointer (some ⟨b2, o2, none⟩)] w (SaPost w true) := by
  have HP := hide hp
  have HQ := hide hq
  obtain ⟨a1, c1, rfl⟩ := own_form hp.r0
  obtain ⟨a2, c2, rfl⟩ := own_form hp.r1
  obtain ⟨a3, c3, rfl⟩ := own_form hq.r0
  obtain ⟨a4, c4, rfl⟩ := own_form hq.r1
  have x1 := hp.c0
  have x2 := hp.c1
  have x3 := hq.c0
  have x4 := hq.c1
  have hn : ((E.length : Int) != (E.length : Int)) = false := by simp
  have hn2 : ((L.length : Int) != (L.length : Int)) = false := by simp
  clear hp hq
  go_enter Tryz.func132, Tryz.ntmps132
  go_upto_region 1 with fail
  go_quiet (fail)
  rename_i nq
  have HB := hide (belN w nq)
  clear x1 x2 x3 x4
  generalize w.drewN nq = w1 at *
  have x2 := (HP.out.below HB.out).c1
  go_wp2
  go_loopw [5, 6, 38] (fun _ _ s38 wx => ∃ (i : Nat), s38 = .int .i64 i ∧ i ≤ E.length ∧ Below w.heap.size w wx) (fun _ _ s38 _ => E.length - (intOf s38).toNat)
  case atStart => exact ⟨0, rfl, Nat.zero_le _, HB.out⟩
  case round =>
    clear HB x2
    obtain ⟨i, rfl, hi, hb⟩ := hrel
    have HB := hide hb
    clear hb
    by_cases hlt : i < E.length
    · obtain ⟨x, hx⟩ : ∃ x, E[i]? = some x := ⟨_, List.getElem?_eq_getElem hlt⟩
      have x4 := (HQ.out.below HB.out).c1
      obtain ⟨g1, k1, ea, y1, -⟩ := row_cell (HP.out.below HB.out).r1 (i := i) (u := .int .i64 x) (by rw [List.getElem?_map, hx]; rfl)
      cases ea
      obtain ⟨g2, k2, ea, y2, -⟩ := row_cell (HQ.out.below HB.out).r1 (i := i) (u := .int .i64 x) (by rw [List.getElem?_map, hx]; rfl)
      cases ea
      clear hx
      have h1 : decide ((i : Int) < (E.length : Int)) = true := by simp; omega
      have h1n : decide (i < E.length) = true := by simp; omega
      have h2 : decide ((i : Int) < 0) = false := by simp
      have h3 : (i : Int) < (E.length : Int) := by omega
      have h4 : IntKind.i64.wrap ((i : Int) + 1) = (i : Int) + 1 := by rw [IntKind.wrap_i64]; omega
      have h5 : (x != x) = false := by simp
      go_wp2
      go_roundw
      case rel => exact ⟨i + 1, by simp, by omega, HB.out⟩
      case measure => simp [intOf]; omega
    · have h1 : decide ((i : Int) < (E.length : Int)) = false := by simp; omega
      have h1n : decide (i < E.length) = false := by simp; omega
      clear hlt
      have x1 := (HP.out.below HB.out).c0
      go_wp2
      go_loopw [7, 8, 58] (fun _ _ s58 wx => ∃ (i : Nat), s58 = .int .i64 i ∧ i ≤ L.length ∧ Below w.heap.size w wx) (fun _ _ s58 _ => L.length - (intOf s58).toNat)
      case atStart => exact ⟨0, rfl, Nat.zero_le _, HB.out⟩
      case round =>
        clear HB x1 h1 h1n hi
        obtain ⟨j, rfl, hj, hb⟩ := hrel
        have HB := hide hb
        clear hb
        by_cases hlt : j < L.length
        · obtain ⟨x, hx⟩ : ∃ x, L[j]? = some x := ⟨_, List.getElem?_eq_getElem hlt⟩
          have x3 := (HQ.out.below HB.out).c0
          obtain ⟨g1, k1, ea, y1, -⟩ := row_cell (HP.out.below HB.out).r0 (i := j) (u := .int .i32 x) (by rw [List.getElem?_map, hx]; rfl)
          cases ea
          obtain ⟨g2, k2, ea, y2, -⟩ := row_cell (HQ.out.below HB.out).r0 (i := j) (u := .int .i32 x) (by rw [List.getElem?_map, hx]; rfl)
          cases ea
          clear hx
          have h1 : decide ((j : Int) < (L.length : Int)) = true := by simp; omega
          have h1n : decide (j < L.length) = true := by simp; omega
          have h2 : decide ((j : Int) < 0) = false := by simp
          have h3 : (j : Int) < (L.length : Int) := by omega
          have h4 : IntKind.i64.wrap ((j : Int) + 1) = (j : Int) + 1 := by rw [IntKind.wrap_i64]; omega
          have h5 : (x != x) = false := by simp
          go_wp2
          go_roundw
          case rel => exact ⟨j + 1, by simp, by omega, HB.out⟩
          case measure => simp [intOf]; omega
        · have h1 : decide ((j : Int) < (L.length : Int)) = false := by simp; omega
          have h1n : decide (j < L.length) = false := by simp; omega
          go_wp2
          go_ret
          exact ⟨rfl, HB.out⟩
set_option linter.unusedSimpArgs false in
set_option maxRecDepth 100000 in
set_option maxHeartbeats 4000000 in
/-- cnf.Proof.Equal, at equal proofs -/
theorem pfEqual_any (w : World) (B1 b1 B2 b2 : Nat) (va1 ve1 vd1 va2 ve2 vd2 : Value) (L E : List Int) (D : List Bool) (hp : PF w B1 b1 va1 ve1 vd1 L E D) (hq : PF w B2 b2 va2 ve2 vd2 L E D) (hD : D.length = E.length) (hl : E.length ≤ 1000000000) (hll : L.length ≤ 1000000000) :
    Calls Tryz.prog 73 #[.pointer (some ⟨b1, 0, none⟩), .pointer (some ⟨b2, 0, none⟩)] w (SaPost w true) := by
  have HP := hide hp
  have HQ := hide hq
  have HDL := hide (show D.length ≤ 1000000000 by omega)
  have ce := fun w' (k : Below w.heap.size w w') => hide (arEqual_any w' B1 b1 0 B2 b2 0 va1 ve1 va2 ve2 L E (hp.below k).ar (hq.below k).ar hl hll)
  obtain ⟨a1, c1, rfl⟩ := own_form hp.r2
  obtain ⟨a2, c2, rfl⟩ := own_form hq.r2
  clear hp hq hD hl hll
  go_enter Tryz.func73, Tryz.ntmps73
  go_upto_region 1 with fail
  refine wp_region_held_drew (S := fun w' => True) (by kernel_rfl) trivial (fun hHeld => ?_)
  refine wpAnyH_take (i := 0) (v := ?_) rfl (by kernel_rfl) (by kernel_rfl) (by kernel_rfl) (fun _ _ _ h => h) (Or.inl ⟨by rfl, ?_⟩) (by assumption) ?_
  rotate_left
  · (intro w hSw; (try dsimp only at hSw); go_simp; try (with_reducible rfl))
  try simp only [Act.put, List.getElem_toArray, List.getElem_cons_zero, List.getElem_cons_succ, List.setIfInBounds_toArray, List.set_cons_zero, List.set_cons_succ]
  refine wpAnyH_take (i := 1) (v := ?_) rfl (by kernel_rfl) (by kernel_rfl) (by kernel_rfl) (fun _ _ _ h => h) (Or.inl ⟨by rfl, ?_⟩) (by assumption) ?_
  rotate_left
  · (intro w hSw; (try dsimp only at hSw); go_simp; try (with_reducible rfl))
  try simp only [Act.put, List.getElem_toArray, List.getElem_cons_zero, List.getElem_cons_succ, List.setIfInBounds_toArray, List.set_cons_zero, List.set_cons_succ]
  refine wpAnyH_take (i := 2) (v := ?_) rfl (by kernel_rfl) (by kernel_rfl) (by kernel_rfl) (fun _ _ _ h => h) (Or.inl ⟨by rfl, ?_⟩) (by assumption) ?_
  rotate_left
  · (intro w hSw; (try dsimp only at hSw); go_simp; try (with_reducible rfl))
  try simp only [Act.put, List.getElem_toArray, List.getElem_cons_zero, List.getElem_cons_succ, List.setIfInBounds_toArray, List.set_cons_zero, List.set_cons_succ]
  refine wpAnyH_take (i := 3) (v := ?_) rfl (by kernel_rfl) (by kernel_rfl) (by kernel_rfl) (fun _ _ _ h => h) (Or.inl ⟨by rfl, ?_⟩) (by assumption) ?_
  rotate_left
  · (intro w hSw; (try dsimp only at hSw); go_simp; try (with_reducible rfl))
  try simp only [Act.put, List.getElem_toArray, List.getElem_cons_zero, List.getElem_cons_succ, List.setIfInBounds_toArray, List.set_cons_zero, List.set_cons_succ]
  refine wpAnyH_take (i := 4) (v := ?_) rfl (by kernel_rfl) (by kernel_rfl) (by kernel_rfl) (fun _ _ _ h => h) (Or.inl ⟨by rfl, ?_⟩) (by assumption) ?_
  rotate_left
  · (intro w hSw; (try dsimp only at hSw); go_simp; try (with_reducible rfl))
  try simp only [Act.put, List.getElem_toArray, List.getElem_cons_zero, List.getElem_cons_succ, List.setIfInBounds_toArray, List.set_cons_zero, List.set_cons_succ]
  refine wpAnyH_take (i := 5) (v := ?_) rfl (by kernel_rfl) (by kernel_rfl) (by kernel_rfl) (fun _ _ _ h => h) (Or.inl ⟨by rfl, ?_⟩) (by assumption) ?_
  rotate_left
  · (intro w hSw; (try dsimp only at hSw); go_simp; try (with_reducible rfl))
  try simp only [Act.put, List.getElem_toArray, List.getElem_cons_zero, List.getElem_cons_succ, List.setIfInBounds_toArray, List.set_cons_zero, List.set_cons_succ]
  refine wpAnyH_ready (rs := [6]) (by kernel_rfl) (by simp) ?_
  refine (AllReadyH.cons rfl (fun K hK => ?_) AllReadyH.nil)
  · refine step_call rfl 132 #[.pointer (some ⟨b1, 0, none⟩), .pointer (some ⟨b2, 0, none⟩)] (by simp [go_sem]) (ce _ ((Below.refl _ _).drew)).out ?_
    rintro e w5 ⟨rfl, b5⟩
    have HB := hide (of_drew b5)
    clear b5
    refine ⟨_, rfl, ?_⟩
    refine hK.out _ _ ?_ (fun hHeld => ?_)
    · trivial
    clear hK K
    try simp only [Act.put, List.getElem_toArray, List.getElem_cons_zero, List.getElem_cons_succ, List.setIfInBounds_toArray, List.set_cons_zero, List.set_cons_succ]
    refine wpAnyH_take (i := 7) (v := ?_) rfl (by kernel_rfl) (by kernel_rfl) (by kernel_rfl) (fun _ _ _ h => h) (Or.inl ⟨by rfl, ?_⟩) (by assumption) ?_
    rotate_left
    · (intro w hSw; (try dsimp only at hSw); go_simp; try (with_reducible rfl))
    try simp only [Act.put, List.getElem_toArray, List.getElem_cons_zero, List.getElem_cons_succ, List.setIfInBounds_toArray, List.set_cons_zero, List.set_cons_succ]
    refine wpAnyH_done (by kernel_rfl) ?_ _
    clear ce
    have x1 := (HP.out.below HB.out).c2
    go_wp2
    go_loopw [5, 6, 20] (fun _ _ s20 wx => ∃ (i : Nat), s20 = .int .i64 i ∧ i ≤ D.length ∧ Below w.heap.size w wx) (fun _ _ s20 _ => D.length - (intOf s20).toNat)
    case atStart => exact ⟨0, rfl, Nat.zero_le _, HB.out⟩
    case round =>
      clear HB x1
      obtain ⟨i, rfl, hi, hb⟩ := hrel
      have HB := hide hb
      clear hb
      by_cases hlt : i < D.length
      · obtain ⟨x, hx⟩ : ∃ x, D[i]? = some x := ⟨_, List.getElem?_eq_getElem hlt⟩
        have x4 := (HQ.out.below HB.out).c2
        obtain ⟨g1, k1, ea, y1, -⟩ := row_cell (HP.out.below HB.out).r2 (i := i) (u := .bool x) (by rw [List.getElem?_map, hx]; rfl)
        cases ea
        obtain ⟨g2, k2, ea, y2, -⟩ := row_cell (HQ.out.below HB.out).r2 (i := i) (u := .bool x) (by rw [List.getElem?_map, hx]; rfl)
        cases ea
        clear hx
        have h1 : decide ((i : Int) < (D.length : Int)) = true := by simp; omega
        have h1n : decide (i < D.length) = true := by simp; omega
        have h2 : decide ((i : Int) < 0) = false := by simp
        have h3 : (i : Int) < (D.length : Int) := by omega
        have h4 : IntKind.i64.wrap ((i : Int) + 1) = (i : Int) + 1 := by rw [IntKind.wrap_i64]; have := HDL.out; omega
        have h5 : (x != x) = false := by simp
        go_wp2
        go_roundw
        case rel => exact ⟨i + 1, by simp, by omega, HB.out⟩
        case measure => simp [intOf]; omega
      · have h1 : decide ((i : Int) < (D.length : Int)) = false := by simp; omega
        have h1n : decide (i < D.length) = false := by simp; omega
        go_wp2
        go_ret
        exact ⟨rfl, HB.out⟩
end Go.Proofs.Qxb6500773aGreat
