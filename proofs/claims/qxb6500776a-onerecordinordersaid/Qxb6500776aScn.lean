import Derived.Test.Qxb6500776aStp
import Derived.Test.Qxb6500776aPln
namespace Go.Proofs.Qxb6500776a
open Go.RowKit

/-- The scanner's block: its cells are C. -/
structure CB (w : World) (s : Nat) (C : Nat → Value) : Prop where
  c : ∀ j, j < 4790 → w.cell? ⟨s, j, none⟩ = some (C j)
  fr : ∀ j, w.frozen? ⟨s, j, none⟩ = false
  ty : ∃ c f, w.heap[s]? = some (.cells c 75 f)
def updC (C : Nat → Value) (j : Nat) (u : Value) : Nat → Value := fun x => if x = j then u else C x
theorem updC_same (C : Nat → Value) (j : Nat) (u : Value) : updC C j u j = u := by unfold updC; rw [if_pos rfl]
theorem updC_other (C : Nat → Value) {j x : Nat} (u : Value) (h : x ≠ j) : updC C j u x = C x := by unfold updC; rw [if_neg h]
theorem CB.lt {w : World} {s : Nat} {C : Nat → Value} (h : CB w s C) : s < w.heap.size := World.block_lt_of_cell? _ _ (h.c 0 (by omega))
theorem CB.keep {w w' : World} {s : Nat} {C : Nat → Value} (h : CB w s C) {S : Nat → Prop} (e : Ex S w w') (hs : ¬ S s) : CB w' s C := by
  obtain ⟨c, f, hc⟩ := h.ty
  exact ⟨fun j hj => e.cell hs (h.c j hj), fun j => (e.frozen hs h.lt).trans (h.fr j), c, f, (e.block s h.lt hs).trans hc⟩
theorem CB.drew {w : World} {s : Nat} {C : Nat → Value} (h : CB w s C) : CB w.drew s C := ⟨h.c, h.fr, h.ty⟩
theorem CB.set {w : World} {s : Nat} {C : Nat → Value} (h : CB w s C) {j : Nat} (hj : j < 4790) (u : Value) : CB (w.setCell ⟨s, j, none⟩ u) s (updC C j u) := by
  obtain ⟨c, f, hc⟩ := h.ty
  refine ⟨fun x hx => ?_, fun x => by rw [set_frozen]; exact h.fr x, set_ty hc _ _⟩
  by_cases e : x = j
  · subst e
    rw [World.cell?_setCell_same _ _ _ (h.c x hx), updC_same]
  · rw [World.cell?_setCell_other _ _ _ _ (by simp <;> omega), updC_other _ _ e]; exact h.c x hx
theorem CB.below {w w' : World} {s : Nat} {C : Nat → Value} (h : CB w s C) (hb : Below w.heap.size w w') : CB w' s C := h.keep (Ex.of (S := fun _ => False) hb) (fun e => e)
/-- The ships gathered so far: 48 whole numbers. -/
structure OutB (w : World) (b : Nat) (F : Nat → Int) : Prop where
  c : ∀ j, j < 48 → w.cell? ⟨b, j, none⟩ = some (.int .i64 (F j))
  fr : ∀ j, w.frozen? ⟨b, j, none⟩ = false
def updF (F : Nat → Int) (j : Nat) (u : Int) : Nat → Int := fun x => if x = j then u else F x
theorem OutB.lt {w : World} {b : Nat} {F : Nat → Int} (h : OutB w b F) : b < w.heap.size := World.block_lt_of_cell? _ _ (h.c 0 (by omega))
theorem OutB.keep {w w' : World} {b : Nat} {F : Nat → Int} (h : OutB w b F) {S : Nat → Prop} (e : Ex S w w') (hs : ¬ S b) : OutB w' b F :=
  ⟨fun j hj => e.cell hs (h.c j hj), fun j => (e.frozen hs h.lt).trans (h.fr j)⟩
theorem OutB.drew {w : World} {b : Nat} {F : Nat → Int} (h : OutB w b F) : OutB w.drew b F := ⟨h.c, h.fr⟩
theorem OutB.set {w : World} {b : Nat} {F : Nat → Int} (h : OutB w b F) {j : Nat} (hj : j < 48) (u : Int) : OutB (w.setCell ⟨b, j, none⟩ (.int .i64 u)) b (updF F j u) := by
  refine ⟨fun x hx => ?_, fun x => by rw [set_frozen]; exact h.fr x⟩
  unfold updF
  by_cases e : x = j
  · subst e
    rw [World.cell?_setCell_same _ _ _ (h.c x hx), if_pos rfl]
  · rw [World.cell?_setCell_other _ _ _ _ (by simp <;> omega), if_neg e]; exact h.c x hx
/-- The grid holds the ships A. -/
structure GH (C : Nat → Value) (A : List Shp) : Prop where
  hd : ∀ c, c < 1089 → C c = .int .i64 (prv (fcel A) A.length c)
  nx : ∀ i, i < A.length → C (1089 + i) = .int .i64 (prv (fcel A) i (fcel A i))
set_option maxRecDepth 100000 in
theorem reset_any (w : World) (s : Nat) (C : Nat → Value) (h : CB w s C) :
    Calls Try.prog 48 #[.pointer (some ⟨s, 0, none⟩)] w fun e w' => e = .returned (.tuple #[]) ∧ ∃ C', CB w' s C' ∧ (∀ c, c < 1089 → C' c = .int .i64 (-1)) ∧ (∀ c, 1089 ≤ c → C' c = C c) ∧ Ex (fun k => k = s) w w' := by
  have HM := hide h
  clear h
  go_enter Try.func48, Try.ntmps48
  go_wp2
  go_loopw [2] (fun x wr => ∃ (k : Nat) (C' : Nat → Value), k ≤ 1089 ∧ x = .int .i64 k ∧ CB wr s C' ∧ (∀ c, c < k → C' c = .int .i64 (-1)) ∧ (∀ c, 1089 ≤ c → C' c = C c) ∧ Ex (fun k => k = s) w wr) (fun x _ => 1089 - (intOf x).toNat)
  case atStart => exact ⟨0, C, by omega, rfl, HM.out, fun c hc => by omega, fun _ _ => rfl, Ex.refl _ _⟩
  case round =>
    clear HM
    obtain ⟨k, C', hk, rfl, hm, h1, h2, hex⟩ := hrel
    have HM := hide hm
    have H1 := hide h1
    have H2 := hide h2
    have HE := hide hex
    clear hm h1 h2 hex
    by_cases hlt : k < 1089
    · have cz := HM.out.c k (by omega)
      have fr := HM.out.fr k
      have HN := hide (HM.out.set (j := k) (by omega) (.int .i64 (-1)))
      have HE2 := hide (HE.out.set (p := s) (j := k) rfl (.int .i64 (-1)))
      go_wp2
      go_roundw
      case rel =>
        refine ⟨k + 1, _, by omega, by simp, HN.out, fun c hc => ?_, fun c hc => ?_, HE2.out⟩
        · by_cases e : c = k
          · subst e; exact updC_same _ _ _
          · rw [updC_other _ _ e]; exact H1.out c (by omega)
        · rw [updC_other _ _ (by omega)]; exact H2.out c hc
      case measure => simp [intOf]; omega
    · obtain rfl : k = 1089 := by omega
      go_wp2
      go_end0
      exact ⟨rfl, C', HM.out, H1.out, H2.out, HE.out⟩
theorem GH.push {C : Nat → Value} {A : List Shp} (h : GH C A) {t : Shp} (ht : ShpOk t) (hn : A.length < 48) : GH (updC (updC C (1089 + A.length) (C (cel t))) (cel t) (.int .i64 A.length)) (A ++ [t]) := by
  have hc := cel_lt ht
  have cong : ∀ m c, m ≤ A.length → prv (fcel (A ++ [t])) m c = prv (fcel A) m c := fun m c hm => prv_congr c m fun j hj => fcel_old A t (by omega)
  refine ⟨fun c hlt => ?_, fun i hi => ?_⟩
  · rw [List.length_append, List.length_singleton, prv, fcel_new]
    by_cases e : cel t = c
    · subst e; rw [updC_same, if_pos rfl]
    · rw [if_neg e, updC_other _ _ (fun z => e z.symm), updC_other _ _ (by omega), h.hd c hlt, cong _ _ (Nat.le_refl _)]
  · rw [List.length_append, List.length_singleton] at hi
    rw [updC_other _ _ (by omega)]
    rcases (by omega : i < A.length ∨ i = A.length) with z | rfl
    · rw [updC_other _ _ (by omega), h.nx i z, fcel_old A t z, cong _ _ (by omega)]
    · rw [updC_same, h.hd _ hc, fcel_new, cong _ _ (Nat.le_refl _)]
set_option maxRecDepth 100000 in
theorem insert_any (w : World) (s : Nat) (C : Nat → Value) (h : CB w s C) (t : Shp) (ht : ShpOk t) (i : Nat) (hi : i < 48) (z : Int) (hz : C (cel t) = .int .i64 z) :
    Calls Try.prog 49 #[.pointer (some ⟨s, 0, none⟩), .int .i64 i, .int .i64 t.x, .int .i64 t.y] w fun e w' => e = .returned (.tuple #[]) ∧ CB w' s (updC (updC C (1089 + i) (.int .i64 z)) (cel t) (.int .i64 i)) ∧ Ex (fun k => k = s) w w' := by
  have hc := cel_lt ht
  have hl := celC_lt ht
  have c1 := fun w => hide (cellOf_any w t.y ht.y)
  have c2 := fun w => hide (cellOf_any w t.x ht.x)
  have e1 : (t.y + 1048576) / 65536 = (celR t : Int) := by
    have := ht.y
    unfold OnM at this
    unfold celR; omega
  have e2 : (t.x + 1048576) / 65536 = (celC t : Int) := by
    have := ht.x
    unfold OnM at this
    unfold celC; omega
  rw [e1] at c1
  rw [e2] at c2
  clear e1 e2
  have hcc : (celR t : Int) * 33 + celC t = (cel t : Nat) := by unfold cel; omega
  have hccN : celR t * 33 + celC t = cel t := rfl
  obtain ⟨c, hcd⟩ : ∃ c, cel t = c := ⟨_, rfl⟩
  rw [hcd] at hc hcc hccN hz ⊢
  have cz := h.c c (by omega)
  have cn := h.c (1089 + i) (by omega)
  rw [hz] at cz
  have f1 := h.fr c
  have f2 := h.fr (1089 + i)
  have HN := hide (h.set (j := 1089 + i) (by omega) (.int .i64 z)).drew
  have HE := hide ((Ex.refl (fun k => k = s) w).set (p := s) (j := 1089 + i) rfl (.int .i64 z)).drew
  clear hcd hz h
  generalize celR t = R at *
  generalize celC t = Q at *
  go_enter Try.func49, Try.ntmps49
  go_wp2_with fail
  refine (c1 _).out.mono ?_
  rintro e w' ⟨rfl, ew⟩
  rw [ew]
  clear ew w'
  go_wp2_with fail
  refine (c2 _).out.mono ?_
  rintro e w' ⟨rfl, ew⟩
  rw [ew]
  clear c1 c2 ew w'
  have hci : (c : Int) < 1089 := by omega
  have hii : (i : Int) < 48 := by omega
  go_upto_region 1 with fail
  go_region
  clear cz cn f1 f2
  generalize (World.setCell w ⟨s, 1089 + i, none⟩ (.int .i64 z)).drew = w2 at *
  have cz := HN.out.c c (by omega)
  have f1 := HN.out.fr c
  have HN2 := hide (HN.out.set (j := c) (by omega) (.int .i64 i))
  have HE2 := hide (HE.out.set (p := s) (j := c) rfl (.int .i64 i))
  go_wp2
  go_end0
  exact ⟨rfl, HN2.out, HE2.out⟩
end Go.Proofs.Qxb6500776a
