import Derived.Test.Qxb6500784aWo
namespace Go.Proofs.Qxb6500784a
open Go.RowKit

theorem WV.lt {w : World} {P : Pr} {Va Vb Vc Vd Ve : List Value} {f : Nat → List Nat} (h : WV w P Va Vb Vc Vd Ve f) {i : Nat} (hi : i < 5) {k : Nat} (hk : k ∈ f i) : k < w.heap.size := by
  obtain ⟨_, _, _, _, _, c1, e1, _⟩ := h.a
  obtain ⟨_, _, _, _, _, c2, e2, _⟩ := h.b
  obtain ⟨_, _, _, _, _, _, c3, e3, _⟩ := h.c
  obtain ⟨_, _, _, _, _, _, c4, e4, _⟩ := h.d
  obtain ⟨_, _, _, _, _, _, c5, e5, _⟩ := h.e
  match i, hi with
  | 0, _ => exact c1.lt (e1 ▸ hk)
  | 1, _ => exact c2.lt (e2 ▸ hk)
  | 2, _ => exact c3.lt (e3 ▸ hk)
  | 3, _ => exact c4.lt (e4 ▸ hk)
  | 4, _ => exact c5.lt (e5 ▸ hk)
/-- worldOf's value in a new block is a world. -/
def WNew (w : World) (P : Pr) (e : Ending) (y : World) : Prop :=
  ∃ (F : List Value) (S' : List Nat), e = .returned (.agg F.toArray) ∧ F.length = 667 ∧ (∀ u ∈ F, u.oneCell' = true) ∧ Below w.heap.size w y ∧ (∀ k, k ∈ S' → w.heap.size ≤ k ∧ k < y.heap.size) ∧ PP (y.alloc (.cells F.toArray 56)) y.heap.size P S'
theorem WV.new {w y : World} {P : Pr} {Va Vb Vc Vd Ve : List Value} {f : Nat → List Nat} (h : WV y P Va Vb Vc Vd Ve f) (hb : Below w.heap.size w y) (hf : ∀ i, i < 5 → ∀ k, k ∈ f i → w.heap.size ≤ k) : WNew w P (.returned (.agg (Va ++ (Vb ++ (Vc ++ (Vd ++ Ve)))).toArray)) y := by
  obtain ⟨l1, l2, l3, l4, l5⟩ := h.lens
  have hr := newR y (Va ++ (Vb ++ (Vc ++ (Vd ++ Ve)))) 56
  have ht := newT y (Va ++ (Vb ++ (Vc ++ (Vd ++ Ve)))) 56
  rw [h.len] at ht
  obtain ⟨r1, r2⟩ := range_app hr
  obtain ⟨r3, r4⟩ := range_app r2
  obtain ⟨r5, r6⟩ := range_app r4
  obtain ⟨r7, r8⟩ := range_app r6
  rw [l1] at r3 r5 r7 r8
  rw [l2] at r5 r7 r8
  rw [l3] at r7 r8
  rw [l4] at r8
  have hk := (h.ex (Z := fun _ => False) (Ex.of (be1 y (.cells (Va ++ (Vb ++ (Vc ++ (Vd ++ Ve)))).toArray 56))) (fun _ _ _ _ e => e))
  have hpa := hk.pa (b := y.heap.size) r1 r3 r5 r7 r8 ht (by simp) (fun i hi z => by have := h.lt hi z; omega)
  refine ⟨_, _, rfl, h.len, h.one, hb, fun k hk => ?_, ⟨f, hpa, rfl⟩⟩
  simp only [List.mem_append] at hk
  rcases hk with z | z | z | z | z
  · exact ⟨hf 0 (by omega) k z, h.lt (i := 0) (by omega) z⟩
  · exact ⟨hf 1 (by omega) k z, h.lt (i := 1) (by omega) z⟩
  · exact ⟨hf 2 (by omega) k z, h.lt (i := 2) (by omega) z⟩
  · exact ⟨hf 3 (by omega) k z, h.lt (i := 3) (by omega) z⟩
  · exact ⟨hf 4 (by omega) k z, h.lt (i := 4) (by omega) z⟩
theorem worldNew (w : World) (b : Nat) (P : Pr) (S : List Nat) (h : PP w b P S) (hsm : PSm P) : Calls Try.prog 20 #[.pointer (some ⟨b, 0, none⟩)] w (WNew w P) := by
  refine (worldOf_any w b P S h hsm).mono ?_
  rintro e y ⟨Ua, Ub, Uc, Ud, Ue, f, rfl, hw, hb, hf⟩
  exact hw.new hb hf
end Go.Proofs.Qxb6500784a
