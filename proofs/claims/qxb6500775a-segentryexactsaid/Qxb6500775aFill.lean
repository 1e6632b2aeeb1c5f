import Derived.Test.Qxb6500775aLay
import Derived.Deep.RegionLaw
namespace Go.Proofs.Qxb6500775a
open Go.RowKit

theorem step_call {P : Program} {w : World} {ops : Array Oper} {o : Oper} {a : Act} {K : Act → World → Prop} {Q : Exit → Act → World → Prop} {E : Prop} (hg : o.guard = none)
    (f : FuncId) (args : Array Value) (hrun : (execOp a.eval o).run P w = .ok (.enter f args) w) {Post : Ending → World → Prop} (hc : Calls P f args w Post)
    (h : ∀ e w', Post e w' → ∃ v, e = .returned v ∧ K (a.put o.dst v) w') :
    if Region.wanted o (yielded ops a.tmps) = true then Oper.wp P o a w K Q else E := by
  rw [if_pos (by simp [Region.wanted, hg])]
  unfold Oper.wp
  rw [hrun, Oper.upon_enter]
  refine hc.mono fun e w' hh => ?_
  obtain ⟨v, rfl, hK⟩ := h e w' hh
  exact hK
/-- The octant's points in block o. -/
structure OC (w : World) (o : Nat) (f : Nat → Nat × Nat) : Prop where
  x : ∀ i, i < 513 → w.cell? ⟨o, i * 2, none⟩ = some (.int .u64 ((f i).1 : Nat))
  y : ∀ i, i < 513 → w.cell? ⟨o, i * 2 + 1, none⟩ = some (.int .u64 ((f i).2 : Nat))
  fr : ∀ j, w.frozen? ⟨o, j, none⟩ = false
theorem OC.below {w w' : World} {o : Nat} {f : Nat → Nat × Nat} (h : OC w o f) (hb : Below w.heap.size w w') : OC w' o f :=
  ⟨fun i hi => cellKeep hb (h.x i hi), fun i hi => cellKeep hb (h.y i hi), fun j => (hb.frozen (p := ⟨o, j, none⟩) (show o < w.heap.size from World.block_lt_of_cell? _ _ (h.x 0 (by omega)))).trans (h.fr j)⟩
def updP (f : Nat → Nat × Nat) (t : Nat) (p : Nat × Nat) : Nat → Nat × Nat := fun i => if i = t then p else f i
theorem OC.set {w : World} {o t : Nat} {f : Nat → Nat × Nat} {p : Nat × Nat} (h : OC w o f) (ht : t < 513) : OC ((w.setCell ⟨o, t * 2, none⟩ (.int .u64 (p.1 : Nat))).setCell ⟨o, t * 2 + 1, none⟩ (.int .u64 (p.2 : Nat))) o (updP f t p) := by
  refine ⟨fun i hi => ?_, fun i hi => ?_, fun j => by simpa [go_sem] using h.fr j⟩
  · by_cases e : i = t
    · subst e
      rw [World.cell?_setCell_other _ _ _ _ (by simp <;> omega), World.cell?_setCell_same _ _ _ (h.x i hi)]
      simp [updP]
    · rw [World.cell?_setCell_other _ _ _ _ (by simp <;> omega), World.cell?_setCell_other _ _ _ _ (by simp <;> omega), h.x i hi]
      simp [updP, e]
  · by_cases e : i = t
    · subst e
      have hy := h.y i hi
      rw [← World.cell?_setCell_other w ⟨o, i * 2, none⟩ ⟨o, i * 2 + 1, none⟩ (.int .u64 (p.1 : Nat)) (by simp)] at hy
      rw [World.cell?_setCell_same _ _ _ hy]
      simp [updP]
    · rw [World.cell?_setCell_other _ _ _ _ (by simp <;> omega), World.cell?_setCell_other _ _ _ _ (by simp <;> omega), h.y i hi]
      simp [updP, e]
theorem Try.zeros128 : Try.zeroCells128 = Array.replicate 1026 (.int .u64 0) := by kernel_rfl
theorem oc0 (w : World) : OC (w.alloc (.cells Try.zeroCells128 128)) w.heap.size (fun _ => (0, 0)) := by
  refine ⟨fun i hi => ?_, fun i hi => ?_, fun j => by simp [go_sem]⟩
  · rw [Try.zeros128]; simp [go_sem, show i * 2 < 1026 by omega]
  · rw [Try.zeros128]; simp [go_sem, show i * 2 + 1 < 1026 by omega]
theorem ref_even : ∀ (l : List (Nat × Nat)) (i : Nat), i < l.length → (refineL l)[i * 2]? = l[i]?
  | [], i, h => by simp at h
  | [a], i, h => by
    have : i = 0 := by simp at h; omega
    subst this; rfl
  | a :: b :: r, 0, _ => rfl
  | a :: b :: r, i + 1, h => by
    rw [refineL, show (i + 1) * 2 = i * 2 + 1 + 1 by omega]
    simp only [List.getElem?_cons_succ]
    exact ref_even (b :: r) i (by simp at h ⊢; omega)
theorem ref_odd : ∀ (l : List (Nat × Nat)) (i : Nat) (a b : Nat × Nat), l[i]? = some a → l[i + 1]? = some b → (refineL l)[i * 2 + 1]? = some (bis a b)
  | [], i, _, _, h, _ => by simp at h
  | [x], i, _, _, _, h => by simp at h
  | x :: y :: r, 0, a, b, h1, h2 => by
    simp at h1 h2
    subst h1 h2
    rfl
  | x :: y :: r, i + 1, a, b, h1, h2 => by
    rw [refineL, show (i + 1) * 2 + 1 = i * 2 + 1 + 1 + 1 by omega]
    simp only [List.getElem?_cons_succ] at h1 h2 ⊢
    exact ref_odd (y :: r) i a b h1 h2
theorem ref_len : ∀ (l : List (Nat × Nat)), 1 ≤ l.length → (refineL l).length + 1 = l.length * 2
  | [], h => by simp at h
  | [x], _ => rfl
  | x :: y :: r, _ => by
    have := ref_len (y :: r) (by simp)
    simp only [refineL, List.length_cons] at this ⊢
    omega
theorem Lv_len : ∀ k, (Lv k).length = 2 ^ k + 1
  | 0 => rfl
  | k + 1 => by
    have := ref_len (Lv k) (by rw [Lv_len k]; exact Nat.le_add_left 1 _)
    rw [Lv_len k] at this
    rw [Lv, Nat.pow_succ]
    omega
theorem chk_at : ∀ (l : List (Nat × Nat)) (i : Nat) (a b : Nat × Nat), chkL l = true → l[i]? = some a → l[i + 1]? = some b → okP a b = true
  | [], i, _, _, _, h, _ => by simp at h
  | [x], i, _, _, _, _, h => by simp at h
  | x :: y :: r, 0, a, b, hc, h1, h2 => by
    simp at h1 h2
    subst h1 h2
    rw [chkL, Bool.and_eq_true] at hc
    exact hc.1
  | x :: y :: r, i + 1, a, b, hc, h1, h2 => by
    rw [chkL, Bool.and_eq_true] at hc
    simp only [List.getElem?_cons_succ] at h1 h2
    exact chk_at (y :: r) i a b hc.2 h1 h2
theorem ok_lv {k i : Nat} {a b : Nat × Nat} (hk : k < 9) (h1 : (Lv k)[i]? = some a) (h2 : (Lv k)[i + 1]? = some b) : okP a b = true := by
  have h := chkAll
  rw [List.all_eq_true] at h
  exact chk_at (Lv k) i a b (h k (List.mem_range.2 hk)) h1 h2
theorem root_uniq {r s N : Int} (hr0 : 0 ≤ r) (hs0 : 0 ≤ s) (h1 : r * r ≤ N) (h2 : N < (r + 1) * (r + 1)) (h3 : s * s ≤ N) (h4 : N < (s + 1) * (s + 1)) : r = s := by
  rcases Int.lt_trichotomy r s with h | h | h
  · have := sq_le (a := r + 1) (b := s) (by omega) (by omega)
    omega
  · exact h
  · have := sq_le (a := s + 1) (b := r) (by omega) (by omega)
    omega
/-- bisect, where the check says so, answers bis. -/
theorem bisect_is (w : World) (a b : Nat × Nat) (ho : okP a b = true) :
    Calls Try.prog 99 #[.agg #[.int .u64 (a.1 : Nat), .int .u64 (a.2 : Nat)], .agg #[.int .u64 (b.1 : Nat), .int .u64 (b.2 : Nat)]] w fun e w' => e = .returned (.agg #[.int .u64 ((bis a b).1 : Nat), .int .u64 ((bis a b).2 : Nat)]) ∧ Below w.heap.size w w' := by
  unfold okP at ho
  simp only [Bool.and_eq_true, Nat.ble_eq] at ho
  obtain ⟨⟨⟨⟨⟨⟨h1, h2⟩, h3⟩, h4⟩, h5⟩, h6⟩, h7⟩ := ho
  refine (bisect_any w a.1 a.2 b.1 b.2 (by omega) (by omega) (by omega) (by omega) (by omega)).mono ?_
  rintro e w' ⟨r, ⟨hr0, hr1, hr2⟩, rfl, hb⟩
  have hI : r = ((isq ((a.1 + b.1) * (a.1 + b.1) + (a.2 + b.2) * (a.2 + b.2)) : Nat) : Int) := by
    refine root_uniq hr0 (Int.natCast_nonneg _) hr1 hr2 ?_ ?_
    · have := Int.ofNat_le.2 h1
      simpa using this
    · have := Int.ofNat_le.2 h2
      simp at this
      omega
  refine ⟨?_, hb⟩
  rw [hI]
  unfold bis
  simp
end Go.Proofs.Qxb6500775a
