import Derived.Test.Qxb6500777aAal
import Derived.Deep.WholeRow
namespace Go.Proofs.Qxb6500777a
open Go.RowKit

/-! ### A copy of all slots -/
def slV (f : Nat → Slt) (j : Nat) : Value := ((f (j / 10)).vals[j % 10]?).getD undef
def slArr (f : Nat → Slt) : Array Value := ((List.range 640).map (slV f)).toArray
theorem slArr_size (f : Nat → Slt) : (slArr f).size = 640 := by simp [slArr]
theorem slArr_at (f : Nat → Slt) (j : Nat) (hj : j < 640) : (slArr f)[j]? = some (slV f j) := by simp [slArr, hj]
theorem slV_at (f : Nat → Slt) {i j : Nat} {v : Value} (h : (f i).vals[j]? = some v) : slV f (i * 10 + j) = v := by
  have hj : j < 10 := (List.getElem?_eq_some_iff.1 h).1
  unfold slV
  rw [show (i * 10 + j) / 10 = i by omega, show (i * 10 + j) % 10 = j by omega, h]
  rfl
theorem slV_ex (f : Nat → Slt) (j : Nat) : ∃ v, (f (j / 10)).vals[j % 10]? = some v ∧ slV f j = v ∧ v.oneCell' = true := by
  have hj : j % 10 < 10 := Nat.mod_lt _ (by omega)
  obtain ⟨v, hv⟩ : ∃ v, (f (j / 10)).vals[j % 10]? = some v := ⟨_, List.getElem?_eq_getElem (by rw [Slt.len]; exact hj)⟩
  refine ⟨v, hv, by unfold slV; rw [hv]; rfl, ?_⟩
  have := List.mem_of_getElem? hv
  simp [Slt.vals] at this
  rcases this with rfl | rfl | rfl | rfl | rfl | rfl | rfl | rfl | rfl | rfl <;> rfl
theorem slLoad (w : World) (b o : Nat) (f : Nat → Slt) (h : ∀ i, i < 64 → RA w b (o + i * 10) (f i).vals) : (loadCellsFrom ⟨b, o, none⟩ 0 640 #[]).run Try.prog w = .ok (slArr f) w := by
  have := run_loadCells (P := Try.prog) w ⟨b, o, none⟩ 640 (slV f) (fun j hj => by
    rw [Addr.add_mid]
    obtain ⟨v, h1, h2, _⟩ := slV_ex f j
    rw [h2]
    have := (h (j / 10) (by omega)).c (j % 10) v h1
    rw [show o + j / 10 * 10 + j % 10 = o + j by omega] at this
    exact this)
  exact this
theorem Try.sz93 : (Try.prog.info? 93).map (·.size) = some 640 := by kernel_rfl
theorem Try.zs93 : Try.zeroCells93.size = 640 := by kernel_rfl
theorem slStore (w : World) (f : Nat → Slt) : (storeCells ⟨w.heap.size, 0, none⟩ (slArr f).toList 0).run Try.prog (w.alloc (.cells Try.zeroCells93 93)) = .ok () (w.alloc (.cells (slArr f) 93)) := by
  refine run_storeCells_new w 93 _ _ (by rw [slArr_size]; exact Try.sz93) (by rw [slArr_size]; exact Try.zs93) ?_
  refine Array.all_eq_true.2 fun i hi => ?_
  rw [slArr_size] at hi
  have e := slArr_at f i hi
  rw [Array.getElem?_eq_getElem (by rw [slArr_size]; exact hi)] at e
  rw [Option.some.inj e]
  obtain ⟨v, _, h2, h3⟩ := slV_ex f i
  rw [h2]; exact h3
theorem slBox (w : World) (f : Nat → Slt) : OA (w.alloc (.cells (slArr f) 93)) w.heap.size f := fun i hi => by
  refine ⟨fun j v hv => ?_, fun j => by simp [go_sem]⟩
  have hj : j < 10 := (List.getElem?_eq_some_iff.1 hv).1
  have := slArr_at f (i * 10 + j) (by omega)
  rw [slV_at f hv] at this
  simpa [go_sem] using this
end Go.Proofs.Qxb6500777a
