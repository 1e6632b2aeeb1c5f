import Derived.Test.Qxb6500784aOne
namespace Go.Proofs.Qxb6500784a
open Go.RowKit

open Classical in
noncomputable def holdsB (n : Nat) (L : Nat → Leg) (x : Int) : Bool := decide (∃ j, j < n ∧ (L j).id = x)
theorem Try.sz95 : (Try.prog.info? 95).map (·.size) = some 86 := by kernel_rfl
theorem Try.zs95 : Try.zeroCells95.size = 86 := by kernel_rfl
theorem legStore (w : World) (l : Leg) (h : ∀ j, j < 86 → (l.v j).oneCell' = true) : (storeCells ⟨w.heap.size, 0, none⟩ (legArr l).toList 0).run Try.prog (w.alloc (.cells Try.zeroCells95 95)) = .ok () (w.alloc (.cells (legArr l) 95)) := by
  refine run_storeCells_new w 95 _ _ (by rw [legArr_size]; exact Try.sz95) (by rw [legArr_size]; exact Try.zs95) ?_
  refine Array.all_eq_true.2 fun i hi => ?_
  rw [legArr_size] at hi
  have e := legArr_at l i hi
  rw [Array.getElem?_eq_getElem (by rw [legArr_size]; exact hi)] at e
  rw [Option.some.inj e]
  exact h i hi
/-- The box of a leg that was copied. -/
theorem legBox (w : World) (l : Leg) (j : Nat) (hj : j < 86) : (w.alloc (.cells (legArr l) 95)).cell? ⟨w.heap.size, j, none⟩ = some (l.v j) := by
  have := legArr_at l j hj
  simpa [go_sem] using this
attribute [-simp] Try.isAgg95 Try.sizeOf95 Try.typeInfo95
set_option maxRecDepth 100000 in
set_option maxHeartbeats 4000000 in
theorem holds_any (w : World) (a : Option Addr) (n cap : Nat) (L : Nat → Leg) (x : Int) (hn : n ≤ 9223372036854775807) (hL : LegsAt w a n L) (h1 : LegsOne n L) :
    Calls Try.prog 46 #[.agg #[.slice a n cap], .int .u8 x] w fun e w' => e = .returned (.bool (holdsB n L x)) ∧ Below w.heap.size w w' := by
  obtain ⟨W, hW⟩ : ∃ W, W = (w.alloc (.cells #[.slice a n cap] 27)) := ⟨_, rfl⟩
  have ca : W.cell? ⟨w.heap.size, 0, none⟩ = some (.slice a n cap) := by rw [hW]; simp [go_sem]
  have HB : Hid (Below w.heap.size w W) := by rw [hW]; exact (Below.refl _ _).alloc (Nat.le_refl _) _
  have HL := hide hL
  have H1 := hide h1
  clear hL h1
  go_enter Try.func46, Try.ntmps46
  go_upto_region 1 with fail
  rw [← hW]
  clear hW
  go_wp2
  go_loopw [10] (fun s wr => ∃ k : Nat, k ≤ n ∧ s = .int .i64 k ∧ Below w.heap.size w wr ∧ ∀ j, j < k → (L j).id ≠ x) (fun s _ => n - (intOf s).toNat)
  case atStart => exact ⟨0, Nat.zero_le _, rfl, HB.out, fun j h => by omega⟩
  case round =>
    obtain ⟨k, hk, rfl, hbel, hno⟩ := hrel
    have HBw := hide hbel
    have HN := hide hno
    clear hbel hno HB ca
    by_cases hlt : k < n
    · obtain ⟨b, off, rfl, hc, hleg⟩ := (HL.out.below HBw.out) k hlt
      go_wp2_with fail
      simp only [Try.sizeOf95, Result.andThen]
      rw [Oper.upon_value]
      go_wp2_with fail
      have hlc := legCells wr b (off + k * 86) (L k) hc
      simp only [Try.isAgg95, Try.sizeOf95, Result.andThen, ↓reduceIte, hlc]
      rw [Oper.upon_value]
      clear hlc
      go_wp2_with fail
      have hst := legStore wr (L k) (H1.out k hlt)
      simp only [Try.sizeOf95, Result.andThen, legArr_size, ↓reduceIte, hst]
      clear hst
      obtain ⟨W2, hW2⟩ : ∃ W2, W2 = wr.alloc (.cells (legArr (L k)) 95) := ⟨_, rfl⟩
      have c0 : W2.cell? ⟨wr.heap.size, 0, none⟩ = some (.int .u8 (L k).id) := by rw [hW2, legBox _ _ _ (by omega), hleg.v0]
      have HB2 : Hid (Below w.heap.size w W2) := by rw [hW2]; exact HBw.out.alloc HBw.out.size _
      rw [← hW2]
      clear hW2 hc hleg
      rw [Oper.upon_skip]
      by_cases he : (L k).id = x
      · have HC : Hid (holdsB n L x = true) := decide_eq_true ⟨k, hlt, he⟩
        go_wp2
        go_ret
        exact ⟨by rw [HC.out]; rfl, HB2.out⟩
      · go_wp2
        go_roundw
        case rel => exact ⟨k + 1, by omega, by go_num, HB2.out, fun j hj => by rcases Nat.lt_or_ge j k with h | h; exact HN.out j h; rw [show j = k by omega]; exact he⟩
        case measure => simp [intOf]; omega
    · have HC : Hid (holdsB n L x = false) := decide_eq_false (by rintro ⟨j, hj, ej⟩; exact HN.out j (by omega) ej)
      go_wp2
      go_ret
      exact ⟨by rw [HC.out]; rfl, HBw.out⟩
end Go.Proofs.Qxb6500784a
