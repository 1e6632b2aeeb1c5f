import Derived.Test.Qxb6500784aData
namespace Go.Proofs.Qxb6500784a
open Go.ChangeShapes Go.WideShapes Go.ChangeAt Go.RowKit Go.Deep

def OpsAt2 (w : World) (a : Option Addr) (n : Nat) (O : Nat → OpR) : Prop := OpsAt w a n O ∧ ∀ i, i < n → ∀ j, j < 8 → j ≠ 1 → ∃ k x, (O i).v j = .int k x
theorem Try.cells24 : Try.prog.cellsOf 24 = 1 := by kernel_rfl
theorem Try.cells3 : Try.prog.cellsOf 3 = 1 := by kernel_rfl
theorem Try.cells29 : Try.prog.cellsOf 29 = 1 := by kernel_rfl
theorem Try.cells30 : Try.prog.cellsOf 30 = 1 := by kernel_rfl
theorem Try.cells31 : Try.prog.cellsOf 31 = 1 := by kernel_rfl
theorem op_ints {H : Type} {enc : TypeId × Value → H} {w : World} {fuel : Nat} {cs : List Value} {x : DataW H × List MemPlace} (h : DataW.trod enc Try.prog w 0 (fun _ => true) true fuel 33 cs = some x) :
    ∀ j, j < 8 → j ≠ 1 → ∃ k y, cs[j]? = some (.int k y) := by
  obtain ⟨xs, n, _, _, _, hxl, hf⟩ := DataW.trod_struct Try.underlying33 h
  have hx : ∀ j, j < 8 → ∃ y, xs[j]? = some y := fun j hj => ⟨xs[j]'(by rw [hxl]; exact hj), List.getElem?_eq_getElem _⟩
  have F : ∀ (j t : Nat) (k : IntKind), j < 8 → Try.prog.underlying t = some (.int k) → DataW.trod enc Try.prog w 0 (fun _ => true) true n t ((cs.drop j).take 1) = xs[j]? → ∃ k y, cs[j]? = some (.int k y) := by
    intro j t k hj ht hd
    obtain ⟨y, hy⟩ := hx j hj
    rw [hy] at hd
    obtain ⟨z, hz, _⟩ := DataW.trod_int ht hd
    exact ⟨k, z, take1 hz⟩
  have f0 : DataW.trod enc Try.prog w 0 (fun _ => true) true n 24 ((cs.drop 0).take (Try.prog.cellsOf 24)) = xs[0]? := hf 0 _ rfl
  have f2 : DataW.trod enc Try.prog w 0 (fun _ => true) true n 28 ((cs.drop 2).take (Try.prog.cellsOf 28)) = xs[2]? := hf 2 _ rfl
  have f3 : DataW.trod enc Try.prog w 0 (fun _ => true) true n 3 ((cs.drop 3).take (Try.prog.cellsOf 3)) = xs[3]? := hf 3 _ rfl
  have f4 : DataW.trod enc Try.prog w 0 (fun _ => true) true n 29 ((cs.drop 4).take (Try.prog.cellsOf 29)) = xs[4]? := hf 4 _ rfl
  have f5 : DataW.trod enc Try.prog w 0 (fun _ => true) true n 30 ((cs.drop 5).take (Try.prog.cellsOf 30)) = xs[5]? := hf 5 _ rfl
  have f6 : DataW.trod enc Try.prog w 0 (fun _ => true) true n 31 ((cs.drop 6).take (Try.prog.cellsOf 31)) = xs[6]? := hf 6 _ rfl
  have f7 : DataW.trod enc Try.prog w 0 (fun _ => true) true n 29 ((cs.drop 7).take (Try.prog.cellsOf 29)) = xs[7]? := hf 7 _ rfl
  rw [Try.cells24] at f0
  rw [Try.cells28] at f2
  rw [Try.cells3] at f3
  rw [Try.cells29] at f4 f7
  rw [Try.cells30] at f5
  rw [Try.cells31] at f6
  intro j hj h1
  rcases (by omega : j = 0 ∨ j = 2 ∨ j = 3 ∨ j = 4 ∨ j = 5 ∨ j = 6 ∨ j = 7) with e | e | e | e | e | e | e <;> subst e
  · exact F 0 24 _ (by omega) Try.underlying24 f0
  · exact F 2 28 _ (by omega) Try.underlying28 f2
  · exact F 3 3 _ (by omega) Try.underlying3 f3
  · exact F 4 29 _ (by omega) Try.underlying29 f4
  · exact F 5 30 _ (by omega) Try.underlying30 f5
  · exact F 6 31 _ (by omega) Try.underlying31 f6
  · exact F 7 29 _ (by omega) Try.underlying29 f7
theorem ops_open2 {H : Type} {enc : TypeId × Value → H} {w : World} {fuel : Nat} {a : Option Addr} {len cap : Nat} {x : DataW H × List MemPlace}
    (h : DataW.trod enc Try.prog w 0 (fun _ => true) true fuel 22 [.slice a len cap] = some x) : len ≤ 9223372036854775807 ∧ ∃ O, OpsAt2 w a len O := by
  obtain ⟨hl, O, hO⟩ := ops_open h
  refine ⟨hl, O, hO, fun i hi j hj h1 => ?_⟩
  obtain ⟨_, hc⟩ := slice_open Try.underlying22 Try.cells33 (by omega) h
  obtain ⟨b, off, n, D, cs, ha, hlen, hcell, ht⟩ := hc i hi
  obtain ⟨b', off', ha', hc', _⟩ := hO i hi
  rw [ha] at ha'
  injection ha' with ha'
  injection ha' with e1 e2
  subst e1 e2
  obtain ⟨k, y, hy⟩ := op_ints ht j hj h1
  have := (hcell j (by omega)).symm.trans (hc' j hj)
  rw [hy] at this
  injection this with this
  exact ⟨k, y, this.symm⟩
end Go.Proofs.Qxb6500784a
