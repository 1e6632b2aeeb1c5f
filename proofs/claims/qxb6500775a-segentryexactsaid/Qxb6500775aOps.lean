import Derived.Test.Qxb6500775aRows
import Derived.WalkKit
import Derived.WalkSpells
import Derived.WalkLawsBesides
import Derived.ProofKit
import Derived.OpenShut
import Derived.Deep.Slices
namespace Go.Proofs.Qxb6500775a
open Go.ChangeShapes Go.WideShapes Go.ChangeAt Go.RowKit Go.Deep

/-- The script: len steps of eight numbers each lie behind the address. -/
def OpsAt (w : World) (a : Option Addr) (len : Nat) (f : Nat → Nat → Int) : Prop :=
  ∀ i, i < len → ∃ b off, a = some ⟨b, off, none⟩ ∧ ∀ j, j < 8 → w.cell? ⟨b, off + i * 8 + j, none⟩ = some (.int .i64 (f i j)) ∧ -9223372036854775808 ≤ f i j ∧ f i j < 9223372036854775808

/-- fixmathlaw.zzSmall1. -/
theorem small_any (w : World) (a : Option Addr) (n cap : Nat) (hn : n ≤ 9223372036854775807) :
    Calls Try.prog 14 #[.slice a n cap] w fun e w' => e = .returned (.bool (decide (n ≤ 65536))) ∧ w' = w := by
  by_cases h : n ≤ 65536
  · go_enter Try.func14, Try.ntmps14
    go_wp2
    go_ret
    exact ⟨by simp [h], rfl⟩
  · go_enter Try.func14, Try.ntmps14
    go_wp2
    go_ret
    exact ⟨by simp [h], rfl⟩

theorem Try.cells30 : Try.prog.cellsOf 30 = 8 := by kernel_rfl
theorem Try.cells28 : Try.prog.cellsOf 28 = 1 := by kernel_rfl
theorem Try.cells2 : Try.prog.cellsOf 2 = 1 := by kernel_rfl
theorem wf_i64 {x : Int} (h : (Lit.int .i64 x).wf = true) : -9223372036854775808 ≤ x ∧ x < 9223372036854775808 := by
  simp [Lit.wf, IntKind.min, IntKind.max, IntKind.signed, IntKind.bits] at h
  omega
theorem take1 {cs : List Value} {j : Nat} {v : Value} (h : (cs.drop j).take 1 = [v]) : cs[j]? = some v := by
  have := congrArg (·[0]?) h
  simpa [List.getElem?_take, List.getElem?_drop] using this
/-- One step of the script: its eight cells. -/
theorem op_cells {H : Type} {enc : TypeId × Value → H} {w : World} {base fuel : Nat} {spare : Nat → Bool} {held : Bool} {cs : List Value} {x : DataW H × List MemPlace} (h : DataW.trod enc Try.prog w base spare held fuel 30 cs = some x) :
    ∀ j, j < 8 → ∃ n, cs[j]? = some (.int .i64 n) ∧ -9223372036854775808 ≤ n ∧ n < 9223372036854775808 := by
  obtain ⟨xs, n, _, _, _, hl, hf⟩ := DataW.trod_struct Try.underlying30 h
  have hx : ∀ j, j < 8 → ∃ y, xs[j]? = some y := fun j hj => ⟨xs[j]'(by rw [hl]; exact hj), List.getElem?_eq_getElem _⟩
  intro j hj
  obtain ⟨y, hy⟩ := hx j hj
  have key : ∀ t, Try.prog.underlying t = some (.int .i64) → Try.prog.cellsOf t = 1 → DataW.trod enc Try.prog w base spare held n t ((cs.drop j).take (Try.prog.cellsOf t)) = xs[j]? → ∃ n, cs[j]? = some (.int .i64 n) ∧ -9223372036854775808 ≤ n ∧ n < 9223372036854775808 := by
    intro t ht hc hd
    rw [hc, hy] at hd
    obtain ⟨z, hz, _, hw⟩ := DataW.trod_int ht hd
    exact ⟨z, take1 hz, wf_i64 hw⟩
  rcases (by omega : j = 0 ∨ j = 1 ∨ j = 2 ∨ j = 3 ∨ j = 4 ∨ j = 5 ∨ j = 6 ∨ j = 7) with h | h | h | h | h | h | h | h
  · subst h; exact key 28 Try.underlying28 Try.cells28 (hf 0 _ rfl)
  · subst h; exact key 2 Try.underlying2 Try.cells2 (hf 1 _ rfl)
  · subst h; exact key 2 Try.underlying2 Try.cells2 (hf 2 _ rfl)
  · subst h; exact key 2 Try.underlying2 Try.cells2 (hf 3 _ rfl)
  · subst h; exact key 2 Try.underlying2 Try.cells2 (hf 4 _ rfl)
  · subst h; exact key 2 Try.underlying2 Try.cells2 (hf 5 _ rfl)
  · subst h; exact key 2 Try.underlying2 Try.cells2 (hf 6 _ rfl)
  · subst h; exact key 2 Try.underlying2 Try.cells2 (hf 7 _ rfl)
/-- What the argument's reading says of memory. -/
theorem ops_open {H : Type} {enc : TypeId × Value → H} {w : World} {fuel : Nat} {a : Option Addr} {len cap : Nat} {x : DataW H × List MemPlace} (h : DataW.trod enc Try.prog w 0 (fun _ => true) true fuel 22 [.slice a len cap] = some x) :
    len ≤ 9223372036854775807 ∧ ∃ f, OpsAt w a len f := by
  rcases open_slice Try.underlying22 h with ⟨hcs, _⟩ | ⟨ad, len', cap', m, n, D, Pl, hcs, _, hl, hm, hmm, _, hel⟩
  · simp at hcs
    obtain ⟨rfl, rfl, rfl⟩ := hcs
    exact ⟨by omega, fun _ _ => 0, fun i hi => by omega⟩
  · simp at hcs
    obtain ⟨rfl, rfl, rfl⟩ := hcs
    simp at hmm
    subst hmm
    rw [Try.cells30] at hel
    unfold maxLen at hm
    refine ⟨by omega, ?_⟩
    by_cases hl0 : len = 0
    · exact ⟨fun _ _ => 0, fun i hi => by omega⟩
    have cell : ∀ i, i < len → ∀ j, j < 8 → ∃ n, w.cell? ((ad.add (i * 8)).add j) = some (.int .i64 n) ∧ -9223372036854775808 ≤ n ∧ n < 9223372036854775808 := by
      intro i hi j hj
      obtain ⟨cs', hc, ht⟩ := hel i (by omega)
      obtain ⟨_, _, hg⟩ := World.cells?_some hc
      obtain ⟨z, hz, hb⟩ := op_cells ht j hj
      exact ⟨z, (hg j hj).trans hz, hb⟩
    obtain ⟨b, off, spot⟩ := ad
    have hspot : spot = none := by
      obtain ⟨z, hz, _⟩ := cell 0 (by omega) 0 (by omega)
      simpa [Addr.add] using World.cell?_spot hz
    subst hspot
    refine ⟨fun i j => intOf ((w.cell? ⟨b, off + i * 8 + j, none⟩).getD undef), fun i hi => ⟨b, off, rfl, fun j hj => ?_⟩⟩
    obtain ⟨z, hz, hb⟩ := cell i hi j hj
    have hz' : w.cell? ⟨b, off + i * 8 + j, none⟩ = some (.int .i64 z) := by rw [add_plain, add_plain] at hz; exact hz
    have e : intOf ((w.cell? ⟨b, off + i * 8 + j, none⟩).getD undef) = z := by rw [hz']; rfl
    show w.cell? _ = some (.int .i64 (intOf ((w.cell? ⟨b, off + i * 8 + j, none⟩).getD undef))) ∧ -9223372036854775808 ≤ intOf ((w.cell? ⟨b, off + i * 8 + j, none⟩).getD undef) ∧ intOf ((w.cell? ⟨b, off + i * 8 + j, none⟩).getD undef) < 9223372036854775808
    rw [e]
    exact ⟨hz', hb⟩
end Go.Proofs.Qxb6500775a
