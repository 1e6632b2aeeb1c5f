import Derived.Test.Qxb6500773aGreatOp1
namespace Go.Proofs.Qxb6500773aGreat
set_option maxRecDepth 100000
open Go.ChangeShapes Go.WideShapes Go.ChangeAt Go.RowKit Go.Deep

/-! ### The script with its slices' capacities -/
def OpsAt5 (w : World) (a : Option Addr) (len : Nat) (f : Nat → OpV) : Prop := OpsAt w a len f ∧ ∀ i, i < len → (f i).ln ≤ (f i).lc ∧ (f i).lc ≤ maxLen
theorem cap_open {H : Type} {enc : TypeId × Value → H} {w : World} {base fuel : Nat} {spare : Nat → Bool} {held : Bool} {cs : List Value} {x : DataW H × List MemPlace} (h : DataW.trod enc Tryz.prog w base spare held fuel 37 cs = some x) :
    ∃ la ln lc, cs[2]? = some (.slice la ln lc) ∧ ln ≤ lc ∧ lc ≤ maxLen := by
  obtain ⟨xs, n, _, hxx, _, hl, hf⟩ := DataW.trod_struct Tryz.underlying37 h
  have hx : ∀ j, j < 4 → ∃ y, xs[j]? = some y := fun j hj => ⟨xs[j]'(by rw [hl]; exact hj), List.getElem?_eq_getElem _⟩
  obtain ⟨y2, e2⟩ := hx 2 (by decide)
  have f2 : DataW.trod enc Tryz.prog w base spare held n 30 ((cs.drop 2).take (Tryz.prog.cellsOf 30)) = xs[2]? := hf 2 _ rfl
  rw [Tryz.cells30, e2] at f2
  rcases open_slice1 Tryz.underlying30 Tryz.cells3 f2 with ⟨h2, _⟩ | ⟨ad, len, cap, m, n, V, D, Pl, h2, _, hl, hm, hmm, hxx, hx⟩
  · exact ⟨none, 0, 0, take1 h2, Nat.le_refl _, by unfold maxLen; omega⟩
  · exact ⟨some ad, len, cap, take1 h2, hl, hm⟩
theorem ops_open5 {H : Type} {enc : TypeId × Value → H} {w : World} {fuel : Nat} {a : Option Addr} {len cap : Nat} {x : DataW H × List MemPlace} (h : DataW.trod enc Tryz.prog w 0 (fun _ => true) true fuel 22 [.slice a len cap] = some x) (hN : ∀ z ∈ x.1.weights Tryz.prog 22, z ≤ reachBytes) :
    len ≤ 9223372036854775807 ∧ ∃ f, OpsAt5 w a len f := by
  obtain ⟨h1, f, hf⟩ := ops_open h hN
  refine ⟨h1, f, hf, ?_⟩
  rcases open_slice Tryz.underlying22 h with ⟨hcs, _⟩ | ⟨ad, len', cap', m, n, D, Pl, hcs, _, hl, hm, hmm, hxx, hel⟩
  · simp at hcs
    obtain ⟨rfl, rfl, rfl⟩ := hcs
    exact fun i hi => absurd hi (Nat.not_lt_zero _)
  · simp at hcs
    obtain ⟨rfl, rfl, rfl⟩ := hcs
    simp at hmm
    subst hmm
    rw [Tryz.cells37] at hel
    intro i hi
    obtain ⟨cs', hc, ht⟩ := hel i (by omega)
    obtain ⟨_, _, hg⟩ := World.cells?_some hc
    obtain ⟨la, ln, lc, h2, h3, h4⟩ := cap_open ht
    obtain ⟨b, off, ea, ho⟩ := hf i hi
    have g2 := (hg 2 (by decide)).trans h2
    injection ea with ea
    subst ea
    rw [Addr.add_mid, Addr.add_mid] at g2
    have := ho.c2.symm.trans g2
    injection this with this
    injection this with _ e1 e2
    rw [e1, e2]
    exact ⟨h3, h4⟩
end Go.Proofs.Qxb6500773aGreat
