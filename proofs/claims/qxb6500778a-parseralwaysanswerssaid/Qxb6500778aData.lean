import Derived.Test.Qxb6500778aRows
import Derived.WalkKit
import Derived.WalkSpells
import Derived.WalkLawsBesides
import Derived.ProofKit
import Derived.OpenShut
import Derived.Deep.Slices
import Derived.Below
import Derived.Handy
import Derived.Deep.OwnRows
import Derived.Deep.RegionHeld3
import Derived.BigQuiet
import Derived.Deep.DeepCutAuto
import Derived.Laws.BitsAllLaws
import Derived.OwnWalk
namespace Go.Proofs.Qxb6500778a
open Go.ChangeShapes Go.WideShapes Go.ChangeAt Go.RowKit Go.Deep

theorem hide {p : Prop} (h : p) : Hid p := h
theorem cellKeep {w w' : World} {p : Addr} {v : Value} (hb : Below w.heap.size w w') (h : w.cell? p = some v) : w'.cell? p = some v := (hb.cell (World.block_lt_of_cell? _ _ h)).trans h
theorem bat {B : Nat} {W w1 : World} (hb : Below B W w1) {b : Nat} (o : Nat) (h : b < B) : w1.cell? ⟨b, o, none⟩ = W.cell? ⟨b, o, none⟩ := hb.cell (p := ⟨b, o, none⟩) h
theorem of_drew {B : Nat} {W w1 : World} (hb : Below B W.drew w1) : Below B W w1 := ⟨hb.os, hb.tape, hb.output, hb.size, hb.block⟩
theorem below_drewN (w : World) (k B : Nat) : Below B w (w.drewN k) := by
  induction k with
  | zero => exact Below.refl _ _
  | succ k ih => exact ih.drew
/-- A text in memory. -/
def BytesAt (w : World) (a : Option Addr) (n : Nat) : Prop := ∀ k, k < n → ∃ b off z, a = some ⟨b, off, none⟩ ∧ w.cell? ⟨b, off + k, none⟩ = some (.int .u8 z) ∧ 0 ≤ z ∧ z < 256
theorem BytesAt.below {w w' : World} {a : Option Addr} {n : Nat} (h : BytesAt w a n) (hb : Below w.heap.size w w') : BytesAt w' a n := by
  intro k hk
  obtain ⟨b, off, z, ha, hc, hr⟩ := h k hk
  exact ⟨b, off, z, ha, cellKeep hb hc, hr⟩
/-- A step's text. -/
structure Txt where
  a : Option Addr
  n : Nat
  c : Nat
instance : Inhabited Txt := ⟨⟨none, 0, 0⟩⟩
def OpsAt (w : World) (a : Option Addr) (n : Nat) (T : Nat → Txt) : Prop :=
  ∀ i, i < n → ∃ b off, a = some ⟨b, off, none⟩ ∧ w.cell? ⟨b, off + i * 12 + 11, none⟩ = some (.slice (T i).a (T i).n (T i).c) ∧ (T i).n ≤ 9223372036854775807 ∧ (T i).n ≤ (T i).c ∧ BytesAt w (T i).a (T i).n
theorem OpsAt.below {w w' : World} {a : Option Addr} {n : Nat} {T : Nat → Txt} (h : OpsAt w a n T) (hb : Below w.heap.size w w') : OpsAt w' a n T := by
  intro i hi
  obtain ⟨b, off, ha, hc, h1, h2, h3⟩ := h i hi
  exact ⟨b, off, ha, cellKeep hb hc, h1, h2, h3.below hb⟩
theorem wf_u8 {x : Int} (h : (Lit.int .u8 x).wf = true) : 0 ≤ x ∧ x < 256 := by
  simp [Lit.wf, IntKind.min, IntKind.max, IntKind.signed, IntKind.bits] at h
  omega
theorem take1 {cs : List Value} {j : Nat} {v : Value} (h : (cs.drop j).take 1 = [v]) : cs[j]? = some v := by
  have := congrArg (·[0]?) h
  simpa [List.getElem?_take, List.getElem?_drop] using this
theorem Try.cells48 : Try.prog.cellsOf 48 = 12 := by kernel_rfl
theorem Try.cells46 : Try.prog.cellsOf 46 = 1 := by kernel_rfl
theorem Try.cells5 : Try.prog.cellsOf 5 = 1 := by kernel_rfl
/-- A list in memory: its members' cells. -/
theorem slice_open {H : Type} {enc : TypeId × Value → H} {w : World} {fuel : Nat} {t e k : Nat} {a : Option Addr} {len cap : Nat} {x : DataW H × List MemPlace} (ht : Try.prog.underlying t = some (.slice e)) (hk : Try.prog.cellsOf e = k) (hk0 : 0 < k)
    (h : DataW.trod enc Try.prog w 0 (fun _ => true) true fuel t [.slice a len cap] = some x) :
    len ≤ 9223372036854775807 ∧ ∀ i, i < len → ∃ b off n D cs, a = some ⟨b, off, none⟩ ∧ cs.length = k ∧ (∀ j, j < k → w.cell? ⟨b, off + i * k + j, none⟩ = cs[j]?) ∧ DataW.trod enc Try.prog w 0 (fun _ => true) true n e cs = some D := by
  rcases open_slice ht h with ⟨hcs, _⟩ | ⟨ad, len', cap', m, n, D, Pl, hcs, _, hl, hm, hmm, _, hel⟩
  · simp at hcs
    obtain ⟨rfl, rfl, rfl⟩ := hcs
    exact ⟨by omega, fun i hi => by omega⟩
  · simp at hcs
    obtain ⟨rfl, rfl, rfl⟩ := hcs
    simp at hmm
    subst hmm
    rw [hk] at hel
    unfold maxLen at hm
    refine ⟨by omega, fun i hi => ?_⟩
    obtain ⟨cs', hc, htr⟩ := hel i (by omega)
    obtain ⟨_, hlen, hg⟩ := World.cells?_some hc
    obtain ⟨cs0, hc0, _⟩ := hel 0 (by omega)
    obtain ⟨_, hlen0, hg0⟩ := World.cells?_some hc0
    obtain ⟨b, off, spot⟩ := ad
    have hspot : spot = none := by
      have h0 := hg0 0 hk0
      rw [List.getElem?_eq_getElem (by omega)] at h0
      simpa [Addr.add] using World.cell?_spot h0
    subst hspot
    refine ⟨b, off, n, _, cs', rfl, hlen, fun j hj => ?_, htr⟩
    have := hg j hj
    rwa [add_plain, add_plain] at this
theorem slice_form {H : Type} {enc : TypeId × Value → H} {w : World} {fuel : Nat} {t e : Nat} {cs : List Value} {x : DataW H × List MemPlace} (ht : Try.prog.underlying t = some (.slice e)) (h : DataW.trod enc Try.prog w 0 (fun _ => true) true fuel t cs = some x) : ∃ a len cap, cs = [.slice a len cap] := by
  rcases open_slice ht h with ⟨hcs, _⟩ | ⟨ad, len', cap', m, n, D, Pl, hcs, _⟩
  · exact ⟨_, _, _, hcs⟩
  · exact ⟨_, _, _, hcs⟩
theorem bytes_open {H : Type} {enc : TypeId × Value → H} {w : World} {fuel : Nat} {a : Option Addr} {len cap : Nat} {x : DataW H × List MemPlace}
    (h : DataW.trod enc Try.prog w 0 (fun _ => true) true fuel 46 [.slice a len cap] = some x) : len ≤ 9223372036854775807 ∧ len ≤ cap ∧ BytesAt w a len := by
  obtain ⟨hl, hc⟩ := slice_open Try.underlying46 Try.cells5 (by omega) h
  refine ⟨hl, ?_, fun k hk => ?_⟩
  · rcases open_slice Try.underlying46 h with ⟨hcs, _⟩ | ⟨ad, len', cap', m, n, D, Pl, hcs, _, hl', hm, hmm, _, hel⟩
    · simp at hcs
      obtain ⟨rfl, rfl, rfl⟩ := hcs
      omega
    · simp at hcs
      obtain ⟨rfl, rfl, rfl⟩ := hcs
      omega
  · obtain ⟨b, off, n, D, cs, ha, hlen, hcell, ht⟩ := hc k hk
    obtain ⟨z, hz, _, hw⟩ := DataW.trod_int Try.underlying5 ht
    refine ⟨b, off, z, ha, ?_, wf_u8 hw⟩
    have := hcell 0 (by omega)
    rw [hz] at this
    simpa using this
theorem ops_open {H : Type} {enc : TypeId × Value → H} {w : World} {fuel : Nat} {a : Option Addr} {len cap : Nat} {x : DataW H × List MemPlace}
    (h : DataW.trod enc Try.prog w 0 (fun _ => true) true fuel 22 [.slice a len cap] = some x) : len ≤ 9223372036854775807 ∧ ∃ T, OpsAt w a len T := by
  obtain ⟨hl, hc⟩ := slice_open Try.underlying22 Try.cells48 (by omega) h
  refine ⟨hl, ?_⟩
  have H1 : ∀ i, i < len → ∃ t : Txt, ∃ b off, a = some ⟨b, off, none⟩ ∧ w.cell? ⟨b, off + i * 12 + 11, none⟩ = some (.slice t.a t.n t.c) ∧ t.n ≤ 9223372036854775807 ∧ t.n ≤ t.c ∧ BytesAt w t.a t.n := by
    intro i hi
    obtain ⟨b, off, n, D, cs, ha, hlen, hcell, ht⟩ := hc i hi
    obtain ⟨xs, n1, _, _, _, hxl, hf⟩ := DataW.trod_struct Try.underlying48 ht
    obtain ⟨y3, hy3⟩ : ∃ y, xs[3]? = some y := ⟨xs[3]'(by rw [hxl]; decide), List.getElem?_eq_getElem _⟩
    have f3 : DataW.trod enc Try.prog w 0 (fun _ => true) true n1 46 ((cs.drop 11).take (Try.prog.cellsOf 46)) = xs[3]? := hf 3 _ rfl
    rw [hy3, Try.cells46] at f3
    obtain ⟨da, dl, dc, hz⟩ := slice_form Try.underlying46 f3
    rw [hz] at f3
    obtain ⟨h1, h2, h3⟩ := bytes_open f3
    refine ⟨⟨da, dl, dc⟩, b, off, ha, ?_, h1, h2, h3⟩
    rw [hcell 11 (by omega)]
    exact take1 hz
  exact ⟨fun i => if hi : i < len then Classical.choose (H1 i hi) else default, fun i hi => by simp only [hi, dite_true]; exact Classical.choose_spec (H1 i hi)⟩
end Go.Proofs.Qxb6500778a
