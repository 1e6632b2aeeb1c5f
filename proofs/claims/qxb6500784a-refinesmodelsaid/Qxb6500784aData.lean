import Derived.Test.Qxb6500784aRows
import Derived.WalkKit
import Derived.WalkSpells
import Derived.WalkLawsBesides
import Derived.ProofKit
import Derived.OpenShut
import Derived.Deep.Slices
import Derived.Below
namespace Go.Proofs.Qxb6500784a
open Go.ChangeShapes Go.WideShapes Go.ChangeAt Go.RowKit Go.Deep

/-- What a leg holds: its 86 cells, and of them the numbers and the list that are read. -/
structure Leg where
  v : Nat → Value
  id : Int
  ch : Int
  tch : Int
  na : Option Addr
  nn : Nat
  nc : Nat
  nd : Nat → Int
instance : Inhabited Leg := ⟨⟨fun _ => undef, 0, 0, 0, none, 0, 0, fun _ => 0⟩⟩
/-- What a step holds. -/
structure OpR where
  v : Nat → Value
  la : Option Addr
  ln : Nat
  lc : Nat
  L : Nat → Leg
instance : Inhabited OpR := ⟨⟨fun _ => undef, none, 0, 0, fun _ => default⟩⟩

def NeedsAt (w : World) (a : Option Addr) (n : Nat) (f : Nat → Int) : Prop :=
  ∀ k, k < n → ∃ b off, a = some ⟨b, off, none⟩ ∧ w.cell? ⟨b, off + k, none⟩ = some (.int .u8 (f k)) ∧ 0 ≤ f k ∧ f k < 256
structure LegOk (w : World) (l : Leg) : Prop where
  v0 : l.v 0 = .int .u8 l.id
  v1 : l.v 1 = .int .u8 l.ch
  v3 : l.v 3 = .int .u8 l.tch
  v85 : l.v 85 = .slice l.na l.nn l.nc
  i0 : 0 ≤ l.id
  i1 : l.id < 256
  c0 : 0 ≤ l.ch
  c1 : l.ch < 256
  t0 : 0 ≤ l.tch
  t1 : l.tch < 256
  nn : l.nn ≤ 9223372036854775807
  nd : NeedsAt w l.na l.nn l.nd
def LegsAt (w : World) (a : Option Addr) (n : Nat) (L : Nat → Leg) : Prop :=
  ∀ i, i < n → ∃ b off, a = some ⟨b, off, none⟩ ∧ (∀ j, j < 86 → w.cell? ⟨b, off + i * 86 + j, none⟩ = some ((L i).v j)) ∧ LegOk w (L i)
structure OpOk (w : World) (o : OpR) : Prop where
  v1 : o.v 1 = .slice o.la o.ln o.lc
  ln : o.ln ≤ 9223372036854775807
  legs : LegsAt w o.la o.ln o.L
def OpsAt (w : World) (a : Option Addr) (n : Nat) (O : Nat → OpR) : Prop :=
  ∀ i, i < n → ∃ b off, a = some ⟨b, off, none⟩ ∧ (∀ j, j < 8 → w.cell? ⟨b, off + i * 8 + j, none⟩ = some ((O i).v j)) ∧ OpOk w (O i)

theorem cellKeep {w w' : World} {p : Addr} {v : Value} (hb : Below w.heap.size w w') (h : w.cell? p = some v) : w'.cell? p = some v := (hb.cell (World.block_lt_of_cell? _ _ h)).trans h
theorem NeedsAt.below {w w' : World} {a : Option Addr} {n : Nat} {f : Nat → Int} (h : NeedsAt w a n f) (hb : Below w.heap.size w w') : NeedsAt w' a n f := by
  intro k hk
  obtain ⟨b, off, ha, hc, hr⟩ := h k hk
  exact ⟨b, off, ha, cellKeep hb hc, hr⟩
theorem LegOk.below {w w' : World} {l : Leg} (h : LegOk w l) (hb : Below w.heap.size w w') : LegOk w' l :=
  ⟨h.v0, h.v1, h.v3, h.v85, h.i0, h.i1, h.c0, h.c1, h.t0, h.t1, h.nn, h.nd.below hb⟩
theorem LegsAt.below {w w' : World} {a : Option Addr} {n : Nat} {L : Nat → Leg} (h : LegsAt w a n L) (hb : Below w.heap.size w w') : LegsAt w' a n L := by
  intro i hi
  obtain ⟨b, off, ha, hc, hl⟩ := h i hi
  exact ⟨b, off, ha, fun j hj => cellKeep hb (hc j hj), hl.below hb⟩
theorem OpOk.below {w w' : World} {o : OpR} (h : OpOk w o) (hb : Below w.heap.size w w') : OpOk w' o := ⟨h.v1, h.ln, h.legs.below hb⟩
theorem OpsAt.below {w w' : World} {a : Option Addr} {n : Nat} {O : Nat → OpR} (h : OpsAt w a n O) (hb : Below w.heap.size w w') : OpsAt w' a n O := by
  intro i hi
  obtain ⟨b, off, ha, hc, hl⟩ := h i hi
  exact ⟨b, off, ha, fun j hj => cellKeep hb (hc j hj), hl.below hb⟩

theorem wf_u8 {x : Int} (h : (Lit.int .u8 x).wf = true) : 0 ≤ x ∧ x < 256 := by
  simp [Lit.wf, IntKind.min, IntKind.max, IntKind.signed, IntKind.bits] at h
  omega
theorem take1 {cs : List Value} {j : Nat} {v : Value} (h : (cs.drop j).take 1 = [v]) : cs[j]? = some v := by
  have := congrArg (·[0]?) h
  simpa [List.getElem?_take, List.getElem?_drop] using this
theorem Try.cells33 : Try.prog.cellsOf 33 = 8 := by kernel_rfl
theorem Try.cells27 : Try.prog.cellsOf 27 = 1 := by kernel_rfl
theorem Try.cells28 : Try.prog.cellsOf 28 = 1 := by kernel_rfl
theorem Try.cells25 : Try.prog.cellsOf 25 = 1 := by kernel_rfl
theorem Try.cells95 : Try.prog.cellsOf 95 = 86 := by kernel_rfl
theorem Try.cells92 : Try.prog.cellsOf 92 = 83 := by kernel_rfl
theorem Try.cells93 : Try.prog.cellsOf 93 = 1 := by kernel_rfl
theorem Try.cells5 : Try.prog.cellsOf 5 = 1 := by kernel_rfl

/-- A list in memory: its members' cells. -/
theorem slice_open {H : Type} {enc : TypeId × Value → H} {w : World} {fuel : Nat} {t e k : Nat} {a : Option Addr} {len cap : Nat} {x : DataW H × List MemPlace} (ht : Try.prog.underlying t = some (.slice e)) (hk : Try.prog.cellsOf e = k) (hk0 : 0 < k)
    (h : DataW.trod enc Try.prog w 0 (fun _ => true) true fuel t [.slice a len cap] = some x) :
    len ≤ 9223372036854775807 ∧ ∀ i, i < len → ∃ b off n D cs, a = some ⟨b, off, none⟩ ∧ cs.length = k ∧ (∀ j, j < k → w.cell? ⟨b, off + i * k + j, none⟩ = cs[j]?) ∧ DataW.trod enc Try.prog w 0 (fun _ => true) true n e cs = some D := by
  rcases open_slice ht h with ⟨hcs, _⟩ | ⟨ad, len', cap', m, n, D, Pl, hcs, _, hl, hm, hmm, _, hel⟩
  · simp at hcs
    obtain ⟨rfl, rfl, rfl⟩ := hcs
    exact ⟨by omega, fun i hi => by omega⟩
  · simp at hcs
    obtain ⟨rfl, rfl, rfl⟩ := hcs
    simp at hmm
    subst hmm
    rw [hk] at hel
    unfold maxLen at hm
    refine ⟨by omega, fun i hi => ?_⟩
    obtain ⟨cs', hc, htr⟩ := hel i (by omega)
    obtain ⟨_, hlen, hg⟩ := World.cells?_some hc
    obtain ⟨cs0, hc0, _⟩ := hel 0 (by omega)
    obtain ⟨_, hlen0, hg0⟩ := World.cells?_some hc0
    obtain ⟨b, off, spot⟩ := ad
    have hspot : spot = none := by
      have h0 := hg0 0 hk0
      rw [List.getElem?_eq_getElem (by omega)] at h0
      simpa [Addr.add] using World.cell?_spot h0
    subst hspot
    refine ⟨b, off, n, _, cs', rfl, hlen, fun j hj => ?_, htr⟩
    have := hg j hj
    rwa [add_plain, add_plain] at this
theorem slice_form {H : Type} {enc : TypeId × Value → H} {w : World} {fuel : Nat} {t e : Nat} {cs : List Value} {x : DataW H × List MemPlace} (ht : Try.prog.underlying t = some (.slice e)) (h : DataW.trod enc Try.prog w 0 (fun _ => true) true fuel t cs = some x) : ∃ a len cap, cs = [.slice a len cap] := by
  rcases open_slice ht h with ⟨hcs, _⟩ | ⟨ad, len', cap', m, n, D, Pl, hcs, _⟩
  · exact ⟨_, _, _, hcs⟩
  · exact ⟨_, _, _, hcs⟩
theorem needs_open {H : Type} {enc : TypeId × Value → H} {w : World} {fuel : Nat} {a : Option Addr} {len cap : Nat} {x : DataW H × List MemPlace}
    (h : DataW.trod enc Try.prog w 0 (fun _ => true) true fuel 93 [.slice a len cap] = some x) : len ≤ 9223372036854775807 ∧ ∃ f, NeedsAt w a len f := by
  obtain ⟨hl, hc⟩ := slice_open Try.underlying93 Try.cells5 (by omega) h
  refine ⟨hl, ?_⟩
  have H1 : ∀ k, k < len → ∃ z : Int, ∃ b off, a = some ⟨b, off, none⟩ ∧ w.cell? ⟨b, off + k, none⟩ = some (.int .u8 z) ∧ 0 ≤ z ∧ z < 256 := by
    intro k hk
    obtain ⟨b, off, n, D, cs, ha, hlen, hcell, ht⟩ := hc k hk
    obtain ⟨z, hz, _, hw⟩ := DataW.trod_int Try.underlying5 ht
    refine ⟨z, b, off, ha, ?_, wf_u8 hw⟩
    have := hcell 0 (by omega)
    rw [hz] at this
    simpa using this
  exact ⟨fun k => if hk : k < len then Classical.choose (H1 k hk) else 0, fun k hk => by simp only [hk, dite_true]; exact Classical.choose_spec (H1 k hk)⟩
theorem leg_open {H : Type} {enc : TypeId × Value → H} {w : World} {fuel : Nat} {cs : List Value} {x : DataW H × List MemPlace} (hl : cs.length = 86) (h : DataW.trod enc Try.prog w 0 (fun _ => true) true fuel 95 cs = some x) :
    ∃ l : Leg, (∀ j, j < 86 → cs[j]? = some (l.v j)) ∧ LegOk w l := by
  obtain ⟨xs, n, _, _, _, hxl, hf⟩ := DataW.trod_struct Try.underlying95 h
  have hx : ∀ j, j < 4 → ∃ y, xs[j]? = some y := fun j hj => ⟨xs[j]'(by rw [hxl]; exact hj), List.getElem?_eq_getElem _⟩
  obtain ⟨y0, hy0⟩ := hx 0 (by omega)
  obtain ⟨y1, hy1⟩ := hx 1 (by omega)
  obtain ⟨y2, hy2⟩ := hx 2 (by omega)
  obtain ⟨y3, hy3⟩ := hx 3 (by omega)
  have f0 : DataW.trod enc Try.prog w 0 (fun _ => true) true n 5 ((cs.drop 0).take (Try.prog.cellsOf 5)) = xs[0]? := hf 0 _ rfl
  have f1 : DataW.trod enc Try.prog w 0 (fun _ => true) true n 28 ((cs.drop 1).take (Try.prog.cellsOf 28)) = xs[1]? := hf 1 _ rfl
  have f2 : DataW.trod enc Try.prog w 0 (fun _ => true) true n 92 ((cs.drop 2).take (Try.prog.cellsOf 92)) = xs[2]? := hf 2 _ rfl
  have f3 : DataW.trod enc Try.prog w 0 (fun _ => true) true n 93 ((cs.drop 85).take (Try.prog.cellsOf 93)) = xs[3]? := hf 3 _ rfl
  rw [hy0, Try.cells5] at f0
  rw [hy1, Try.cells28] at f1
  rw [hy2, Try.cells92] at f2
  rw [hy3, Try.cells93] at f3
  obtain ⟨z0, hz0, _, hw0⟩ := DataW.trod_int Try.underlying5 f0
  obtain ⟨z1, hz1, _, hw1⟩ := DataW.trod_int Try.underlying28 f1
  obtain ⟨xt, nt, _, _, _, hxt, ht⟩ := DataW.trod_struct Try.underlying92 f2
  obtain ⟨y4, hy4⟩ : ∃ y, xt[1]? = some y := ⟨xt[1]'(by rw [hxt]; decide), List.getElem?_eq_getElem _⟩
  have f4 : DataW.trod enc Try.prog w 0 (fun _ => true) true nt 28 ((((cs.drop 2).take 83).drop 1).take (Try.prog.cellsOf 28)) = xt[1]? := ht 1 _ rfl
  rw [hy4, Try.cells28] at f4
  obtain ⟨z3, hz3, _, hw3⟩ := DataW.trod_int Try.underlying28 f4
  obtain ⟨na, nn, nc, hz85⟩ := slice_form Try.underlying93 f3
  rw [hz85] at f3
  obtain ⟨hnn, nd, hnd⟩ := needs_open f3
  have e0 := take1 hz0
  have e1 := take1 hz1
  have e3 : cs[3]? = some (.int .u8 z3) := by
    have := take1 hz3
    simpa [List.getElem?_take, List.getElem?_drop] using this
  have e85 := take1 hz85
  refine ⟨⟨fun j => cs.getD j undef, z0, z1, z3, na, nn, nc, nd⟩, fun j hj => ?_, ?_⟩
  · simp [List.getD, List.getElem?_eq_getElem (show j < cs.length by omega)]
  · refine ⟨?_, ?_, ?_, ?_, (wf_u8 hw0).1, (wf_u8 hw0).2, (wf_u8 hw1).1, (wf_u8 hw1).2, (wf_u8 hw3).1, (wf_u8 hw3).2, hnn, hnd⟩
    · simp [List.getD, e0]
    · simp [List.getD, e1]
    · simp [List.getD, e3]
    · simp [List.getD, e85]
theorem legs_open {H : Type} {enc : TypeId × Value → H} {w : World} {fuel : Nat} {a : Option Addr} {len cap : Nat} {x : DataW H × List MemPlace}
    (h : DataW.trod enc Try.prog w 0 (fun _ => true) true fuel 25 [.slice a len cap] = some x) : len ≤ 9223372036854775807 ∧ ∃ L, LegsAt w a len L := by
  obtain ⟨hl, hc⟩ := slice_open Try.underlying25 Try.cells95 (by omega) h
  refine ⟨hl, ?_⟩
  have H1 : ∀ i, i < len → ∃ l : Leg, ∃ b off, a = some ⟨b, off, none⟩ ∧ (∀ j, j < 86 → w.cell? ⟨b, off + i * 86 + j, none⟩ = some (l.v j)) ∧ LegOk w l := by
    intro i hi
    obtain ⟨b, off, n, D, cs, ha, hlen, hcell, ht⟩ := hc i hi
    obtain ⟨l, h1, h2⟩ := leg_open hlen ht
    exact ⟨l, b, off, ha, fun j hj => (hcell j hj).trans (h1 j hj), h2⟩
  exact ⟨fun i => if hi : i < len then Classical.choose (H1 i hi) else default, fun i hi => by simp only [hi, dite_true]; exact Classical.choose_spec (H1 i hi)⟩
theorem op_open {H : Type} {enc : TypeId × Value → H} {w : World} {fuel : Nat} {cs : List Value} {x : DataW H × List MemPlace} (hl : cs.length = 8) (h : DataW.trod enc Try.prog w 0 (fun _ => true) true fuel 33 cs = some x) :
    ∃ o : OpR, (∀ j, j < 8 → cs[j]? = some (o.v j)) ∧ OpOk w o := by
  obtain ⟨xs, n, _, _, _, hxl, hf⟩ := DataW.trod_struct Try.underlying33 h
  obtain ⟨y1, hy1⟩ : ∃ y, xs[1]? = some y := ⟨xs[1]'(by rw [hxl]; decide), List.getElem?_eq_getElem _⟩
  have f1 : DataW.trod enc Try.prog w 0 (fun _ => true) true n 27 ((cs.drop 1).take (Try.prog.cellsOf 27)) = xs[1]? := hf 1 _ rfl
  rw [hy1, Try.cells27] at f1
  obtain ⟨xt, nt, _, _, _, hxt, ht⟩ := DataW.trod_struct Try.underlying27 f1
  obtain ⟨y4, hy4⟩ : ∃ y, xt[0]? = some y := ⟨xt[0]'(by rw [hxt]; decide), List.getElem?_eq_getElem _⟩
  have f4 : DataW.trod enc Try.prog w 0 (fun _ => true) true nt 25 ((((cs.drop 1).take 1).drop 0).take (Try.prog.cellsOf 25)) = xt[0]? := ht 0 _ rfl
  rw [hy4, Try.cells25] at f4
  obtain ⟨la, ln, lc, hz⟩ := slice_form Try.underlying25 f4
  rw [hz] at f4
  obtain ⟨hln, L, hL⟩ := legs_open f4
  have e1 : cs[1]? = some (.slice la ln lc) := by
    have := take1 hz
    simpa [List.getElem?_take, List.getElem?_drop] using this
  refine ⟨⟨fun j => cs.getD j undef, la, ln, lc, L⟩, fun j hj => ?_, ?_, hln, hL⟩
  · simp [List.getD, List.getElem?_eq_getElem (show j < cs.length by omega)]
  · simp [List.getD, e1]
theorem ops_open {H : Type} {enc : TypeId × Value → H} {w : World} {fuel : Nat} {a : Option Addr} {len cap : Nat} {x : DataW H × List MemPlace}
    (h : DataW.trod enc Try.prog w 0 (fun _ => true) true fuel 22 [.slice a len cap] = some x) : len ≤ 9223372036854775807 ∧ ∃ O, OpsAt w a len O := by
  obtain ⟨hl, hc⟩ := slice_open Try.underlying22 Try.cells33 (by omega) h
  refine ⟨hl, ?_⟩
  have H1 : ∀ i, i < len → ∃ o : OpR, ∃ b off, a = some ⟨b, off, none⟩ ∧ (∀ j, j < 8 → w.cell? ⟨b, off + i * 8 + j, none⟩ = some (o.v j)) ∧ OpOk w o := by
    intro i hi
    obtain ⟨b, off, n, D, cs, ha, hlen, hcell, ht⟩ := hc i hi
    obtain ⟨l, h1, h2⟩ := op_open hlen ht
    exact ⟨l, b, off, ha, fun j hj => (hcell j hj).trans (h1 j hj), h2⟩
  exact ⟨fun i => if hi : i < len then Classical.choose (H1 i hi) else default, fun i hi => by simp only [hi, dite_true]; exact Classical.choose_spec (H1 i hi)⟩
end Go.Proofs.Qxb6500784a
