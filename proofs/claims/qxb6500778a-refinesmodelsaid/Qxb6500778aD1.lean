import Derived.Test.Qxb6500778aRows
import Derived.Test.Qxb6500778aS9
import Derived.ProofKit
import Derived.OpenShut
import Derived.Deep.Slices
import Derived.Below
namespace Go.Proofs.Qxb6500778a
open Go.ChangeShapes Go.WideShapes Go.ChangeAt Go.RowKit Go.Deep

/-! ### The script in memory, exactly -/
def opC (p : Opn) (da : Option Addr) (cp : Nat) : List Value := [.int .i64 p.kd, .int .i64 p.a, .int .i64 p.c.kd, .int .i64 p.c.dv, .int .i64 p.c.hp, .int .i64 p.c.pr, .int .i64 p.c.ln, .int .i64 p.c.ix, .int .i64 p.c.cl, .bool p.c.pm, .bool p.c.up, .slice da p.d.length cp]
structure Stp where
  p : Opn
  da : Option Addr
  cp : Nat
instance : Inhabited Stp := ⟨⟨⟨0, 0, .zero, []⟩, none, 0⟩⟩
def OA (w : World) (a : Option Addr) (n : Nat) (f : Nat → Stp) : Prop :=
  ∀ i, i < n → ∃ b off, a = some ⟨b, off, none⟩ ∧ (∀ (j : Nat) u, (opC (f i).p (f i).da (f i).cp)[j]? = some u → w.cell? ⟨b, off + i * 12 + j, none⟩ = some u) ∧ (f i).p.d.length ≤ 9223372036854775807 ∧ (f i).p.d.length ≤ (f i).cp ∧ SrcAt w (f i).da (f i).p.d
theorem OA.keep {w w' : World} {a : Option Addr} {n : Nat} {f : Nat → Stp} (h : OA w a n f) (hb : Below w.heap.size w w') : OA w' a n f := fun i hi => by
  obtain ⟨b, off, ha, hc, h1, h2, h3⟩ := h i hi
  refine ⟨b, off, ha, fun j u hj => cellKeep hb (hc j u hj), h1, h2, fun k y hk => ?_⟩
  obtain ⟨g, o, e, hx⟩ := h3 k y hk
  exact ⟨g, o, e, cellKeep hb hx⟩
theorem takeOne {cs : List Value} {j : Nat} {v : Value} (h : (cs.drop j).take 1 = [v]) : cs[j]? = some v := by
  have := congrArg (·[0]?) h
  simpa [List.getElem?_take, List.getElem?_drop] using this
theorem Try.cel48 : Try.prog.cellsOf 48 = 12 := by kernel_rfl
theorem Try.cel46 : Try.prog.cellsOf 46 = 1 := by kernel_rfl
theorem Try.cel5 : Try.prog.cellsOf 5 = 1 := by kernel_rfl
theorem Try.cel45 : Try.prog.cellsOf 45 = 9 := by kernel_rfl
theorem Try.cel42 : Try.prog.cellsOf 42 = 1 := by kernel_rfl
theorem Try.cel43 : Try.prog.cellsOf 43 = 1 := by kernel_rfl
theorem Try.cel3 : Try.prog.cellsOf 3 = 1 := by kernel_rfl
theorem Try.cel4 : Try.prog.cellsOf 4 = 1 := by kernel_rfl
/-- A list in memory: its members' cells. -/
theorem slice_openE {H : Type} {enc : TypeId × Value → H} {w : World} {fuel : Nat} {t e k : Nat} {a : Option Addr} {len cap : Nat} {x : DataW H × List MemPlace} (ht : Try.prog.underlying t = some (.slice e)) (hk : Try.prog.cellsOf e = k) (hk0 : 0 < k)
    (h : DataW.trod enc Try.prog w 0 (fun _ => true) true fuel t [.slice a len cap] = some x) :
    len ≤ 9223372036854775807 ∧ ∀ i, i < len → ∃ b off n D cs, a = some ⟨b, off, none⟩ ∧ cs.length = k ∧ (∀ j, j < k → w.cell? ⟨b, off + i * k + j, none⟩ = cs[j]?) ∧ DataW.trod enc Try.prog w 0 (fun _ => true) true n e cs = some D := by
  rcases open_slice ht h with ⟨hcs, _⟩ | ⟨ad, len', cap', m, n, D, Pl, hcs, _, hl, hm, hmm, _, hel⟩
  · simp at hcs
    obtain ⟨rfl, rfl, rfl⟩ := hcs
    exact ⟨by omega, fun i hi => by omega⟩
  · simp at hcs
    obtain ⟨rfl, rfl, rfl⟩ := hcs
    simp at hmm
    subst hmm
    rw [hk] at hel
    unfold maxLen at hm
    refine ⟨by omega, fun i hi => ?_⟩
    obtain ⟨cs', hc, htr⟩ := hel i (by omega)
    obtain ⟨_, hlen, hg⟩ := World.cells?_some hc
    obtain ⟨cs0, hc0, _⟩ := hel 0 (by omega)
    obtain ⟨_, hlen0, hg0⟩ := World.cells?_some hc0
    obtain ⟨b, off, spot⟩ := ad
    have hspot : spot = none := by
      have h0 := hg0 0 hk0
      rw [List.getElem?_eq_getElem (by omega)] at h0
      simpa [Addr.add] using World.cell?_spot h0
    subst hspot
    refine ⟨b, off, n, _, cs', rfl, hlen, fun j hj => ?_, htr⟩
    have := hg j hj
    rwa [add_plain, add_plain] at this
theorem slice_formE {H : Type} {enc : TypeId × Value → H} {w : World} {fuel : Nat} {t e : Nat} {cs : List Value} {x : DataW H × List MemPlace} (ht : Try.prog.underlying t = some (.slice e)) (h : DataW.trod enc Try.prog w 0 (fun _ => true) true fuel t cs = some x) : ∃ a len cap, cs = [.slice a len cap] := by
  rcases open_slice ht h with ⟨hcs, _⟩ | ⟨ad, len', cap', m, n, D, Pl, hcs, _⟩
  · exact ⟨_, _, _, hcs⟩
  · exact ⟨_, _, _, hcs⟩
theorem bytes_openE {H : Type} {enc : TypeId × Value → H} {w : World} {fuel : Nat} {a : Option Addr} {len cap : Nat} {x : DataW H × List MemPlace}
    (h : DataW.trod enc Try.prog w 0 (fun _ => true) true fuel 46 [.slice a len cap] = some x) : len ≤ 9223372036854775807 ∧ len ≤ cap ∧ ∃ l : List Int, l.length = len ∧ SrcAt w a l := by
  obtain ⟨hl, hc⟩ := slice_openE Try.underlying46 Try.cel5 (by omega) h
  refine ⟨hl, ?_, ?_⟩
  · rcases open_slice Try.underlying46 h with ⟨hcs, _⟩ | ⟨ad, len', cap', m, n, D, Pl, hcs, _, hl', hm, hmm, _, hel⟩
    · simp at hcs
      obtain ⟨rfl, rfl, rfl⟩ := hcs
      omega
    · simp at hcs
      obtain ⟨rfl, rfl, rfl⟩ := hcs
      omega
  · have hz : ∀ k, k < len → ∃ z : Int, ∃ b off, a = some ⟨b, off, none⟩ ∧ w.cell? ⟨b, off + k, none⟩ = some (.int .u8 z) := fun k hk => by
      obtain ⟨b, off, n, D, cs, ha, hlen, hcell, ht⟩ := hc k hk
      obtain ⟨z, hz, _, hw⟩ := DataW.trod_int Try.underlying5 ht
      refine ⟨z, b, off, ha, ?_⟩
      have := hcell 0 (by omega)
      rw [hz] at this
      simpa using this
    refine ⟨(List.range len).map (fun k => if hk : k < len then Classical.choose (hz k hk) else 0), by simp, fun i c hi => ?_⟩
    rw [List.getElem?_map] at hi
    by_cases hk : i < len
    · rw [show (List.range len)[i]? = some i by simp [hk]] at hi
      simp only [Option.map_some, hk, dite_true, Option.some.injEq] at hi
      obtain ⟨b, off, e1, e2⟩ := Classical.choose_spec (hz i hk)
      rw [hi] at e2
      exact ⟨b, off, e1, e2⟩
    · rw [List.getElem?_eq_none (by simp; omega)] at hi
      cases hi
theorem chg_openE {H : Type} {enc : TypeId × Value → H} {w : World} {fuel : Nat} {cs : List Value} {x : DataW H × List MemPlace} (h : DataW.trod enc Try.prog w 0 (fun _ => true) true fuel 45 cs = some x) : ∃ c : Chg, ∀ j, j < 9 → cs[j]? = c.vals[j]? := by
  obtain ⟨xs, n, _, _, _, hxl, hf⟩ := DataW.trod_struct Try.underlying45 h
  have hx : ∀ j, j < 9 → ∃ y, xs[j]? = some y := fun j hj => ⟨xs[j]'(by rw [hxl]; exact hj), List.getElem?_eq_getElem _⟩
  have F : ∀ (j t : Nat), j < 9 → Try.prog.underlying t = some (.int .i64) → DataW.trod enc Try.prog w 0 (fun _ => true) true n t ((cs.drop j).take 1) = xs[j]? → ∃ y, cs[j]? = some (.int .i64 y) := by
    intro j t hj ht hd
    obtain ⟨y, hy⟩ := hx j hj
    rw [hy] at hd
    obtain ⟨z, hz, _⟩ := DataW.trod_int ht hd
    exact ⟨z, takeOne hz⟩
  have B : ∀ (j : Nat), j < 9 → DataW.trod enc Try.prog w 0 (fun _ => true) true n 4 ((cs.drop j).take 1) = xs[j]? → ∃ y, cs[j]? = some (.bool y) := by
    intro j hj hd
    obtain ⟨y, hy⟩ := hx j hj
    rw [hy] at hd
    obtain ⟨z, hz, _⟩ := DataW.trod_bool Try.underlying4 hd
    exact ⟨z, takeOne hz⟩
  have f0 : DataW.trod enc Try.prog w 0 (fun _ => true) true n 43 ((cs.drop 0).take (Try.prog.cellsOf 43)) = xs[0]? := hf 0 _ rfl
  have f1 : DataW.trod enc Try.prog w 0 (fun _ => true) true n 3 ((cs.drop 1).take (Try.prog.cellsOf 3)) = xs[1]? := hf 1 _ rfl
  have f2 : DataW.trod enc Try.prog w 0 (fun _ => true) true n 3 ((cs.drop 2).take (Try.prog.cellsOf 3)) = xs[2]? := hf 2 _ rfl
  have f3 : DataW.trod enc Try.prog w 0 (fun _ => true) true n 3 ((cs.drop 3).take (Try.prog.cellsOf 3)) = xs[3]? := hf 3 _ rfl
  have f4 : DataW.trod enc Try.prog w 0 (fun _ => true) true n 3 ((cs.drop 4).take (Try.prog.cellsOf 3)) = xs[4]? := hf 4 _ rfl
  have f5 : DataW.trod enc Try.prog w 0 (fun _ => true) true n 3 ((cs.drop 5).take (Try.prog.cellsOf 3)) = xs[5]? := hf 5 _ rfl
  have f6 : DataW.trod enc Try.prog w 0 (fun _ => true) true n 3 ((cs.drop 6).take (Try.prog.cellsOf 3)) = xs[6]? := hf 6 _ rfl
  have f7 : DataW.trod enc Try.prog w 0 (fun _ => true) true n 4 ((cs.drop 7).take (Try.prog.cellsOf 4)) = xs[7]? := hf 7 _ rfl
  have f8 : DataW.trod enc Try.prog w 0 (fun _ => true) true n 4 ((cs.drop 8).take (Try.prog.cellsOf 4)) = xs[8]? := hf 8 _ rfl
  rw [Try.cel43] at f0
  rw [Try.cel3] at f1 f2 f3 f4 f5 f6
  rw [Try.cel4] at f7 f8
  obtain ⟨c0, h0⟩ := F 0 43 (by omega) Try.underlying43 f0
  obtain ⟨c1, h1⟩ := F 1 3 (by omega) Try.underlying3 f1
  obtain ⟨c2, h2⟩ := F 2 3 (by omega) Try.underlying3 f2
  obtain ⟨c3, h3⟩ := F 3 3 (by omega) Try.underlying3 f3
  obtain ⟨c4, h4⟩ := F 4 3 (by omega) Try.underlying3 f4
  obtain ⟨c5, h5⟩ := F 5 3 (by omega) Try.underlying3 f5
  obtain ⟨c6, h6⟩ := F 6 3 (by omega) Try.underlying3 f6
  obtain ⟨c7, h7⟩ := B 7 (by omega) f7
  obtain ⟨c8, h8⟩ := B 8 (by omega) f8
  refine ⟨⟨c0, c1, c2, c3, c4, c5, c6, c7, c8⟩, fun j hj => ?_⟩
  rcases (by omega : j = 0 ∨ j = 1 ∨ j = 2 ∨ j = 3 ∨ j = 4 ∨ j = 5 ∨ j = 6 ∨ j = 7 ∨ j = 8) with e | e | e | e | e | e | e | e | e <;> subst e
  · exact h0
  · exact h1
  · exact h2
  · exact h3
  · exact h4
  · exact h5
  · exact h6
  · exact h7
  · exact h8
theorem ops_openE {H : Type} {enc : TypeId × Value → H} {w : World} {fuel : Nat} {a : Option Addr} {len cap : Nat} {x : DataW H × List MemPlace}
    (h : DataW.trod enc Try.prog w 0 (fun _ => true) true fuel 22 [.slice a len cap] = some x) : len ≤ 9223372036854775807 ∧ ∃ f, OA w a len f := by
  obtain ⟨hl, hc⟩ := slice_openE Try.underlying22 Try.cel48 (by omega) h
  refine ⟨hl, ?_⟩
  have H1 : ∀ i, i < len → ∃ t : Stp, ∃ b off, a = some ⟨b, off, none⟩ ∧ (∀ (j : Nat) u, (opC t.p t.da t.cp)[j]? = some u → w.cell? ⟨b, off + i * 12 + j, none⟩ = some u) ∧ t.p.d.length ≤ 9223372036854775807 ∧ t.p.d.length ≤ t.cp ∧ SrcAt w t.da t.p.d := by
    intro i hi
    obtain ⟨b, off, n, D, cs, ha, hlen, hcell, ht⟩ := hc i hi
    obtain ⟨xs, n1, _, _, _, hxl, hf⟩ := DataW.trod_struct Try.underlying48 ht
    have hx : ∀ j, j < 4 → ∃ y, xs[j]? = some y := fun j hj => ⟨xs[j]'(by rw [hxl]; exact hj), List.getElem?_eq_getElem _⟩
    obtain ⟨y0, hy0⟩ := hx 0 (by omega)
    obtain ⟨y1, hy1⟩ := hx 1 (by omega)
    obtain ⟨y2, hy2⟩ := hx 2 (by omega)
    obtain ⟨y3, hy3⟩ := hx 3 (by omega)
    have f0 : DataW.trod enc Try.prog w 0 (fun _ => true) true n1 42 ((cs.drop 0).take (Try.prog.cellsOf 42)) = xs[0]? := hf 0 _ rfl
    have f1 : DataW.trod enc Try.prog w 0 (fun _ => true) true n1 3 ((cs.drop 1).take (Try.prog.cellsOf 3)) = xs[1]? := hf 1 _ rfl
    have f2 : DataW.trod enc Try.prog w 0 (fun _ => true) true n1 45 ((cs.drop 2).take (Try.prog.cellsOf 45)) = xs[2]? := hf 2 _ rfl
    have f3 : DataW.trod enc Try.prog w 0 (fun _ => true) true n1 46 ((cs.drop 11).take (Try.prog.cellsOf 46)) = xs[3]? := hf 3 _ rfl
    rw [hy0, Try.cel42] at f0
    rw [hy1, Try.cel3] at f1
    rw [hy2, Try.cel45] at f2
    rw [hy3, Try.cel46] at f3
    obtain ⟨kd, hk, _⟩ := DataW.trod_int Try.underlying42 f0
    obtain ⟨aa, hA, _⟩ := DataW.trod_int Try.underlying3 f1
    obtain ⟨c, hC⟩ := chg_openE f2
    obtain ⟨da, dl, dc, hz⟩ := slice_formE Try.underlying46 f3
    rw [hz] at f3
    obtain ⟨h1, h2, l, hll, hsrc⟩ := bytes_openE f3
    have hC' : ∀ j, j < 9 → cs[2 + j]? = c.vals[j]? := fun j hj => by
      have := hC j hj
      rwa [List.getElem?_take, if_pos hj, List.getElem?_drop] at this
    refine ⟨⟨⟨kd, aa, c, l⟩, da, dc⟩, b, off, ha, fun j u hj => ?_, by simp only []; omega, by simp only []; omega, hsrc⟩
    have hj12 : j < 12 := (List.getElem?_eq_some_iff.1 hj).1
    rw [hcell j hj12]
    rw [← hj]
    rcases (by omega : j = 0 ∨ j = 1 ∨ j = 2 ∨ j = 3 ∨ j = 4 ∨ j = 5 ∨ j = 6 ∨ j = 7 ∨ j = 8 ∨ j = 9 ∨ j = 10 ∨ j = 11) with e | e | e | e | e | e | e | e | e | e | e | e <;> subst e
    · exact takeOne hk
    · exact takeOne hA
    · exact hC' 0 (by omega)
    · exact hC' 1 (by omega)
    · exact hC' 2 (by omega)
    · exact hC' 3 (by omega)
    · exact hC' 4 (by omega)
    · exact hC' 5 (by omega)
    · exact hC' 6 (by omega)
    · exact hC' 7 (by omega)
    · exact hC' 8 (by omega)
    · have := takeOne hz
      simp only [opC]
      rw [hll]
      exact this
  exact ⟨fun i => if hi : i < len then Classical.choose (H1 i hi) else default, fun i hi => by simp only [hi, dite_true]; exact Classical.choose_spec (H1 i hi)⟩
end Go.Proofs.Qxb6500778a
