import Derived.Test.Qxb6500773aGreatSc1
import Derived.ProofKit
import Derived.OpenShut
import Derived.Deep.Slices
import Derived.SizedLaws
namespace Go.Proofs.Qxb6500773aGreat
set_option maxRecDepth 100000
open Go.ChangeShapes Go.WideShapes Go.ChangeAt Go.RowKit Go.Deep

/-! ### The script -/
theorem Tryz.cells37 : Tryz.prog.cellsOf 37 = 4 := by kernel_rfl
theorem Tryz.cells34 : Tryz.prog.cellsOf 34 = 1 := by kernel_rfl
theorem Tryz.cells3 : Tryz.prog.cellsOf 3 = 1 := by kernel_rfl
theorem Tryz.cells30 : Tryz.prog.cellsOf 30 = 1 := by kernel_rfl
theorem Tryz.cells35 : Tryz.prog.cellsOf 35 = 1 := by kernel_rfl
theorem Tryz.bytes5 : Tryz.prog.bytesOf 5 = 1 := by kernel_rfl
theorem Tryz.bytes3 : Tryz.prog.bytesOf 3 = 8 := by kernel_rfl
theorem weightsAll_mem {H : Type} {P : Program} {e : TypeId} : ∀ {ds : List (DataW H)} {d : DataW H}, d ∈ ds → ∀ n ∈ d.weights P e, n ∈ DataW.weightsAll P e ds
  | d0 :: ds, d, hd, n, hn => by
    simp only [DataW.weightsAll, List.mem_append]
    rcases List.mem_cons.1 hd with e | e
    · subst e; exact .inl hn
    · exact .inr (weightsAll_mem e n hn)
theorem Tryz.cells5 : Tryz.prog.cellsOf 5 = 1 := by kernel_rfl
theorem wf_i64 {x : Int} (h : (Lit.int .i64 x).wf = true) : -9223372036854775808 ≤ x ∧ x < 9223372036854775808 := by
  simp [Lit.wf, IntKind.min, IntKind.max, IntKind.signed, IntKind.bits] at h
  omega
theorem wf_u8 {x : Int} (h : (Lit.int .u8 x).wf = true) : 0 ≤ x ∧ x < 256 := by
  simp [Lit.wf, IntKind.min, IntKind.max, IntKind.signed, IntKind.bits] at h
  omega
theorem take1 {cs : List Value} {j : Nat} {v : Value} (h : (cs.drop j).take 1 = [v]) : cs[j]? = some v := by
  have := congrArg (·[0]?) h
  simpa [List.getElem?_take, List.getElem?_drop] using this
/-- A slice of numbers, opened. -/
theorem ints_open {k : IntKind} {t e : TypeId} (ht : Tryz.prog.underlying t = some (.slice e)) (he : Tryz.prog.underlying e = some (.int k)) (hc : Tryz.prog.cellsOf e = 1)
    {H : Type} {enc : TypeId × Value → H} {w : World} {base fuel : Nat} {spare : Nat → Bool} {held : Bool} {cs : List Value} {x : DataW H × List MemPlace} (h : DataW.trod enc Tryz.prog w base spare held fuel t cs = some x) :
    ∃ (a : Option Addr) (n c : Nat) (T : Nat → Int), cs = [.slice a n c] ∧ (∀ N, (∀ z ∈ x.1.weights Tryz.prog t, z ≤ N) → n * Tryz.prog.bytesOf e ≤ N) ∧ ∀ i, i < n → ∃ g off, a = some ⟨g, off, none⟩ ∧ w.cell? ⟨g, off + i, none⟩ = some (.int k (T i)) ∧ (Lit.int k (T i)).wf = true := by
  rcases open_slice1 ht hc h with ⟨rfl, _⟩ | ⟨ad, len, cap, m, n, V, D, Pl, rfl, _, hl, hm, hmm, hxx, hx⟩
  · exact ⟨none, 0, 0, fun _ => 0, rfl, fun N _ => by omega, fun i hi => absurd hi (Nat.not_lt_zero _)⟩
  · have hlm : len ≤ m := by rw [hmm]; split <;> omega
    refine ⟨some ad, len, cap, fun i => intOf (V i), rfl, fun N hN => ?_, fun i hi => ?_⟩
    · have := hN ((((List.range len).map D).length + ((List.range (m - len)).map fun j => D (len + j)).length) * Tryz.prog.bytesOf e) (by rw [hxx]; simp [DataW.weights, ht])
      rw [List.length_map, List.length_map, List.length_range, List.length_range] at this
      exact Nat.le_trans (Nat.mul_le_mul_right _ (by omega)) this
    obtain ⟨h1, h2⟩ := hx i (by omega)
    obtain ⟨z, hz, _, hw⟩ := DataW.trod_int he h2
    have hV : V i = .int k z := by simpa using hz
    have g0 := (hx 0 (by omega)).1
    obtain ⟨b, off, spot⟩ := ad
    have hspot : spot = none := by simpa [Addr.add] using World.cell?_spot g0
    subst hspot
    rw [Addr.add_mid, hV] at h1
    refine ⟨b, off, rfl, ?_, ?_⟩
    · show _ = some (Value.int k (intOf (V i))); rw [hV]; exact h1
    · show (Lit.int k (intOf (V i))).wf = true; rw [hV]; exact hw
/-- One step of the script. -/
structure OpV where
  kd : Int
  a : Int
  la : Option Addr
  ln : Nat
  lc : Nat
  X : Nat → Int
  ta : Option Addr
  tn : Nat
  tc : Nat
  T : Nat → Int
deriving Inhabited
structure OpAt (w : World) (b o : Nat) (v : OpV) : Prop where
  c0 : w.cell? ⟨b, o, none⟩ = some (.int .i64 v.kd)
  c1 : w.cell? ⟨b, o + 1, none⟩ = some (.int .i64 v.a)
  c2 : w.cell? ⟨b, o + 2, none⟩ = some (.slice v.la v.ln v.lc)
  c3 : w.cell? ⟨b, o + 3, none⟩ = some (.slice v.ta v.tn v.tc)
  ra : -9223372036854775808 ≤ v.a ∧ v.a < 9223372036854775808
  li : ∀ i, i < v.ln → ∃ g off, v.la = some ⟨g, off, none⟩ ∧ w.cell? ⟨g, off + i, none⟩ = some (.int .i64 (v.X i)) ∧ -9223372036854775808 ≤ v.X i ∧ v.X i < 9223372036854775808
  bt : BT w v.ta v.tn v.T
  ll : v.ln ≤ 140737488355328
  tl : v.tn ≤ 140737488355328
theorem OpAt.below {w w' : World} {b o : Nat} {v : OpV} (h : OpAt w b o v) (k : Below w.heap.size w w') : OpAt w' b o v :=
  ⟨cellKeep k h.c0, cellKeep k h.c1, cellKeep k h.c2, cellKeep k h.c3, h.ra, fun i hi => by
    obtain ⟨g, off, e, hc, hr⟩ := h.li i hi
    exact ⟨g, off, e, cellKeep k hc, hr⟩, h.bt.below k, h.ll, h.tl⟩
def OpsAt (w : World) (a : Option Addr) (len : Nat) (f : Nat → OpV) : Prop := ∀ i, i < len → ∃ b off, a = some ⟨b, off, none⟩ ∧ OpAt w b (off + i * 4) (f i)
theorem OpsAt.below {w w' : World} {a : Option Addr} {len : Nat} {f : Nat → OpV} (h : OpsAt w a len f) (k : Below w.heap.size w w') : OpsAt w' a len f := fun i hi => by
  obtain ⟨b, off, e, hc⟩ := h i hi
  exact ⟨b, off, e, hc.below k⟩
/-- One step, opened. -/
theorem op_open {H : Type} {enc : TypeId × Value → H} {w : World} {base fuel : Nat} {spare : Nat → Bool} {held : Bool} {cs : List Value} {x : DataW H × List MemPlace} (h : DataW.trod enc Tryz.prog w base spare held fuel 37 cs = some x) :
    ∃ v : OpV, cs[0]? = some (.int .i64 v.kd) ∧ cs[1]? = some (.int .i64 v.a) ∧ cs[2]? = some (.slice v.la v.ln v.lc) ∧ cs[3]? = some (.slice v.ta v.tn v.tc) ∧ (-9223372036854775808 ≤ v.a ∧ v.a < 9223372036854775808) ∧
      (∀ i, i < v.ln → ∃ g off, v.la = some ⟨g, off, none⟩ ∧ w.cell? ⟨g, off + i, none⟩ = some (.int .i64 (v.X i)) ∧ -9223372036854775808 ≤ v.X i ∧ v.X i < 9223372036854775808) ∧ BT w v.ta v.tn v.T ∧ ((∀ z ∈ x.1.weights Tryz.prog 37, z ≤ reachBytes) → v.ln ≤ 140737488355328 ∧ v.tn ≤ 140737488355328) := by
  obtain ⟨xs, n, _, hxx, _, hl, hf⟩ := DataW.trod_struct Tryz.underlying37 h
  have hx : ∀ j, j < 4 → ∃ y, xs[j]? = some y := fun j hj => ⟨xs[j]'(by rw [hl]; exact hj), List.getElem?_eq_getElem _⟩
  obtain ⟨y0, e0⟩ := hx 0 (by decide)
  obtain ⟨y1, e1⟩ := hx 1 (by decide)
  obtain ⟨y2, e2⟩ := hx 2 (by decide)
  obtain ⟨y3, e3⟩ := hx 3 (by decide)
  have f0 : DataW.trod enc Tryz.prog w base spare held n 34 ((cs.drop 0).take (Tryz.prog.cellsOf 34)) = xs[0]? := hf 0 _ rfl
  have f1 : DataW.trod enc Tryz.prog w base spare held n 3 ((cs.drop 1).take (Tryz.prog.cellsOf 3)) = xs[1]? := hf 1 _ rfl
  have f2 : DataW.trod enc Tryz.prog w base spare held n 30 ((cs.drop 2).take (Tryz.prog.cellsOf 30)) = xs[2]? := hf 2 _ rfl
  have f3 : DataW.trod enc Tryz.prog w base spare held n 35 ((cs.drop 3).take (Tryz.prog.cellsOf 35)) = xs[3]? := hf 3 _ rfl
  rw [Tryz.cells34, e0] at f0
  rw [Tryz.cells3, e1] at f1
  rw [Tryz.cells30, e2] at f2
  rw [Tryz.cells35, e3] at f3
  obtain ⟨z0, h0, _, _⟩ := DataW.trod_int Tryz.underlying34 f0
  obtain ⟨z1, h1, _, w1⟩ := DataW.trod_int Tryz.underlying3 f1
  obtain ⟨la, ln, lc, X, h2, hl2, hX⟩ := ints_open Tryz.underlying30 Tryz.underlying3 Tryz.cells3 f2
  obtain ⟨ta, tn, tc, T, h3, hl3, hT⟩ := ints_open Tryz.underlying35 Tryz.underlying5 Tryz.cells5 f3
  refine ⟨⟨z0, z1, la, ln, lc, X, ta, tn, tc, T⟩, take1 h0, take1 h1, take1 h2, take1 h3, wf_i64 w1, fun i hi => ?_, fun i hi => ?_, fun hN => ?_⟩
  · obtain ⟨g, off, e, hc, hw⟩ := hX i hi
    exact ⟨g, off, e, hc, wf_i64 hw⟩
  · obtain ⟨g, off, e, hc, hw⟩ := hT i hi
    exact ⟨g, off, e, hc, wf_u8 hw⟩
  · have hr := reachBytes_lt
    have key : ∀ (j : Nat) (ty : TypeId) (y : DataW H × List MemPlace), xs[j]? = some y → ([34, 3, 30, 35] : List TypeId)[j]? = some ty → ∀ z ∈ y.1.weights Tryz.prog ty, z ≤ reachBytes := fun j ty y hy hty z hz => by
      refine hN z ?_
      rw [hxx]
      simp only [DataW.weights, Tryz.underlying37]
      exact DataW.weights_mem_each (ts := [34, 3, 30, 35]) (j := j) hty (by rw [List.getElem?_map, hy]; rfl) z hz
    have k2 := hl2 reachBytes (key 2 30 y2 e2 rfl)
    have k3 := hl3 reachBytes (key 3 35 y3 e3 rfl)
    rw [Tryz.bytes3] at k2
    rw [Tryz.bytes5] at k3
    exact ⟨by show ln ≤ _; omega, by show tn ≤ _; omega⟩
/-- What the argument's reading says of memory. -/
theorem ops_open {H : Type} {enc : TypeId × Value → H} {w : World} {fuel : Nat} {a : Option Addr} {len cap : Nat} {x : DataW H × List MemPlace} (h : DataW.trod enc Tryz.prog w 0 (fun _ => true) true fuel 22 [.slice a len cap] = some x) (hN : ∀ z ∈ x.1.weights Tryz.prog 22, z ≤ reachBytes) :
    len ≤ 9223372036854775807 ∧ ∃ f, OpsAt w a len f := by
  rcases open_slice Tryz.underlying22 h with ⟨hcs, _⟩ | ⟨ad, len', cap', m, n, D, Pl, hcs, _, hl, hm, hmm, hxx, hel⟩
  · simp at hcs
    obtain ⟨rfl, rfl, rfl⟩ := hcs
    exact ⟨by omega, fun _ => ⟨0, 0, none, 0, 0, fun _ => 0, none, 0, 0, fun _ => 0⟩, fun i hi => absurd hi (Nat.not_lt_zero _)⟩
  · simp at hcs
    obtain ⟨rfl, rfl, rfl⟩ := hcs
    simp at hmm
    subst hmm
    rw [Tryz.cells37] at hel
    unfold maxLen at hm
    refine ⟨by omega, ?_⟩
    have key : ∀ i, i < len → ∃ v : OpV, ad.spot = none ∧ OpAt w ad.block (ad.off + i * 4) v := by
      intro i hi
      obtain ⟨cs', hc, ht⟩ := hel i (by omega)
      obtain ⟨_, _, hg⟩ := World.cells?_some hc
      obtain ⟨v, h0, h1, h2, h3, r⟩ := op_open ht
      have hw : ∀ z ∈ (D i).weights Tryz.prog 37, z ≤ reachBytes := fun z hz => by
        refine hN z ?_
        rw [hxx]
        simp only [DataW.weights, Tryz.underlying22, List.mem_cons, List.mem_append]
        exact .inr (.inl (weightsAll_mem (List.mem_map.2 ⟨i, List.mem_range.2 hi, rfl⟩) z hz))
      have g0 := (hg 0 (by decide)).trans h0
      have g1 := (hg 1 (by decide)).trans h1
      have g2 := (hg 2 (by decide)).trans h2
      have g3 := (hg 3 (by decide)).trans h3
      have s0 : ad.spot = none := by
        obtain ⟨cs0, hc0, ht0⟩ := hel 0 (by omega)
        obtain ⟨_, _, hg0⟩ := World.cells?_some hc0
        obtain ⟨v0, k0, _⟩ := op_open ht0
        have q0 := (hg0 0 (by decide)).trans k0
        obtain ⟨b, off, spot⟩ := ad
        simpa [Addr.add] using World.cell?_spot q0
      obtain ⟨b, off, spot⟩ := ad
      dsimp only at s0
      subst s0
      rw [Addr.add_mid, Addr.add_mid] at g0 g1 g2 g3
      exact ⟨v, rfl, ⟨g0, g1, g2, g3, r.1, r.2.1, r.2.2.1, (r.2.2.2 hw).1, (r.2.2.2 hw).2⟩⟩
    obtain ⟨f, hF⟩ := choose_lt (α := OpV) (p := fun i v => ad.spot = none ∧ OpAt w ad.block (ad.off + i * 4) v) (n := len) key
    refine ⟨f, fun i hi => ⟨ad.block, ad.off, ?_, (hF i hi).2⟩⟩
    have := (hF i hi).1
    obtain ⟨b, off, spot⟩ := ad
    dsimp only at this
    rw [this]
end Go.Proofs.Qxb6500773aGreat
