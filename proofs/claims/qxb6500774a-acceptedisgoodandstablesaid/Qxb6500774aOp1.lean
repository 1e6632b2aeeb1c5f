import Derived.Test.Qxb6500774aMem
import Derived.ProofKit
import Derived.OpenShut
import Derived.Deep.Slices
import Derived.SizedLaws
namespace Go.Proofs.Qxb6500774a
open Go.ChangeShapes Go.WideShapes Go.ChangeAt Go.RowKit Go.Deep

/-! ### The script -/
theorem Try.cells58 : Try.prog.cellsOf 58 = 3 := by kernel_rfl
theorem Try.cells56 : Try.prog.cellsOf 56 = 1 := by kernel_rfl
theorem Try.cells3 : Try.prog.cellsOf 3 = 1 := by kernel_rfl
theorem Try.cells32 : Try.prog.cellsOf 32 = 1 := by kernel_rfl
theorem Try.bytes5 : Try.prog.bytesOf 5 = 1 := by kernel_rfl
theorem weightsAll_mem {H : Type} {P : Program} {e : TypeId} : ∀ {ds : List (DataW H)} {d : DataW H}, d ∈ ds → ∀ n ∈ d.weights P e, n ∈ DataW.weightsAll P e ds
  | d0 :: ds, d, hd, n, hn => by
    simp only [DataW.weightsAll, List.mem_append]
    rcases List.mem_cons.1 hd with e | e
    · subst e; exact .inl hn
    · exact .inr (weightsAll_mem e n hn)
theorem Try.cells5 : Try.prog.cellsOf 5 = 1 := by kernel_rfl
theorem wf_i64 {x : Int} (h : (Lit.int .i64 x).wf = true) : -9223372036854775808 ≤ x ∧ x < 9223372036854775808 := by
  simp [Lit.wf, IntKind.min, IntKind.max, IntKind.signed, IntKind.bits] at h
  omega
theorem wf_u8 {x : Int} (h : (Lit.int .u8 x).wf = true) : 0 ≤ x ∧ x < 256 := by
  simp [Lit.wf, IntKind.min, IntKind.max, IntKind.signed, IntKind.bits] at h
  omega
theorem take1 {cs : List Value} {j : Nat} {v : Value} (h : (cs.drop j).take 1 = [v]) : cs[j]? = some v := by
  have := congrArg (·[0]?) h
  simpa [List.getElem?_take, List.getElem?_drop] using this
/-- A slice of numbers, opened. -/
theorem ints_open {k : IntKind} {t e : TypeId} (ht : Try.prog.underlying t = some (.slice e)) (he : Try.prog.underlying e = some (.int k)) (hc : Try.prog.cellsOf e = 1)
    {H : Type} {enc : TypeId × Value → H} {w : World} {base fuel : Nat} {spare : Nat → Bool} {held : Bool} {cs : List Value} {x : DataW H × List MemPlace} (h : DataW.trod enc Try.prog w base spare held fuel t cs = some x) :
    ∃ (a : Option Addr) (n c : Nat) (T : Nat → Int), cs = [.slice a n c] ∧ (∀ N, (∀ z ∈ x.1.weights Try.prog t, z ≤ N) → n * Try.prog.bytesOf e ≤ N) ∧ ∀ i, i < n → ∃ g off, a = some ⟨g, off, none⟩ ∧ w.cell? ⟨g, off + i, none⟩ = some (.int k (T i)) ∧ (Lit.int k (T i)).wf = true := by
  rcases open_slice1 ht hc h with ⟨rfl, _⟩ | ⟨ad, len, cap, m, n, V, D, Pl, rfl, _, hl, hm, hmm, hxx, hx⟩
  · exact ⟨none, 0, 0, fun _ => 0, rfl, fun N _ => by omega, fun i hi => absurd hi (Nat.not_lt_zero _)⟩
  · have hlm : len ≤ m := by rw [hmm]; split <;> omega
    refine ⟨some ad, len, cap, fun i => intOf (V i), rfl, fun N hN => ?_, fun i hi => ?_⟩
    · have := hN ((((List.range len).map D).length + ((List.range (m - len)).map fun j => D (len + j)).length) * Try.prog.bytesOf e) (by rw [hxx]; simp [DataW.weights, ht])
      rw [List.length_map, List.length_map, List.length_range, List.length_range] at this
      exact Nat.le_trans (Nat.mul_le_mul_right _ (by omega)) this
    obtain ⟨h1, h2⟩ := hx i (by omega)
    obtain ⟨z, hz, _, hw⟩ := DataW.trod_int he h2
    have hV : V i = .int k z := by simpa using hz
    have g0 := (hx 0 (by omega)).1
    obtain ⟨b, off, spot⟩ := ad
    have hspot : spot = none := by simpa [Addr.add] using World.cell?_spot g0
    subst hspot
    rw [Addr.add_mid, hV] at h1
    refine ⟨b, off, rfl, ?_, ?_⟩
    · show _ = some (Value.int k (intOf (V i))); rw [hV]; exact h1
    · show (Lit.int k (intOf (V i))).wf = true; rw [hV]; exact hw
def BT (w : World) (a : Option Addr) (n : Nat) (T : Nat → Int) : Prop := ∀ i, i < n → ∃ g off, a = some ⟨g, off, none⟩ ∧ w.cell? ⟨g, off + i, none⟩ = some (.int .u8 (T i)) ∧ 0 ≤ T i ∧ T i < 256
theorem BT.below {w w' : World} {a : Option Addr} {n : Nat} {T : Nat → Int} (h : BT w a n T) (k : Below w.heap.size w w') : BT w' a n T := fun i hi => by
  obtain ⟨g, off, e, hc, hr⟩ := h i hi
  exact ⟨g, off, e, cellKeep k hc, hr⟩
/-- One step of the script. -/
structure OpV where
  kd : Int
  a : Int
  ta : Option Addr
  tn : Nat
  tc : Nat
  T : Nat → Int
deriving Inhabited
structure OpAt (w : World) (b o : Nat) (v : OpV) : Prop where
  c0 : w.cell? ⟨b, o, none⟩ = some (.int .i64 v.kd)
  c1 : w.cell? ⟨b, o + 1, none⟩ = some (.int .i64 v.a)
  c2 : w.cell? ⟨b, o + 2, none⟩ = some (.slice v.ta v.tn v.tc)
  ra : -9223372036854775808 ≤ v.a ∧ v.a < 9223372036854775808
  bt : BT w v.ta v.tn v.T
  tl : v.tn ≤ 140737488355328
theorem OpAt.below {w w' : World} {b o : Nat} {v : OpV} (h : OpAt w b o v) (k : Below w.heap.size w w') : OpAt w' b o v :=
  ⟨cellKeep k h.c0, cellKeep k h.c1, cellKeep k h.c2, h.ra, h.bt.below k, h.tl⟩
def OpsAt (w : World) (a : Option Addr) (len : Nat) (f : Nat → OpV) : Prop := ∀ i, i < len → ∃ b off, a = some ⟨b, off, none⟩ ∧ OpAt w b (off + i * 3) (f i)
theorem OpsAt.below {w w' : World} {a : Option Addr} {len : Nat} {f : Nat → OpV} (h : OpsAt w a len f) (k : Below w.heap.size w w') : OpsAt w' a len f := fun i hi => by
  obtain ⟨b, off, e, hc⟩ := h i hi
  exact ⟨b, off, e, hc.below k⟩
/-- One step, opened. -/
theorem op_open {H : Type} {enc : TypeId × Value → H} {w : World} {base fuel : Nat} {spare : Nat → Bool} {held : Bool} {cs : List Value} {x : DataW H × List MemPlace} (h : DataW.trod enc Try.prog w base spare held fuel 58 cs = some x) :
    ∃ v : OpV, cs[0]? = some (.int .i64 v.kd) ∧ cs[1]? = some (.int .i64 v.a) ∧ cs[2]? = some (.slice v.ta v.tn v.tc) ∧ (-9223372036854775808 ≤ v.a ∧ v.a < 9223372036854775808) ∧
      BT w v.ta v.tn v.T ∧ ((∀ z ∈ x.1.weights Try.prog 58, z ≤ reachBytes) → v.tn ≤ 140737488355328) := by
  obtain ⟨xs, n, _, hxx, _, hl, hf⟩ := DataW.trod_struct Try.underlying58 h
  have hx : ∀ j, j < 3 → ∃ y, xs[j]? = some y := fun j hj => ⟨xs[j]'(by rw [hl]; exact hj), List.getElem?_eq_getElem _⟩
  obtain ⟨y0, e0⟩ := hx 0 (by decide)
  obtain ⟨y1, e1⟩ := hx 1 (by decide)
  obtain ⟨y2, e2⟩ := hx 2 (by decide)
  have f0 : DataW.trod enc Try.prog w base spare held n 56 ((cs.drop 0).take (Try.prog.cellsOf 56)) = xs[0]? := hf 0 _ rfl
  have f1 : DataW.trod enc Try.prog w base spare held n 3 ((cs.drop 1).take (Try.prog.cellsOf 3)) = xs[1]? := hf 1 _ rfl
  have f2 : DataW.trod enc Try.prog w base spare held n 32 ((cs.drop 2).take (Try.prog.cellsOf 32)) = xs[2]? := hf 2 _ rfl
  rw [Try.cells56, e0] at f0
  rw [Try.cells3, e1] at f1
  rw [Try.cells32, e2] at f2
  obtain ⟨z0, h0, _, _⟩ := DataW.trod_int Try.underlying56 f0
  obtain ⟨z1, h1, _, w1⟩ := DataW.trod_int Try.underlying3 f1
  obtain ⟨ta, tn, tc, T, h2, hl2, hT⟩ := ints_open Try.underlying32 Try.underlying5 Try.cells5 f2
  refine ⟨⟨z0, z1, ta, tn, tc, T⟩, take1 h0, take1 h1, take1 h2, wf_i64 w1, fun i hi => ?_, fun hN => ?_⟩
  · obtain ⟨g, off, e, hc, hw⟩ := hT i hi
    exact ⟨g, off, e, hc, wf_u8 hw⟩
  · have hr := reachBytes_lt
    have key : ∀ (j : Nat) (ty : TypeId) (y : DataW H × List MemPlace), xs[j]? = some y → ([56, 3, 32] : List TypeId)[j]? = some ty → ∀ z ∈ y.1.weights Try.prog ty, z ≤ reachBytes := fun j ty y hy hty z hz => by
      refine hN z ?_
      rw [hxx]
      simp only [DataW.weights, Try.underlying58]
      exact DataW.weights_mem_each (ts := [56, 3, 32]) (j := j) hty (by rw [List.getElem?_map, hy]; rfl) z hz
    have k2 := hl2 reachBytes (key 2 32 y2 e2 rfl)
    rw [Try.bytes5] at k2
    show tn ≤ _
    omega
/-- What the argument's reading says of memory. -/
theorem ops_open {H : Type} {enc : TypeId × Value → H} {w : World} {fuel : Nat} {a : Option Addr} {len cap : Nat} {x : DataW H × List MemPlace} (h : DataW.trod enc Try.prog w 0 (fun _ => true) true fuel 22 [.slice a len cap] = some x) (hN : ∀ z ∈ x.1.weights Try.prog 22, z ≤ reachBytes) :
    len ≤ 9223372036854775807 ∧ ∃ f, OpsAt w a len f := by
  rcases open_slice Try.underlying22 h with ⟨hcs, _⟩ | ⟨ad, len', cap', m, n, D, Pl, hcs, _, hl, hm, hmm, hxx, hel⟩
  · simp at hcs
    obtain ⟨rfl, rfl, rfl⟩ := hcs
    exact ⟨by omega, fun _ => ⟨0, 0, none, 0, 0, fun _ => 0⟩, fun i hi => absurd hi (Nat.not_lt_zero _)⟩
  · simp at hcs
    obtain ⟨rfl, rfl, rfl⟩ := hcs
    simp at hmm
    subst hmm
    rw [Try.cells58] at hel
    unfold maxLen at hm
    refine ⟨by omega, ?_⟩
    have key : ∀ i, i < len → ∃ v : OpV, ad.spot = none ∧ OpAt w ad.block (ad.off + i * 3) v := by
      intro i hi
      obtain ⟨cs', hc, ht⟩ := hel i (by omega)
      obtain ⟨_, _, hg⟩ := World.cells?_some hc
      obtain ⟨v, h0, h1, h2, r⟩ := op_open ht
      have hw : ∀ z ∈ (D i).weights Try.prog 58, z ≤ reachBytes := fun z hz => by
        refine hN z ?_
        rw [hxx]
        simp only [DataW.weights, Try.underlying22, List.mem_cons, List.mem_append]
        exact .inr (.inl (weightsAll_mem (List.mem_map.2 ⟨i, List.mem_range.2 hi, rfl⟩) z hz))
      have g0 := (hg 0 (by decide)).trans h0
      have g1 := (hg 1 (by decide)).trans h1
      have g2 := (hg 2 (by decide)).trans h2
      have s0 : ad.spot = none := by
        obtain ⟨cs0, hc0, ht0⟩ := hel 0 (by omega)
        obtain ⟨_, _, hg0⟩ := World.cells?_some hc0
        obtain ⟨v0, k0, _⟩ := op_open ht0
        have q0 := (hg0 0 (by decide)).trans k0
        obtain ⟨b, off, spot⟩ := ad
        simpa [Addr.add] using World.cell?_spot q0
      obtain ⟨b, off, spot⟩ := ad
      dsimp only at s0
      subst s0
      rw [Addr.add_mid, Addr.add_mid] at g0 g1 g2
      exact ⟨v, rfl, ⟨g0, g1, g2, r.1, r.2.1, r.2.2 hw⟩⟩
    obtain ⟨f, hF⟩ := choose_lt (α := OpV) (p := fun i v => ad.spot = none ∧ OpAt w ad.block (ad.off + i * 3) v) (n := len) key
    refine ⟨f, fun i hi => ⟨ad.block, ad.off, ?_, (hF i hi).2⟩⟩
    have := (hF i hi).1
    obtain ⟨b, off, spot⟩ := ad
    dsimp only at this
    rw [this]
set_option linter.unusedSimpArgs false in
set_option maxRecDepth 100000 in
set_option maxHeartbeats 4000000 in
/-- syntaxlaw.zzSmall1 -/
theorem small_any (w : World) (a : Option Addr) (len cap : Nat) (f : Nat → OpV) (hops : OpsAt w a len f) (hn : len ≤ 9223372036854775807) :
    Calls Try.prog 7 #[.slice a len cap] w fun e w' => ∃ b, e = .returned (.bool b) ∧ w = w' ∧ (b = true → len ≤ 65536 ∧ ∀ i, i < len → (f i).tn ≤ 65536) := by
  have HO := hide hops
  clear hops
  by_cases h0 : len ≤ 65536
  · have hb0 : decide ((len : Int) > 65536) = false := by simp; omega
    have hb0' : decide (65536 < (len : Int)) = false := by simp; omega
    have hb0n : decide (65536 < len) = false := by simp; omega
    go_enter Try.func7, Try.ntmps7
    go_wp2
    go_loopw [3, 4] (fun s3 s4 wx => w = wx ∧ ∃ (i k : Nat), s3 = .int .i64 k ∧ s4 = .int .i64 i ∧ i ≤ len ∧ k ≤ 65536 ∧ Hid (∀ j, j < i → (f j).tn ≤ 65536)) (fun _ s4 _ => len - (intOf s4).toNat)
    case atStart => exact ⟨rfl, 0, len, rfl, rfl, Nat.zero_le _, h0, hide (fun j hj => absurd hj (Nat.not_lt_zero _))⟩
    case round =>
      obtain ⟨rfl, i, k, rfl, rfl, hi, hk, HJ⟩ := hrel
      by_cases hlt : i < len
      · obtain ⟨b, off, ea, hop⟩ := HO.out i hlt
        cases ea
        have c2 := hop.c2
        have htl := hop.tl
        have HIN := hide (show (f i).tn ≤ 65536 → ∀ j, j < i + 1 → (f j).tn ≤ 65536 from fun q j hj => by
          by_cases e : j = i
          · subst e; exact q
          · exact HJ.out j (by omega))
        clear hop HJ
        generalize (f i).tn = t at *
        have h1 : decide ((i : Int) < (len : Int)) = true := by simp; omega
        have h1n : decide (i < len) = true := by simp; omega
        have h2 : decide ((i : Int) < 0) = false := by simp
        have h3 : (i : Int) < (len : Int) := by omega
        have h4 : IntKind.i64.wrap ((i : Int) + 1) = (i : Int) + 1 := by rw [IntKind.wrap_i64]; omega
        have h5 : IntKind.i64.wrap ((k : Int) + (t : Int)) = ((k + t : Nat) : Int) := by rw [IntKind.wrap_i64]; omega
        by_cases hg1 : k + t ≤ 65536
        · have hd1 : decide (65536 < ((k + t : Nat) : Int)) = false := by simp; omega
          have hd1n : decide (65536 < k + t) = false := by simp; omega
          have HIN2 := hide (HIN.out (by omega))
          obtain ⟨k2, hk2⟩ : ∃ k2, k + t = k2 := ⟨_, rfl⟩
          rw [hk2] at h5 hd1 hd1n
          have hk4 : k2 ≤ 65536 := by omega
          clear hk2
          go_wp2
          go_roundw
          case rel => exact ⟨trivial, i + 1, k2, rfl, by simp, by omega, hk4, HIN2⟩
          case measure => simp [intOf]; omega
        · have hd1 : decide (65536 < ((k + t : Nat) : Int)) = true := by simp; omega
          have hd1n : decide (65536 < k + t) = true := by simp; omega
          obtain ⟨k2, hk2⟩ : ∃ k2, k + t = k2 := ⟨_, rfl⟩
          rw [hk2] at h5 hd1 hd1n
          clear hk2
          go_wp2
          go_ret
          exact ⟨_, rfl, rfl, fun z => by cases z⟩
      · have h1 : decide ((i : Int) < (len : Int)) = false := by simp; omega
        have h1n : decide (i < len) = false := by simp; omega
        go_wp2
        go_ret
        exact ⟨_, rfl, rfl, fun _ => ⟨h0, fun j hj => HJ.out j (by omega)⟩⟩
  · have hb0 : decide ((len : Int) > 65536) = true := by simp; omega
    have hb0' : decide (65536 < (len : Int)) = true := by simp; omega
    have hb0n : decide (65536 < len) = true := by simp; omega
    go_enter Try.func7, Try.ntmps7
    go_wp2
    go_ret
    exact ⟨_, rfl, rfl, fun z => by cases z⟩
end Go.Proofs.Qxb6500774a
