import Derived.Test.Qxb6500778aD2
import Derived.Test.Qxb6500778aCb0
import Derived.SizedLaws
namespace Go.Proofs.Qxb6500778a
open Go.ChangeShapes Go.WideShapes Go.ChangeAt Go.RowKit Go.Deep

theorem weightsAll_mem {H : Type} {P : Program} {e : TypeId} : ∀ {ds : List (DataW H)} {d : DataW H}, d ∈ ds → ∀ n ∈ d.weights P e, n ∈ DataW.weightsAll P e ds
  | d0 :: ds, d, hd, n, hn => by
    simp only [DataW.weightsAll, List.mem_append]
    rcases List.mem_cons.1 hd with e | e
    · subst e; exact .inl hn
    · exact .inr (weightsAll_mem e n hn)
theorem wf_u8 {x : Int} (h : (Lit.int .u8 x).wf = true) : 0 ≤ x ∧ x < 256 := by
  simp [Lit.wf, IntKind.min, IntKind.max, IntKind.signed, IntKind.bits] at h
  omega
theorem Try.byt5 : Try.prog.bytesOf 5 = 1 := by kernel_rfl
/-- A text, opened: its bytes in range, its size. -/
theorem bytes_openS {H : Type} {enc : TypeId × Value → H} {w : World} {fuel : Nat} {a : Option Addr} {len cap : Nat} {x : DataW H × List MemPlace}
    (h : DataW.trod enc Try.prog w 0 (fun _ => true) true fuel 46 [.slice a len cap] = some x) : len ≤ cap ∧ (∀ N, (∀ z ∈ x.1.weights Try.prog 46, z ≤ N) → len ≤ N) ∧ ∃ l : List Int, l.length = len ∧ SrcAt w a l ∧ Byt l := by
  rcases open_slice1 Try.underlying46 Try.cel5 h with ⟨hcs, _⟩ | ⟨ad, len', cap', m, n, V, D, Pl, hcs, _, hl, hm, hmm, hxx, hx⟩
  · simp at hcs
    obtain ⟨rfl, rfl, rfl⟩ := hcs
    exact ⟨Nat.le_refl _, fun N _ => Nat.zero_le _, [], rfl, fun i c hc => (by simp at hc), fun c hc => (by cases hc)⟩
  · simp at hcs
    obtain ⟨rfl, rfl, rfl⟩ := hcs
    have hlm : len ≤ m := by rw [hmm]; split <;> omega
    refine ⟨hl, fun N hN => ?_, (List.range len).map (fun i => intOf (V i)), by simp, fun i c hc => ?_, fun c hc => ?_⟩
    · have := hN ((((List.range len).map D).length + ((List.range (m - len)).map fun j => D (len + j)).length) * Try.prog.bytesOf 5) (by rw [hxx]; simp [DataW.weights, Try.underlying46])
      rw [List.length_map, List.length_map, List.length_range, List.length_range, Try.byt5] at this
      omega
    · rw [List.getElem?_map] at hc
      by_cases hi : i < len
      · rw [List.getElem?_range hi] at hc
        simp only [Option.map_some, Option.some.injEq] at hc
        obtain ⟨h1, h2⟩ := hx i (by omega)
        obtain ⟨z, hz, _, hw⟩ := DataW.trod_int Try.underlying5 h2
        have hV : V i = .int .u8 z := by simpa using hz
        have g0 := (hx 0 (by omega)).1
        obtain ⟨b, off, spot⟩ := ad
        have hspot : spot = none := by simpa [Addr.add] using World.cell?_spot g0
        subst hspot
        rw [Addr.add_mid, hV] at h1
        refine ⟨b, off, rfl, ?_⟩
        rw [h1, ← hc, hV]
        rfl
      · rw [List.getElem?_eq_none (by simp; omega)] at hc
        cases hc
    · obtain ⟨i, hi, rfl⟩ := List.mem_map.1 hc
      have hi : i < len := by simpa using hi
      obtain ⟨h1, h2⟩ := hx i (by omega)
      obtain ⟨z, hz, _, hw⟩ := DataW.trod_int Try.underlying5 h2
      have hV : V i = .int .u8 z := by simpa using hz
      rw [hV]
      exact wf_u8 hw
/-- What is known of the script: its steps, its texts' bytes and sizes. -/
def OSB (w : World) (a : Option Addr) (n : Nat) (f : Nat → Stp) : Prop := OA w a n f ∧ ∀ i, i < n → Byt (f i).p.d ∧ (f i).p.d.length ≤ 140737488355328
theorem ops_openS {H : Type} {enc : TypeId × Value → H} {w : World} {fuel : Nat} {a : Option Addr} {len cap : Nat} {x : DataW H × List MemPlace}
    (h : DataW.trod enc Try.prog w 0 (fun _ => true) true fuel 22 [.slice a len cap] = some x) (hN : ∀ z ∈ x.1.weights Try.prog 22, z ≤ reachBytes) : len ≤ 9223372036854775807 ∧ ∃ f, OSB w a len f := by
  have hr := reachBytes_lt
  rcases open_slice Try.underlying22 h with ⟨hcs, _⟩ | ⟨ad, len', cap', m, n, D, Pl, hcs, _, hl, hm, hmm, hxx, hel⟩
  · simp at hcs
    obtain ⟨rfl, rfl, rfl⟩ := hcs
    exact ⟨by omega, fun _ => default, fun i hi => absurd hi (Nat.not_lt_zero _), fun i hi => absurd hi (Nat.not_lt_zero _)⟩
  simp at hcs
  obtain ⟨rfl, rfl, rfl⟩ := hcs
  simp at hmm
  subst hmm
  rw [Try.cel48] at hel
  unfold maxLen at hm
  refine ⟨by omega, ?_⟩
  have H1 : ∀ i, i < len → ∃ t : Stp, (∃ b off, some ad = some ⟨b, off, none⟩ ∧ (∀ (j : Nat) u, (opC t.p t.da t.cp)[j]? = some u → w.cell? ⟨b, off + i * 12 + j, none⟩ = some u) ∧ t.p.d.length ≤ 9223372036854775807 ∧ t.p.d.length ≤ t.cp ∧ SrcAt w t.da t.p.d) ∧ Byt t.p.d ∧ t.p.d.length ≤ 140737488355328 := by
    intro i hi
    obtain ⟨cs, hc, ht⟩ := hel i (by omega)
    obtain ⟨_, hlen, hg⟩ := World.cells?_some hc
    have s0 : ad.spot = none := by
      obtain ⟨cs0, hc0, _⟩ := hel 0 (by omega)
      obtain ⟨_, hlen0, hg0⟩ := World.cells?_some hc0
      obtain ⟨b, off, spot⟩ := ad
      have h0 := hg0 0 (by decide)
      rw [List.getElem?_eq_getElem (by omega)] at h0
      simpa [Addr.add] using World.cell?_spot h0
    obtain ⟨b, off, spot⟩ := ad
    dsimp only at s0
    subst s0
    have hw : ∀ z ∈ (D i).weights Try.prog 48, z ≤ reachBytes := fun z hz => by
      refine hN z ?_
      rw [hxx]
      simp only [DataW.weights, Try.underlying22, List.mem_cons, List.mem_append]
      exact .inr (.inl (weightsAll_mem (List.mem_map.2 ⟨i, List.mem_range.2 hi, rfl⟩) z hz))
    obtain ⟨xs, n1, _, hx1, _, hxl, hf⟩ := DataW.trod_struct Try.underlying48 ht
    have hx : ∀ j, j < 4 → ∃ y, xs[j]? = some y := fun j hj => ⟨xs[j]'(by rw [hxl]; exact hj), List.getElem?_eq_getElem _⟩
    obtain ⟨y0, hy0⟩ := hx 0 (by omega)
    obtain ⟨y1, hy1⟩ := hx 1 (by omega)
    obtain ⟨y2, hy2⟩ := hx 2 (by omega)
    obtain ⟨y3, hy3⟩ := hx 3 (by omega)
    have f0 : DataW.trod enc Try.prog w 0 (fun _ => true) true n1 42 ((cs.drop 0).take (Try.prog.cellsOf 42)) = xs[0]? := hf 0 _ rfl
    have f1 : DataW.trod enc Try.prog w 0 (fun _ => true) true n1 3 ((cs.drop 1).take (Try.prog.cellsOf 3)) = xs[1]? := hf 1 _ rfl
    have f2 : DataW.trod enc Try.prog w 0 (fun _ => true) true n1 45 ((cs.drop 2).take (Try.prog.cellsOf 45)) = xs[2]? := hf 2 _ rfl
    have f3 : DataW.trod enc Try.prog w 0 (fun _ => true) true n1 46 ((cs.drop 11).take (Try.prog.cellsOf 46)) = xs[3]? := hf 3 _ rfl
    rw [hy0, Try.cel42] at f0
    rw [hy1, Try.cel3] at f1
    rw [hy2, Try.cel45] at f2
    rw [hy3, Try.cel46] at f3
    obtain ⟨kd, hk, _⟩ := DataW.trod_int Try.underlying42 f0
    obtain ⟨aa, hA, _⟩ := DataW.trod_int Try.underlying3 f1
    obtain ⟨c, hC⟩ := chg_openE f2
    obtain ⟨da, dl, dc, hz⟩ := slice_formE Try.underlying46 f3
    rw [hz] at f3
    obtain ⟨h2, hwt, l, hll, hsrc, hbyt⟩ := bytes_openS f3
    have hD := congrArg Prod.fst hx1
    dsimp only at hD
    have hlN := hwt reachBytes (fun z hz => hw z (by
      rw [hD]
      simp only [DataW.weights, Try.underlying48]
      exact DataW.weights_mem_each (ts := [42, 3, 45, 46]) (j := 3) (t := 46) rfl (by rw [List.getElem?_map, hy3]; rfl) z hz))
    have hC' : ∀ j, j < 9 → cs[2 + j]? = c.vals[j]? := fun j hj => by
      have := hC j hj
      rwa [List.getElem?_take, if_pos hj, List.getElem?_drop] at this
    refine ⟨⟨⟨kd, aa, c, l⟩, da, dc⟩, ⟨b, off, rfl, fun j u hj => ?_, by simp only []; omega, by simp only []; omega, hsrc⟩, hbyt, by simp only []; omega⟩
    have hj12 : j < 12 := (List.getElem?_eq_some_iff.1 hj).1
    have hgj := hg j hj12
    rw [Addr.add_mid, Addr.add_mid] at hgj
    rw [hgj]
    rw [← hj]
    rcases (by omega : j = 0 ∨ j = 1 ∨ j = 2 ∨ j = 3 ∨ j = 4 ∨ j = 5 ∨ j = 6 ∨ j = 7 ∨ j = 8 ∨ j = 9 ∨ j = 10 ∨ j = 11) with e | e | e | e | e | e | e | e | e | e | e | e <;> subst e
    · exact takeOne hk
    · exact takeOne hA
    · exact hC' 0 (by omega)
    · exact hC' 1 (by omega)
    · exact hC' 2 (by omega)
    · exact hC' 3 (by omega)
    · exact hC' 4 (by omega)
    · exact hC' 5 (by omega)
    · exact hC' 6 (by omega)
    · exact hC' 7 (by omega)
    · exact hC' 8 (by omega)
    · have := takeOne hz
      simp only [opC]
      rw [hll]
      exact this
  refine ⟨fun i => if hi : i < len then Classical.choose (H1 i hi) else default, fun i hi => ?_, fun i hi => ?_⟩
  · simp only [hi, dite_true]; exact (Classical.choose_spec (H1 i hi)).1
  · simp only [hi, dite_true]; exact (Classical.choose_spec (H1 i hi)).2
def SmS (w : World) (n : Nat) (f : Nat → Stp) (e : Ending) (w' : World) : Prop := ∃ b : Bool, e = .returned (.bool b) ∧ w' = w ∧ (b = true → n ≤ 65536 ∧ ∀ i, i < n → (f i).p.d.length ≤ 65536)
set_option linter.unusedSimpArgs false in
set_option maxRecDepth 100000 in
set_option maxHeartbeats 4000000 in
/-- configlaw.zzSmall1, sized -/
theorem small_anyS (w : World) (a : Option Addr) (n cap : Nat) (f : Nat → Stp) (hn : n ≤ 9223372036854775807) (hO : OSB w a n f) :
    Calls Try.prog 8 #[.slice a n cap] w (SmS w n f) := by
  have HO := hide hO
  clear hO
  go_enter Try.func8, Try.ntmps8
  by_cases hbig : (n : Int) > 65536
  · go_wp2
    go_ret
    exact ⟨_, rfl, rfl, fun h => by cases h⟩
  have hsm : n ≤ 65536 := by omega
  go_wp2
  go_loop [3, 4] (fun x i => ∃ (z k : Nat), x = .int .i64 z ∧ k ≤ n ∧ i = .int .i64 k ∧ z ≤ 65536 ∧ Hid (∀ j, j < k → (f j).p.d.length ≤ 65536)) (fun _ i => n - (intOf i).toNat)
  case atStart => exact ⟨n, 0, rfl, Nat.zero_le _, rfl, hsm, fun j hj => absurd hj (Nat.not_lt_zero _)⟩
  case round =>
    obtain ⟨z, k, rfl, hk, rfl, hz, HJ⟩ := hrel
    by_cases hlt : k < n
    · obtain ⟨b, off, rfl, hc, hl, hlc, hby⟩ := HO.out.1 k hlt
      have hc := hc 11 _ rfl
      have hl47 := (HO.out.2 k hlt).2
      have HIN := hide (show (f k).p.d.length ≤ 65536 → ∀ j, j < k + 1 → (f j).p.d.length ≤ 65536 from fun p j hj => by
        by_cases e : j = k
        · subst e; exact p
        · exact HJ.out j (by omega))
      clear hlc hby hl HJ
      generalize (f k).p.d.length = tn at *
      generalize (f k).da = ta at *
      generalize (f k).cp = tc at *
      by_cases hyy : (65536 : Int) < (z : Int) + (tn : Int)
      · have dd : decide ((65536 : Int) < (z : Int) + (tn : Int)) = true := decide_eq_true hyy
        go_wp2
        go_ret
        exact ⟨_, rfl, rfl, fun h => by cases h⟩
      · have dd : decide ((65536 : Int) < (z : Int) + (tn : Int)) = false := decide_eq_false hyy
        have hy2 : z + tn ≤ 65536 := by omega
        have HIN2 := hide (HIN.out (by omega))
        go_wp2
        go_round
        case rel => exact ⟨z + tn, k + 1, by go_num, by omega, by go_num, hy2, HIN2⟩
        case measure => simp [intOf]; omega
    · obtain rfl : k = n := by omega
      go_wp2
      go_ret
      exact ⟨_, rfl, rfl, fun _ => ⟨hsm, HJ.out⟩⟩
end Go.Proofs.Qxb6500778a
