import Derived.Test.Qxb6500784aFt
import Derived.Test.Qxb6500784aGp
import Derived.Test.Qxb6500784aOne
namespace Go.Proofs.Qxb6500784a
open Go.ChangeShapes Go.WideShapes Go.ChangeAt Go.RowKit

/-! ### The script's numbers -/
def leafK (P : Program) : Nat → TypeId → Nat → Option IntKind
  | 0, _, _ => none
  | n + 1, t, j => match P.underlying t with
    | some (.int k) => if j = 0 then some k else none
    | some (.struct fs) => match fs.toList.find? (fun f => decide (f.offset ≤ j ∧ j < f.offset + P.cellsOf f.type)) with
      | some f => leafK P n f.type (j - f.offset)
      | none => none
    | some (.array m e) => if j < m * P.cellsOf e then leafK P n e (j % P.cellsOf e) else none
    | _ => none
theorem leaf_int {H : Type} {enc : TypeId × Value → H} {P : Program} {w : World} {base : Nat} {spare : Nat → Bool} {held : Bool} :
    ∀ (n m : Nat) (t : TypeId) (cs : List Value) (x : DataW H × List MemPlace) (j : Nat) (k : IntKind), DataW.trod enc P w base spare held m t cs = some x → leafK P n t j = some k → ∃ z, cs[j]? = some (.int k z) ∧ (Lit.int k z).wf = true
  | 0, _, _, _, _, _, _, _, h => by cases h
  | n + 1, m, t, cs, x, j, k, hd, h => by
    unfold leafK at h
    split at h
    · rename_i k' hu
      split at h
      · rename_i hj
        injection h with h
        subst h hj
        obtain ⟨z, hz, _, hw⟩ := DataW.trod_int hu hd
        exact ⟨z, by rw [hz]; rfl, hw⟩
      · cases h
    · rename_i fs hu
      split at h
      · rename_i f hf
        have hp := List.find?_some hf
        simp only [decide_eq_true_eq] at hp
        obtain ⟨i, hi⟩ := List.mem_iff_getElem?.1 (List.mem_of_find?_eq_some hf)
        obtain ⟨xs, n1, _, _, _, hxl, hff⟩ := DataW.trod_struct hu hd
        have hi' : fs[i]? = some f := by rw [← hi]; simp
        have hil : i < fs.size := by
          have := (List.getElem?_eq_some_iff.1 hi).1
          simpa using this
        obtain ⟨y, hy⟩ : ∃ y, xs[i]? = some y := ⟨xs[i]'(by rw [hxl]; exact hil), List.getElem?_eq_getElem _⟩
        have hd2 := hff i f hi'
        rw [hy] at hd2
        obtain ⟨z, hz, hw⟩ := leaf_int n n1 f.type _ y (j - f.offset) k hd2 h
        refine ⟨z, ?_, hw⟩
        rw [List.getElem?_take, if_pos (by omega), List.getElem?_drop, show f.offset + (j - f.offset) = j by omega] at hz
        exact hz
      · cases h
    · rename_i q e hu
      split at h
      · rename_i hj
        obtain ⟨xs, n1, _, _, _, hxl, hff⟩ := DataW.trod_array hu hd
        have hpos : 0 < P.cellsOf e := Nat.pos_of_ne_zero fun h0 => by rw [h0] at hj; omega
        have hq : j / P.cellsOf e < q := (Nat.div_lt_iff_lt_mul hpos).2 hj
        obtain ⟨y, hy⟩ : ∃ y, xs[j / P.cellsOf e]? = some y := ⟨xs[j / P.cellsOf e]'(by rw [hxl]; exact hq), List.getElem?_eq_getElem _⟩
        have hd2 := hff _ hq
        rw [hy] at hd2
        obtain ⟨z, hz, hw⟩ := leaf_int n n1 e _ y (j % P.cellsOf e) k hd2 h
        refine ⟨z, ?_, hw⟩
        rw [List.getElem?_take, if_pos (Nat.mod_lt _ hpos), List.getElem?_drop, Nat.mul_comm, Nat.div_add_mod] at hz
        exact hz
      · cases h
    · cases h
theorem leaf95 : ((List.range 83).all fun j => leafK Try.prog 6 95 (2 + j) == some (txk j)) = true := by kernel_rfl
theorem leaf33 : leafK Try.prog 6 33 0 = some .i64 ∧ leafK Try.prog 6 33 2 = some .u8 ∧ leafK Try.prog 6 33 3 = some .i64 ∧ leafK Try.prog 6 33 4 = some .u64 ∧ leafK Try.prog 6 33 5 = some .u8 ∧ leafK Try.prog 6 33 6 = some .u8 ∧ leafK Try.prog 6 33 7 = some .u64 := by
  refine ⟨by kernel_rfl, by kernel_rfl, by kernel_rfl, by kernel_rfl, by kernel_rfl, by kernel_rfl, by kernel_rfl⟩
theorem wf_u64 {x : Int} (h : (Lit.int .u64 x).wf = true) : 0 ≤ x ∧ x < 18446744073709551616 := by
  simp [Lit.wf, IntKind.min, IntKind.max, IntKind.signed, IntKind.bits] at h
  omega
def txOf (l : Leg) : List Int := (List.range 83).map fun j => intOf (l.v (2 + j))
theorem txOf_at (l : Leg) {j : Nat} (hj : j < 83) : (txOf l)[j]? = some (intOf (l.v (2 + j))) := by simp [txOf, hj]
/-- What a step's eight cells hold. -/
structure OpI (o : OpR) : Prop where
  c : ∃ kd ch pt gs ac tk am, (∀ j, j < 8 → some (o.v j) = (opV kd o.la o.ln o.lc ch pt gs ac tk am)[j]?) ∧ (0 ≤ ch ∧ ch < 256) ∧ 0 ≤ gs ∧ (0 ≤ ac ∧ ac < 256) ∧ (0 ≤ tk ∧ tk < 256) ∧ (0 ≤ am ∧ am < m64)
def OpsAt4 (w : World) (a : Option Addr) (n : Nat) (O : Nat → OpR) : Prop := OpsAt3 w a n O ∧ ∀ i, i < n → OpI (O i) ∧ ∀ q, q < (O i).ln → LegV (legL ((O i).L q)) ((O i).L q).ch (txOf ((O i).L q))
theorem ops_open4 {H : Type} {enc : TypeId × Value → H} {w : World} {fuel : Nat} {a : Option Addr} {len cap : Nat} {x : DataW H × List MemPlace}
    (h : DataW.trod enc Try.prog w 0 (fun _ => true) true fuel 22 [.slice a len cap] = some x) : len ≤ 9223372036854775807 ∧ ∃ O, OpsAt4 w a len O := by
  obtain ⟨hl, O, hO⟩ := ops_open3 h
  refine ⟨hl, O, hO, fun i hi => ?_⟩
  obtain ⟨_, hc⟩ := slice_open Try.underlying22 Try.cells33 (by omega) h
  obtain ⟨b, off, n, D, cs, ha, hlen, hcell, ht⟩ := hc i hi
  obtain ⟨b', off', ha', hc', hop⟩ := hO.1.1 i hi
  rw [ha] at ha'
  injection ha' with ha'
  injection ha' with e1 e2
  subst e1 e2
  have hv : ∀ j, j < 8 → cs[j]? = some ((O i).v j) := fun j hj => (hcell j hj).symm.trans (hc' j hj)
  refine ⟨?_, ?_⟩
  · have L := leaf33
    have I : ∀ j k, j < 8 → leafK Try.prog 6 33 j = some k → ∃ z, (O i).v j = .int k z ∧ (Lit.int k z).wf = true := fun j k hj hk => by
      obtain ⟨z, hz, hw⟩ := leaf_int 6 n 33 cs _ j k ht hk
      rw [hv j hj] at hz
      injection hz with hz
      exact ⟨z, hz, hw⟩
    obtain ⟨kd, h0, _⟩ := I 0 _ (by omega) L.1
    obtain ⟨ch, h2, w2⟩ := I 2 _ (by omega) L.2.1
    obtain ⟨pt, h3, _⟩ := I 3 _ (by omega) L.2.2.1
    obtain ⟨gs, h4, w4⟩ := I 4 _ (by omega) L.2.2.2.1
    obtain ⟨ac, h5, w5⟩ := I 5 _ (by omega) L.2.2.2.2.1
    obtain ⟨tk, h6, w6⟩ := I 6 _ (by omega) L.2.2.2.2.2.1
    obtain ⟨am, h7, w7⟩ := I 7 _ (by omega) L.2.2.2.2.2.2
    refine ⟨kd, ch, pt, gs, ac, tk, am, fun j hj => ?_, wf_u8 w2, (wf_u64 w4).1, wf_u8 w5, wf_u8 w6, wf_u64 w7⟩
    rcases (by omega : j = 0 ∨ j = 1 ∨ j = 2 ∨ j = 3 ∨ j = 4 ∨ j = 5 ∨ j = 6 ∨ j = 7) with rfl | rfl | rfl | rfl | rfl | rfl | rfl | rfl
    · rw [h0]; rfl
    · rw [hop.v1]; rfl
    · rw [h2]; rfl
    · rw [h3]; rfl
    · rw [h4]; rfl
    · rw [h5]; rfl
    · rw [h6]; rfl
    · rw [h7]; rfl
  · intro q hq
    obtain ⟨xs, n1, _, _, _, hxl, hf⟩ := DataW.trod_struct Try.underlying33 ht
    obtain ⟨y1, hy1⟩ : ∃ y, xs[1]? = some y := ⟨xs[1]'(by rw [hxl]; decide), List.getElem?_eq_getElem _⟩
    have f1 : DataW.trod enc Try.prog w 0 (fun _ => true) true n1 27 ((cs.drop 1).take (Try.prog.cellsOf 27)) = xs[1]? := hf 1 _ rfl
    rw [hy1, Try.cells27] at f1
    obtain ⟨xt, nt, _, _, _, hxt, ht2⟩ := DataW.trod_struct Try.underlying27 f1
    obtain ⟨y4, hy4⟩ : ∃ y, xt[0]? = some y := ⟨xt[0]'(by rw [hxt]; decide), List.getElem?_eq_getElem _⟩
    have f4 : DataW.trod enc Try.prog w 0 (fun _ => true) true nt 25 ((((cs.drop 1).take 1).drop 0).take (Try.prog.cellsOf 25)) = xt[0]? := ht2 0 _ rfl
    rw [hy4, Try.cells25] at f4
    obtain ⟨la, ln, lc, hz⟩ := slice_form Try.underlying25 f4
    rw [hz] at f4
    have e1 : cs[1]? = some (.slice la ln lc) := by
      have := take1 hz
      simpa [List.getElem?_take, List.getElem?_drop] using this
    have e2 := (hcell 1 (by omega)).symm.trans (hc' 1 (by omega))
    rw [e1, hop.v1] at e2
    injection e2 with e2
    injection e2 with e3 e4 e5
    obtain ⟨_, hc2⟩ := slice_open Try.underlying25 Try.cells95 (by omega) f4
    obtain ⟨b2, off2, n2, D2, cs2, ha2, hlen2, hcell2, ht3⟩ := hc2 q (by rw [e4]; exact hq)
    obtain ⟨b3, off3, ha3, hc3, hlo⟩ := hop.legs q hq
    rw [← e3, ha2] at ha3
    injection ha3 with ha3
    injection ha3 with e6 e7
    subst e6 e7
    have hv2 : ∀ j, j < 86 → cs2[j]? = some (((O i).L q).v j) := fun j hj => (hcell2 j (by omega)).symm.trans (hc3 j hj)
    have hI : ∀ j, j < 83 → ∃ z, ((O i).L q).v (2 + j) = .int (txk j) z ∧ (Lit.int (txk j) z).wf = true := fun j hj => by
      have hk : leafK Try.prog 6 95 (2 + j) = some (txk j) := by
        have := List.all_eq_true.1 leaf95 j (List.mem_range.2 hj)
        simpa using this
      obtain ⟨z, hz, hw⟩ := leaf_int 6 n2 95 cs2 _ (2 + j) _ ht3 hk
      rw [hv2 (2 + j) (by omega)] at hz
      injection hz with hz
      exact ⟨z, hz, hw⟩
    refine ⟨legL_len _, fun u hu => ?_, by rw [legL_at _ (by omega), hlo.v1], ⟨by simp [txOf], fun j y hj => ?_⟩, fun j v hjv => ?_⟩
    · obtain ⟨j, hj, rfl⟩ := List.mem_map.1 hu
      exact hO.2 i hi q hq j (List.mem_range.1 hj)
    · have hj' : j < 83 := by have := (List.getElem?_eq_some_iff.1 hj).1; simpa [txOf] using this
      rw [txOf_at _ hj'] at hj
      injection hj with hj
      obtain ⟨z, hz, hw⟩ := hI j hj'
      rw [hz] at hj
      have hj2 : z = y := hj
      subst hj2
      revert hw
      unfold txk lim
      split
      · intro hw; rw [if_pos rfl]; exact wf_u64 hw
      · intro hw; rw [if_neg (by decide)]; exact wf_u8 hw
    · have hj' : j < 83 := by have := (List.getElem?_eq_some_iff.1 hjv).1; simpa [kvs_len, txOf] using this
      rw [kvs_at, txOf_at _ hj'] at hjv
      obtain ⟨z, hz, hw⟩ := hI j hj'
      rw [hz] at hjv
      injection hjv with hjv
      rw [legL_at _ (by omega), hz, ← hjv]
      rfl
end Go.Proofs.Qxb6500784a
