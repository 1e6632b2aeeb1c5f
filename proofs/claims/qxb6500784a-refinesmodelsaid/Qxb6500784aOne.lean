import Derived.Test.Qxb6500784aBuildP
import Derived.Test.Qxb6500784aData2
import Derived.ChangeBears
namespace Go.Proofs.Qxb6500784a
open Go.ChangeShapes Go.WideShapes Go.ChangeAt Go.RowKit

theorem Try.laid : laidOutB Try.prog = true := by kernel_rfl
theorem Try.rowed : mapsRowed Try.prog = true := by kernel_rfl
/-- Whatever is read as data lies in cells that hold one cell each. -/
theorem trod_one {H : Type} {enc : TypeId × Value → H} {P : Program} {w : World} {base : Nat} {spare : Nat → Bool} {held : Bool} {T : TypeId → Prop} (K : Kids P T) :
    ∀ (n : Nat) (t : TypeId) (cs : List Value) (j : Nat) (v : Value), v.oneCell' = false → T t → cs[j]? = some v → DataW.trod enc P w base spare held n t cs = none := by
  intro n
  induction n with
  | zero => intro t cs j v _ _ _; rfl
  | succ n ih =>
    intro t cs j v hv ht hj
    rw [DataW.trod_step]
    unfold DataW.trodStep
    split
    case h_9 cs0 _ _ fs hu =>
      split
      case isFalse => rfl
      case isTrue hc =>
        obtain ⟨k1, k2, k3⟩ := K.struct ht hu
        have hjl : j < cs0.length := (List.getElem?_eq_some_iff.1 hj).1
        obtain ⟨i, i1, i2, i3⟩ := cover (fs.toList.map fun f => P.cellsOf f.type) j (by rw [← k2, ← hc]; exact hjl)
        simp only [List.length_map] at i1
        have hfi : fs.toList[i]? = some fs.toList[i] := List.getElem?_eq_getElem i1
        rw [← List.map_take, ← k3 i _ hfi] at i2 i3
        rw [show (fs.toList.map fun f => P.cellsOf f.type).getD i 0 = P.cellsOf fs.toList[i].type by simp [List.getD, hfi]] at i3
        have hin : ((cs0.drop fs.toList[i].offset).take (P.cellsOf fs.toList[i].type))[j - fs.toList[i].offset]? = some v := by
          rw [List.getElem?_take, if_pos (by omega), List.getElem?_drop, show fs.toList[i].offset + (j - fs.toList[i].offset) = j by omega]
          exact hj
        rw [mapM_none_of (List.getElem_mem i1) (ih _ _ _ v hv (k1 _ (List.getElem_mem i1)) hin)]
        rfl
    case h_10 cs0 _ _ m e hu =>
      split
      case isFalse => rfl
      case isTrue hc =>
        obtain ⟨k1, k2⟩ := K.array ht hu
        have hjl : j < cs0.length := (List.getElem?_eq_some_iff.1 hj).1
        rw [hc, k2] at hjl
        have hpos : 0 < P.cellsOf e := Nat.pos_of_ne_zero fun h0 => by rw [h0] at hjl; omega
        have hin : ((cs0.drop (j / P.cellsOf e * P.cellsOf e)).take (P.cellsOf e))[j % P.cellsOf e]? = some v := by
          rw [List.getElem?_take, if_pos (Nat.mod_lt _ hpos), List.getElem?_drop, Nat.mul_comm, Nat.div_add_mod]
          exact hj
        rw [mapM_none_of (List.mem_range.2 ((Nat.div_lt_iff_lt_mul hpos).2 hjl)) (ih _ _ _ v hv k1 hin)]
        rfl
    all_goals first
      | rfl
      | (exfalso; cases j <;> simp at hj <;> subst hj <;> simp [Value.oneCell'] at hv)
theorem Try.lt95 : 95 < Try.prog.types.size := of_decide_eq_true (by kernel_rfl)
def LegsOne (n : Nat) (L : Nat → Leg) : Prop := ∀ q, q < n → ∀ j, j < 86 → ((L q).v j).oneCell' = true
def OpsAt3 (w : World) (a : Option Addr) (n : Nat) (O : Nat → OpR) : Prop := OpsAt2 w a n O ∧ ∀ i, i < n → LegsOne (O i).ln (O i).L
theorem ops_open3 {H : Type} {enc : TypeId × Value → H} {w : World} {fuel : Nat} {a : Option Addr} {len cap : Nat} {x : DataW H × List MemPlace}
    (h : DataW.trod enc Try.prog w 0 (fun _ => true) true fuel 22 [.slice a len cap] = some x) : len ≤ 9223372036854775807 ∧ ∃ O, OpsAt3 w a len O := by
  obtain ⟨hl, O, hO⟩ := ops_open2 h
  refine ⟨hl, O, hO, fun i hi q hq j hj => ?_⟩
  obtain ⟨_, hc⟩ := slice_open Try.underlying22 Try.cells33 (by omega) h
  obtain ⟨b, off, n, D, cs, ha, hlen, hcell, ht⟩ := hc i hi
  obtain ⟨b', off', ha', hc', hop⟩ := hO.1 i hi
  rw [ha] at ha'
  injection ha' with ha'
  injection ha' with e1 e2
  subst e1 e2
  obtain ⟨xs, n1, _, _, _, hxl, hf⟩ := DataW.trod_struct Try.underlying33 ht
  obtain ⟨y1, hy1⟩ : ∃ y, xs[1]? = some y := ⟨xs[1]'(by rw [hxl]; decide), List.getElem?_eq_getElem _⟩
  have f1 : DataW.trod enc Try.prog w 0 (fun _ => true) true n1 27 ((cs.drop 1).take (Try.prog.cellsOf 27)) = xs[1]? := hf 1 _ rfl
  rw [hy1, Try.cells27] at f1
  obtain ⟨xt, nt, _, _, _, hxt, ht2⟩ := DataW.trod_struct Try.underlying27 f1
  obtain ⟨y4, hy4⟩ : ∃ y, xt[0]? = some y := ⟨xt[0]'(by rw [hxt]; decide), List.getElem?_eq_getElem _⟩
  have f4 : DataW.trod enc Try.prog w 0 (fun _ => true) true nt 25 ((((cs.drop 1).take 1).drop 0).take (Try.prog.cellsOf 25)) = xt[0]? := ht2 0 _ rfl
  rw [hy4, Try.cells25] at f4
  obtain ⟨la, ln, lc, hz⟩ := slice_form Try.underlying25 f4
  rw [hz] at f4
  have e1 : cs[1]? = some (.slice la ln lc) := by
    have := take1 hz
    simpa [List.getElem?_take, List.getElem?_drop] using this
  have e2 := (hcell 1 (by omega)).symm.trans (hc' 1 (by omega))
  rw [e1, hop.v1] at e2
  injection e2 with e2
  injection e2 with e3 e4 e5
  obtain ⟨_, hc2⟩ := slice_open Try.underlying25 Try.cells95 (by omega) f4
  obtain ⟨b2, off2, n2, D2, cs2, ha2, hlen2, hcell2, ht3⟩ := hc2 q (by rw [e4]; exact hq)
  obtain ⟨b3, off3, ha3, hc3, _⟩ := hop.legs q hq
  rw [← e3, ha2] at ha3
  injection ha3 with ha3
  injection ha3 with e6 e7
  subst e6 e7
  have e8 := (hcell2 j (by omega)).symm.trans (hc3 j hj)
  cases hb : (((O i).L q).v j).oneCell' with
  | true => rfl
  | false =>
    rw [trod_one (kids_rows Try.laid Try.rowed) n2 95 cs2 j _ hb Try.lt95 e8] at ht3
    cases ht3
end Go.Proofs.Qxb6500784a
