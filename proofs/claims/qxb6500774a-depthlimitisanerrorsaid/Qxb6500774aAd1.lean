import Derived.Test.Qxb6500774aLx8
import Derived.Test.Qxb6500774aOp1
namespace Go.Proofs.Qxb6500774a
open Go.RowKit

/-- The bytes of a constant string. -/
def strL (st : ByteArray) : List Int := st.data.toList.map fun b => (b.toNat : Int)
def u8s (X : List Int) : List Value := X.map (Value.int .u8)
/-- A text of one's own. -/
def Own (B : Nat) (w : World) (v : Value) (X : List Int) : Prop := w.ownsRow B 5 1 v X.length (u8s X)
theorem own_val {B : Nat} {w : World} {v : Value} {X : List Int} (h : Own B w v X) : ∃ a c, v = .slice a X.length c := own_form h
theorem own_ge {B : Nat} {w : World} {v : Value} {X : List Int} (h : Own B w v X) {k : Nat} (hk : v.ownBlock = some k) : B ≤ k := by
  rcases h.2 with ⟨hv, _⟩ | ⟨g, cap, cur, hv, hb, hg, _⟩
  · subst hv
    simp [Value.ownBlock] at hk
  · subst hv
    simp [Value.ownBlock] at hk
    omega
theorem str_at (st : ByteArray) (i : Nat) (c : Int) (h : (strL st)[i]? = some c) : ∃ hlt : i < st.size, ((st[i]'hlt).toNat : Int) = c := by
  rw [strL, List.getElem?_map] at h
  obtain ⟨b, hb, rfl⟩ := Option.map_eq_some_iff.1 h
  obtain ⟨hlt, e⟩ := List.getElem?_eq_some_iff.1 hb
  refine ⟨by have := hlt; rw [Array.length_toList] at this; exact this, ?_⟩
  simp only [Array.getElem_toList] at e
  rw [← e]
  rfl
set_option linter.unusedSimpArgs false in
set_option maxRecDepth 100000 in
set_option maxHeartbeats 4000000 in
/-- syntaxlaw.add -/
theorem add_any (w : World) (B : Nat) (v : Value) (X : List Int) (st : ByteArray) (hv : Own B w v X) (hB : B ≤ w.heap.size) (hl : X.length + (strL st).length ≤ 1099511627776) :
    Calls Try.prog 24 #[v, .string st] w fun e w' => ∃ v', e = .returned v' ∧ Own B w' v' (X ++ strL st) ∧ Below B w w' := by
  have HV := hide hv
  obtain ⟨i0, hi0, hzz⟩ := Option.map_eq_some_iff.1 Try.info5
  simp only [Prod.mk.injEq] at hzz
  have HI := hide (And.intro hi0 hzz)
  have hsz : st.size = (strL st).length := by unfold strL; rw [List.length_map, Array.length_toList]; rfl
  clear hv hi0 hzz
  go_enter Try.func24, Try.ntmps24
  go_wp2
  go_loopw [0, 5] (fun s0 s5 wr => ∃ (k : Nat), k ≤ (strL st).length ∧ s5 = .int .i64 k ∧ Hid (Own B wr s0 (X ++ (strL st).take k)) ∧ Hid (Below B w wr)) (fun _ s5 _ => (strL st).length - (intOf s5).toNat)
  case atStart => exact ⟨0, Nat.zero_le _, rfl, by rw [List.take_zero, List.append_nil]; exact HV, Below.refl _ _⟩
  case round =>
    clear HV
    obtain ⟨k, hk, rfl, HV, HB⟩ := hrel
    by_cases hlt : k < (strL st).length
    · have d1 : decide ((k : Int) < (st.size : Int)) = true := decide_eq_true (by omega)
      have d1n : decide (k < st.size) = true := decide_eq_true (by omega)
      obtain ⟨c, hc⟩ : ∃ c, (strL st)[k]? = some c := ⟨_, List.getElem?_eq_getElem hlt⟩
      obtain ⟨hks, hkc⟩ := str_at st k c hc
      have hw1 : IntKind.i64.wrap ((k : Int) + 1) = ((k + 1 : Nat) : Int) := by rw [IntKind.wrap_i64]; omega
      have HC := hide hc
      clear hc
      obtain ⟨va, vc, hv⟩ := own_val HV.out
      subst hv
      have hlen : (X ++ (strL st).take k).length = X.length + k := by rw [List.length_append, List.length_take]; omega
      have hl2 : X.length + k + 1 ≤ 1099511627776 := by omega
      have HVO : Hid ((wr.alloc (.cells #[.int .u8 c] 5)).ownsRow B 5 1 (.slice va (X ++ (strL st).take k).length vc) (X ++ (strL st).take k).length (u8s (X ++ (strL st).take k))) := HV.out.alloc _
      have HSZ : Hid (B ≤ (wr.alloc (.cells #[.int .u8 c] 5)).heap.size) := by have := HB.out.size; show _ ≤ _; simp; omega
      have HBA : Hid (Below B w (wr.alloc (.cells #[.int .u8 c] 5))) := HB.out.alloc (by have := HB.out.size; omega) _
      obtain ⟨m, hm⟩ : ∃ m, (X ++ (strL st).take k).length = m := ⟨_, rfl⟩
      rw [hm] at HVO hlen ⊢
      have HM := hide hm
      clear hm
      go_upto_region 3 with (at_builtin; go_loud (refine wpList_append_lies _ rfl (.tmp 12) (.tmp 16) 32 rfl B 5 i0 _ 1 1 Try.underlying32 HI.out.1 HI.out.2.1 HI.out.2.2.1 HI.out.2.2.2 rfl (by decide) (.slice va m vc) m (u8s (X ++ (strL st).take k)) rfl HVO.out ⟨wr.heap.size, 0, none⟩ 1 1 [.int .u8 c] rfl rfl (fun j u hj => new_cells wr [.int .u8 c] 5 j u hj) (fun u hu => by simp at hu; subst hu; rfl) (by decide) (by unfold maxLen; omega) (by omega) HSZ.out _ rfl ?_; intro g cap w2 hr hg hat hlt2; have HR2 := hide hr; have HG2 := hide hg; clear hr hg hat hlt2))
      have HV2 : Hid (Own B w2 (.slice (some ⟨g, 0, none⟩) (m + 1) cap) (X ++ (strL st).take (k + 1))) := by
        have h := HR2.out
        have e1 : (strL st).take (k + 1) = (strL st).take k ++ [c] := by rw [List.take_add_one, HC.out]; rfl
        have e2 : (X ++ (strL st).take (k + 1)).length = m + 1 := by rw [e1, ← List.append_assoc, List.length_append, HM.out]; rfl
        have e3 : u8s (X ++ (strL st).take (k + 1)) = u8s (X ++ (strL st).take k) ++ [.int .u8 c] := by rw [e1, ← List.append_assoc]; simp [u8s]
        show w2.ownsRow B 5 1 _ _ _
        rw [e2, e3]
        exact h
      have HB2 : Hid (Below B w w2) := HBA.out.trans ((Ex.ofGrown (S := fun j => B ≤ j) HG2.out (fun j hj => own_ge HV.out (by rw [HM.out]; exact hj.symm))).below (by simp; have := HB.out.size; omega) (fun j hj e => by omega))
      rw [hlen] at HV2
      clear HR2 HG2 HVO HBA HSZ
      go_wp2
      go_roundw
      case rel => exact ⟨k + 1, by omega, by go_num, HV2, HB2⟩
      case measure => simp [intOf]; omega
    · obtain rfl : k = (strL st).length := by omega
      have d1 : decide (((strL st).length : Int) < (st.size : Int)) = false := decide_eq_false (by omega)
      have d1n : decide ((strL st).length < st.size) = false := decide_eq_false (by omega)
      rw [List.take_length] at HV
      go_wp2
      go_ret
      exact ⟨_, rfl, HV.out, HB.out⟩
end Go.Proofs.Qxb6500774a
