import Derived.Test.Qxb6500773aGreatOe1
import Derived.Test.Qxb6500773aGreatOe2
import Derived.Test.Qxb6500773aGreatOe3
import Derived.Test.Qxb6500773aGreatOe4
import Derived.Test.Qxb6500773aGreatOe5
import Derived.Test.Qxb6500773aGreatOe6
import Derived.Test.Qxb6500773aGreatOe7
import Derived.Test.Qxb6500773aGreatOe8
import Derived.Test.Qxb6500773aGreatPb25
namespace Go.Proofs.Qxb6500773aGreat
open Go.RowKit

/-- cnflaw.modelBench.step -/
theorem mstep_all (w : World) (B m z : Nat) (X : Nat → Prop) (V : Nat → Value) (S : Nat → Nat → Prop) (s : Mst) (h : MN w B m X V S (QM B s) s.nv s.sv) (hB : B ≤ w.heap.size) (hX : ∀ k, X k → k < w.heap.size) (hok : MsOk z s) (hz : z ≤ 65536) (v : OpV) (ha : -9223372036854775808 ≤ v.a ∧ v.a ≤ 9223372036854775807) (L : List Int) (hL : L.length = v.ln) (hIL : ∀ w', Ex (fun k => B ≤ k) w w' → IL w' v.la L) (hln : v.ln ≤ 65536) (Y : List Int) (hY : Y.length = v.tn) (hUT : ∀ w', Ex (fun k => B ≤ k) w w' → UL w' v.ta Y) (htn : v.tn ≤ 65536) (hlc : v.ln ≤ v.lc ∧ v.lc ≤ maxLen) :
    Calls Tryz.prog 10 #[.pointer (some ⟨m, 0, none⟩), opZ v] w (MpPost w (fp m S) B m X (mtF s v.a L Y v.kd).1 (mtF s v.a L Y v.kd).2) := by
  by_cases hk : 0 ≤ v.kd ∧ v.kd ≤ 28
  · obtain ⟨j, hj⟩ : ∃ j : Nat, v.kd = (j : Int) := ⟨v.kd.toNat, by omega⟩
    have hj28 : j ≤ 28 := by omega
    have e : mtF s v.a L Y v.kd = mtN s v.a L Y j := by unfold mtF; rw [if_pos hk, hj, Int.toNat_natCast]
    rw [e]
    clear e hk
    match j, hj, hj28 with
    | 0, hj, _ => exact mstep_0 w B m z X V S s h hB hX hok hz v hj ha
    | 1, hj, _ => exact mstep_1 w B m z X V S s h hB hX hok hz v hj ha
    | 2, hj, _ => exact mstep_2 w B m z X V S s h hB hX hok hz v hj ha
    | 3, hj, _ => exact mstep_3 w B m z X V S s h hB hX hok hz v hj ha L hL hIL hln
    | 4, hj, _ => exact mstep_4 w B m z X V S s h hB hX hok hz v hj ha
    | 5, hj, _ => exact mstep_5 w B m z X V S s h hB hX hok hz v hj ha
    | 6, hj, _ => exact mstep_6 w B m z X V S s h hB hX hok hz v hj ha
    | 7, hj, _ => exact mstep_7 w B m z X V S s h hB hX hok hz v hj ha
    | 8, hj, _ => exact mstep_8 w B m z X V S s h hB hX hok hz v hj ha
    | 9, hj, _ => exact mstep_9 w B m z X V S s h hB hX hok hz v hj ha
    | 10, hj, _ => exact mstep_10 w B m z X V S s h hB hX hok hz v hj ha
    | 11, hj, _ => exact mstep_11 w B m z X V S s h hB hX hok hz v hj ha
    | 12, hj, _ => exact mstep_12 w B m z X V S s h hB hX hok hz v hj ha L hL hIL hln
    | 13, hj, _ => exact mstep_13 w B m z X V S s h hB hX hok hz v hj ha
    | 14, hj, _ => exact mstep_14 w B m z X V S s h hB hX hok hz v hj ha Y hY hUT htn
    | 15, hj, _ => exact mstep_15 w B m z X V S s h hB hX hok hz v hj ha
    | 16, hj, _ => exact mstep_16 w B m z X V S s h hB hX hok hz v hj ha L hL hIL hln
    | 17, hj, _ => exact mstep_17 w B m z X V S s h hB hX hok hz v hj ha L hL hIL hln
    | 18, hj, _ => exact mstep_18 w B m z X V S s h hB hX hok hz v hj ha Y hY hUT htn
    | 19, hj, _ => exact mstep_19 w B m z X V S s h hB hX hok hz v hj ha
    | 20, hj, _ => exact mstep_20 w B m z X V S s h hB hX hok hz v hj ha L hL hIL hln
    | 21, hj, _ => exact mstep_21 w B m z X V S s h hB hX hok hz v hj ha
    | 22, hj, _ => exact mstep_22 w B m z X V S s h hB hX hok hz v hj ha L hL hIL hln hlc
    | 23, hj, _ => exact mstep_23 w B m z X V S s h hB hX hok hz v hj ha
    | 24, hj, _ => exact mstep_24 w B m z X V S s h hB hX hok hz v hj ha
    | 25, hj, _ => exact mstep_25 w B m z X V S s h hB hX hok hz v hj ha
    | 26, hj, _ => exact mstep_26 w B m z X V S s h hB hX hok hz v hj ha
    | 27, hj, _ => exact mstep_27 w B m z X V S s h hB hX hok hz v hj ha
    | 28, hj, _ => exact mstep_28 w B m z X V S s h hB hX hok hz v hj ha
    | j + 29, _, hh => omega
  · rw [show mtF s v.a L Y v.kd = (s, ob0) from if_neg hk]
    exact mstep_oth w B m z X V S s h hB hX hok hz v hk ha
end Go.Proofs.Qxb6500773aGreat
