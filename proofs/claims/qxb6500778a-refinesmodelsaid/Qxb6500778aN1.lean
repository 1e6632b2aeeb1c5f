import Derived.Test.Qxb6500778aE9
import Derived.Laws.CopyRow
import Derived.Laws.IdiomCopy
import Derived.Laws.OwnMore
import Derived.Deep.AppendLies
namespace Go.Proofs.Qxb6500778a
open Go.RowKit

/-! ### Rows that are owned: cut, copied within, stored -/
theorem own_cut {w : World} {B e s n cap g : Nat} {xs : List Value} (h : w.ownsRow B e s (.slice (some ⟨g, 0, none⟩) n cap) n xs) {i : Nat} (hi : i ≤ n) : w.ownsRow B e s (.slice (some ⟨g, 0, none⟩) i cap) i (xs.take (i * s)) := by
  obtain ⟨h1, ⟨e1, _⟩ | ⟨g', cap', cur, e1, h2, h3, h4, h5, h6, h7⟩⟩ := h
  · cases e1
  · injection e1 with a1 a2 a3
    injection a1 with a1
    injection a1 with a1
    subst a1 a3
    refine ⟨by rw [List.length_take, h1, Nat.min_eq_left (Nat.mul_le_mul_right _ hi)], .inr ⟨g, cap, cur, rfl, h2, h3, by omega, h5, h6, ?_⟩⟩
    rw [← h7, List.take_take, Nat.min_eq_left (Nat.mul_le_mul_right _ hi)]
theorem run_copy_rowN (P : Program) (w : World) (dT sT ty elem : TypeId) (k g o dLen dCap : Nat) (a : Addr) (sLen sCap : Nat) (cur : Array Value) (t : TypeId) (cs : List Value)
    (hu : P.underlying dT = some (.slice elem)) (hs : (P.info? elem).map (·.size) = some k)
    (hg : w.heap[g]? = some (.cells cur t (0, 0))) (hn : cs.length = Nat.min sLen dLen * k)
    (hsrc : ∀ j v, cs[j]? = some v → w.cell? (a.add j) = some v) (hfit : o + cs.length ≤ cur.size) (h1 : ∀ v ∈ cs, v.oneCell' = true) :
    (Builtin.copy_ #[dT, sT] ty #[.slice (some ⟨g, o, none⟩) dLen dCap, .slice (some a) sLen sCap]).run P w =
      .ok (goInt (Nat.min sLen dLen)) (w.setRow g (cur.toList.take o ++ cs ++ cur.toList.drop (o + cs.length)).toArray) := by
  have hl := run_loadCells_list (P := P) w a cs hsrc
  have hst := run_storeCells_at P g o t cs 0 cur w hg (by simpa using hfit) h1
  cases hq : P.info? elem with
  | none => simp [hq] at hs
  | some i =>
    have hi : i.size = k := by simpa [hq] using hs
    simp [Builtin.copy_, run_underlying hu, Builtin.lenOf, Builtin.firstCells, sizeOf, typeInfo, hq, hi, ← hn, hl, hst]
theorem run_copy_noneN (P : Program) (w : World) (dT sT ty elem : TypeId) (k : Nat) (d a : Option Addr) (dLen dCap sLen sCap : Nat) (hu : P.underlying dT = some (.slice elem)) (hs : (P.info? elem).map (·.size) = some k) (hn : Nat.min sLen dLen = 0) :
    (Builtin.copy_ #[dT, sT] ty #[.slice d dLen dCap, .slice a sLen sCap]).run P w = .ok (goInt 0) w := by
  cases hq : P.info? elem with
  | none => simp [hq] at hs
  | some i =>
    have hl : ∀ (x : Addr), (loadCells x 0).run P w = .ok #[] w := fun x => by simpa using run_loadCells_list (P := P) w x [] (by simp)
    cases d <;> cases a <;> simp [Builtin.copy_, run_underlying hu, Builtin.lenOf, Builtin.firstCells, sizeOf, typeInfo, hq, hn, storeCells, hl]
/-- The row behind copy(v[i+1:], v[i:]). -/
def shiftL (k i n : Nat) (xs : List Value) : List Value := xs.take ((i + 1) * k) ++ (xs.drop (i * k)).take ((n - i) * k)
theorem step_copy_shift {P : Program} {ops : Array Oper} {o : Oper} {a : Act} {w : World} {K : Act → World → Prop} {Q : Exit → Act → World → Prop} {E : Prop} (hgd : o.guard = none) (d s : Operand) (dT sT : TypeId)
    (ho : o.op = .call { callee := .builtin .copy, args := #[d, s], argTypes := #[dT, sT] }) (elem k : Nat) (hu : P.underlying dT = some (.slice elem)) (hsz : (P.info? elem).map (·.size) = some k)
    (B g n cap i : Nat) (xs : List Value) (hown : w.ownsRow B elem k (.slice (some ⟨g, 0, none⟩) (n + 1) cap) (n + 1) xs) (hi : i ≤ n)
    (dp : Option Addr) (dl dc sl sc : Nat) (hd : a.eval d = .slice dp dl dc) (hdl : dl = n - i) (hdp : 0 < n - i → dp = some ⟨g, (i + 1) * k, none⟩) (hs : a.eval s = .slice (some ⟨g, i * k, none⟩) sl sc) (hsl : sl = n + 1 - i)
    (h1 : ∀ u ∈ xs, u.oneCell' = true)
    (h : ∀ w', w'.ownsRow B elem k (.slice (some ⟨g, 0, none⟩) (n + 1) cap) (n + 1) (shiftL k i n xs) → Ex (fun j => j = g) w w' → K (a.put o.dst (goInt (n - i : Nat))) w') :
    if Region.wanted o (yielded ops a.tmps) = true then Oper.wp P o a w K Q else E := by
  have hw : Region.wanted o (yielded ops a.tmps) = true := by simp [Region.wanted, hgd]
  rw [if_pos hw]
  subst hdl hsl
  obtain ⟨hl, ⟨e1, _⟩ | ⟨g', cap', cur, e1, h2, h3, h4, h5, h6, h7⟩⟩ := hown
  · cases e1
  injection e1 with a1 a2 a3
  injection a1 with a1
  injection a1 with a1
  subst a1 a3
  by_cases h0 : n - i = 0
  · have hrun := run_copy_noneN P w dT sT o.type elem k dp (some ⟨g, i * k, none⟩) (n - i) dc (n + 1 - i) sc hu hsz (by rw [h0]; exact Nat.min_zero _)
    unfold Oper.wp
    simp [execOp, ho, resolve, invoke, builtin, hd, hs, hrun, Result.andThen]
    have := h w ⟨?_, .inr ⟨g, cap, cur, rfl, h2, h3, h4, h5, h6, ?_⟩⟩ (Ex.refl _ _)
    · rwa [h0] at this
    · have e : i = n := by omega
      subst e
      unfold shiftL
      rw [h0, Nat.zero_mul, List.take_zero, List.append_nil, List.take_of_length_le (by omega)]
      exact hl
    · have e : i = n := by omega
      subst e
      unfold shiftL
      rw [h0, Nat.zero_mul, List.take_zero, List.append_nil, h7, List.take_of_length_le (by omega)]
  · have hdq := hdp (by omega)
    subst hdq
    have hmin : Nat.min (n + 1 - i) (n - i) = n - i := Nat.min_eq_right (by omega)
    have hik : (i + 1) * k + (n - i) * k = (n + 1) * k := by rw [← Nat.add_mul]; congr 1; omega
    have hcsl : ((xs.drop (i * k)).take ((n - i) * k)).length = (n - i) * k := by
      rw [List.length_take, List.length_drop, hl]
      have : i * k + (n - i) * k ≤ (n + 1) * k := by rw [← Nat.add_mul]; exact Nat.mul_le_mul_right _ (by omega)
      omega
    have hcur : (n + 1) * k ≤ cur.size := by rw [h6]; exact Nat.mul_le_mul_right _ h4
    have hxs : ∀ j v, xs[j]? = some v → cur.toList[j]? = some v := fun j v hj => by
      rw [← h7, List.getElem?_take] at hj
      split at hj
      · exact hj
      · cases hj
    have hrun := run_copy_rowN P w dT sT o.type elem k g ((i + 1) * k) (n - i) dc ⟨g, i * k, none⟩ (n + 1 - i) sc cur elem ((xs.drop (i * k)).take ((n - i) * k)) hu hsz h3 (by rw [hmin, hcsl]) (fun j v hj => by
      rw [List.getElem?_take] at hj
      split at hj
      · rw [List.getElem?_drop] at hj
        have := hxs _ v hj
        rw [Addr.add_mid]
        simp only [World.cell?, h3]
        simpa using this
      · cases hj) (by rw [hcsl]; omega) (fun v hv => h1 v (List.mem_of_mem_drop (List.mem_of_mem_take hv)))
    rw [hmin] at hrun
    unfold Oper.wp
    simp [execOp, ho, resolve, invoke, builtin, hd, hs, hrun, Result.andThen]
    have hsh := setRow_heap w g cur ((cur.toList.take ((i + 1) * k) ++ (xs.drop (i * k)).take ((n - i) * k) ++ cur.toList.drop ((i + 1) * k + ((xs.drop (i * k)).take ((n - i) * k)).length)).toArray) elem (0, 0) h3
    have hlen : (cur.toList.take ((i + 1) * k)).length = (i + 1) * k := by rw [List.length_take]; simp; omega
    have htk : cur.toList.take ((i + 1) * k) = xs.take ((i + 1) * k) := by rw [← h7, List.take_take, Nat.min_eq_left (Nat.mul_le_mul_right _ (by omega))]
    have := h _ ⟨?_, .inr ⟨g, cap, _, rfl, h2, hsh, h4, h5, ?_, ?_⟩⟩ ⟨rfl, rfl, rfl, by simp [World.setRow], fun q _ hq => setRow_other w g q _ hq⟩
    · simp at this
      exact this
    · unfold shiftL
      rw [List.length_append, hcsl, ← htk, hlen]
      exact hik
    · simp only [List.size_toArray, List.length_append, hcsl, hlen, List.length_drop, Array.length_toList]
      omega
    · unfold shiftL
      simp only [List.append_assoc]
      rw [← htk, ← List.append_assoc, List.take_append_of_le_length (by rw [List.length_append, hcsl, hlen]; omega), List.take_of_length_le (by rw [List.length_append, hcsl, hlen]; omega)]
end Go.Proofs.Qxb6500778a
