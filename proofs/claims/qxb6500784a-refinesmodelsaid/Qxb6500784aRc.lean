import Derived.Test.Qxb6500784aNb
import Derived.Test.Qxb6500784aEq
namespace Go.Proofs.Qxb6500784a
open Go.RowKit

/-! ### Receipts -/
structure Rcp where
  code : Int
  gas : Int
  fee : Int
  hs : Bool
  sent : Msg
  ht : Bool
  took : Msg
deriving DecidableEq
def msg0 : Msg := List.replicate 41 0
def rcp0 : Rcp := ⟨0, 0, 0, false, msg0, false, msg0⟩
def Rcp.vals (r : Rcp) : List Value := .int .i64 r.code :: .int .u64 r.gas :: .int .u64 r.fee :: .bool r.hs :: (msv r.sent ++ (.bool r.ht :: msv r.took))
structure Rcp.Ok (r : Rcp) : Prop where
  s : MsgOk r.sent
  t : MsgOk r.took
theorem Rcp.len {r : Rcp} (h : r.Ok) : r.vals.length = 87 := by simp [Rcp.vals, msv_len h.s, msv_len h.t]
theorem Rcp.one (r : Rcp) : ∀ u ∈ r.vals, u.oneCell' = true := fun u hu => by
  simp only [Rcp.vals, List.mem_cons, List.mem_append] at hu
  rcases hu with rfl | rfl | rfl | rfl | hu | rfl | hu <;> first | rfl | exact kvs_one _ _ u hu
theorem rcp0_ok : rcp0.Ok := ⟨zOk, zOk⟩
theorem zc89 : Try.zeroCells89 = rcp0.vals.toArray := by kernel_rfl
theorem Try.sz89 : (Try.prog.info? 89).map (·.size) = some 87 := by kernel_rfl
theorem Rcp.set0 (r : Rcp) (x : Int) : r.vals.set 0 (.int .i64 x) = Rcp.vals { r with code := x } := rfl
theorem Rcp.set1 (r : Rcp) (x : Int) : r.vals.set 1 (.int .u64 x) = Rcp.vals { r with gas := x } := rfl
theorem Rcp.set2 (r : Rcp) (x : Int) : r.vals.set 2 (.int .u64 x) = Rcp.vals { r with fee := x } := rfl
theorem Rcp.set3 (r : Rcp) (x : Bool) : r.vals.set 3 (.bool x) = Rcp.vals { r with hs := x } := rfl
theorem Rcp.set45 {r : Rcp} (h : r.Ok) (x : Bool) : r.vals.set 45 (.bool x) = Rcp.vals { r with ht := x } := by
  unfold Rcp.vals
  rw [List.set_cons_succ, List.set_cons_succ, List.set_cons_succ, List.set_cons_succ, List.set_append_right _ _ (by rw [msv_len h.s]; omega), msv_len h.s]
  rfl
theorem Rcp.setS {r : Rcp} (h : r.Ok) (w : World) (b : Nat) (m : Msg) (hm : MsgOk m) (hr : w.rangeAt b 0 r.vals) (ht : w.there b 0 87) : (w.setCells b 4 (msv m)).rangeAt b 0 (Rcp.vals { r with sent := m }) := fun j v hv => by
  have hl := msv_len hm
  have e1 : r.vals = [.int .i64 r.code, .int .u64 r.gas, .int .u64 r.fee, .bool r.hs] ++ (msv r.sent ++ (.bool r.ht :: msv r.took)) := rfl
  have e2 : Rcp.vals { r with sent := m } = [.int .i64 r.code, .int .u64 r.gas, .int .u64 r.fee, .bool r.hs] ++ (msv m ++ (.bool r.ht :: msv r.took)) := rfl
  rw [Nat.zero_add]
  have hsome : ∀ i, i < (msv m).length → (w.cell? ⟨b, 4 + i, none⟩).isSome = true := fun i hi => by have := (ht (4 + i) (by omega)).1; rwa [Nat.zero_add] at this
  by_cases h4 : j < 4
  · rw [World.cell?_setCells_out b (msv m) 4 w ⟨b, j, none⟩ (fun _ _ => .inl h4)]
    have := hr j v (by rw [e1, List.getElem?_append_left (by simpa using h4)]; rw [e2, List.getElem?_append_left (by simpa using h4)] at hv; exact hv)
    rwa [Nat.zero_add] at this
  · by_cases h45 : j < 45
    · have hi : j - 4 < (msv m).length := by omega
      have := World.cell?_setCells_in b (msv m) 4 w hsome (j - 4) hi
      rw [show 4 + (j - 4) = j by omega] at this
      rw [this]
      rw [e2, List.getElem?_append_right (by simpa using h4), List.getElem?_append_left (by simpa using hi)] at hv
      simp only [List.length_cons, List.length_nil] at hv
      rw [List.getElem?_eq_getElem (by simpa using hi)] at hv
      simpa using hv
    · rw [World.cell?_setCells_out b (msv m) 4 w ⟨b, j, none⟩ (fun _ _ => .inr (by show 4 + (msv m).length ≤ j; omega))]
      have := hr j v (by
        rw [e1, List.getElem?_append_right (by simp; omega), List.getElem?_append_right (by simp [msv_len h.s]; omega)]
        rw [e2, List.getElem?_append_right (by simp; omega), List.getElem?_append_right (by simp [hl]; omega)] at hv
        simp only [hl, msv_len h.s] at hv ⊢
        exact hv)
      rwa [Nat.zero_add] at this
theorem LA.ex {w w' : World} {b o : Nat} {l : Led0} {sv : List Led0} {B : List Nat} {S : Nat → Prop} (h : LA w b o l sv B) (ex : Ex S w w') (h1 : ¬ S b) (h2 : ∀ j, j ∈ B → ¬ S j) : LA w' b o l sv B := by
  obtain ⟨sw, m, s, a1, a2, a3, a4, a5, a6⟩ := h
  exact ⟨sw, m, s, a1, a2.ex a5 ex h1 h2, a3, a4, Nat.lt_of_lt_of_le a5 ex.size, a6⟩
/-- What Apply holds. -/
structure AS (w0 w : World) (A : Nat) (V : List Value) (r : Rcp) (b o : Nat) (l : Led0) (sv : List Led0) (B B0 : List Nat) : Prop where
  cg : Cg b o 326 B0 w0 w
  tx : w.rangeAt A 0 V
  rt : w.there (A + 1) 0 87
  rr : w.rangeAt (A + 2) 0 r.vals
  tr : w.there (A + 2) 0 87
  la : LA w b o l sv B
  sb : ∀ j, j ∈ B → j < A ∧ j ∈ B0 ∨ A + 3 ≤ j
  al : A + 3 ≤ w.heap.size
  bA : b < A
  eA : A = w0.heap.size
theorem AS.below {w0 w w' : World} {A : Nat} {V : List Value} {r : Rcp} {b o : Nat} {l : Led0} {sv : List Led0} {B B0 : List Nat} (h : AS w0 w A V r b o l sv B B0) (k : Below w.heap.size w w') : AS w0 w' A V r b o l sv B B0 := by
  have hal := h.al
  have hbA := h.bA
  have heA := h.eA
  exact ⟨h.cg.below' k (by omega), range_below h.tx (by omega) k, there_below h.rt (by omega) k, range_below h.rr (by omega) k, there_below h.tr (by omega) k, h.la.below k, h.sb, Nat.le_trans h.al k.size, h.bA, h.eA⟩
theorem AS.setR {w0 w : World} {A : Nat} {V : List Value} {r : Rcp} {b o : Nat} {l : Led0} {sv : List Led0} {B B0 : List Nat} (h : AS w0 w A V r b o l sv B B0) {j : Nat} (u : Value) (r' : Rcp) (he : r.vals.set j u = r'.vals) : AS w0 (w.setCell ⟨A + 2, j, none⟩ u) A V r' b o l sv B B0 := by
  have hal := h.al
  have hbA := h.bA
  have heA := h.eA
  have ex : Ex (fun k => k = A + 2) w (w.setCell ⟨A + 2, j, none⟩ u) := (Ex.refl (fun k => k = A + 2) _).set rfl u
  refine ⟨h.cg.grown (row := some (A + 2)) ⟨ex.os, ex.tape, ex.output, ex.size, fun k hk hne => ex.block k hk (fun e => hne (by rw [e]))⟩ (fun i hi => ?_) (by omega) (by simp; omega), range_set_ne h.tx (by omega) _ _, there_set h.rt _ _, ?_, there_set h.tr _ _, h.la.ex ex (by omega) (fun i hi e => ?_), h.sb, by simpa using hal, hbA, heA⟩
  · have : A + 2 = i := by simpa using hi
    right; omega
  · have := range_set h.rr j u
    rw [Nat.zero_add, he] at this
    exact this
  · rcases h.sb i hi with z | z <;> omega
theorem AS.setS {w0 w : World} {A : Nat} {V : List Value} {r : Rcp} {b o : Nat} {l : Led0} {sv : List Led0} {B B0 : List Nat} (h : AS w0 w A V r b o l sv B B0) (hr : r.Ok) (m : Msg) (hm : MsgOk m) : AS w0 (w.setCells (A + 2) 4 (msv m)) A V { r with sent := m } b o l sv B B0 := by
  have hal := h.al
  have hbA := h.bA
  have heA := h.eA
  have ex : Ex (fun k => k = A + 2) w (w.setCells (A + 2) 4 (msv m)) := Ex.sets (S := fun k => k = A + 2) rfl _ _ _ (Ex.refl _ _)
  refine ⟨h.cg.grown (row := some (A + 2)) ⟨ex.os, ex.tape, ex.output, ex.size, fun k hk hne => ex.block k hk (fun e => hne (by rw [e]))⟩ (fun i hi => ?_) (by omega) (by simp; omega), range_ex h.tx (by omega) ex (by omega), there_ex h.rt (by omega) ex (by omega), Rcp.setS hr w (A + 2) m hm h.rr h.tr, World.there_setCells h.tr _ _ _, h.la.ex ex (by omega) (fun i hi e => ?_), h.sb, Nat.le_trans hal ex.size, hbA, heA⟩
  · have : A + 2 = i := by simpa using hi
    right; omega
  · rcases h.sb i hi with z | z <;> omega
theorem AS.setL {w0 w : World} {A : Nat} {V : List Value} {r : Rcp} {b o : Nat} {l : Led0} {sv : List Led0} {B B0 : List Nat} (h : AS w0 w A V r b o l sv B B0) {j : Nat} (hj : j < 326) (u : Value) (l' : Led0) (he : ∀ m s, (l.vals m s).set j u = l'.vals m s) (hm : l'.mks = l.mks) (ho : l'.Ok) : AS w0 (w.setCell ⟨b, o + j, none⟩ u) A V r b o l' sv B B0 := by
  have hal := h.al
  have hbA := h.bA
  exact ⟨h.cg.set hj u, range_set_ne h.tx (by omega) _ _, there_set h.rt _ _, range_set_ne h.rr (by omega) _ _, there_set h.tr _ _, h.la.set u l' he hm ho, h.sb, by simpa using hal, hbA, h.eA⟩
end Go.Proofs.Qxb6500784a
