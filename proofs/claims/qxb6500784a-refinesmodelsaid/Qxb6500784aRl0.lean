import Derived.Test.Qxb6500784aLw
namespace Go.Proofs.Qxb6500784a
open Go.RowKit

/-! ### runLeg -/
structure LegV (Lv : List Value) (c : Int) (t : List Int) : Prop where
  l : Lv.length = 86
  o : ∀ u ∈ Lv, u.oneCell' = true
  c : Lv[1]? = some (.int .u8 c)
  k : TxOk t
  x : ∀ j v, (kvs txk t)[j]? = some v → Lv[2 + j]? = some v
def LegPost (w : World) (b d : Nat) (S C : List Nat) (P : Pr) (c : Int) (t : List Int) (r : Rs) (e : Ending) (w' : World) : Prop :=
  e = .returned (.int .i64 (legC P c t)) ∧ ∃ S' C', LW w b d S C w' (legS P c t) S' (if legC P c t = 0 then legR P c t r else r) C' []
/-- Small lists. -/
structure Sz (P : Pr) (r : Rs) : Prop where
  m : ∀ c, (P.led c).mks.length ≤ 900000000000
  o : ∀ c, (P.box c).out.length ≤ 900000000000
  i : ∀ c, (P.box c).inb.length ≤ 900000000000
  q : r.rcs.length ≤ 1000
  s : r.stm.length ≤ 1000
theorem legHeld {w : World} {b d A : Nat} {S C : List Nat} {Lv V : List Value} {c : Int} {t : List Int} (h : Loc w b S d C A Lv) (k : LegV Lv c t) (hV : kvs txk t = V) : w.cell? ⟨A, 1, none⟩ = some (.int .u8 c) ∧ w.rangeAt A 2 V := by
  subst hV
  exact ⟨by have := h.rg 1 _ k.c; simpa using this, range_of h.rg k.x⟩
theorem LW.pick {w0 : World} {b d : Nat} {S0 C0 : List Nat} {w : World} {P : Pr} {S : List Nat} {r : Rs} {C : List Nat} {X Y : List (Nat × List Value)} (h : LW w0 b d S0 C0 w P S r C X) (hs : ∀ p, p ∈ Y → p ∈ X) (hn : (Y.map (·.1)).Nodup) : LW w0 b d S0 C0 w P S r C Y := ⟨h.rw, fun p hp => h.lo p (hs p hp), h.ex, h.fs, h.fc, hn⟩
theorem Pr.setL_self (P : Pr) (c : Int) : P.setL c (P.led c) (P.sled c) = P := by
  unfold Pr.setL Pr.led Pr.sled
  split <;> rfl
theorem Pr.setL_box (P : Pr) (c : Int) (l : Led0) (sv : List Led0) (x : Int) : (P.setL c l sv).box x = P.box x := by unfold Pr.setL; split <;> rfl
theorem Pr.setL_sbox (P : Pr) (c : Int) (l : Led0) (sv : List Led0) (x : Int) : (P.setL c l sv).sbox x = P.sbox x := by unfold Pr.setL; split <;> rfl
theorem Try.inf89 : (Try.prog.info? 89).map (fun i => (i.zero, i.size, i.bytes)) = some (some (.agg rcp0.vals.toArray), 87, 184) := by kernel_rfl
theorem rcp0_len : rcp0.vals.length = 87 := Rcp.len rcp0_ok
theorem Rcp.at45 {r : Rcp} (h : r.Ok) : r.vals[45]? = some (.bool r.ht) := by
  unfold Rcp.vals
  rw [List.getElem?_cons_succ, List.getElem?_cons_succ, List.getElem?_cons_succ, List.getElem?_cons_succ, List.getElem?_append_right (by rw [msv_len h.s]; omega), msv_len h.s]
  rfl
theorem Rcp.sentAt {r : Rcp} : ∀ (j : Nat) (v : Value), (msv r.sent)[j]? = some v → r.vals[4 + j]? = some v := fun j v hv => by
  have hj := (List.getElem?_eq_some_iff.1 hv).1
  unfold Rcp.vals
  rw [show 4 + j = j + 1 + 1 + 1 + 1 by omega, List.getElem?_cons_succ, List.getElem?_cons_succ, List.getElem?_cons_succ, List.getElem?_cons_succ, List.getElem?_append_left hj]
  exact hv
theorem Rcp.tookAt {r : Rcp} (h : r.Ok) : ∀ (j : Nat) (v : Value), (msv r.took)[j]? = some v → r.vals[46 + j]? = some v := fun j v hv => by
  unfold Rcp.vals
  rw [show 46 + j = 41 + (1 + j) + 1 + 1 + 1 + 1 by omega, List.getElem?_cons_succ, List.getElem?_cons_succ, List.getElem?_cons_succ, List.getElem?_cons_succ, List.getElem?_append_right (by rw [msv_len h.s]; omega), msv_len h.s, show 41 + (1 + j) - 41 = j + 1 by omega, List.getElem?_cons_succ]
  exact hv
end Go.Proofs.Qxb6500784a
