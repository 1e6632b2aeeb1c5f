import Derived.Test.Qxb6500784aLh
import Derived.Test.Qxb6500784aMm
import Derived.Test.Qxb6500784aAm
import Derived.Test.Qxb6500784aFits
namespace Go.Proofs.Qxb6500784a
open Go.RowKit

/-- What the law holds in memory: both worlds, the result, the bundle. -/
structure MX (x : World) (D A1 A3 A5 : Nat) (la : Option Addr) (ln lc : Nat) (L : Nat → Leg) (P P2 : Pr) (r : Rs) (vo vr vs : Value) : Prop where
  p1 : ∃ S, PP x A1 P S
  p2 : ∃ S, PP x A3 P2 S
  rg : x.rangeAt A5 0 (r.vals vo vr vs)
  al : A5 < x.heap.size
  rl : ∃ C, RL x r vo vr vs C
  op : x.cell? ⟨D, 1, none⟩ = some (.slice la ln lc)
  lg : LegsAt x la ln L
  ok : r.Ok
theorem MX.below {x y : World} {D A1 A3 A5 : Nat} {la : Option Addr} {ln lc : Nat} {L : Nat → Leg} {P P2 : Pr} {r : Rs} {vo vr vs : Value} (h : MX x D A1 A3 A5 la ln lc L P P2 r vo vr vs) (b : Below x.heap.size x y) : MX y D A1 A3 A5 la ln lc L P P2 r vo vr vs := by
  obtain ⟨S1, h1⟩ := h.p1
  obtain ⟨S2, h2⟩ := h.p2
  obtain ⟨C, h3⟩ := h.rl
  exact ⟨⟨S1, h1.below b⟩, ⟨S2, h2.below b⟩, range_below h.rg h.al b, Nat.lt_of_lt_of_le h.al b.size, ⟨C, h3.keep (Ex.of (S := fun _ => False) b) (fun _ _ e => e)⟩, cellKeep b h.op, h.lg.below b, h.ok⟩
theorem PP.outs {x : World} {A : Nat} {P : Pr} {S : List Nat} (h : PP x A P S) (f : Int) : ∃ a c, x.cell? ⟨A, boxO f + 1, none⟩ = some (.slice a (P.box f).out.length c) ∧ x.ownsRow 0 68 41 (.slice a (P.box f).out.length c) (P.box f).out.length ((P.box f).out.flatMap msv) ∧ ∀ m, m ∈ (P.box f).out → MsgOk m := by
  obtain ⟨B, hb, _⟩ := h.onX f
  obtain ⟨a, c, h1, h2⟩ := hb.outs
  exact ⟨a, c, h1, h2, hb.ok.o⟩
theorem PP.inbs {x : World} {A : Nat} {P : Pr} {S : List Nat} (h : PP x A P S) (f : Int) : ∃ a c, x.cell? ⟨A, boxO f + 2, none⟩ = some (.slice a (P.box f).inb.length c) ∧ x.ownsRow 0 68 41 (.slice a (P.box f).inb.length c) (P.box f).inb.length ((P.box f).inb.flatMap msv) ∧ ∀ m, m ∈ (P.box f).inb → MsgOk m := by
  obtain ⟨B, hb, _⟩ := h.onX f
  obtain ⟨a, c, h1, h2⟩ := hb.inbs
  exact ⟨a, c, h1, h2, hb.ok.i⟩
theorem ord_perm {x : World} {B : Nat} {v : Value} {V : List Nat} (h : x.ownsRow B 3 1 v V.length (i64s (ordI V))) : ∃ ao cp, v = .slice ao V.length cp ∧ PermAt x ao cp V := by
  refine owns_perm (B := B) ?_
  have e : vals V = i64s (ordI V) := by simp [vals, i64s, ordI]
  rw [e]; exact h
theorem ordI_len (V : List Nat) : (ordI V).length = V.length := by simp [ordI]
/-- A receipt's taken message, in its cells. -/
theorem Rcp.took_at {r : Rcp} (h : r.Ok) {w : World} {b : Nat} (hr : w.rangeAt b 0 r.vals) : w.rangeAt b 46 (msv r.took) := fun j v hv => by
  have := hr (46 + j) v (by
    have := Rcp.tookAt h j v hv
    exact this)
  rwa [Nat.zero_add] at this
theorem leg_msg {w : World} {b : Nat} {Lv : List Value} {c : Int} {t : List Int} (h : LegV Lv c t) (hr : w.rangeAt b 0 Lv) : w.rangeAt b 44 (msv (txMsg t)) := fun j v hv => by
  have hm := txMsg_ok h.k
  have e : (kvs txk t)[42 + j]? = some v := by
    have hj : j < 41 := by have := (List.getElem?_eq_some_iff.1 hv).1; rwa [msv_len hm] at this
    rw [fld_at h.k (by omega)]
    have hv2 : some (Value.int (mkd j) (fld (txMsg t) j)) = some v := by rw [← hv]; exact (fld_at hm hj).symm
    rw [← hv2, fld_msg]
    congr 2
    unfold txk mkd
    by_cases h5 : j = 5
    · subst h5; rfl
    · by_cases h7 : j = 7
      · subst h7; rfl
      · rw [if_neg (by omega), if_neg (by omega)]
  have := h.x (42 + j) v e
  have := hr (2 + (42 + j)) v this
  rw [Nat.zero_add] at this
  rw [show 44 + j = 2 + (42 + j) by omega]
  exact this
end Go.Proofs.Qxb6500784a
