import Derived.Test.Qxb6500784aAs
import Derived.Test.Qxb6500784aA2
import Derived.Test.Qxb6500784aA3
import Derived.Test.Qxb6500784aA4
import Derived.Test.Qxb6500784aA5
import Derived.Test.Qxb6500784aOp
import Derived.Test.Qxb6500784aSo
namespace Go.Proofs.Qxb6500784a
open Go.RowKit

/-! ### Apply as a whole -/
def appL (l : Led0) (t : List Int) : Led0 :=
  if refP l t ≠ 0 then l
  else if fld t 0 = 1 then addB (addB (feeL l t) (fld t 2 * 4 + fld t 7).toNat (- fld t 8)) (fld t 5 * 4 + fld t 7).toNat (fld t 8)
  else if fld t 0 = 2 then addB (feeL l t) (fld t 2 * 4 + fld t 7).toNat (- fld t 8)
  else if fld t 0 = 3 then { addB (feeL l t) (fld t 46 * 4 + fld t 48).toNat (fld t 49) with mks := l.mks ++ [(fld t 43, fld t 47)] }
  else if fld t 0 = 4 then feeL l t
  else { feeL l t with mks := l.mks ++ [(fld t 43, fld t 47)] }
def appR (l : Led0) (t : List Int) : Rcp :=
  if refP l t ≠ 0 then { rcp0 with code := refP l t }
  else if fld t 0 = 1 then { rcp0 with gas := gasP t, fee := fld t 4 }
  else if fld t 0 = 2 then { rcp0 with gas := gasP t, fee := fld t 4, hs := true, sent := burnM l t }
  else if fld t 0 = 4 then { rcp0 with gas := gasP t, fee := fld t 4, hs := true, sent := sendM l t }
  else { rcp0 with gas := gasP t, fee := fld t 4, ht := true, took := txMsg t }
theorem apply_any (w : World) (b o : Nat) (l : Led0) (sv : List Led0) (B : List Nat) (t : List Int) (h : LA w b o l sv B) (ht : TxOk t) (hl : l.mks.length ≤ 1000000000000) :
    Calls Try.prog 60 #[.pointer (some ⟨b, o, none⟩), .agg (kvs txk t).toArray] w (LStep w b o B (.agg (Rcp.vals (appR l t)).toArray) (appL l t) sv) := by
  unfold appL appR
  by_cases hc : refP l t ≠ 0
  · rw [if_pos hc, if_pos hc]
    exact apply_bad w b o l sv B t h ht hl hc
  · rw [if_neg hc, if_neg hc]
    replace hc : refP l t = 0 := by simpa using hc
    by_cases h1 : fld t 0 = 1
    · rw [if_pos h1, if_pos h1]
      exact apply_1 w b o l sv B t h ht hl hc h1
    · rw [if_neg h1, if_neg h1]
      by_cases h2 : fld t 0 = 2
      · rw [if_pos h2, if_pos h2]
        exact apply_2 w b o l sv B t h ht hl hc h2
      · rw [if_neg h2, if_neg h2]
        by_cases h3 : fld t 0 = 3
        · rw [if_pos h3, if_neg (by omega)]
          exact apply_3 w b o l sv B t h ht hl hc h3
        · rw [if_neg h3]
          by_cases h4 : fld t 0 = 4
          · rw [if_pos h4, if_pos h4]
            exact apply_4 w b o l sv B t h ht hl hc h4
          · rw [if_neg h4, if_neg h4]
            exact apply_5 w b o l sv B t h ht hl hc (by have := (refA0 (ref0 hc).1).1; omega)
theorem appR_ok {l : Led0} {t : List Int} (hl : l.Ok) (ht : TxOk t) : (appR l t).Ok := by
  unfold appR
  split
  · exact ⟨zOk, zOk⟩
  · split
    · exact ⟨zOk, zOk⟩
    · split
      · exact ⟨burnM_ok hl ht, zOk⟩
      · split
        · exact ⟨sendM_ok hl ht, zOk⟩
        · exact ⟨zOk, txMsg_ok ht⟩
/-! ### Consume and Send as a whole -/
theorem BStep.of {w w' : World} {b o : Nat} {x : Box0} {sv : List Box0} {B : List Nat} (h : BA w b o x sv B) (k : Below w.heap.size w w') (v : Value) : BStep w b o B v x sv (.returned v) w' :=
  ⟨rfl, Cg.below k h.bl.1, B, h.below k, fun _ hj => .inl hj⟩
def conP (x y : Box0) (m : Msg) : Int := if fld m 2 ≠ x.ch ∨ fld m 1 ≠ y.ch ∨ y.out[(fld m 5).toNat]? ≠ some m then 51 else if m ∈ x.inb then 52 else 0
def conB (x y : Box0) (m : Msg) : Box0 := if conP x y m = 0 then tookB x m else x
theorem consume_any (w : World) (b o : Nat) (x : Box0) (sv : List Box0) (B : List Nat) (b2 o2 : Nat) (y : Box0) (tv : List Box0) (B2 : List Nat) (m : Msg) (hx : BA w b o x sv B) (hy : BA w b2 o2 y tv B2) (hm : MsgOk m) (hl : y.out.length ≤ 1000000000000) (hli : x.inb.length ≤ 900000000000) :
    Calls Try.prog 61 #[.pointer (some ⟨b, o, none⟩), .pointer (some ⟨b2, o2, none⟩), .agg (msv m).toArray] w (BStep w b o B (.int .i64 (conP x y m)) (conB x y m) sv) := by
  have key : ∀ {c : Int}, c ≠ 0 → conP x y m = c → (Calls Try.prog 61 #[.pointer (some ⟨b, o, none⟩), .pointer (some ⟨b2, o2, none⟩), .agg (msv m).toArray] w fun e w' => e = .returned (.int .i64 c) ∧ Below w.heap.size w w') →
      Calls Try.prog 61 #[.pointer (some ⟨b, o, none⟩), .pointer (some ⟨b2, o2, none⟩), .agg (msv m).toArray] w (BStep w b o B (.int .i64 (conP x y m)) (conB x y m) sv) := fun {c} hc e k => by
    rw [conB, if_neg (by rw [e]; exact hc), e]
    refine k.mono ?_
    rintro _ w' ⟨rfl, hb⟩
    exact BStep.of hx hb _
  by_cases h1 : fld m 2 ≠ x.ch
  · exact key (by omega) (by rw [conP, if_pos (.inl h1)]) (consume_1 w b o x sv B b2 o2 y tv B2 m hx hy hm hl h1)
  · by_cases h2 : fld m 1 ≠ y.ch
    · exact key (by omega) (by rw [conP, if_pos (.inr (.inl h2))]) (consume_2 w b o x sv B b2 o2 y tv B2 m hx hy hm hl (by simpa using h1) h2)
    · have h1' : fld m 2 = x.ch := by simpa using h1
      have h2' : fld m 1 = y.ch := by simpa using h2
      by_cases h3 : y.out[(fld m 5).toNat]? ≠ some m
      · have e : conP x y m = 51 := by rw [conP, if_pos (.inr (.inr h3))]
        cases hq : y.out[(fld m 5).toNat]? with
        | none =>
          refine key (by omega) e (consume_3 w b o x sv B b2 o2 y tv B2 m hx hy hm hl h1' h2' ?_)
          have := List.getElem?_eq_none_iff.1 hq
          have := (fld_r hm (j := 5) (by omega)).1
          omega
        | some q =>
          rw [hq] at h3
          exact key (by omega) e (consume_4 w b o x sv B b2 o2 y tv B2 m hx hy hm hl h1' h2' q hq (fun e => h3 (by rw [e])))
      · have hq : y.out[(fld m 5).toNat]? = some m := by simpa using h3
        by_cases hin : m ∈ x.inb
        · exact key (by omega) (by rw [conP, if_neg (by simp [h1', h2', hq]), if_pos hin]) (consume_taken w b o x sv B b2 o2 y tv B2 m hx hy hm hl hli h1' h2' hq hin)
        · have e : conP x y m = 0 := by rw [conP, if_neg (by simp [h1', h2', hq]), if_neg hin]
          rw [conB, if_pos e, e]
          exact consume_ok w b o x sv B b2 o2 y tv B2 m hx hy hm hl hli h1' h2' hq hin
def sndP (x : Box0) : Int := if 32 ≤ x.sn then 50 else 0
def sndB (x : Box0) (m : Msg) : Box0 := if 32 ≤ x.sn then x else sentB x m
def sndM (x : Box0) (m : Msg) : Msg := if 32 ≤ x.sn then msg0 else stamp x m
theorem send_all (w : World) (b o : Nat) (x : Box0) (sv : List Box0) (B : List Nat) (m : Msg) (h : BA w b o x sv B) (hm : MsgOk m) (hl : x.out.length ≤ 900000000000) :
    Calls Try.prog 62 #[.pointer (some ⟨b, o, none⟩), .agg (msv m).toArray] w (BStep w b o B (.tuple #[.agg (msv (sndM x m)).toArray, .int .i64 (sndP x)]) (sndB x m) sv) := by
  unfold sndM sndP sndB
  by_cases hn : 32 ≤ x.sn
  · rw [if_pos hn, if_pos hn, if_pos hn]
    refine (send_full w b o x sv B m h hn).mono ?_
    rintro _ w' ⟨rfl, hb⟩
    exact BStep.of h hb _
  · rw [if_neg hn, if_neg hn, if_neg hn]
    exact send_any w b o x sv B m h hm (by omega) hl
theorem stamp_ok {x : Box0} {m : Msg} (hm : MsgOk m) (hl : x.out.length ≤ 900000000000) : MsgOk (stamp x m) := msg_set hm (by omega) (by omega)
theorem sndM_ok {x : Box0} {m : Msg} (hm : MsgOk m) (hl : x.out.length ≤ 900000000000) : MsgOk (sndM x m) := by
  unfold sndM
  split
  · exact zOk
  · exact stamp_ok hm hl
/-! ### A chain's ledger and box -/
def Pr.led (P : Pr) (c : Int) : Led0 := if c = 1 then P.la else P.lb
def Pr.sled (P : Pr) (c : Int) : List Led0 := if c = 1 then P.sa else P.sb
def Pr.box (P : Pr) (c : Int) : Box0 := if c = 1 then P.ba else if c = 2 then P.bb else P.b1
def Pr.sbox (P : Pr) (c : Int) : List Box0 := if c = 1 then P.ta else if c = 2 then P.tb else P.t1
def Pr.setL (P : Pr) (c : Int) (l : Led0) (sv : List Led0) : Pr := if c = 1 then { P with la := l, sa := sv } else { P with lb := l, sb := sv }
def Pr.setB (P : Pr) (c : Int) (x : Box0) (sv : List Box0) : Pr := if c = 1 then { P with ba := x, ta := sv } else if c = 2 then { P with bb := x, tb := sv } else { P with b1 := x, t1 := sv }
theorem PP.onL {w : World} {b : Nat} {P : Pr} {S : List Nat} (h : PP w b P S) (c : Int) : ∃ B, LA w b (ledO c) (P.led c) (P.sled c) B ∧ ∀ l' sv' v e w', LStep w b (ledO c) B v l' sv' e w' → e = .returned v ∧ PStep w b S (P.setL c l' sv') w' := by
  unfold ledO Pr.led Pr.sled Pr.setL
  by_cases h1 : c = 1
  · simp only [if_pos h1]; exact h.onA
  · simp only [if_neg h1]; exact h.onB
theorem PP.onX {w : World} {b : Nat} {P : Pr} {S : List Nat} (h : PP w b P S) (c : Int) : ∃ B, BA w b (boxO c) (P.box c) (P.sbox c) B ∧ ∀ x' sv' v e w', BStep w b (boxO c) B v x' sv' e w' → e = .returned v ∧ PStep w b S (P.setB c x' sv') w' := by
  unfold boxO Pr.box Pr.sbox Pr.setB
  by_cases h1 : c = 1
  · simp only [if_pos h1]; exact h.onC
  · simp only [if_neg h1]
    by_cases h2 : c = 2
    · simp only [if_pos h2]; exact h.onD
    · simp only [if_neg h2]; exact h.onE
end Go.Proofs.Qxb6500784a
