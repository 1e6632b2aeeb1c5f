import Derived.Test.Qxb6500774aPs3
namespace Go.Proofs.Qxb6500774a
open Go.RowKit

/-- An expression's seven cells. -/
structure Xp where
  k : Int
  x : ByteArray
  n : Int
  m : ByteArray
  q : Option Addr
  ql : Nat
  qc : Nat
  li : Int
  co : Int
def xpV (e : Xp) : Value := .agg #[.int .i64 e.k, .string e.x, .int .i64 e.n, .string e.m, .slice e.q e.ql e.qc, .int .i64 e.li, .int .i64 e.co]
structure XB (w : World) (r : Nat) (e : Xp) : Prop where
  c0 : w.cell? ⟨r, 0, none⟩ = some (.int .i64 e.k)
  c1 : w.cell? ⟨r, 1, none⟩ = some (.string e.x)
  c2 : w.cell? ⟨r, 2, none⟩ = some (.int .i64 e.n)
  c3 : w.cell? ⟨r, 3, none⟩ = some (.string e.m)
  c4 : w.cell? ⟨r, 4, none⟩ = some (.slice e.q e.ql e.qc)
  c5 : w.cell? ⟨r, 5, none⟩ = some (.int .i64 e.li)
  c6 : w.cell? ⟨r, 6, none⟩ = some (.int .i64 e.co)
  fz : ∀ j, w.frozen? ⟨r, j, none⟩ = false
theorem XB.new (w : World) (e : Xp) : XB (w.alloc (.cells #[.int .i64 e.k, .string e.x, .int .i64 e.n, .string e.m, .slice e.q e.ql e.qc, .int .i64 e.li, .int .i64 e.co] 47)) w.heap.size e := by
  have n := fun j u h => new_cells w [.int .i64 e.k, .string e.x, .int .i64 e.n, .string e.m, .slice e.q e.ql e.qc, .int .i64 e.li, .int .i64 e.co] 47 j u h
  exact ⟨n 0 _ rfl, n 1 _ rfl, n 2 _ rfl, n 3 _ rfl, n 4 _ rfl, n 5 _ rfl, n 6 _ rfl, fun j => by simp [go_sem]⟩
theorem XB.keep {w w' : World} {r : Nat} {e : Xp} (h : XB w r e) {S : Nat → Prop} (ex : Ex S w w') (hr : ¬ S r) : XB w' r e :=
  have hl : r < w.heap.size := World.block_lt_of_cell? _ _ h.c0
  ⟨ex.cell hr h.c0, ex.cell hr h.c1, ex.cell hr h.c2, ex.cell hr h.c3, ex.cell hr h.c4, ex.cell hr h.c5, ex.cell hr h.c6, fun j => (ex.frozen hr hl).trans (h.fz j)⟩
theorem XB.put {w : World} {r : Nat} {e : Xp} (h : XB w r e) (f : Xp) : XB (((((((w.setCell ⟨r, 0, none⟩ (.int .i64 f.k)).setCell ⟨r, 1, none⟩ (.string f.x)).setCell ⟨r, 2, none⟩ (.int .i64 f.n)).setCell ⟨r, 3, none⟩ (.string f.m)).setCell ⟨r, 4, none⟩ (.slice f.q f.ql f.qc)).setCell ⟨r, 5, none⟩ (.int .i64 f.li)).setCell ⟨r, 6, none⟩ (.int .i64 f.co)) r f := by
  refine ⟨?_, ?_, ?_, ?_, ?_, ?_, ?_, fun j => by rw [set_frozen, set_frozen, set_frozen, set_frozen, set_frozen, set_frozen, set_frozen]; exact h.fz j⟩
  all_goals simp [go_sem, h.c0, h.c1, h.c2, h.c3, h.c4, h.c5, h.c6]
/-! ### What the tokens spell -/
inductive It where
  | par (op cl : Tk)
  | idx (nm op cl : Tk)
  | un (op : Tk)
def It.op : It → Tk
  | .par o _ => o
  | .idx _ o _ => o
  | .un o => o
def mk (l : List UInt8) : ByteArray := ⟨l.toArray⟩
def It.Ok : It → Prop
  | .par o c => isM o ⟨#[40]⟩ = true ∧ isM c ⟨#[41]⟩ = true ∧ o.l = 1
  | .idx n o c => n.k = 2 ∧ isM o ⟨#[91]⟩ = true ∧ isM c ⟨#[93]⟩ = true ∧ o.l = 1
  | .un o => (isM o ⟨#[78, 79, 84]⟩ = true ∨ isM o ⟨#[45]⟩ = true) ∧ o.l = 1
def toks : List It → Tk → List Tk
  | [], n => [n]
  | .par o c :: r, n => o :: (toks r n ++ [c])
  | .idx m o c :: r, n => m :: o :: (toks r n ++ [c])
  | .un o :: r, n => o :: toks r n
def deepAt : List It → Int → Option Int
  | [], _ => none
  | it :: r, d => if 64 ≤ d then some it.op.c else deepAt r (d + 1)
/-- All read, or the fault. -/
def Out (B p : Nat) (a : Option Addr) (cp : Nat) (s : List Int) (w : World) (d : Int) (L : List Tk) : Option Int → Prop
  | none => At B p a cp s w d L
  | some c => Bad B p a cp s w 6 1 c
/-- What may stand behind an expression. -/
def Stop (u : Tk) : Prop := u.k = 5 ∧ powP u.x.toList = 0 ∧ isM u ⟨#[46]⟩ = false ∧ isM u ⟨#[91]⟩ = false
def RetX (p : Nat) (w : World) (Q : World → Prop) (e : Ending) (w' : World) : Prop := ∃ x, e = .returned (xpV x) ∧ Ex (fun k => k = p) w w' ∧ Q w'
def OperandOk (B p : Nat) (a : Option Addr) (cp : Nat) (s : List Int) (its : List It) (n : Tk) : Prop :=
  ∀ (w : World) (d : Int) (u : Tk) (L : List Tk), 0 ≤ d ∧ d ≤ 64 → Stop u → At B p a cp s w d (toks its n ++ u :: L) → Calls Try.prog 77 #[.pointer (some ⟨p, 0, none⟩)] w (RetX p w fun w' => Out B p a cp s w' d (u :: L) (deepAt its d))
def ExprOk (B p : Nat) (a : Option Addr) (cp : Nat) (s : List Int) (its : List It) (n : Tk) : Prop :=
  ∀ (w : World) (d : Int) (u : Tk) (L : List Tk), 0 ≤ d ∧ d ≤ 64 → Stop u → At B p a cp s w d (toks its n ++ u :: L) → Calls Try.prog 44 #[.pointer (some ⟨p, 0, none⟩), .int .i64 1] w (RetX p w fun w' => Out B p a cp s w' d (u :: L) (deepAt its d))
section
variable {B p : Nat} {a : Option Addr} {cp : Nat} {s : List Int}
theorem Out.ex {w w' : World} {d : Int} {L : List Tk} {r : Option Int} (h : Out B p a cp s w d L r) {S : Nat → Prop} (e : Ex S w w') (hS : ∀ k, S k → B ≤ k) : Out B p a cp s w' d L r := by
  cases r with
  | none => exact At.ex h e hS
  | some c => exact Bad.ex h e hS
theorem Out.ps {w : World} {d : Int} {u : Tk} {L : List Tk} {r : Option Int} (h : Out B p a cp s w d (u :: L) r) (hu : Stop u) : ∃ o t d' fe fl fc, PS B p a cp s w o t d' fe fl fc ∧ ((t.k == 5) = false ∨ (t.k == 5) = true ∧ powP t.x.toList = 0) := by
  cases r with
  | none =>
    obtain ⟨o, hps, _⟩ := h
    exact ⟨o, u, d, 0, 0, 0, hps, .inr ⟨by simp [hu.1], hu.2.1⟩⟩
  | some c =>
    obtain ⟨o, t, d', hps, hk, _⟩ := h
    exact ⟨o, t, d', 6, 1, c, hps, .inl (by simp [hk])⟩
theorem Out.hB {w : World} {d : Int} {u : Tk} {L : List Tk} {r : Option Int} (h : Out B p a cp s w d (u :: L) r) : B ≤ w.heap.size ∧ p < B := by
  cases r with
  | none =>
    obtain ⟨o, hps, _⟩ := h
    exact ⟨hps.hB, hps.hp⟩
  | some c =>
    obtain ⟨o, t, d', hps, hk, _⟩ := h
    exact ⟨hps.hB, hps.hp⟩
theorem At.hB {w : World} {d : Int} {L : List Tk} (h : At B p a cp s w d L) : B ≤ w.heap.size ∧ p < B := by
  cases L with
  | nil => exact h.elim
  | cons t L =>
    obtain ⟨o, hps, _⟩ := h
    exact ⟨hps.hB, hps.hp⟩
set_option maxRecDepth 100000 in
set_option maxHeartbeats 4000000 in
/-- parser.expr where no operator follows -/
theorem expr_of_operand {its : List It} {n : Tk} (h : OperandOk B p a cp s its n) : ExprOk B p a cp s its n := by
  intro w d u L hd hu hat
  have HO := hide h
  have HU := hide hu
  have hat2 := hat.ex (S := fun _ => False) ((Ex.refl _ _).alloc (.cells #[.int .i64 0, .string ⟨#[]⟩, .int .i64 0, .string ⟨#[]⟩, .slice none 0 0, .int .i64 0, .int .i64 0] 47)) (fun _ e => e.elim)
  have hb := hat.hB
  have hr0 := XB.new w ⟨0, ⟨#[]⟩, 0, ⟨#[]⟩, none, 0, 0, 0, 0⟩
  have HE2 : Hid (Ex (fun k => k = p) w (w.alloc (.cells #[.int .i64 0, .string ⟨#[]⟩, .int .i64 0, .string ⟨#[]⟩, .slice none 0 0, .int .i64 0, .int .i64 0] 47))) := (Ex.refl _ _).alloc _
  have HC := hide (HO.out _ d u L hd HU.out hat2)
  clear hat h hu hat2
  go_enter Try.func44, Try.ntmps44
  go_upto_region 2 with (go_at_call 77; refine (HC.out).mono ?_; rintro e w3 ⟨v, rfl, hex, hout⟩; have HEX := hide hex; have HOUT := hide hout; clear hex hout; unfold xpV; simp only [])
  have hr1 := XB.new w3 v
  have HR0 := hide ((hr0.keep HEX.out (fun e => by omega)).keep (S := fun _ => False) ((Ex.refl _ w3).alloc (.cells #[.int .i64 v.k, .string v.x, .int .i64 v.n, .string v.m, .slice v.q v.ql v.qc, .int .i64 v.li, .int .i64 v.co] 47)) (fun e => e))
  have HR1 := hide hr1
  have HOUT2 := hide (HOUT.out.ex (S := fun _ => False) ((Ex.refl _ w3).alloc (.cells #[.int .i64 v.k, .string v.x, .int .i64 v.n, .string v.m, .slice v.q v.ql v.qc, .int .i64 v.li, .int .i64 v.co] 47)) (fun _ e => e.elim))
  have HE3 : Hid (Ex (fun k => k = p) w (w3.alloc (.cells #[.int .i64 v.k, .string v.x, .int .i64 v.n, .string v.m, .slice v.q v.ql v.qc, .int .i64 v.li, .int .i64 v.co] 47))) := (HE2.out.trans HEX.out).alloc _
  have HB0 : Hid (B ≤ w.heap.size) := hb.1
  have h01 : w.heap.size < w3.heap.size := by have := HEX.out.size; simp at this; omega
  obtain ⟨r0, hr0e⟩ : ∃ r, w.heap.size = r := ⟨_, rfl⟩
  have HRR : Hid (w.heap.size ≤ r0) := by rw [hr0e]; exact Nat.le_refl _
  rw [hr0e] at HR0 HB0 h01 ⊢
  clear hr0 hr1 hr0e HOUT HEX HE2 HC hb
  generalize w3.alloc (.cells #[.int .i64 v.k, .string v.x, .int .i64 v.n, .string v.m, .slice v.q v.ql v.qc, .int .i64 v.li, .int .i64 v.co] 47) = w4 at *
  generalize w3.heap.size = r1 at *
  obtain ⟨o, t, d', fe, fl, fc, hps, hno⟩ := HOUT2.out.ps HU.out
  have HPS := hide hps
  have c4 := hps.c4
  have c5 := hps.c5
  clear hps
  go_loopw [6] (fun _ wr => w4 = wr) (fun _ _ => 0)
  case atStart => rfl
  case round =>
    subst hrel
    rcases hno with h5 | ⟨h5, hpw⟩
    · skip
      have R0 := HR0.out.c0
      have R1 := HR0.out.c1
      have R2 := HR0.out.c2
      have R3 := HR0.out.c3
      have R4 := HR0.out.c4
      have R5 := HR0.out.c5
      have R6 := HR0.out.c6
      have RF0 := HR0.out.fz 0
      have RF1 := HR0.out.fz 1
      have RF2 := HR0.out.fz 2
      have RF3 := HR0.out.fz 3
      have RF4 := HR0.out.fz 4
      have RF5 := HR0.out.fz 5
      have RF6 := HR0.out.fz 6
      have T0 := HR1.out.c0
      have T1 := HR1.out.c1
      have T2 := HR1.out.c2
      have T3 := HR1.out.c3
      have T4 := HR1.out.c4
      have T5 := HR1.out.c5
      have T6 := HR1.out.c6
      have HQF := fun (y0 y1 y2 y3 y4 y5 y6 : Value) => hide (HOUT2.out.ex ((((((((Ex.refl (fun k => k = r0) _).set (p := r0) (j := 0) rfl y0).set (p := r0) (j := 1) rfl y1).set (p := r0) (j := 2) rfl y2).set (p := r0) (j := 3) rfl y3).set (p := r0) (j := 4) rfl y4).set (p := r0) (j := 5) rfl y5).set (p := r0) (j := 6) rfl y6) (fun k e => e ▸ HB0.out))
      have HEF := fun (y0 y1 y2 y3 y4 y5 y6 : Value) => hide (((((((HE3.out.setNew (p := r0) (j := 0) HRR.out y0).setNew (p := r0) (j := 1) HRR.out y1).setNew (p := r0) (j := 2) HRR.out y2).setNew (p := r0) (j := 3) HRR.out y3).setNew (p := r0) (j := 4) HRR.out y4).setNew (p := r0) (j := 5) HRR.out y5).setNew (p := r0) (j := 6) HRR.out y6)
      go_wp2
      exact bodyPost_ret (v := xpV v) (by simp [results, Try.results44, go_sem, xpV, R0, R1, R2, R3, R4, R5, R6]) rfl ⟨v, rfl, (HEF _ _ _ _ _ _ _).out, (HQF _ _ _ _ _ _ _).out⟩
    · have HPW := hide hpw
      clear hpw
      have R0 := HR0.out.c0
      have R1 := HR0.out.c1
      have R2 := HR0.out.c2
      have R3 := HR0.out.c3
      have R4 := HR0.out.c4
      have R5 := HR0.out.c5
      have R6 := HR0.out.c6
      have RF0 := HR0.out.fz 0
      have RF1 := HR0.out.fz 1
      have RF2 := HR0.out.fz 2
      have RF3 := HR0.out.fz 3
      have RF4 := HR0.out.fz 4
      have RF5 := HR0.out.fz 5
      have RF6 := HR0.out.fz 6
      have T0 := HR1.out.c0
      have T1 := HR1.out.c1
      have T2 := HR1.out.c2
      have T3 := HR1.out.c3
      have T4 := HR1.out.c4
      have T5 := HR1.out.c5
      have T6 := HR1.out.c6
      have HQF := fun (y0 y1 y2 y3 y4 y5 y6 : Value) => hide (HOUT2.out.ex ((((((((Ex.refl (fun k => k = r0) _).set (p := r0) (j := 0) rfl y0).set (p := r0) (j := 1) rfl y1).set (p := r0) (j := 2) rfl y2).set (p := r0) (j := 3) rfl y3).set (p := r0) (j := 4) rfl y4).set (p := r0) (j := 5) rfl y5).set (p := r0) (j := 6) rfl y6) (fun k e => e ▸ HB0.out))
      have HEF := fun (y0 y1 y2 y3 y4 y5 y6 : Value) => hide (((((((HE3.out.setNew (p := r0) (j := 0) HRR.out y0).setNew (p := r0) (j := 1) HRR.out y1).setNew (p := r0) (j := 2) HRR.out y2).setNew (p := r0) (j := 3) HRR.out y3).setNew (p := r0) (j := 4) HRR.out y4).setNew (p := r0) (j := 5) HRR.out y5).setNew (p := r0) (j := 6) HRR.out y6)
      go_wp2_with (go_at_call 67; refine (power_any _ t.x).mono ?_; rintro e wq ⟨rfl, rfl⟩; rw [HPW.out]; simp only [])
      exact bodyPost_ret (v := xpV v) (by simp [results, Try.results44, go_sem, xpV, R0, R1, R2, R3, R4, R5, R6]) rfl ⟨v, rfl, (HEF _ _ _ _ _ _ _).out, (HQF _ _ _ _ _ _ _).out⟩
end
end Go.Proofs.Qxb6500774a
