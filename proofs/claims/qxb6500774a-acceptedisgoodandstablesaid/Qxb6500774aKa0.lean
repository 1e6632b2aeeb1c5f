import Derived.Test.Qxb6500774aLx7
import Derived.Test.Qxb6500774aLx8
namespace Go.Proofs.Qxb6500774a
open Go.RowKit
set_option linter.unusedVariables false
set_option linter.unusedSimpArgs false
variable {R : Nat → Option Value}

theorem meas_lt {n i : Nat} {x y : Value} (hx : x = .int .i64 ((i + 1 : Nat) : Int)) (hy : y = .int .i64 (i : Int)) (h : i < n) : n - (intOf x).toNat < n - (intOf y).toNat := by
  subst hx hy
  simp only [intOf]
  omega
/-! ### White space and comments -/
structure Pl where
  o : Nat
  l : Int
  b : Nat
structure PlOk (s : List Int) (q : Pl) : Prop where
  o : q.o ≤ s.length
  l : 1 ≤ q.l ∧ q.l ≤ q.o + 1
  b : q.b ≤ q.o
def stpQ (s : List Int) (n : Nat) (q : Pl) : Pl := ⟨(stp s n q.o q.l q.b).1, (stp s n q.o q.l q.b).2.1, (stp s n q.o q.l q.b).2.2⟩
def eolK (s : List Int) : Nat → Nat → Nat
  | 0, i => i
  | k + 1, i => if i < s.length ∧ byP s i ≠ 10 then eolK s k (i + 1) else i
def cmtK (s : List Int) : Nat → Nat → Nat
  | 0, i => i
  | k + 1, i => if i + 1 < s.length ∧ ¬ (byP s i = 42 ∧ byP s ((i + 1 : Nat) : Int) = 41) then cmtK s k (i + 1) else i
def skS (s : List Int) : Nat → Pl → Bool × Pl
  | 0, q => (true, q)
  | k + 1, q =>
    if q.o < s.length then
      if byP s q.o = 32 ∨ byP s q.o = 9 ∨ byP s q.o = 13 ∨ byP s q.o = 10 then skS s k (stpQ s 1 q)
      else if byP s q.o = 47 ∧ byP s ((q.o + 1 : Nat) : Int) = 47 then skS s k ⟨eolK s (s.length - q.o) q.o, q.l, q.b⟩
      else if byP s q.o = 40 ∧ byP s ((q.o + 1 : Nat) : Int) = 42 then
        (if s.length ≤ cmtK s (s.length - (q.o + 2)) (q.o + 2) + 1 then (false, q) else skS s k (stpQ s (cmtK s (s.length - (q.o + 2)) (q.o + 2) + 2 - q.o) q))
      else (true, q)
    else (true, q)
theorem stp_o (s : List Int) : ∀ (n o : Nat) (l : Int) (b : Nat), (stp s n o l b).1 = o + n
  | 0, o, l, b => rfl
  | n + 1, o, l, b => by
    unfold stp
    split
    · rw [stp_o s n]; omega
    · rw [stp_o s n]; omega
theorem stp_l (s : List Int) : ∀ (n o : Nat) (l : Int) (b : Nat), l ≤ (stp s n o l b).2.1 ∧ (stp s n o l b).2.1 ≤ l + n
  | 0, o, l, b => ⟨Int.le_refl _, by show l ≤ l + (0 : Nat); omega⟩
  | n + 1, o, l, b => by
    unfold stp
    split
    · have := stp_l s n (o + 1) (l + 1) (o + 1); omega
    · have := stp_l s n (o + 1) l b; omega
theorem stp_b (s : List Int) : ∀ (n o : Nat) (l : Int) (b : Nat), b ≤ o → (stp s n o l b).2.2 ≤ o + n
  | 0, o, l, b, h => h
  | n + 1, o, l, b, h => by
    unfold stp
    split
    · have := stp_b s n (o + 1) (l + 1) (o + 1) (Nat.le_refl _); omega
    · have := stp_b s n (o + 1) l b (by omega); omega
theorem eolK_rng (s : List Int) : ∀ (k i : Nat), i ≤ s.length → i ≤ eolK s k i ∧ eolK s k i ≤ s.length
  | 0, i, h => ⟨Nat.le_refl _, h⟩
  | k + 1, i, h => by
    unfold eolK
    split
    · next hc => have := eolK_rng s k (i + 1) hc.1; omega
    · exact ⟨Nat.le_refl _, h⟩
theorem eolK_step (s : List Int) {i : Nat} (h : i < s.length) (h10 : byP s i ≠ 10) : eolK s (s.length - i) i = eolK s (s.length - (i + 1)) (i + 1) := by
  rw [show s.length - i = s.length - (i + 1) + 1 by omega]
  conv => lhs; unfold eolK
  rw [if_pos ⟨h, h10⟩]
theorem eolK_stop (s : List Int) {i : Nat} (h : ¬ (i < s.length ∧ byP s i ≠ 10)) (k : Nat) : eolK s k i = i := by
  cases k with
  | zero => rfl
  | succ k => unfold eolK; rw [if_neg h]
theorem cmtK_rng (s : List Int) : ∀ (k i : Nat), i ≤ cmtK s k i
  | 0, i => Nat.le_refl _
  | k + 1, i => by
    unfold cmtK
    split
    · have := cmtK_rng s k (i + 1); omega
    · exact Nat.le_refl _
theorem cmtK_step (s : List Int) {i : Nat} (h : i + 1 < s.length) (h2 : ¬ (byP s i = 42 ∧ byP s ((i + 1 : Nat) : Int) = 41)) : cmtK s (s.length - i) i = cmtK s (s.length - (i + 1)) (i + 1) := by
  rw [show s.length - i = s.length - (i + 1) + 1 by omega]
  conv => lhs; unfold cmtK
  rw [if_pos ⟨h, h2⟩]
theorem cmtK_stop (s : List Int) {i : Nat} (h : ¬ (i + 1 < s.length ∧ ¬ (byP s i = 42 ∧ byP s ((i + 1 : Nat) : Int) = 41))) (k : Nat) : cmtK s k i = i := by
  cases k with
  | zero => rfl
  | succ k => unfold cmtK; rw [if_neg h]
theorem PlOk.stp {s : List Int} {q : Pl} (h : PlOk s q) {n : Nat} (hn : q.o + n ≤ s.length) : PlOk s (stpQ s n q) := by
  have h1 := stp_o s n q.o q.l q.b
  have h2 := stp_l s n q.o q.l q.b
  have h3 := stp_b s n q.o q.l q.b h.b
  have h4 := h.l
  refine ⟨?_, ⟨?_, ?_⟩, ?_⟩ <;> unfold stpQ <;> dsimp only
  · omega
  · omega
  · rw [h1]; omega
  · omega
theorem PlOk.go {s : List Int} {q : Pl} (h : PlOk s q) {i : Nat} (h1 : q.o ≤ i) (h2 : i ≤ s.length) : PlOk s ⟨i, q.l, q.b⟩ := ⟨h2, ⟨h.l.1, by have := h.l.2; show q.l ≤ (i : Int) + 1; omega⟩, Nat.le_trans h.b h1⟩
theorem stpQ_o (s : List Int) (n : Nat) (q : Pl) : (stpQ s n q).o = q.o + n := stp_o s n q.o q.l q.b
/-- enough fuel -/
theorem skS_fuel (s : List Int) : ∀ (k m : Nat) (q : Pl), s.length - q.o ≤ k → s.length - q.o ≤ m → skS s k q = skS s m q
  | 0, 0, q, _, _ => rfl
  | 0, m + 1, q, h1, _ => by
    unfold skS
    rw [if_neg (by omega)]
  | k + 1, 0, q, _, h2 => by
    unfold skS
    rw [if_neg (by omega)]
  | k + 1, m + 1, q, h1, h2 => by
    unfold skS
    by_cases hn : q.o < s.length
    · rw [if_pos hn, if_pos hn]
      by_cases hb : byP s q.o = 32 ∨ byP s q.o = 9 ∨ byP s q.o = 13 ∨ byP s q.o = 10
      · rw [if_pos hb, if_pos hb]
        exact skS_fuel s k m _ (by rw [stpQ_o]; omega) (by rw [stpQ_o]; omega)
      · rw [if_neg hb, if_neg hb]
        by_cases hs : byP s q.o = 47 ∧ byP s ((q.o + 1 : Nat) : Int) = 47
        · have h10 : byP s q.o ≠ 10 := by omega
          have := (eolK_rng s (s.length - (q.o + 1)) (q.o + 1) (by omega)).1
          rw [if_pos hs, if_pos hs, eolK_step s hn h10]
          exact skS_fuel s k m _ (by dsimp only; omega) (by dsimp only; omega)
        · rw [if_neg hs, if_neg hs]
          by_cases hc : byP s q.o = 40 ∧ byP s ((q.o + 1 : Nat) : Int) = 42
          · rw [if_pos hc, if_pos hc]
            by_cases he : s.length ≤ cmtK s (s.length - (q.o + 2)) (q.o + 2) + 1
            · rw [if_pos he, if_pos he]
            · rw [if_neg he, if_neg he]
              have := cmtK_rng s (s.length - (q.o + 2)) (q.o + 2)
              exact skS_fuel s k m _ (by rw [stpQ_o]; omega) (by rw [stpQ_o]; omega)
          · rw [if_neg hc, if_neg hc]
    · rw [if_neg hn, if_neg hn]
def skP (s : List Int) (q : Pl) : Bool × Pl := skS s (s.length - q.o) q
theorem skP_end {s : List Int} {q : Pl} (h : ¬ q.o < s.length) : skP s q = (true, q) := by
  unfold skP
  rw [show s.length - q.o = 0 by omega]
  rfl
theorem skP_blank {s : List Int} {q : Pl} (h : q.o < s.length) (hb : byP s q.o = 32 ∨ byP s q.o = 9 ∨ byP s q.o = 13 ∨ byP s q.o = 10) : skP s q = skP s (stpQ s 1 q) := by
  unfold skP
  conv => lhs; rw [show s.length - q.o = (s.length - q.o - 1) + 1 by omega]; unfold skS
  rw [if_pos h, if_pos hb]
  exact skS_fuel s _ _ _ (by rw [stpQ_o]; omega) (by rw [stpQ_o]; omega)
theorem skP_line {s : List Int} {q : Pl} (h : q.o < s.length) (hb : ¬ (byP s q.o = 32 ∨ byP s q.o = 9 ∨ byP s q.o = 13 ∨ byP s q.o = 10)) (hs : byP s q.o = 47 ∧ byP s ((q.o + 1 : Nat) : Int) = 47) : skP s q = skP s ⟨eolK s (s.length - q.o) q.o, q.l, q.b⟩ := by
  have h10 : byP s q.o ≠ 10 := by omega
  have := (eolK_rng s (s.length - (q.o + 1)) (q.o + 1) (by omega)).1
  unfold skP
  conv => lhs; rw [show s.length - q.o = (s.length - q.o - 1) + 1 by omega]; unfold skS
  rw [if_pos h, if_neg hb, if_pos hs]
  rw [eolK_step s h h10]
  exact skS_fuel s _ _ _ (by dsimp only; omega) (by dsimp only; omega)
theorem skP_open {s : List Int} {q : Pl} (h : q.o < s.length) (hc : byP s q.o = 40 ∧ byP s ((q.o + 1 : Nat) : Int) = 42) (he : s.length ≤ cmtK s (s.length - (q.o + 2)) (q.o + 2) + 1) : skP s q = (false, q) := by
  unfold skP
  conv => lhs; rw [show s.length - q.o = (s.length - q.o - 1) + 1 by omega]; unfold skS
  rw [if_pos h, if_neg (by omega), if_neg (by omega), if_pos hc, if_pos he]
theorem skP_cmt {s : List Int} {q : Pl} (h : q.o < s.length) (hc : byP s q.o = 40 ∧ byP s ((q.o + 1 : Nat) : Int) = 42) (he : ¬ s.length ≤ cmtK s (s.length - (q.o + 2)) (q.o + 2) + 1) : skP s q = skP s (stpQ s (cmtK s (s.length - (q.o + 2)) (q.o + 2) + 2 - q.o) q) := by
  have := cmtK_rng s (s.length - (q.o + 2)) (q.o + 2)
  unfold skP
  conv => lhs; rw [show s.length - q.o = (s.length - q.o - 1) + 1 by omega]; unfold skS
  rw [if_pos h, if_neg (by omega), if_neg (by omega), if_pos hc, if_neg he]
  exact skS_fuel s _ _ _ (by rw [stpQ_o]; omega) (by rw [stpQ_o]; omega)
theorem skP_here {s : List Int} {q : Pl} (h : q.o < s.length) (hb : ¬ (byP s q.o = 32 ∨ byP s q.o = 9 ∨ byP s q.o = 13 ∨ byP s q.o = 10)) (hs : ¬ (byP s q.o = 47 ∧ byP s ((q.o + 1 : Nat) : Int) = 47)) (hc : ¬ (byP s q.o = 40 ∧ byP s ((q.o + 1 : Nat) : Int) = 42)) : skP s q = (true, q) := by
  unfold skP
  conv => lhs; rw [show s.length - q.o = (s.length - q.o - 1) + 1 by omega]; unfold skS
  rw [if_pos h, if_neg hb, if_neg hs, if_neg hc]
abbrev LX (R : Nat → Option Value) (w : World) (p : Nat) (a : Option Addr) (cp : Nat) (s : List Int) (q : Pl) : Prop := Lx R w p a cp s q.o q.l q.b
def SkPost (R : Nat → Option Value) (w : World) (p : Nat) (a : Option Addr) (cp : Nat) (s : List Int) (r : Bool × Pl) (e : Ending) (w' : World) : Prop := e = .returned (.bool r.1) ∧ Ex (fun k => k = p) w w' ∧ LX R w' p a cp s r.2 ∧ PlOk s r.2
/-- the loop of a block -/
def loopOf (n : Nat) : Code → Option Code
  | .block k c => if k = n then (match c with | .loop b => some b | _ => loopOf n c) else loopOf n c
  | .seq a b => match loopOf n a with
    | some c => some c
    | none => loopOf n b
  | .loop c => loopOf n c
  | .scope c => loopOf n c
  | .cond _ a b => match loopOf n a with
    | some c => some c
    | none => loopOf n b
  | _ => none
noncomputable def ob85 : Code := ((Try.f85.body.bind (loopOf 0)).getD .skip)
end Go.Proofs.Qxb6500774a
