import Derived.Test.Qxb6500778aEm
namespace Go.Proofs.Qxb6500778a
open Go.RowKit

/-! ### Bytes, exactly -/
def dgP (c : Int) : Bool := decide (48 ≤ c ∧ c ≤ 57)
def spP (c : Int) : Bool := (c == 32) || ((c == 9) || ((c == 10) || (c == 13)))
def wbP (c : Int) : Bool := dgP c || decide (97 ≤ c ∧ c ≤ 122)
set_option maxRecDepth 100000 in
theorem isDigit_any (w : World) (c : Int) : Calls Try.prog 84 #[.int .u8 c] w fun e w' => e = .returned (.bool (dgP c)) ∧ w = w' := by
  obtain ⟨b1, d1⟩ : ∃ b, decide ((48 : Int) ≤ c) = b := ⟨_, rfl⟩
  obtain ⟨b2, d2⟩ : ∃ b, decide (c ≤ (57 : Int)) = b := ⟨_, rfl⟩
  have e : dgP c = (b1 && b2) := by
    rw [← d1, ← d2]
    unfold dgP
    rw [Bool.decide_and]
  rw [e]
  clear e
  cases b1 <;> cases b2 <;> (go_enter Try.func84, Try.ntmps84; go_wp2; go_ret; exact ⟨rfl, rfl⟩)
set_option maxRecDepth 100000 in
theorem isSpace_any (w : World) (c : Int) : Calls Try.prog 83 #[.int .u8 c] w fun e w' => e = .returned (.bool (spP c)) ∧ w = w' := by
  obtain ⟨b1, d1⟩ : ∃ b, (c == 32) = b := ⟨_, rfl⟩
  obtain ⟨b2, d2⟩ : ∃ b, (c == 9) = b := ⟨_, rfl⟩
  obtain ⟨b3, d3⟩ : ∃ b, (c == 10) = b := ⟨_, rfl⟩
  obtain ⟨b4, d4⟩ : ∃ b, (c == 13) = b := ⟨_, rfl⟩
  have e : spP c = (b1 || (b2 || (b3 || b4))) := by
    rw [← d1, ← d2, ← d3, ← d4]
    rfl
  rw [e]
  clear e
  cases b1 <;> cases b2 <;> cases b3 <;> cases b4 <;> (go_enter Try.func83, Try.ntmps83; go_wp2; go_ret; exact ⟨rfl, rfl⟩)
set_option maxRecDepth 100000 in
theorem isWordByte_any (w : World) (c : Int) : Calls Try.prog 73 #[.int .u8 c] w fun e w' => e = .returned (.bool (wbP c)) ∧ w = w' := by
  obtain ⟨b0, d0⟩ : ∃ b, dgP c = b := ⟨_, rfl⟩
  obtain ⟨b1, d1⟩ : ∃ b, decide ((97 : Int) ≤ c) = b := ⟨_, rfl⟩
  obtain ⟨b2, d2⟩ : ∃ b, decide (c ≤ (122 : Int)) = b := ⟨_, rfl⟩
  have e : wbP c = (b0 || (b1 && b2)) := by
    rw [← d0, ← d1, ← d2]
    unfold wbP
    rw [Bool.decide_and]
  rw [e]
  have HD := hide (isDigit_any w c)
  rw [d0] at HD
  clear e d0
  cases b0 <;> cases b1 <;> cases b2 <;> (go_enter Try.func73, Try.ntmps73; go_wp2_with (go_at_call 84; refine (HD.out).mono ?_; rintro e wq ⟨rfl, rfl⟩; simp only []); go_ret; exact ⟨rfl, rfl⟩)
/-- The source's bytes. -/
def SrcAt (w : World) (a : Option Addr) (s : List Int) : Prop := ∀ i c, s[i]? = some c → ∃ b off, a = some ⟨b, off, none⟩ ∧ w.cell? ⟨b, off + i, none⟩ = some (.int .u8 c)
/-- The lexer's two cells; the parser's others are as R says. -/
structure LX (R : Nat → Option Value) (w : World) (p : Nat) (a : Option Addr) (cp : Nat) (s : List Int) (o : Nat) : Prop where
  c0 : w.cell? ⟨p, 0, none⟩ = some (.slice a s.length cp)
  c1 : w.cell? ⟨p, 1, none⟩ = some (.int .i64 o)
  src : SrcAt w a s
  ap : ∀ (i : Nat) y, s[i]? = some y → ∀ g off, a = some ⟨g, off, none⟩ → g ≠ p
  hi : ∀ j, 2 ≤ j → w.cell? ⟨p, j, none⟩ = R j
  fz : ∀ j, w.frozen? ⟨p, j, none⟩ = false
theorem SrcAt.set {w : World} {a : Option Addr} {s : List Int} {p : Nat} (h : SrcAt w a s) (ap : ∀ (i : Nat) y, s[i]? = some y → ∀ g off, a = some ⟨g, off, none⟩ → g ≠ p) (j : Nat) (v : Value) : SrcAt (w.setCell ⟨p, j, none⟩ v) a s := fun i c hc => by
  obtain ⟨g, off, e, hx⟩ := h i c hc
  exact ⟨g, off, e, ((Ex.refl (fun k => k = p) w).set (j := j) rfl v).cell (ap i c hc g off e) hx⟩
theorem set_cell_low (w : World) (p : Nat) {i j : Nat} (h : i ≠ j) (v : Value) : (w.setCell ⟨p, i, none⟩ v).cell? ⟨p, j, none⟩ = w.cell? ⟨p, j, none⟩ := by
  simp [go_sem]
theorem Ex.cell_eq {S : Nat → Prop} {a b : World} (h : Ex S a b) {q : Nat} (hq : ¬ S q) (hl : q < a.heap.size) (j : Nat) : b.cell? ⟨q, j, none⟩ = a.cell? ⟨q, j, none⟩ := World.cell?_of_block (h.block q hl hq)
section
variable {R : Nat → Option Value} {w w' : World} {p : Nat} {a : Option Addr} {cp : Nat} {s : List Int} {o : Nat}
theorem LX.off (h : LX R w p a cp s o) (o' : Nat) : LX R (w.setCell ⟨p, 1, none⟩ (.int .i64 o')) p a cp s o' :=
  ⟨by simp [go_sem, h.c0], by simp [go_sem, h.c1], h.src.set h.ap _ _, h.ap, fun j hj => by rw [set_cell_low _ _ (by omega)]; exact h.hi j hj, fun j => by simp [go_sem, h.fz j]⟩
/-- whatever spares the parser's block and the source's -/
theorem LX.ex (h : LX R w p a cp s o) {S : Nat → Prop} (e : Ex S w w') (hp : ¬ S p) (ha : ∀ (i : Nat) c, s[i]? = some c → ∀ b off, a = some ⟨b, off, none⟩ → ¬ S b) : LX R w' p a cp s o :=
  have hl : p < w.heap.size := World.block_lt_of_cell? _ _ h.c0
  ⟨e.cell hp h.c0, e.cell hp h.c1, fun i c hc => by
    obtain ⟨b, off, e', hx⟩ := h.src i c hc
    exact ⟨b, off, e', e.cell (ha i c hc b off e') hx⟩, h.ap, fun j hj => (e.cell_eq hp hl j).trans (h.hi j hj), fun j => (e.frozen hp hl).trans (h.fz j)⟩
theorem LX.new (h : LX R w p a cp s o) (e : Ex (fun _ => False) w w') : LX R w' p a cp s o := h.ex e (fun e => e) (fun _ _ _ _ _ _ e => e)
theorem LX.drewN (h : LX R w p a cp s o) (n : Nat) : LX R (w.drewN n) p a cp s o := h.new ((Ex.refl _ w).drewN n)
/-- a new block's cell -/
theorem LX.otherN {R0 : Nat → Option Value} {w0 : World} {o0 : Nat} (h : LX R w p a cp s o) (h0 : LX R0 w0 p a cp s o0) {g : Nat} (hg : w0.heap.size ≤ g) (j : Nat) (v : Value) : LX R (w.setCell ⟨g, j, none⟩ v) p a cp s o :=
  h.ex ((Ex.refl (fun k => k = g) w).set (p := g) (j := j) rfl v) (by have : p < w0.heap.size := World.block_lt_of_cell? _ _ h0.c0; omega) (fun i c hc b off e => by
    obtain ⟨b1, off1, e1, hx1⟩ := h0.src i c hc
    rw [e] at e1
    injection e1 with e1
    injection e1 with e2 e3
    subst e2
    have hlt : b < w0.heap.size := World.block_lt_of_cell? _ _ hx1
    omega)
end
theorem drop_cons {s : List Int} {k : Nat} {c : Int} (h : s[k]? = some c) : s.drop k = c :: s.drop (k + 1) := by
  obtain ⟨hlt, e⟩ := List.getElem?_eq_some_iff.1 h
  rw [List.drop_eq_getElem_cons hlt, e]
def offOf (w : World) (p : Nat) : Nat := match w.cell? ⟨p, 1, none⟩ with
  | some v => (intOf v).toNat
  | none => 0
theorem LX.offOf {R : Nat → Option Value} {w : World} {p : Nat} {a : Option Addr} {cp : Nat} {s : List Int} {o : Nat} (h : LX R w p a cp s o) : offOf w p = o := by
  unfold Go.Proofs.Qxb6500778a.offOf
  rw [h.c1]
  simp [intOf]
end Go.Proofs.Qxb6500778a
