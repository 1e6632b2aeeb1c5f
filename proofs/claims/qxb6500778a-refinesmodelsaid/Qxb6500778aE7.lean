import Derived.Test.Qxb6500778aE6
namespace Go.Proofs.Qxb6500778a
open Go.RowKit

structure Chg where
  kd : Int
  dv : Int
  hp : Int
  pr : Int
  ln : Int
  ix : Int
  cl : Int
  pm : Bool
  up : Bool
def Chg.zero : Chg := ⟨0, 0, 0, 0, 0, 0, 0, false, false⟩
def Chg.vals (c : Chg) : List Value := [.int .i64 c.kd, .int .i64 c.dv, .int .i64 c.hp, .int .i64 c.pr, .int .i64 c.ln, .int .i64 c.ix, .int .i64 c.cl, .bool c.pm, .bool c.up]
/-- A change in a block of its own. -/
structure CS (w : World) (q : Nat) (c : Chg) : Prop where
  c0 : w.cell? ⟨q, 0, none⟩ = some (.int .i64 c.kd)
  c1 : w.cell? ⟨q, 1, none⟩ = some (.int .i64 c.dv)
  c2 : w.cell? ⟨q, 2, none⟩ = some (.int .i64 c.hp)
  c3 : w.cell? ⟨q, 3, none⟩ = some (.int .i64 c.pr)
  c4 : w.cell? ⟨q, 4, none⟩ = some (.int .i64 c.ln)
  c5 : w.cell? ⟨q, 5, none⟩ = some (.int .i64 c.ix)
  c6 : w.cell? ⟨q, 6, none⟩ = some (.int .i64 c.cl)
  c7 : w.cell? ⟨q, 7, none⟩ = some (.bool c.pm)
  c8 : w.cell? ⟨q, 8, none⟩ = some (.bool c.up)
  fr : ∀ j, w.frozen? ⟨q, j, none⟩ = false
theorem CS.put0 {w : World} {q : Nat} {c : Chg} (h : CS w q c) (y : Int) : CS (w.setCell ⟨q, 0, none⟩ (.int .i64 y)) q { c with kd := y } := by
  refine ⟨?_, ?_, ?_, ?_, ?_, ?_, ?_, ?_, ?_, fun i => by simpa [go_sem] using h.fr i⟩
  · exact World.cell?_setCell_same _ _ _ h.c0
  · rw [World.cell?_setCell_other _ _ _ _ (by simp)]; exact h.c1
  · rw [World.cell?_setCell_other _ _ _ _ (by simp)]; exact h.c2
  · rw [World.cell?_setCell_other _ _ _ _ (by simp)]; exact h.c3
  · rw [World.cell?_setCell_other _ _ _ _ (by simp)]; exact h.c4
  · rw [World.cell?_setCell_other _ _ _ _ (by simp)]; exact h.c5
  · rw [World.cell?_setCell_other _ _ _ _ (by simp)]; exact h.c6
  · rw [World.cell?_setCell_other _ _ _ _ (by simp)]; exact h.c7
  · rw [World.cell?_setCell_other _ _ _ _ (by simp)]; exact h.c8
theorem CS.put1 {w : World} {q : Nat} {c : Chg} (h : CS w q c) (y : Int) : CS (w.setCell ⟨q, 1, none⟩ (.int .i64 y)) q { c with dv := y } := by
  refine ⟨?_, ?_, ?_, ?_, ?_, ?_, ?_, ?_, ?_, fun i => by simpa [go_sem] using h.fr i⟩
  · rw [World.cell?_setCell_other _ _ _ _ (by simp)]; exact h.c0
  · exact World.cell?_setCell_same _ _ _ h.c1
  · rw [World.cell?_setCell_other _ _ _ _ (by simp)]; exact h.c2
  · rw [World.cell?_setCell_other _ _ _ _ (by simp)]; exact h.c3
  · rw [World.cell?_setCell_other _ _ _ _ (by simp)]; exact h.c4
  · rw [World.cell?_setCell_other _ _ _ _ (by simp)]; exact h.c5
  · rw [World.cell?_setCell_other _ _ _ _ (by simp)]; exact h.c6
  · rw [World.cell?_setCell_other _ _ _ _ (by simp)]; exact h.c7
  · rw [World.cell?_setCell_other _ _ _ _ (by simp)]; exact h.c8
theorem CS.put2 {w : World} {q : Nat} {c : Chg} (h : CS w q c) (y : Int) : CS (w.setCell ⟨q, 2, none⟩ (.int .i64 y)) q { c with hp := y } := by
  refine ⟨?_, ?_, ?_, ?_, ?_, ?_, ?_, ?_, ?_, fun i => by simpa [go_sem] using h.fr i⟩
  · rw [World.cell?_setCell_other _ _ _ _ (by simp)]; exact h.c0
  · rw [World.cell?_setCell_other _ _ _ _ (by simp)]; exact h.c1
  · exact World.cell?_setCell_same _ _ _ h.c2
  · rw [World.cell?_setCell_other _ _ _ _ (by simp)]; exact h.c3
  · rw [World.cell?_setCell_other _ _ _ _ (by simp)]; exact h.c4
  · rw [World.cell?_setCell_other _ _ _ _ (by simp)]; exact h.c5
  · rw [World.cell?_setCell_other _ _ _ _ (by simp)]; exact h.c6
  · rw [World.cell?_setCell_other _ _ _ _ (by simp)]; exact h.c7
  · rw [World.cell?_setCell_other _ _ _ _ (by simp)]; exact h.c8
theorem CS.put3 {w : World} {q : Nat} {c : Chg} (h : CS w q c) (y : Int) : CS (w.setCell ⟨q, 3, none⟩ (.int .i64 y)) q { c with pr := y } := by
  refine ⟨?_, ?_, ?_, ?_, ?_, ?_, ?_, ?_, ?_, fun i => by simpa [go_sem] using h.fr i⟩
  · rw [World.cell?_setCell_other _ _ _ _ (by simp)]; exact h.c0
  · rw [World.cell?_setCell_other _ _ _ _ (by simp)]; exact h.c1
  · rw [World.cell?_setCell_other _ _ _ _ (by simp)]; exact h.c2
  · exact World.cell?_setCell_same _ _ _ h.c3
  · rw [World.cell?_setCell_other _ _ _ _ (by simp)]; exact h.c4
  · rw [World.cell?_setCell_other _ _ _ _ (by simp)]; exact h.c5
  · rw [World.cell?_setCell_other _ _ _ _ (by simp)]; exact h.c6
  · rw [World.cell?_setCell_other _ _ _ _ (by simp)]; exact h.c7
  · rw [World.cell?_setCell_other _ _ _ _ (by simp)]; exact h.c8
theorem CS.put4 {w : World} {q : Nat} {c : Chg} (h : CS w q c) (y : Int) : CS (w.setCell ⟨q, 4, none⟩ (.int .i64 y)) q { c with ln := y } := by
  refine ⟨?_, ?_, ?_, ?_, ?_, ?_, ?_, ?_, ?_, fun i => by simpa [go_sem] using h.fr i⟩
  · rw [World.cell?_setCell_other _ _ _ _ (by simp)]; exact h.c0
  · rw [World.cell?_setCell_other _ _ _ _ (by simp)]; exact h.c1
  · rw [World.cell?_setCell_other _ _ _ _ (by simp)]; exact h.c2
  · rw [World.cell?_setCell_other _ _ _ _ (by simp)]; exact h.c3
  · exact World.cell?_setCell_same _ _ _ h.c4
  · rw [World.cell?_setCell_other _ _ _ _ (by simp)]; exact h.c5
  · rw [World.cell?_setCell_other _ _ _ _ (by simp)]; exact h.c6
  · rw [World.cell?_setCell_other _ _ _ _ (by simp)]; exact h.c7
  · rw [World.cell?_setCell_other _ _ _ _ (by simp)]; exact h.c8
theorem CS.put5 {w : World} {q : Nat} {c : Chg} (h : CS w q c) (y : Int) : CS (w.setCell ⟨q, 5, none⟩ (.int .i64 y)) q { c with ix := y } := by
  refine ⟨?_, ?_, ?_, ?_, ?_, ?_, ?_, ?_, ?_, fun i => by simpa [go_sem] using h.fr i⟩
  · rw [World.cell?_setCell_other _ _ _ _ (by simp)]; exact h.c0
  · rw [World.cell?_setCell_other _ _ _ _ (by simp)]; exact h.c1
  · rw [World.cell?_setCell_other _ _ _ _ (by simp)]; exact h.c2
  · rw [World.cell?_setCell_other _ _ _ _ (by simp)]; exact h.c3
  · rw [World.cell?_setCell_other _ _ _ _ (by simp)]; exact h.c4
  · exact World.cell?_setCell_same _ _ _ h.c5
  · rw [World.cell?_setCell_other _ _ _ _ (by simp)]; exact h.c6
  · rw [World.cell?_setCell_other _ _ _ _ (by simp)]; exact h.c7
  · rw [World.cell?_setCell_other _ _ _ _ (by simp)]; exact h.c8
theorem CS.put6 {w : World} {q : Nat} {c : Chg} (h : CS w q c) (y : Int) : CS (w.setCell ⟨q, 6, none⟩ (.int .i64 y)) q { c with cl := y } := by
  refine ⟨?_, ?_, ?_, ?_, ?_, ?_, ?_, ?_, ?_, fun i => by simpa [go_sem] using h.fr i⟩
  · rw [World.cell?_setCell_other _ _ _ _ (by simp)]; exact h.c0
  · rw [World.cell?_setCell_other _ _ _ _ (by simp)]; exact h.c1
  · rw [World.cell?_setCell_other _ _ _ _ (by simp)]; exact h.c2
  · rw [World.cell?_setCell_other _ _ _ _ (by simp)]; exact h.c3
  · rw [World.cell?_setCell_other _ _ _ _ (by simp)]; exact h.c4
  · rw [World.cell?_setCell_other _ _ _ _ (by simp)]; exact h.c5
  · exact World.cell?_setCell_same _ _ _ h.c6
  · rw [World.cell?_setCell_other _ _ _ _ (by simp)]; exact h.c7
  · rw [World.cell?_setCell_other _ _ _ _ (by simp)]; exact h.c8
theorem CS.put7 {w : World} {q : Nat} {c : Chg} (h : CS w q c) (y : Bool) : CS (w.setCell ⟨q, 7, none⟩ (.bool y)) q { c with pm := y } := by
  refine ⟨?_, ?_, ?_, ?_, ?_, ?_, ?_, ?_, ?_, fun i => by simpa [go_sem] using h.fr i⟩
  · rw [World.cell?_setCell_other _ _ _ _ (by simp)]; exact h.c0
  · rw [World.cell?_setCell_other _ _ _ _ (by simp)]; exact h.c1
  · rw [World.cell?_setCell_other _ _ _ _ (by simp)]; exact h.c2
  · rw [World.cell?_setCell_other _ _ _ _ (by simp)]; exact h.c3
  · rw [World.cell?_setCell_other _ _ _ _ (by simp)]; exact h.c4
  · rw [World.cell?_setCell_other _ _ _ _ (by simp)]; exact h.c5
  · rw [World.cell?_setCell_other _ _ _ _ (by simp)]; exact h.c6
  · exact World.cell?_setCell_same _ _ _ h.c7
  · rw [World.cell?_setCell_other _ _ _ _ (by simp)]; exact h.c8
theorem CS.put8 {w : World} {q : Nat} {c : Chg} (h : CS w q c) (y : Bool) : CS (w.setCell ⟨q, 8, none⟩ (.bool y)) q { c with up := y } := by
  refine ⟨?_, ?_, ?_, ?_, ?_, ?_, ?_, ?_, ?_, fun i => by simpa [go_sem] using h.fr i⟩
  · rw [World.cell?_setCell_other _ _ _ _ (by simp)]; exact h.c0
  · rw [World.cell?_setCell_other _ _ _ _ (by simp)]; exact h.c1
  · rw [World.cell?_setCell_other _ _ _ _ (by simp)]; exact h.c2
  · rw [World.cell?_setCell_other _ _ _ _ (by simp)]; exact h.c3
  · rw [World.cell?_setCell_other _ _ _ _ (by simp)]; exact h.c4
  · rw [World.cell?_setCell_other _ _ _ _ (by simp)]; exact h.c5
  · rw [World.cell?_setCell_other _ _ _ _ (by simp)]; exact h.c6
  · rw [World.cell?_setCell_other _ _ _ _ (by simp)]; exact h.c7
  · exact World.cell?_setCell_same _ _ _ h.c8
theorem CS.other {w w' : World} {q : Nat} {c : Chg} {S : Nat → Prop} (h : CS w q c) (e : Ex S w w') (hn : ¬ S q) : CS w' q c :=
  ⟨e.cell hn h.c0, e.cell hn h.c1, e.cell hn h.c2, e.cell hn h.c3, e.cell hn h.c4, e.cell hn h.c5, e.cell hn h.c6, e.cell hn h.c7, e.cell hn h.c8, fun j => (e.frozen hn (World.block_lt_of_cell? _ _ h.c0)).trans (h.fr j)⟩
def PQ (p q : Nat) : Nat → Prop := fun k => k = p ∨ k = q
/-- The parser at p, and the change at q that is being filled. -/
structure MC (w0 w : World) (p q : Nat) (a : Option Addr) (cp : Nat) (s : List Int) (x : PSt) (c : Chg) : Prop where
  pi : PX w p a cp s x
  cs : CS w q c
  ex : Ex (PQ p q) w0 w
  lt : p < q
  aq : ∀ (i : Nat) y, s[i]? = some y → ∀ b off, a = some ⟨b, off, none⟩ → b ≠ q
section
variable {w0 w w' : World} {p q : Nat} {a : Option Addr} {cp : Nat} {s : List Int} {x x' : PSt} {c c' : Chg}
theorem MC.step (h : MC w0 w p q a cp s x c) (hpi : PX w' p a cp s x') (e : Ex (fun k => k = p) w w') : MC w0 w' p q a cp s x' c :=
  ⟨hpi, h.cs.other e (by have := h.lt; omega), h.ex.trans (e.mono fun k hk => Or.inl hk), h.lt, h.aq⟩
theorem MC.thn (h : MC w0 w p q a cp s x c) (k : MC w w' p q a cp s x' c') : MC w0 w' p q a cp s x' c' :=
  ⟨k.pi, k.cs, h.ex.trans k.ex, h.lt, h.aq⟩
theorem MC.drewN (h : MC w0 w p q a cp s x c) (m : Nat) : MC w0 (w.drewN m) p q a cp s x c :=
  h.step (h.pi.drewN m) ((Ex.refl _ w).drewN m)
theorem MC.put0 (h : MC w0 w p q a cp s x c) (y : Int) : MC w0 (w.setCell ⟨q, 0, none⟩ (.int .i64 y)) p q a cp s x { c with kd := y } := by
  have e : Ex (fun k => k = q) w (w.setCell ⟨q, 0, none⟩ (.int .i64 y)) := (Ex.refl (fun k => k = q) w).set (p := q) rfl _
  have hl := h.lt
  exact ⟨h.pi.ex e (by omega) h.aq, h.cs.put0 y, h.ex.trans (e.mono fun k hk => Or.inr hk), hl, h.aq⟩
theorem MC.put1 (h : MC w0 w p q a cp s x c) (y : Int) : MC w0 (w.setCell ⟨q, 1, none⟩ (.int .i64 y)) p q a cp s x { c with dv := y } := by
  have e : Ex (fun k => k = q) w (w.setCell ⟨q, 1, none⟩ (.int .i64 y)) := (Ex.refl (fun k => k = q) w).set (p := q) rfl _
  have hl := h.lt
  exact ⟨h.pi.ex e (by omega) h.aq, h.cs.put1 y, h.ex.trans (e.mono fun k hk => Or.inr hk), hl, h.aq⟩
theorem MC.put2 (h : MC w0 w p q a cp s x c) (y : Int) : MC w0 (w.setCell ⟨q, 2, none⟩ (.int .i64 y)) p q a cp s x { c with hp := y } := by
  have e : Ex (fun k => k = q) w (w.setCell ⟨q, 2, none⟩ (.int .i64 y)) := (Ex.refl (fun k => k = q) w).set (p := q) rfl _
  have hl := h.lt
  exact ⟨h.pi.ex e (by omega) h.aq, h.cs.put2 y, h.ex.trans (e.mono fun k hk => Or.inr hk), hl, h.aq⟩
theorem MC.put3 (h : MC w0 w p q a cp s x c) (y : Int) : MC w0 (w.setCell ⟨q, 3, none⟩ (.int .i64 y)) p q a cp s x { c with pr := y } := by
  have e : Ex (fun k => k = q) w (w.setCell ⟨q, 3, none⟩ (.int .i64 y)) := (Ex.refl (fun k => k = q) w).set (p := q) rfl _
  have hl := h.lt
  exact ⟨h.pi.ex e (by omega) h.aq, h.cs.put3 y, h.ex.trans (e.mono fun k hk => Or.inr hk), hl, h.aq⟩
theorem MC.put4 (h : MC w0 w p q a cp s x c) (y : Int) : MC w0 (w.setCell ⟨q, 4, none⟩ (.int .i64 y)) p q a cp s x { c with ln := y } := by
  have e : Ex (fun k => k = q) w (w.setCell ⟨q, 4, none⟩ (.int .i64 y)) := (Ex.refl (fun k => k = q) w).set (p := q) rfl _
  have hl := h.lt
  exact ⟨h.pi.ex e (by omega) h.aq, h.cs.put4 y, h.ex.trans (e.mono fun k hk => Or.inr hk), hl, h.aq⟩
theorem MC.put5 (h : MC w0 w p q a cp s x c) (y : Int) : MC w0 (w.setCell ⟨q, 5, none⟩ (.int .i64 y)) p q a cp s x { c with ix := y } := by
  have e : Ex (fun k => k = q) w (w.setCell ⟨q, 5, none⟩ (.int .i64 y)) := (Ex.refl (fun k => k = q) w).set (p := q) rfl _
  have hl := h.lt
  exact ⟨h.pi.ex e (by omega) h.aq, h.cs.put5 y, h.ex.trans (e.mono fun k hk => Or.inr hk), hl, h.aq⟩
theorem MC.put6 (h : MC w0 w p q a cp s x c) (y : Int) : MC w0 (w.setCell ⟨q, 6, none⟩ (.int .i64 y)) p q a cp s x { c with cl := y } := by
  have e : Ex (fun k => k = q) w (w.setCell ⟨q, 6, none⟩ (.int .i64 y)) := (Ex.refl (fun k => k = q) w).set (p := q) rfl _
  have hl := h.lt
  exact ⟨h.pi.ex e (by omega) h.aq, h.cs.put6 y, h.ex.trans (e.mono fun k hk => Or.inr hk), hl, h.aq⟩
theorem MC.put7 (h : MC w0 w p q a cp s x c) (y : Bool) : MC w0 (w.setCell ⟨q, 7, none⟩ (.bool y)) p q a cp s x { c with pm := y } := by
  have e : Ex (fun k => k = q) w (w.setCell ⟨q, 7, none⟩ (.bool y)) := (Ex.refl (fun k => k = q) w).set (p := q) rfl _
  have hl := h.lt
  exact ⟨h.pi.ex e (by omega) h.aq, h.cs.put7 y, h.ex.trans (e.mono fun k hk => Or.inr hk), hl, h.aq⟩
theorem MC.put8 (h : MC w0 w p q a cp s x c) (y : Bool) : MC w0 (w.setCell ⟨q, 8, none⟩ (.bool y)) p q a cp s x { c with up := y } := by
  have e : Ex (fun k => k = q) w (w.setCell ⟨q, 8, none⟩ (.bool y)) := (Ex.refl (fun k => k = q) w).set (p := q) rfl _
  have hl := h.lt
  exact ⟨h.pi.ex e (by omega) h.aq, h.cs.put8 y, h.ex.trans (e.mono fun k hk => Or.inr hk), hl, h.aq⟩
theorem mc0 (hp0 : PX w p a cp s x) (hc0 : CS w q c) (hpq : p < q) (haq : ∀ (i : Nat) y, s[i]? = some y → ∀ b off, a = some ⟨b, off, none⟩ → b ≠ q) : MC w w p q a cp s x c := ⟨hp0, hc0, Ex.refl _ _, hpq, haq⟩
/-! the steps, with their answers named -/
theorem advance_is (h : PX w p a cp s x) (hx : advP s x = x') : Calls Try.prog 29 #[.pointer (some ⟨p, 0, none⟩)] w (PPost w p a cp s (.tuple #[]) x') := by subst hx; exact advance_any w p a cp s x h
theorem fail_is {e0 y : Int} (h : PX w p a cp s x) (hx : failP x e0 y = x') : Calls Try.prog 33 #[.pointer (some ⟨p, 0, none⟩), .int .i64 e0, .int .i64 y] w (PPost w p a cp s (.tuple #[]) x') := by subst hx; exact fail_any w p a cp s x e0 y h
theorem unexpected_is (h : PX w p a cp s x) (hx : unexP x = x') : Calls Try.prog 53 #[.pointer (some ⟨p, 0, none⟩)] w (PPost w p a cp s (.tuple #[]) x') := by subst hx; exact unexpected_any w p a cp s x h
theorem isWord_is {y : ByteArray} {b : Bool} (h : PX w p a cp s x) (hb : isW x y = b) : Calls Try.prog 52 #[.pointer (some ⟨p, 0, none⟩), .string y] w fun e w' => e = .returned (.bool b) ∧ w = w' := by subst hb; exact isWord_any w p a cp s x y h
theorem word_is {y : ByteArray} (h : PX w p a cp s x) (hx : wordP s y x = x') : Calls Try.prog 30 #[.pointer (some ⟨p, 0, none⟩), .string y] w (PPost w p a cp s (.tuple #[]) x') := by subst hx; exact word_any w p a cp s x y h
theorem punct_is {y : Int} (h : PX w p a cp s x) (hx : punctP s y x = x') : Calls Try.prog 32 #[.pointer (some ⟨p, 0, none⟩), .int .i64 y] w (PPost w p a cp s (.tuple #[]) x') := by subst hx; exact punct_any w p a cp s x y h
theorem either_is {y z : ByteArray} {b : Bool} (h : PX w p a cp s x) (hb : eitB x y = b) (hx : eitP s y z x = x') : Calls Try.prog 58 #[.pointer (some ⟨p, 0, none⟩), .string y, .string z] w (PPost w p a cp s (.bool b) x') := by subst hx hb; exact either_any w p a cp s x y z h
theorem bounded_is {y max v : Int} (h : PX w p a cp s x) (hv : bndV y max x = v) (hx : bndP s y max x = x') : Calls Try.prog 31 #[.pointer (some ⟨p, 0, none⟩), .int .i64 y, .int .i64 max] w (PPost w p a cp s (.int .i64 v) x') := by subst hx hv; exact bounded_any w p a cp s x y max h
theorem device_is {v : Int} (h : PX w p a cp s x) (hv : bndV 3 15 x = v) (hx : bndP s 3 15 x = x') : Calls Try.prog 57 #[.pointer (some ⟨p, 0, none⟩)] w (PPost w p a cp s (.int .i64 v) x') := by subst hx hv; exact device_any w p a cp s x h
theorem bndV_in (h : PX w p a cp s x) {y max v : Int} (hm : 0 ≤ max) (hv : bndV y max x = v) : 0 ≤ v ∧ v ≤ max := by
  have := h.hv
  subst hv
  unfold bndV
  split <;> omega
end
def algB (pr ln : Int) : Bool := bits BinOp.and .i64 pr (wrap64 (wrap64 (2 ^ (8 - ln).toNat) - 1)) == 0
theorem aligned_any (w : World) (pr ln : Int) (h : 0 ≤ ln ∧ ln ≤ 8) : Calls Try.prog 76 #[.int .i64 pr, .int .i64 ln] w fun e w' => e = .returned (.bool (algB pr ln)) ∧ w' = w := by
  obtain ⟨h0, h1⟩ := h
  go_enter Try.func76, Try.ntmps76
  go_wp2
  go_ret
  exact ⟨rfl, rfl⟩
theorem aligned_is (w : World) (pr ln : Int) (h : 0 ≤ ln ∧ ln ≤ 8) (r : Bool) (hr : algB pr ln = r) : Calls Try.prog 76 #[.int .i64 pr, .int .i64 ln] w fun e w' => e = .returned (.bool r) ∧ w' = w := by
  subst hr; exact aligned_any w pr ln h
/-! ### The grammar, plain -/
def prefX (s : List Int) (x : PSt) : PSt :=
  let x1 := bndP s 2 255 x
  let x2 := punctP s 4 x1
  let x3 := bndP s 2 8 x2
  if x3.e = 0 then (if algB (bndV 2 255 x) (bndV 2 8 x2) = false then failP x3 3 x.t.q else x3) else x3
def prefC (s : List Int) (x : PSt) (c : Chg) : Chg := { { c with pr := bndV 2 255 x } with ln := bndV 2 8 (punctP s 4 (bndP s 2 255 x)) }
def MPost (w : World) (p q : Nat) (a : Option Addr) (cp : Nat) (s : List Int) (x : PSt) (c : Chg) (e : Ending) (w' : World) : Prop := e = .returned (.tuple #[]) ∧ MC w w' p q a cp s x c
def s_add : ByteArray := ⟨#[97, 100, 100]⟩
def s_del : ByteArray := ⟨#[100, 101, 108]⟩
def s_via : ByteArray := ⟨#[118, 105, 97]⟩
def s_insert : ByteArray := ⟨#[105, 110, 115, 101, 114, 116]⟩
def s_remove : ByteArray := ⟨#[114, 101, 109, 111, 118, 101]⟩
def s_at : ByteArray := ⟨#[97, 116]⟩
def s_permit : ByteArray := ⟨#[112, 101, 114, 109, 105, 116]⟩
def s_deny : ByteArray := ⟨#[100, 101, 110, 121]⟩
def s_class : ByteArray := ⟨#[99, 108, 97, 115, 115]⟩
def s_any : ByteArray := ⟨#[97, 110, 121]⟩
def s_up : ByteArray := ⟨#[117, 112]⟩
def s_down : ByteArray := ⟨#[100, 111, 119, 110]⟩
def s_route : ByteArray := ⟨#[114, 111, 117, 116, 101]⟩
def s_acl : ByteArray := ⟨#[97, 99, 108]⟩
def s_link : ByteArray := ⟨#[108, 105, 110, 107]⟩
def s_iface : ByteArray := ⟨#[105, 102, 97, 99, 101]⟩
def s_batch : ByteArray := ⟨#[98, 97, 116, 99, 104]⟩
def routeX (s : List Int) (x : PSt) (c : Chg) : PSt × Chg :=
  let x1 := eitP s s_add s_del x
  let x2 := bndP s 3 15 x1
  if eitB x s_add = true then
    let c1 := prefC s x2 { { c with kd := 0 } with dv := bndV 3 15 x1 }
    let x4 := wordP s s_via (prefX s x2)
    (bndP s 3 15 x4, { c1 with hp := bndV 3 15 x4 })
  else (prefX s x2, prefC s x2 { { c with kd := 1 } with dv := bndV 3 15 x1 })
def aclX (s : List Int) (x : PSt) (c : Chg) : PSt × Chg :=
  let x1 := eitP s s_insert s_remove x
  let x2 := bndP s 3 15 x1
  let x3 := wordP s s_at x2
  let x4 := bndP s 2 63 x3
  let c1 : Chg := { { { c with kd := 3 } with dv := bndV 3 15 x1 } with ix := bndV 2 63 x3 }
  if eitB x s_insert = true then
    let x5 := eitP s s_permit s_deny x4
    let c2 := prefC s x5 { { c1 with kd := 2 } with pm := eitB x4 s_permit }
    let x7 := wordP s s_class (prefX s x5)
    if x7.e = 0 ∧ isW x7 s_any = true then (advP s x7, { c2 with cl := 16 }) else (bndP s 2 15 x7, { c2 with cl := bndV 2 15 x7 })
  else (x4, c1)
def linkX (s : List Int) (x : PSt) (c : Chg) : PSt × Chg :=
  let x1 := bndP s 3 15 x
  let x2 := bndP s 3 15 x1
  let x3 := if x2.e = 0 then (if bndV 3 15 x1 ≤ bndV 3 15 x then failP x2 3 x1.t.q else x2) else x2
  (eitP s s_up s_down x3, { { { { c with kd := 4 } with dv := bndV 3 15 x } with hp := bndV 3 15 x1 } with up := eitB x3 s_up })
def ifaceX (s : List Int) (x : PSt) (c : Chg) : PSt × Chg :=
  let x1 := bndP s 3 15 x
  (eitP s s_up s_down x1, { { { c with kd := 5 } with dv := bndV 3 15 x } with up := eitB x1 s_up })
def changeX (s : List Int) (x : PSt) : PSt × Chg :=
  if isW x s_route = true then routeX s (advP s x) .zero
  else if isW x s_acl = true then aclX s (advP s x) .zero
  else if isW x s_link = true then linkX s (advP s x) .zero
  else if isW x s_iface = true then ifaceX s (advP s x) .zero
  else (unexP x, .zero)
set_option maxRecDepth 100000 in
set_option maxHeartbeats 4000000 in
theorem prefix_any (w : World) (p q : Nat) (a : Option Addr) (cp : Nat) (s : List Int) (x : PSt) (c : Chg) (hp0 : PX w p a cp s x) (hc0 : CS w q c) (hpq : p < q) (haq : ∀ (i : Nat) y, s[i]? = some y → ∀ b off, a = some ⟨b, off, none⟩ → b ≠ q) :
    Calls Try.prog 75 #[.pointer (some ⟨p, 0, none⟩), .pointer (some ⟨q, 0, none⟩)] w (MPost w p q a cp s (prefX s x) (prefC s x c)) := by
  have HM := hide (mc0 hp0 hc0 hpq haq)
  obtain ⟨v1, hv1⟩ : ∃ y, bndV 2 255 x = y := ⟨_, rfl⟩
  obtain ⟨x1, hx1⟩ : ∃ y, bndP s 2 255 x = y := ⟨_, rfl⟩
  obtain ⟨x2, hx2⟩ : ∃ y, punctP s 4 x1 = y := ⟨_, rfl⟩
  obtain ⟨v2, hv2⟩ : ∃ y, bndV 2 8 x2 = y := ⟨_, rfl⟩
  obtain ⟨x3, hx3⟩ : ∃ y, bndP s 2 8 x2 = y := ⟨_, rfl⟩
  obtain ⟨tq, htq⟩ : ∃ y, x.t.q = y := ⟨_, rfl⟩
  have HC : Hid (prefC s x c = { { c with pr := v1 } with ln := v2 }) := by show _ = _; unfold prefC; rw [hv1, hx1, hx2, hv2]
  obtain ⟨er, her⟩ : ∃ y, x3.e = y := ⟨_, rfl⟩
  obtain ⟨al, hal⟩ : ∃ y, algB v1 v2 = y := ⟨_, rfl⟩
  have HF : Hid (prefX s x = if er = 0 then (if al = false then failP x3 3 tq else x3) else x3) := by show _ = _; unfold prefX; simp only [hv1, hx1, hx2, hv2, hx3, htq, hal, her]
  have c3 := hp0.c3
  rw [htq] at c3
  have H_er := hide her
  have H_al := hide hal
  clear hp0 hc0 her hal
  have H_v1 := hide hv1
  have H_x1 := hide hx1
  have H_x2 := hide hx2
  have H_v2 := hide hv2
  have H_x3 := hide hx3
  have H_tq := hide htq
  clear hv1 hx1 hx2 hv2 hx3 htq
  go_enter Try.func75, Try.ntmps75
  go_upto_region 1 with fail
  clear c3
  have b1 := bndV_in HM.out.pi (by decide) H_v1.out
  go_wp2_with fail
  refine (bounded_is HM.out.pi H_v1.out H_x1.out).mono ?_
  rintro e w1 ⟨rfl, hr, hex⟩
  replace HM := hide (HM.out.step hr hex)
  clear hr hex
  have d3 := HM.out.cs.c3
  have fr := HM.out.cs.fr
  go_upto_region 2 with fail
  replace HM := hide (HM.out.put3 v1)
  clear d3 fr
  generalize w1.setCell ⟨q, 3, none⟩ (.int .i64 v1) = w2 at *
  go_wp2_with fail
  refine (punct_is HM.out.pi H_x2.out).mono ?_
  rintro e w3 ⟨rfl, hr, hex⟩
  replace HM := hide (HM.out.step hr hex)
  clear hr hex
  have b2 := bndV_in HM.out.pi (by decide) H_v2.out
  go_wp2_with fail
  refine (bounded_is HM.out.pi H_v2.out H_x3.out).mono ?_
  rintro e w4 ⟨rfl, hr, hex⟩
  replace HM := hide (HM.out.step hr hex)
  clear hr hex
  have d4 := HM.out.cs.c4
  have fr := HM.out.cs.fr
  go_upto_region 4 with fail
  replace HM := hide (HM.out.put4 v2)
  clear d4 fr
  generalize w4.setCell ⟨q, 4, none⟩ (.int .i64 v2) = w5 at *
  have c6 := HM.out.pi.c6
  have d3 := HM.out.cs.c3
  have d4 := HM.out.cs.c4
  rw [H_er.out] at c6
  simp only [] at d3 d4
  by_cases hz : er = 0
  · subst hz
    rw [if_pos rfl] at HF
    cases al
    · rw [if_pos rfl] at HF
      go_quiet (first | (go_at_call 76; refine Calls.quiet_of_same (aligned_is _ v1 v2 b2 _ H_al.out)))
      replace HM := hide (HM.out.drewN nq)
      go_wp2_with fail
      refine (fail_is HM.out.pi HF.out.symm).mono ?_
      rintro e w6 ⟨rfl, hr, hex⟩
      replace HM := hide (HM.out.step hr hex)
      clear hr hex c6 d3 d4
      go_wp2
      go_end0
      exact ⟨rfl, by rw [HC.out]; exact HM.out⟩
    · rw [if_neg (by decide)] at HF
      go_quiet (first | (go_at_call 76; refine Calls.quiet_of_same (aligned_is _ v1 v2 b2 _ H_al.out)))
      replace HM := hide (HM.out.drewN nq)
      clear c6 d3 d4
      go_wp2
      go_end0
      exact ⟨rfl, by rw [HC.out, HF.out]; exact HM.out⟩
  · have hzb : (er == 0) = false := by simp [hz]
    rw [if_neg hz] at HF
    go_quiet (fail)
    replace HM := hide (HM.out.drewN nq)
    clear c6 d3 d4
    go_wp2
    go_end0
    exact ⟨rfl, by rw [HC.out, HF.out]; exact HM.out⟩
theorem prefix_is {w : World} {p q : Nat} {a : Option Addr} {cp : Nat} {s : List Int} {x x' : PSt} {c c' : Chg} (hp0 : PX w p a cp s x) (hc0 : CS w q c) (hpq : p < q) (haq : ∀ (i : Nat) y, s[i]? = some y → ∀ b off, a = some ⟨b, off, none⟩ → b ≠ q) (hx : prefX s x = x') (hc : prefC s x c = c') :
    Calls Try.prog 75 #[.pointer (some ⟨p, 0, none⟩), .pointer (some ⟨q, 0, none⟩)] w (MPost w p q a cp s x' c') := by subst hx hc; exact prefix_any w p q a cp s x c hp0 hc0 hpq haq
set_option maxRecDepth 100000 in
set_option maxHeartbeats 4000000 in
theorem route_any (w : World) (p q : Nat) (a : Option Addr) (cp : Nat) (s : List Int) (x : PSt) (c : Chg) (hp0 : PX w p a cp s x) (hc0 : CS w q c) (hpq : p < q) (haq : ∀ (i : Nat) y, s[i]? = some y → ∀ b off, a = some ⟨b, off, none⟩ → b ≠ q) :
    Calls Try.prog 54 #[.pointer (some ⟨p, 0, none⟩), .pointer (some ⟨q, 0, none⟩)] w (MPost w p q a cp s ((routeX s x c).1) ((routeX s x c).2)) := by
  have HM := hide (mc0 hp0 hc0 hpq haq)
  obtain ⟨b, hb⟩ : ∃ y, eitB x s_add = y := ⟨_, rfl⟩
  obtain ⟨x1, hx1⟩ : ∃ y, eitP s s_add s_del x = y := ⟨_, rfl⟩
  obtain ⟨v1, hv1⟩ : ∃ y, bndV 3 15 x1 = y := ⟨_, rfl⟩
  obtain ⟨x2, hx2⟩ : ∃ y, bndP s 3 15 x1 = y := ⟨_, rfl⟩
  obtain ⟨x3, hx3⟩ : ∃ y, prefX s x2 = y := ⟨_, rfl⟩
  obtain ⟨c1, hc1⟩ : ∃ y, prefC s x2 { { c with kd := 0 } with dv := v1 } = y := ⟨_, rfl⟩
  obtain ⟨c2, hc2⟩ : ∃ y, prefC s x2 { { c with kd := 1 } with dv := v1 } = y := ⟨_, rfl⟩
  obtain ⟨x4, hx4⟩ : ∃ y, wordP s s_via x3 = y := ⟨_, rfl⟩
  obtain ⟨v4, hv4⟩ : ∃ y, bndV 3 15 x4 = y := ⟨_, rfl⟩
  obtain ⟨x5, hx5⟩ : ∃ y, bndP s 3 15 x4 = y := ⟨_, rfl⟩
  have HF : Hid (routeX s x c = if b = true then (x5, { c1 with hp := v4 }) else (x3, c2)) := by show _ = _; unfold routeX; simp only [hb, hx1, hv1, hx2, hx3, hc1, hc2, hx4, hv4, hx5]
  clear hp0 hc0
  have H_b := hide hb
  have H_x1 := hide hx1
  have H_v1 := hide hv1
  have H_x2 := hide hx2
  have H_x3 := hide hx3
  have H_c1 := hide hc1
  have H_c2 := hide hc2
  have H_x4 := hide hx4
  have H_v4 := hide hv4
  have H_x5 := hide hx5
  clear hb hx1 hv1 hx2 hx3 hc1 hc2 hx4 hv4 hx5
  go_enter Try.func54, Try.ntmps54
  go_wp2_with fail
  refine (either_is HM.out.pi H_b.out H_x1.out).mono ?_
  rintro e w1 ⟨rfl, hr, hex⟩
  replace HM := hide (HM.out.step hr hex)
  clear hr hex
  cases b
  · rw [if_neg (by decide)] at HF
    have d0 := HM.out.cs.c0
    have fr := HM.out.cs.fr
    go_upto_region 7 with fail
    replace HM := hide (HM.out.put0 1)
    clear d0 fr
    generalize w1.setCell ⟨q, 0, none⟩ (.int .i64 1) = w2 at *
    go_wp2_with fail
    refine (device_is HM.out.pi H_v1.out H_x2.out).mono ?_
    rintro e w3 ⟨rfl, hr, hex⟩
    replace HM := hide (HM.out.step hr hex)
    clear hr hex
    have d1 := HM.out.cs.c1
    have fr := HM.out.cs.fr
    go_upto_region 8 with fail
    replace HM := hide (HM.out.put1 v1)
    clear d1 fr
    generalize w3.setCell ⟨q, 1, none⟩ (.int .i64 v1) = w4 at *
    go_wp2_with fail
    refine (prefix_is HM.out.pi HM.out.cs hpq haq H_x3.out H_c2.out).mono ?_
    rintro e w5 ⟨rfl, hr⟩
    replace HM := hide (HM.out.thn hr)
    clear hr
    go_wp2
    go_end0
    exact ⟨rfl, by rw [HF.out]; exact HM.out⟩
  · rw [if_pos rfl] at HF
    have d0 := HM.out.cs.c0
    have fr := HM.out.cs.fr
    go_upto_region 2 with fail
    replace HM := hide (HM.out.put0 0)
    clear d0 fr
    generalize w1.setCell ⟨q, 0, none⟩ (.int .i64 0) = w2 at *
    go_wp2_with fail
    refine (device_is HM.out.pi H_v1.out H_x2.out).mono ?_
    rintro e w3 ⟨rfl, hr, hex⟩
    replace HM := hide (HM.out.step hr hex)
    clear hr hex
    have d1 := HM.out.cs.c1
    have fr := HM.out.cs.fr
    go_upto_region 3 with fail
    replace HM := hide (HM.out.put1 v1)
    clear d1 fr
    generalize w3.setCell ⟨q, 1, none⟩ (.int .i64 v1) = w4 at *
    go_wp2_with fail
    refine (prefix_is HM.out.pi HM.out.cs hpq haq H_x3.out H_c1.out).mono ?_
    rintro e w5 ⟨rfl, hr⟩
    replace HM := hide (HM.out.thn hr)
    clear hr
    go_wp2_with fail
    refine (word_is HM.out.pi H_x4.out).mono ?_
    rintro e w6 ⟨rfl, hr, hex⟩
    replace HM := hide (HM.out.step hr hex)
    clear hr hex
    go_wp2_with fail
    refine (device_is HM.out.pi H_v4.out H_x5.out).mono ?_
    rintro e w7 ⟨rfl, hr, hex⟩
    replace HM := hide (HM.out.step hr hex)
    clear hr hex
    have d2 := HM.out.cs.c2
    have fr := HM.out.cs.fr
    replace HM := hide (HM.out.put2 v4)
    go_wp2
    exact bodyPost_ret (v := .tuple #[]) (by simp [results, Try.results54, go_sem]) rfl ⟨rfl, by rw [HF.out]; exact HM.out⟩
set_option maxRecDepth 100000 in
set_option maxHeartbeats 4000000 in
theorem acl_any (w : World) (p q : Nat) (a : Option Addr) (cp : Nat) (s : List Int) (x : PSt) (c : Chg) (hp0 : PX w p a cp s x) (hc0 : CS w q c) (hpq : p < q) (haq : ∀ (i : Nat) y, s[i]? = some y → ∀ b off, a = some ⟨b, off, none⟩ → b ≠ q) :
    Calls Try.prog 55 #[.pointer (some ⟨p, 0, none⟩), .pointer (some ⟨q, 0, none⟩)] w (MPost w p q a cp s ((aclX s x c).1) ((aclX s x c).2)) := by
  have HM := hide (mc0 hp0 hc0 hpq haq)
  obtain ⟨b, hb⟩ : ∃ y, eitB x s_insert = y := ⟨_, rfl⟩
  obtain ⟨x1, hx1⟩ : ∃ y, eitP s s_insert s_remove x = y := ⟨_, rfl⟩
  obtain ⟨v1, hv1⟩ : ∃ y, bndV 3 15 x1 = y := ⟨_, rfl⟩
  obtain ⟨x2, hx2⟩ : ∃ y, bndP s 3 15 x1 = y := ⟨_, rfl⟩
  obtain ⟨x3, hx3⟩ : ∃ y, wordP s s_at x2 = y := ⟨_, rfl⟩
  obtain ⟨v3, hv3⟩ : ∃ y, bndV 2 63 x3 = y := ⟨_, rfl⟩
  obtain ⟨x4, hx4⟩ : ∃ y, bndP s 2 63 x3 = y := ⟨_, rfl⟩
  obtain ⟨pm, hpm⟩ : ∃ y, eitB x4 s_permit = y := ⟨_, rfl⟩
  obtain ⟨x5, hx5⟩ : ∃ y, eitP s s_permit s_deny x4 = y := ⟨_, rfl⟩
  obtain ⟨x6, hx6⟩ : ∃ y, prefX s x5 = y := ⟨_, rfl⟩
  obtain ⟨c2, hc2⟩ : ∃ y, prefC s x5 { { { { { c with kd := 3 } with dv := v1 } with ix := v3 } with kd := 2 } with pm := pm } = y := ⟨_, rfl⟩
  obtain ⟨x7, hx7⟩ : ∃ y, wordP s s_class x6 = y := ⟨_, rfl⟩
  obtain ⟨er, her⟩ : ∃ y, x7.e = y := ⟨_, rfl⟩
  obtain ⟨bb, hbb⟩ : ∃ y, isW x7 s_any = y := ⟨_, rfl⟩
  obtain ⟨v8, hv8⟩ : ∃ y, bndV 2 15 x7 = y := ⟨_, rfl⟩
  obtain ⟨x8, hx8⟩ : ∃ y, bndP s 2 15 x7 = y := ⟨_, rfl⟩
  obtain ⟨x9, hx9⟩ : ∃ y, advP s x7 = y := ⟨_, rfl⟩
  have HF : Hid (aclX s x c = if b = true then (if er = 0 ∧ bb = true then (x9, { c2 with cl := 16 }) else (x8, { c2 with cl := v8 })) else (x4, { { { c with kd := 3 } with dv := v1 } with ix := v3 })) := by show _ = _; unfold aclX; simp only [hb, hx1, hv1, hx2, hx3, hv3, hx4, hpm, hx5, hx6, hc2, hx7, her, hbb, hv8, hx8, hx9]
  clear hp0 hc0
  have H_b := hide hb
  have H_x1 := hide hx1
  have H_v1 := hide hv1
  have H_x2 := hide hx2
  have H_x3 := hide hx3
  have H_v3 := hide hv3
  have H_x4 := hide hx4
  have H_pm := hide hpm
  have H_x5 := hide hx5
  have H_x6 := hide hx6
  have H_c2 := hide hc2
  have H_x7 := hide hx7
  have H_er := hide her
  have H_bb := hide hbb
  have H_v8 := hide hv8
  have H_x8 := hide hx8
  have H_x9 := hide hx9
  clear hb hx1 hv1 hx2 hx3 hv3 hx4 hpm hx5 hx6 hc2 hx7 her hbb hv8 hx8 hx9
  go_enter Try.func55, Try.ntmps55
  go_wp2_with fail
  refine (either_is HM.out.pi H_b.out H_x1.out).mono ?_
  rintro e w1 ⟨rfl, hr, hex⟩
  replace HM := hide (HM.out.step hr hex)
  clear hr hex
  have d0 := HM.out.cs.c0
  have fr := HM.out.cs.fr
  go_upto_region 2 with fail
  replace HM := hide (HM.out.put0 3)
  clear d0 fr
  generalize w1.setCell ⟨q, 0, none⟩ (.int .i64 3) = w2 at *
  go_wp2_with fail
  refine (device_is HM.out.pi H_v1.out H_x2.out).mono ?_
  rintro e w3 ⟨rfl, hr, hex⟩
  replace HM := hide (HM.out.step hr hex)
  clear hr hex
  have d1 := HM.out.cs.c1
  have fr := HM.out.cs.fr
  go_upto_region 3 with fail
  replace HM := hide (HM.out.put1 v1)
  clear d1 fr
  generalize w3.setCell ⟨q, 1, none⟩ (.int .i64 v1) = w4 at *
  go_wp2_with fail
  refine (word_is HM.out.pi H_x3.out).mono ?_
  rintro e w5 ⟨rfl, hr, hex⟩
  replace HM := hide (HM.out.step hr hex)
  clear hr hex
  go_wp2_with fail
  refine (bounded_is HM.out.pi H_v3.out H_x4.out).mono ?_
  rintro e w6 ⟨rfl, hr, hex⟩
  replace HM := hide (HM.out.step hr hex)
  clear hr hex
  have d5 := HM.out.cs.c5
  have fr := HM.out.cs.fr
  go_upto_region 5 with fail
  replace HM := hide (HM.out.put5 v3)
  clear d5 fr
  generalize w6.setCell ⟨q, 5, none⟩ (.int .i64 v3) = w7 at *
  cases b
  · rw [if_neg (by decide)] at HF
    go_wp2
    exact bodyPost_ret (v := .tuple #[]) (by simp [results, Try.results55, go_sem]) rfl ⟨rfl, by rw [HF.out]; exact HM.out⟩
  · rw [if_pos rfl] at HF
    have d0 := HM.out.cs.c0
    have fr := HM.out.cs.fr
    go_upto_region 7 with fail
    replace HM := hide (HM.out.put0 2)
    clear d0 fr
    generalize w7.setCell ⟨q, 0, none⟩ (.int .i64 2) = w8 at *
    go_wp2_with fail
    refine (either_is HM.out.pi H_pm.out H_x5.out).mono ?_
    rintro e w9 ⟨rfl, hr, hex⟩
    replace HM := hide (HM.out.step hr hex)
    clear hr hex
    have d7 := HM.out.cs.c7
    have fr := HM.out.cs.fr
    go_upto_region 8 with fail
    replace HM := hide (HM.out.put7 pm)
    clear d7 fr
    generalize w9.setCell ⟨q, 7, none⟩ (.bool pm) = w10 at *
    go_wp2_with fail
    refine (prefix_is HM.out.pi HM.out.cs hpq haq H_x6.out H_c2.out).mono ?_
    rintro e w11 ⟨rfl, hr⟩
    replace HM := hide (HM.out.thn hr)
    clear hr
    go_wp2_with fail
    refine (word_is HM.out.pi H_x7.out).mono ?_
    rintro e w12 ⟨rfl, hr, hex⟩
    replace HM := hide (HM.out.step hr hex)
    clear hr hex
    have c6 := HM.out.pi.c6
    rw [H_er.out] at c6
    by_cases hz : er = 0
    · have hzb : (er == 0) = true := by simp [hz]
      go_wp2_with fail
      refine (isWord_is HM.out.pi H_bb.out).mono ?_
      rintro e w13 ⟨rfl, rfl⟩
      cases bb
      · rw [if_neg (fun h => by cases h.2)] at HF
        go_wp2_with fail
        refine (bounded_is HM.out.pi H_v8.out H_x8.out).mono ?_
        rintro e w13 ⟨rfl, hr, hex⟩
        replace HM := hide (HM.out.step hr hex)
        clear hr hex c6
        have d6 := HM.out.cs.c6
        have fr := HM.out.cs.fr
        replace HM := hide (HM.out.put6 v8)
        go_wp2
        exact bodyPost_ret (v := .tuple #[]) (by simp [results, Try.results55, go_sem]) rfl ⟨rfl, by rw [HF.out]; exact HM.out⟩
      · rw [if_pos ⟨hz, rfl⟩] at HF
        clear hzb hz c6
        have d6 := HM.out.cs.c6
        have fr := HM.out.cs.fr
        go_upto_region 12 with fail
        replace HM := hide (HM.out.put6 16)
        clear d6 fr
        generalize w12.setCell ⟨q, 6, none⟩ (.int .i64 16) = w14 at *
        go_wp2_with fail
        refine (advance_is HM.out.pi H_x9.out).mono ?_
        rintro e w15 ⟨rfl, hr, hex⟩
        replace HM := hide (HM.out.step hr hex)
        clear hr hex
        go_wp2
        exact bodyPost_ret (v := .tuple #[]) (by simp [results, Try.results55, go_sem]) rfl ⟨rfl, by rw [HF.out]; exact HM.out⟩
    · have hzb : (er == 0) = false := by simp [hz]
      rw [if_neg (fun h => hz h.1)] at HF
      go_wp2_with fail
      refine (bounded_is HM.out.pi H_v8.out H_x8.out).mono ?_
      rintro e w13 ⟨rfl, hr, hex⟩
      replace HM := hide (HM.out.step hr hex)
      clear hr hex c6
      have d6 := HM.out.cs.c6
      have fr := HM.out.cs.fr
      replace HM := hide (HM.out.put6 v8)
      go_wp2
      exact bodyPost_ret (v := .tuple #[]) (by simp [results, Try.results55, go_sem]) rfl ⟨rfl, by rw [HF.out]; exact HM.out⟩
set_option maxRecDepth 100000 in
set_option maxHeartbeats 4000000 in
theorem link_any (w : World) (p q : Nat) (a : Option Addr) (cp : Nat) (s : List Int) (x : PSt) (c : Chg) (hp0 : PX w p a cp s x) (hc0 : CS w q c) (hpq : p < q) (haq : ∀ (i : Nat) y, s[i]? = some y → ∀ b off, a = some ⟨b, off, none⟩ → b ≠ q) :
    Calls Try.prog 56 #[.pointer (some ⟨p, 0, none⟩), .pointer (some ⟨q, 0, none⟩)] w (MPost w p q a cp s ((linkX s x c).1) ((linkX s x c).2)) := by
  have HM := hide (mc0 hp0 hc0 hpq haq)
  obtain ⟨v1, hv1⟩ : ∃ y, bndV 3 15 x = y := ⟨_, rfl⟩
  obtain ⟨x1, hx1⟩ : ∃ y, bndP s 3 15 x = y := ⟨_, rfl⟩
  obtain ⟨tq, htq⟩ : ∃ y, x1.t.q = y := ⟨_, rfl⟩
  obtain ⟨v2, hv2⟩ : ∃ y, bndV 3 15 x1 = y := ⟨_, rfl⟩
  obtain ⟨x2, hx2⟩ : ∃ y, bndP s 3 15 x1 = y := ⟨_, rfl⟩
  obtain ⟨er, her⟩ : ∃ y, x2.e = y := ⟨_, rfl⟩
  obtain ⟨x3, hx3⟩ : ∃ y, (if er = 0 then (if v2 ≤ v1 then failP x2 3 tq else x2) else x2) = y := ⟨_, rfl⟩
  obtain ⟨u, hu⟩ : ∃ y, eitB x3 s_up = y := ⟨_, rfl⟩
  obtain ⟨x4, hx4⟩ : ∃ y, eitP s s_up s_down x3 = y := ⟨_, rfl⟩
  have HF : Hid (linkX s x c = (x4, { { { { c with kd := 4 } with dv := v1 } with hp := v2 } with up := u })) := by show _ = _; unfold linkX; simp only [hv1, hx1, htq, hv2, hx2, her, hx3, hu, hx4]
  clear hp0 hc0
  have H_v1 := hide hv1
  have H_x1 := hide hx1
  have H_tq := hide htq
  have H_v2 := hide hv2
  have H_x2 := hide hx2
  have H_er := hide her
  have H_x3 := hide hx3
  have H_u := hide hu
  have H_x4 := hide hx4
  clear hv1 hx1 htq hv2 hx2 her hx3 hu hx4
  go_enter Try.func56, Try.ntmps56
  have d0 := HM.out.cs.c0
  have fr := HM.out.cs.fr
  go_upto_region 1 with fail
  replace HM := hide (HM.out.put0 4)
  clear d0 fr
  generalize w.setCell ⟨q, 0, none⟩ (.int .i64 4) = w1 at *
  go_wp2_with fail
  refine (device_is HM.out.pi H_v1.out H_x1.out).mono ?_
  rintro e w2 ⟨rfl, hr, hex⟩
  replace HM := hide (HM.out.step hr hex)
  clear hr hex
  have d1 := HM.out.cs.c1
  have fr := HM.out.cs.fr
  go_upto_region 2 with fail
  replace HM := hide (HM.out.put1 v1)
  clear d1 fr
  generalize w2.setCell ⟨q, 1, none⟩ (.int .i64 v1) = w3 at *
  have c3 := HM.out.pi.c3
  rw [H_tq.out] at c3
  go_upto_region 3 with fail
  clear c3
  go_wp2_with fail
  refine (device_is HM.out.pi H_v2.out H_x2.out).mono ?_
  rintro e w4 ⟨rfl, hr, hex⟩
  replace HM := hide (HM.out.step hr hex)
  clear hr hex
  have d2 := HM.out.cs.c2
  have fr := HM.out.cs.fr
  go_upto_region 4 with fail
  replace HM := hide (HM.out.put2 v2)
  clear d2 fr
  generalize w4.setCell ⟨q, 2, none⟩ (.int .i64 v2) = w5 at *
  have c6 := HM.out.pi.c6
  rw [H_er.out] at c6
  have d1 := HM.out.cs.c1
  have d2 := HM.out.cs.c2
  simp only [] at d1 d2
  by_cases hz : er = 0
  · subst hz
    rw [if_pos rfl] at H_x3
    by_cases hge : v2 ≤ v1
    · rw [if_pos hge] at H_x3
      have hgb : decide (v2 ≤ v1) = true := decide_eq_true hge
      go_quiet (fail)
      replace HM := hide (HM.out.drewN nq)
      go_wp2_with fail
      refine (fail_is HM.out.pi H_x3.out).mono ?_
      rintro e w6 ⟨rfl, hr, hex⟩
      replace HM := hide (HM.out.step hr hex)
      clear hr hex c6 d1 d2 hge hgb
      go_wp2_with fail
      refine (either_is HM.out.pi H_u.out H_x4.out).mono ?_
      rintro e w8 ⟨rfl, hr, hex⟩
      replace HM := hide (HM.out.step hr hex)
      clear hr hex
      have d8 := HM.out.cs.c8
      have fr := HM.out.cs.fr
      replace HM := hide (HM.out.put8 u)
      go_wp2
      go_end0
      exact ⟨rfl, by rw [HF.out]; exact HM.out⟩
    · rw [if_neg hge] at H_x3
      have hgb : decide (v2 ≤ v1) = false := decide_eq_false hge
      go_quiet (fail)
      replace HM := hide (HM.out.drewN nq)
      rw [H_x3.out] at HM
      clear c6 d1 d2 hge hgb
      go_wp2_with fail
      refine (either_is HM.out.pi H_u.out H_x4.out).mono ?_
      rintro e w8 ⟨rfl, hr, hex⟩
      replace HM := hide (HM.out.step hr hex)
      clear hr hex
      have d8 := HM.out.cs.c8
      have fr := HM.out.cs.fr
      replace HM := hide (HM.out.put8 u)
      go_wp2
      go_end0
      exact ⟨rfl, by rw [HF.out]; exact HM.out⟩
  · have hzb : (er == 0) = false := by simp [hz]
    rw [if_neg hz] at H_x3
    go_quiet (fail)
    replace HM := hide (HM.out.drewN nq)
    rw [H_x3.out] at HM
    clear c6 d1 d2
    go_wp2_with fail
    refine (either_is HM.out.pi H_u.out H_x4.out).mono ?_
    rintro e w8 ⟨rfl, hr, hex⟩
    replace HM := hide (HM.out.step hr hex)
    clear hr hex
    have d8 := HM.out.cs.c8
    have fr := HM.out.cs.fr
    replace HM := hide (HM.out.put8 u)
    go_wp2
    go_end0
    exact ⟨rfl, by rw [HF.out]; exact HM.out⟩
end Go.Proofs.Qxb6500778a
