import Derived.Test.Qxb6500773aGreatOa
namespace Go.Proofs.Qxb6500773aGreat
open Go.RowKit

/-! ### A step of the model's bench at work -/
def Xq (X : Nat → Prop) (q t o : Nat) (k : Nat) : Prop := X k ∨ k = q ∨ k = t ∨ k = o
structure MW (w0 w : World) (R : Nat → Prop) (B m q t o : Nat) (X : Nat → Prop) (V : Nat → Value) (S : Nat → Nat → Prop) (s : Mst) (v : OpV) (b : Ob) (tv : Value) : Prop where
  mn : MN w B m (Xq X q t o) V S (QM B s) s.nv s.sv
  sc : SC3 w q t o v b tv
  ne : q ≠ t ∧ q ≠ o ∧ t ≠ o ∧ m ≠ q ∧ m ≠ t ∧ m ≠ o
  tx : w.ownsRow w0.heap.size 5 1 tv b.X.length (b.X.map (Value.int .u8))
  tn : ∀ k, tv.ownBlock = some k → k ≠ q ∧ k ≠ t ∧ k ≠ o ∧ k ≠ m ∧ ∀ i, i < 6 → ¬ S i k
  ex : Ex R w0 w
  mR : R m
  sR : ∀ i, i < 6 → ∀ k, S i k → R k ∨ w0.heap.size ≤ k
  hB : B ≤ w0.heap.size
  ge : w0.heap.size ≤ q ∧ w0.heap.size ≤ t ∧ w0.heap.size ≤ o
  lt : q < w.heap.size ∧ t < w.heap.size ∧ o < w.heap.size
  xl : ∀ k, X k → k < w0.heap.size
section
variable {w0 w w' : World} {R : Nat → Prop} {B m q t o : Nat} {X : Nat → Prop} {V : Nat → Value} {S : Nat → Nat → Prop} {s : Mst} {v : OpV} {b : Ob} {tv : Value}
theorem MW.xlt (h : MW w0 w R B m q t o X V S s v b tv) : ∀ k, Xq X q t o k → k < w.heap.size := fun k z => by
  rcases z with z | z | z | z
  · exact Nat.lt_of_lt_of_le (h.xl k z) h.ex.size
  · rw [z]; exact h.lt.1
  · rw [z]; exact h.lt.2.1
  · rw [z]; exact h.lt.2.2
theorem MW.nS (h : MW w0 w R B m q t o X V S s v b tv) : ∀ i, i < 6 → ¬ S i q ∧ ¬ S i t ∧ ¬ S i o := fun i hi => ⟨fun z => h.mn.dx i hi _ z (.inr (.inl rfl)), fun z => h.mn.dx i hi _ z (.inr (.inr (.inl rfl))), fun z => h.mn.dx i hi _ z (.inr (.inr (.inr rfl)))⟩
theorem MW.lowE (h : MW w0 w R B m q t o X V S s v b tv) (e : Ex (fun _ => False) w w') : MW w0 w' R B m q t o X V S s v b tv :=
  ⟨h.mn.keep e, h.sc.keep e (fun z => z) (fun z => z) (fun z => z), h.ne, own_kept h.tx e (fun _ _ z => z), h.tn, h.ex.trans2 e (fun _ z => z.elim), h.mR, h.sR, h.hB, h.ge, ⟨Nat.lt_of_lt_of_le h.lt.1 e.size, Nat.lt_of_lt_of_le h.lt.2.1 e.size, Nat.lt_of_lt_of_le h.lt.2.2 e.size⟩, h.xl⟩
theorem MW.low (h : MW w0 w R B m q t o X V S s v b tv) (e : Below w.heap.size w w') : MW w0 w' R B m q t o X V S s v b tv := h.lowE (Ex.of e)
theorem MW.szB (h : MW w0 w R B m q t o X V S s v b tv) : B ≤ w.heap.size := Nat.le_trans h.hB h.ex.size
/-- the observation's cells -/
theorem MW.oset (h : MW w0 w R B m q t o X V S s v b tv) (j : Nat) (u : Value) {b' : Ob} {tv' : Value} (hsc : SC3 (w.setCell ⟨o, j, none⟩ u) q t o v b' tv') (hX : b'.X = b.X) (htv : tv' = tv) : MW w0 (w.setCell ⟨o, j, none⟩ u) R B m q t o X V S s v b' tv' := by
  have e : Ex (fun k => k = o) w (w.setCell ⟨o, j, none⟩ u) := (Ex.refl (fun k => k = o) w).set (p := o) rfl _
  subst htv
  have hex : Ex R w0 (w.setCell ⟨o, j, none⟩ u) := h.ex.setNew (p := o) h.ge.2.2 u
  refine ⟨h.mn.ext e (fun g z => .inl (.inr (.inr (.inr z)))) (fun g z => .inl z), hsc, h.ne, by rw [hX]; exact own_kept h.tx e (fun k hk z => (h.tn k hk).2.2.1 z), h.tn, hex, h.mR, h.sR, h.hB, h.ge, ?_, h.xl⟩
  have := h.lt
  simpa using this
theorem MW.er (h : MW w0 w R B m q t o X V S s v b tv) (x : Int) : MW w0 (w.setCell ⟨o, 0, none⟩ (.int .i64 x)) R B m q t o X V S s v { b with er := x } tv := by
  have c := h.sc
  have n := h.ne
  exact h.oset 0 _ ⟨set_oth c.q0 (.inl n.2.1), set_oth c.q1 (.inl n.2.1), set_oth c.q2 (.inl n.2.1), set_oth c.q3 (.inl n.2.1), set_oth c.t0 (.inl n.2.2.1), set_oth c.t1 (.inl n.2.2.1), set_oth c.t2 (.inl n.2.2.1), set_oth c.t3 (.inl n.2.2.1), set_oth c.t4 (.inl n.2.2.1), set_oth c.t5 (.inl n.2.2.1), fun j => by rw [set_frozen]; exact c.tf j, World.cell?_setCell_same _ _ _ c.o0, set_oth c.o1 (.inr (by decide)), set_oth c.o2 (.inr (by decide)), set_oth c.o3 (.inr (by decide)), set_oth c.o4 (.inr (by decide)), set_oth c.o5 (.inr (by decide)), fun j => by rw [set_frozen]; exact c.of j⟩ rfl rfl
theorem MW.on (h : MW w0 w R B m q t o X V S s v b tv) (x : Int) : MW w0 (w.setCell ⟨o, 3, none⟩ (.int .i64 x)) R B m q t o X V S s v { b with n := x } tv := by
  have c := h.sc
  have n := h.ne
  exact h.oset 3 _ ⟨set_oth c.q0 (.inl n.2.1), set_oth c.q1 (.inl n.2.1), set_oth c.q2 (.inl n.2.1), set_oth c.q3 (.inl n.2.1), set_oth c.t0 (.inl n.2.2.1), set_oth c.t1 (.inl n.2.2.1), set_oth c.t2 (.inl n.2.2.1), set_oth c.t3 (.inl n.2.2.1), set_oth c.t4 (.inl n.2.2.1), set_oth c.t5 (.inl n.2.2.1), fun j => by rw [set_frozen]; exact c.tf j, set_oth c.o0 (.inr (by decide)), set_oth c.o1 (.inr (by decide)), set_oth c.o2 (.inr (by decide)), World.cell?_setCell_same _ _ _ c.o3, set_oth c.o4 (.inr (by decide)), set_oth c.o5 (.inr (by decide)), fun j => by rw [set_frozen]; exact c.of j⟩ rfl rfl
theorem MW.om (h : MW w0 w R B m q t o X V S s v b tv) (x : Int) : MW w0 (w.setCell ⟨o, 4, none⟩ (.int .i64 x)) R B m q t o X V S s v { b with m := x } tv := by
  have c := h.sc
  have n := h.ne
  exact h.oset 4 _ ⟨set_oth c.q0 (.inl n.2.1), set_oth c.q1 (.inl n.2.1), set_oth c.q2 (.inl n.2.1), set_oth c.q3 (.inl n.2.1), set_oth c.t0 (.inl n.2.2.1), set_oth c.t1 (.inl n.2.2.1), set_oth c.t2 (.inl n.2.2.1), set_oth c.t3 (.inl n.2.2.1), set_oth c.t4 (.inl n.2.2.1), set_oth c.t5 (.inl n.2.2.1), fun j => by rw [set_frozen]; exact c.tf j, set_oth c.o0 (.inr (by decide)), set_oth c.o1 (.inr (by decide)), set_oth c.o2 (.inr (by decide)), set_oth c.o3 (.inr (by decide)), World.cell?_setCell_same _ _ _ c.o4, set_oth c.o5 (.inr (by decide)), fun j => by rw [set_frozen]; exact c.of j⟩ rfl rfl
theorem MW.fa (h : MW w0 w R B m q t o X V S s v b tv) (x y z : Int) : MW w0 (((w.setCell ⟨o, 0, none⟩ (.int .i64 x)).setCell ⟨o, 1, none⟩ (.int .i64 y)).setCell ⟨o, 2, none⟩ (.int .i64 z)) R B m q t o X V S s v { b with er := x, ln := y, col := z } tv := by
  have h1 := h.er x
  have c := h1.sc
  have n := h.ne
  have h2 := h1.oset (b' := { b with er := x, ln := y }) (tv' := tv) 1 (.int .i64 y) ⟨set_oth c.q0 (.inl n.2.1), set_oth c.q1 (.inl n.2.1), set_oth c.q2 (.inl n.2.1), set_oth c.q3 (.inl n.2.1), set_oth c.t0 (.inl n.2.2.1), set_oth c.t1 (.inl n.2.2.1), set_oth c.t2 (.inl n.2.2.1), set_oth c.t3 (.inl n.2.2.1), set_oth c.t4 (.inl n.2.2.1), set_oth c.t5 (.inl n.2.2.1), fun j => by rw [set_frozen]; exact c.tf j, set_oth c.o0 (.inr (by decide)), World.cell?_setCell_same _ _ _ c.o1, set_oth c.o2 (.inr (by decide)), set_oth c.o3 (.inr (by decide)), set_oth c.o4 (.inr (by decide)), set_oth c.o5 (.inr (by decide)), fun j => by rw [set_frozen]; exact c.of j⟩ rfl rfl
  have c := h2.sc
  exact h2.oset 2 _ ⟨set_oth c.q0 (.inl n.2.1), set_oth c.q1 (.inl n.2.1), set_oth c.q2 (.inl n.2.1), set_oth c.q3 (.inl n.2.1), set_oth c.t0 (.inl n.2.2.1), set_oth c.t1 (.inl n.2.2.1), set_oth c.t2 (.inl n.2.2.1), set_oth c.t3 (.inl n.2.2.1), set_oth c.t4 (.inl n.2.2.1), set_oth c.t5 (.inl n.2.2.1), fun j => by rw [set_frozen]; exact c.tf j, set_oth c.o0 (.inr (by decide)), set_oth c.o1 (.inr (by decide)), World.cell?_setCell_same _ _ _ c.o2, set_oth c.o3 (.inr (by decide)), set_oth c.o4 (.inr (by decide)), set_oth c.o5 (.inr (by decide)), fun j => by rw [set_frozen]; exact c.of j⟩ rfl rfl
/-- the text, a new row -/
theorem MW.otx (h : MW w0 w R B m q t o X V S s v b tv) {tv' : Value} {Y : List Int} (hr : w.ownsRow w0.heap.size 5 1 tv' Y.length (Y.map (Value.int .u8))) (hn : ∀ k, tv'.ownBlock = some k → k ≠ q ∧ k ≠ t ∧ k ≠ o ∧ k ≠ m ∧ ∀ i, i < 6 → ¬ S i k) : MW w0 (w.setCell ⟨o, 5, none⟩ tv') R B m q t o X V S s v { b with X := Y } tv' := by
  have c := h.sc
  have n := h.ne
  have e : Ex (fun k => k = o) w (w.setCell ⟨o, 5, none⟩ tv') := (Ex.refl (fun k => k = o) w).set (p := o) rfl _
  have hex : Ex R w0 (w.setCell ⟨o, 5, none⟩ tv') := h.ex.setNew (p := o) h.ge.2.2 tv'
  refine ⟨h.mn.ext e (fun g z => .inl (.inr (.inr (.inr z)))) (fun g z => .inl z), ⟨set_oth c.q0 (.inl n.2.1), set_oth c.q1 (.inl n.2.1), set_oth c.q2 (.inl n.2.1), set_oth c.q3 (.inl n.2.1), set_oth c.t0 (.inl n.2.2.1), set_oth c.t1 (.inl n.2.2.1), set_oth c.t2 (.inl n.2.2.1), set_oth c.t3 (.inl n.2.2.1), set_oth c.t4 (.inl n.2.2.1), set_oth c.t5 (.inl n.2.2.1), fun j => by rw [set_frozen]; exact c.tf j, set_oth c.o0 (.inr (by decide)), set_oth c.o1 (.inr (by decide)), set_oth c.o2 (.inr (by decide)), set_oth c.o3 (.inr (by decide)), set_oth c.o4 (.inr (by decide)), World.cell?_setCell_same _ _ _ c.o5, fun j => by rw [set_frozen]; exact c.of j⟩, h.ne, own_kept hr e (fun k hk z => (hn k hk).2.2.1 z), hn, hex, h.mR, h.sR, h.hB, h.ge, ?_, h.xl⟩
  have := h.lt
  simpa using this
/-- a text made by a call in the world w -/
theorem MW.tx2 (h : MW w0 w R B m q t o X V S s v b tv) (h' : MW w0 w' R B m q t o X V S s v b tv) {tv' : Value} {Y : List Int} (hr : w'.ownsRow w.heap.size 5 1 tv' Y.length (Y.map (Value.int .u8))) : MW w0 (w'.setCell ⟨o, 5, none⟩ tv') R B m q t o X V S s v { b with X := Y } tv' :=
  h'.otx (hr.mono h.ex.size) (fun k hk => by
    have h1 := (hr.lt k hk).1
    have h2 := h.lt
    have h3 := h.mn.lt
    exact ⟨by omega, by omega, by omega, by omega, fun i hi z => by have := (h.mn.rg i hi k z).2; omega⟩)
/-- an object turns or is replaced, and its cell is written -/
theorem MW.put (h : MW w0 w R B m q t o X V S s v b tv) {i : Nat} (hi : i < 6) (e : Ex (S i) w w') {q' : MQ} {v' : Value} {S' : Nat → Prop} (hq : q' w' (DN B (Xq X q t o) m (up S i S')) v' S') (hf : FrQ q') (hs : ∀ k, S' k → S i k ∨ w.heap.size ≤ k) (hl : ∀ k, S' k → B ≤ k ∧ k < w'.heap.size) {s' : Mst} (hq' : ∀ j, j < 6 → up (QM B s) i q' j = QM B s' j) (hnv : s'.nv = s.nv ∧ s'.sv = s.sv) : MW w0 (w'.setCell ⟨m, cn i, none⟩ v') R B m q t o X (up V i v') (up S i S') s' v b tv := by
  have e2 : Ex (fun k => k = m) w' (w'.setCell ⟨m, cn i, none⟩ v') := (Ex.refl (fun k => k = m) w').set (p := m) rfl _
  have hn := h.nS i hi
  have h1 := h.mn.put hi e hq hf hs hl h.xlt
  refine ⟨by rw [hnv.1, hnv.2]; exact h1.re hq', (h.sc.keep e hn.1 hn.2.1 hn.2.2).keep e2 (fun z => h.ne.2.2.2.1 z.symm) (fun z => h.ne.2.2.2.2.1 z.symm) (fun z => h.ne.2.2.2.2.2 z.symm), h.ne, own_kept (own_kept h.tx e (fun k hk z => (h.tn k hk).2.2.2.2 i hi z)) e2 (fun k hk z => (h.tn k hk).2.2.2.1 z), fun k hk => ⟨(h.tn k hk).1, (h.tn k hk).2.1, (h.tn k hk).2.2.1, (h.tn k hk).2.2.2.1, fun j hj z => ?_⟩, (h.ex.trans2 e (fun j z => h.sR i hi j z)).trans2 e2 (fun j z => .inl (by rw [show j = m from z]; exact h.mR)), h.mR, fun j hj k hk => ?_, h.hB, h.ge, ?_, h.xl⟩
  · by_cases y : j = i
    · subst y
      rw [up_at] at z
      rcases hs k z with x | x
      · exact (h.tn k hk).2.2.2.2 j hj x
      · have := (h.tx.lt k hk).2; omega
    · rw [up_ne _ _ y] at z
      exact (h.tn k hk).2.2.2.2 j hj z
  · by_cases y : j = i
    · subst y
      rw [up_at] at hk
      rcases hs k hk with x | x
      · exact h.sR j hj k x
      · exact .inr (Nat.le_trans h.ex.size x)
    · rw [up_ne _ _ y] at hk
      exact h.sR j hj k hk
  · have h2 := h.lt
    have h3 := e.size
    have hsz : (w'.setCell ⟨m, cn i, none⟩ v').heap.size = w'.heap.size := by simp
    rw [hsz]
    omega
theorem MW.num0 (h : MW w0 w R B m q t o X V S s v b tv) (x : Int) : MW w0 (w.setCell ⟨m, 0, none⟩ (.int .i64 x)) R B m q t o X V S { s with nv := x } v b tv := by
  have e2 : Ex (fun k => k = m) w (w.setCell ⟨m, 0, none⟩ (.int .i64 x)) := (Ex.refl (fun k => k = m) w).set (p := m) rfl _
  refine ⟨h.mn.num0 x, h.sc.keep e2 (fun z => h.ne.2.2.2.1 z.symm) (fun z => h.ne.2.2.2.2.1 z.symm) (fun z => h.ne.2.2.2.2.2 z.symm), h.ne, own_kept h.tx e2 (fun k hk z => (h.tn k hk).2.2.2.1 z), h.tn, h.ex.trans2 e2 (fun j z => .inl (by rw [show j = m from z]; exact h.mR)), h.mR, h.sR, h.hB, h.ge, ?_, h.xl⟩
  have := h.lt
  simpa using this
theorem MW.num4 (h : MW w0 w R B m q t o X V S s v b tv) (x : Int) : MW w0 (w.setCell ⟨m, 4, none⟩ (.int .i64 x)) R B m q t o X V S { s with sv := x } v b tv := by
  have e2 : Ex (fun k => k = m) w (w.setCell ⟨m, 4, none⟩ (.int .i64 x)) := (Ex.refl (fun k => k = m) w).set (p := m) rfl _
  refine ⟨h.mn.num4 x, h.sc.keep e2 (fun z => h.ne.2.2.2.1 z.symm) (fun z => h.ne.2.2.2.2.1 z.symm) (fun z => h.ne.2.2.2.2.2 z.symm), h.ne, own_kept h.tx e2 (fun k hk z => (h.tn k hk).2.2.2.1 z), h.tn, h.ex.trans2 e2 (fun j z => .inl (by rw [show j = m from z]; exact h.mR)), h.mR, h.sR, h.hB, h.ge, ?_, h.xl⟩
  have := h.lt
  simpa using this
theorem MW.f (h : MW w0 w R B m q t o X V S s v b tv) : ∃ a c, V 0 = .slice a s.F.length c ∧ FL w a s.F ∧ s.F.length ≤ c ∧ c ≤ maxLen := FMq.fl (h.mn.ob 0 (by decide))
theorem MW.p (h : MW w0 w R B m q t o X V S s v b tv) : ∃ a c, V 1 = .slice a s.P.length c ∧ SL w a s.P ∧ s.P.length ≤ c ∧ c ≤ maxLen := PMq.sl (h.mn.ob 1 (by decide))
theorem MW.sf (h : MW w0 w R B m q t o X V S s v b tv) : ∃ a c, V 2 = .slice a s.SF.length c ∧ FL w a s.SF ∧ s.SF.length ≤ c ∧ c ≤ maxLen := FMq.fl (h.mn.ob 2 (by decide))
theorem MW.sp (h : MW w0 w R B m q t o X V S s v b tv) : ∃ a c, V 3 = .slice a s.SP.length c ∧ SL w a s.SP ∧ s.SP.length ≤ c ∧ c ≤ maxLen := PMq.sl (h.mn.ob 3 (by decide))
theorem MW.a (h : MW w0 w R B m q t o X V S s v b tv) : ∃ a c, V 4 = .slice a s.A.length c ∧ IL w a s.A ∧ s.A.length ≤ c ∧ c ≤ maxLen := AMq.il (h.mn.ob 4 (by decide))
theorem MW.sa (h : MW w0 w R B m q t o X V S s v b tv) : ∃ a c, V 5 = .slice a s.SA.length c ∧ IL w a s.SA ∧ s.SA.length ≤ c ∧ c ≤ maxLen := AMq.il (h.mn.ob 5 (by decide))
end
theorem qm_F (B : Nat) (s : Mst) (F : List (List Int)) : ∀ j, j < 6 → up (QM B s) 0 (FMq B F) j = QM B { s with F := F } j := six rfl rfl rfl rfl rfl rfl
theorem qm_P (B : Nat) (s : Mst) (F : List (Bool × List Int)) : ∀ j, j < 6 → up (QM B s) 1 (PMq B F) j = QM B { s with P := F } j := six rfl rfl rfl rfl rfl rfl
theorem qm_SF (B : Nat) (s : Mst) (F : List (List Int)) : ∀ j, j < 6 → up (QM B s) 2 (FMq B F) j = QM B { s with SF := F } j := six rfl rfl rfl rfl rfl rfl
theorem qm_SP (B : Nat) (s : Mst) (F : List (Bool × List Int)) : ∀ j, j < 6 → up (QM B s) 3 (PMq B F) j = QM B { s with SP := F } j := six rfl rfl rfl rfl rfl rfl
theorem qm_A (B : Nat) (s : Mst) (A : List Int) : ∀ j, j < 6 → up (QM B s) 4 (AMq A) j = QM B { s with A := A } j := six rfl rfl rfl rfl rfl rfl
theorem qm_SA (B : Nat) (s : Mst) (A : List Int) : ∀ j, j < 6 → up (QM B s) 5 (AMq A) j = QM B { s with SA := A } j := six rfl rfl rfl rfl rfl rfl
section
variable {w0 w w' : World} {R : Nat → Prop} {B m q t o : Nat} {X : Nat → Prop} {V : Nat → Value} {S : Nat → Nat → Prop} {s : Mst} {v : OpV} {b : Ob} {tv : Value}
theorem MW.dlt (h : MW w0 w R B m q t o X V S s v b tv) {i : Nat} {S' : Nat → Prop} : ∀ g, DN B (Xq X q t o) m (up S i S') g → S' g ∨ g < w.heap.size := fun g z => by
  rcases z with z | z | z | ⟨j, hj, z⟩
  · exact .inr (Nat.lt_of_lt_of_le z h.szB)
  · exact .inr (h.xlt g z)
  · exact .inr (by rw [z]; exact h.mn.lt)
  · by_cases y : j = i
    · subst y; rw [up_at] at z; exact .inl z
    · rw [up_ne _ _ y] at z; exact .inr (h.mn.rg j hj g z).2
/-- a new list takes the place 4 or 5 -/
theorem MW.newA (h : MW w0 w R B m q t o X V S s v b tv) {A : List Int} {e : Ending} (hp : MlPost w A e w') : ∃ a c V' S', e = .returned (.slice a A.length c) ∧ MW w0 (w'.setCell ⟨m, 2, none⟩ (.slice a A.length c)) R B m q t o X V' S' { s with A := A } v b tv := by
  obtain ⟨a, c, he, hr, hx⟩ := hp
  exact ⟨a, c, _, _, he, h.put (i := 4) (by decide) (hx.mono (fun _ z => z.elim)) (S' := fun _ => False) (row_am hr (fun g z => (h.dlt g z).elim (fun z => z.elim) (fun z => .inl z))) (fr_A A) (fun _ z => z.elim) (fun _ z => z.elim) (qm_A B s A) ⟨rfl, rfl⟩⟩
theorem MW.newSA (h : MW w0 w R B m q t o X V S s v b tv) {A : List Int} {e : Ending} (hp : MlPost w A e w') : ∃ a c V' S', e = .returned (.slice a A.length c) ∧ MW w0 (w'.setCell ⟨m, 6, none⟩ (.slice a A.length c)) R B m q t o X V' S' { s with SA := A } v b tv := by
  obtain ⟨a, c, he, hr, hx⟩ := hp
  exact ⟨a, c, _, _, he, h.put (i := 5) (by decide) (hx.mono (fun _ z => z.elim)) (S' := fun _ => False) (row_am hr (fun g z => (h.dlt g z).elim (fun z => z.elim) (fun z => .inl z))) (fr_A A) (fun _ z => z.elim) (fun _ z => z.elim) (qm_SA B s A) ⟨rfl, rfl⟩⟩
theorem MW.nilA (h : MW w0 w R B m q t o X V S s v b tv) : ∃ V' S', MW w0 (w.setCell ⟨m, 2, none⟩ (.slice none 0 0)) R B m q t o X V' S' { s with A := [] } v b tv :=
  ⟨_, _, h.put (i := 4) (by decide) (Ex.refl _ _) (S' := fun _ => False) (nil_am _ _) (fr_A []) (fun _ z => z.elim) (fun _ z => z.elim) (qm_A B s []) ⟨rfl, rfl⟩⟩
theorem lp_zone {w : World} {k : IntKind} {α : Type} {enc : α → Value → List Value} {txt : α → List Int} {s T n : Nat} {F : List α} {v : Value} (h : LP k enc txt s T w.heap.size w' F v n) : ∀ g, v.ownBlock = some g → w.heap.size ≤ g ∧ g < w'.heap.size := fun g z => by
  obtain ⟨V, h1, _⟩ := h.ro
  exact h1.lt g z
theorem MW.newF (h : MW w0 w R B m q t o X V S s v b tv) {F : List (List Int)} {vf : Value} {n : Nat} (hp : LP .i64 e1 t1 1 30 w.heap.size w' F vf n) (hx : Ex (fun _ => False) w w') : ∃ V' S', MW w0 (w'.setCell ⟨m, 1, none⟩ vf) R B m q t o X V' S' { s with F := F } v b tv :=
  ⟨_, _, h.put (i := 0) (by decide) (hx.mono (fun _ z => z.elim)) (S' := fun k => vf.ownBlock = some k) (lp_fm hp h.szB (fun g z => (h.dlt g z).elim (fun z => .inl z) (fun z => .inr (.inl z)))) (fr_F B F) (fun k hk => .inr (lp_zone hp k hk).1) (fun k hk => ⟨Nat.le_trans h.szB (lp_zone hp k hk).1, (lp_zone hp k hk).2⟩) (qm_F B s F) ⟨rfl, rfl⟩⟩
theorem MW.newSF (h : MW w0 w R B m q t o X V S s v b tv) {F : List (List Int)} {vf : Value} {n : Nat} (hp : LP .i64 e1 t1 1 30 w.heap.size w' F vf n) (hx : Ex (fun _ => False) w w') : ∃ V' S', MW w0 (w'.setCell ⟨m, 5, none⟩ vf) R B m q t o X V' S' { s with SF := F } v b tv :=
  ⟨_, _, h.put (i := 2) (by decide) (hx.mono (fun _ z => z.elim)) (S' := fun k => vf.ownBlock = some k) (lp_fm hp h.szB (fun g z => (h.dlt g z).elim (fun z => .inl z) (fun z => .inr (.inl z)))) (fr_F B F) (fun k hk => .inr (lp_zone hp k hk).1) (fun k hk => ⟨Nat.le_trans h.szB (lp_zone hp k hk).1, (lp_zone hp k hk).2⟩) (qm_SF B s F) ⟨rfl, rfl⟩⟩
theorem MW.nilF (h : MW w0 w R B m q t o X V S s v b tv) : ∃ V' S', MW w0 (w.setCell ⟨m, 1, none⟩ (.slice none 0 0)) R B m q t o X V' S' { s with F := [] } v b tv :=
  ⟨_, _, h.put (i := 0) (by decide) (Ex.refl _ _) (S' := fun _ => False) (nil_fm _ _ _) (fr_F B []) (fun _ z => z.elim) (fun _ z => z.elim) (qm_F B s []) ⟨rfl, rfl⟩⟩
theorem MW.newP (h : MW w0 w R B m q t o X V S s v b tv) {F : List (Bool × List Int)} {vf : Value} {n : Nat} (hp : LP .i64 e2 t2 2 136 w.heap.size w' F vf n) (hx : Ex (fun _ => False) w w') : ∃ V' S', MW w0 (w'.setCell ⟨m, 3, none⟩ vf) R B m q t o X V' S' { s with P := F } v b tv :=
  ⟨_, _, h.put (i := 1) (by decide) (hx.mono (fun _ z => z.elim)) (S' := fun k => vf.ownBlock = some k) (lp_pm hp h.szB (fun g z => (h.dlt g z).elim (fun z => .inl z) (fun z => .inr (.inl z)))) (fr_P B F) (fun k hk => .inr (lp_zone hp k hk).1) (fun k hk => ⟨Nat.le_trans h.szB (lp_zone hp k hk).1, (lp_zone hp k hk).2⟩) (qm_P B s F) ⟨rfl, rfl⟩⟩
theorem MW.newSP (h : MW w0 w R B m q t o X V S s v b tv) {F : List (Bool × List Int)} {vf : Value} {n : Nat} (hp : LP .i64 e2 t2 2 136 w.heap.size w' F vf n) (hx : Ex (fun _ => False) w w') : ∃ V' S', MW w0 (w'.setCell ⟨m, 7, none⟩ vf) R B m q t o X V' S' { s with SP := F } v b tv :=
  ⟨_, _, h.put (i := 3) (by decide) (hx.mono (fun _ z => z.elim)) (S' := fun k => vf.ownBlock = some k) (lp_pm hp h.szB (fun g z => (h.dlt g z).elim (fun z => .inl z) (fun z => .inr (.inl z)))) (fr_P B F) (fun k hk => .inr (lp_zone hp k hk).1) (fun k hk => ⟨Nat.le_trans h.szB (lp_zone hp k hk).1, (lp_zone hp k hk).2⟩) (qm_SP B s F) ⟨rfl, rfl⟩⟩
theorem MW.nilP (h : MW w0 w R B m q t o X V S s v b tv) : ∃ V' S', MW w0 (w.setCell ⟨m, 3, none⟩ (.slice none 0 0)) R B m q t o X V' S' { s with P := [] } v b tv :=
  ⟨_, _, h.put (i := 1) (by decide) (Ex.refl _ _) (S' := fun _ => False) (nil_pm _ _ _) (fr_P B []) (fun _ z => z.elim) (fun _ z => z.elim) (qm_P B s []) ⟨rfl, rfl⟩⟩
end
/-- what a step of the model leaves -/
def MpPost (w0 : World) (R : Nat → Prop) (B m : Nat) (X : Nat → Prop) (s' : Mst) (b : Ob) (e : Ending) (w' : World) : Prop := ∃ tv, e = .returned (obV b tv) ∧ (∃ V' S', MN w' B m X V' S' (QM B s') s'.nv s'.sv ∧ ∀ i, i < 6 → ∀ k, S' i k → R k ∨ w0.heap.size ≤ k) ∧ w'.ownsRow w0.heap.size 5 1 tv b.X.length (b.X.map (Value.int .u8)) ∧ Ex R w0 w'
theorem MW.fin {w0 w : World} {R : Nat → Prop} {B m q t o : Nat} {X : Nat → Prop} {V : Nat → Value} {S : Nat → Nat → Prop} {s : Mst} {v : OpV} {b : Ob} {tv : Value} (h : MW w0 w R B m q t o X V S s v b tv) : MpPost w0 R B m X s b (.returned (obV b tv)) (fin6 w t b tv) := by
  have e : Ex (fun k => k = t) w (fin6 w t b tv) := ((((((Ex.refl (fun k => k = t) w).set (p := t) rfl _).set (p := t) rfl _).set (p := t) rfl _).set (p := t) rfl _).set (p := t) rfl _).set (p := t) rfl _
  exact ⟨tv, rfl, ⟨V, S, h.mn.ext e (fun g z => .inl (.inr (.inr (.inl z)))) (fun g z => .inl (.inl z)), h.sR⟩, own_kept h.tx e (fun k hk z => (h.tn k hk).2.1 z), h.ex.trans2 e (fun j z => .inr (by rw [show j = t from z]; exact h.ge.2.1))⟩
theorem mw_new {w : World} {B m : Nat} {X : Nat → Prop} {V : Nat → Value} {S : Nat → Nat → Prop} {s : Mst} (v : OpV) (h : MN w B m X V S (QM B s) s.nv s.sv) (hB : B ≤ w.heap.size) (hX : ∀ k, X k → k < w.heap.size) : MW w (((w.alloc (.cells #[.int .i64 v.kd, .int .i64 v.a, .slice v.la v.ln v.lc, .slice v.ta v.tn v.tc] 37)).alloc (.cells #[.int .i64 0, .int .i64 0, .int .i64 0, .int .i64 0, .int .i64 0, .slice none 0 0] 43)).alloc (.cells #[.int .i64 0, .int .i64 0, .int .i64 0, .int .i64 0, .int .i64 0, .slice none 0 0] 43)) (fp m S) B m w.heap.size (w.heap.size + 1) (w.heap.size + 1 + 1) X V S s v ob0 (.slice none 0 0) := by
  have e : Ex (fun _ => False) w (((w.alloc (.cells #[.int .i64 v.kd, .int .i64 v.a, .slice v.la v.ln v.lc, .slice v.ta v.tn v.tc] 37)).alloc (.cells #[.int .i64 0, .int .i64 0, .int .i64 0, .int .i64 0, .int .i64 0, .slice none 0 0] 43)).alloc (.cells #[.int .i64 0, .int .i64 0, .int .i64 0, .int .i64 0, .int .i64 0, .slice none 0 0] 43)) := (((Ex.refl _ w).alloc _).alloc _).alloc _
  have hr := h.lt
  refine ⟨h.ext e (fun _ z => z.elim) (fun g z => ?_), ?_, by omega, World.ownsRow_nil _ _ _ _, (fun k hk => by cases hk), e.mono (fun _ z => z.elim), .inl rfl, (fun i hi k hk => .inl (.inr ⟨i, hi, hk⟩)), hB, by omega, by simp; omega, hX⟩
  · rcases z with z | z | z | z
    · exact .inl z
    · exact .inr (by omega)
    · exact .inr (by omega)
    · exact .inr (by omega)
  · constructor <;> simp [go_sem, ob0]
end Go.Proofs.Qxb6500773aGreat
