import Derived.Test.Qxb6500784aBg3
import Derived.Test.Qxb6500784aSb
namespace Go.Proofs.Qxb6500784a
open Go.RowKit

/-! ### The model's step: memory -/
theorem there_cat {w : World} {b o m k : Nat} (h1 : w.there b o m) (h2 : w.there b (o + m) k) : w.there b o (m + k) := fun j hj => by
  by_cases h : j < m
  · exact h1 j h
  · have := h2 (j - m) (by omega)
    rwa [show o + m + (j - m) = o + j by omega] at this
theorem PP.th {w : World} {b : Nat} {P : Pr} {S : List Nat} (h : PP w b P S) : w.there b 0 667 := by
  obtain ⟨f, h, _⟩ := h
  obtain ⟨_, _, _, _, a, _⟩ := h.pa
  obtain ⟨_, _, _, _, c, _⟩ := h.pb
  obtain ⟨_, _, _, _, _, d, _⟩ := h.pc
  obtain ⟨_, _, _, _, _, e, _⟩ := h.pd
  obtain ⟨_, _, _, _, _, f, _⟩ := h.pe
  exact there_cat (m := 662) (k := 5) (there_cat (m := 657) (k := 5) (there_cat (m := 652) (k := 5) (there_cat (m := 326) (k := 326) a.th (by simpa using c.th)) (by simpa using d.th)) (by simpa using e.th)) (by simpa using f.th)
section
variable {w : World} {b : Nat} {S : List Nat} {D : Nat} {x : World} {P' : Pr} {S' : List Nat} {an : An} {vo vr vs : Value} {C : List Nat}
/-- The whole world is written. -/
theorem S1.world (h : S1 w b S D x P' S' an vo vr vs C) {y : World} (ex : Ex (fun j => j = b) x y) {P'' : Pr} {S'' : List Nat} (p1 : PP y b P'' S'') (hS : ∀ k, k ∈ S'' → k ∈ S ∨ w.heap.size ≤ k) (n1 : D + 1 ∉ S'') (n2 : D + 2 ∉ S'') (hC : ∀ k, k ∈ C → k ∉ S'') : S1 w b S D y P'' S'' an vo vr vs C := by
  have sz := h.sz
  have e1 : ¬ (D + 1 = b) := h.n1.2
  have e2 : ¬ (D + 2 = b) := h.n2.2
  refine ⟨range_ex h.r2 sz ex e2, there_ex h.t2 sz ex e2, there_ex h.t1 (by omega) ex e1, h.rl.keep ex (fun j hj e => (h.c j hj).2.2.2.2 e), h.ok, h.mo, ⟨h.k.1.trans2 ex (fun j hj => .inl (.inl hj)), hS⟩, p1, fun j hj => ⟨(h.c j hj).1, hC j hj, (h.c j hj).2.2⟩, ⟨n1, e1⟩, ⟨n2, e2⟩, h.eD, Nat.lt_of_lt_of_le sz ex.size⟩
end
theorem step_loadW {P : Program} {w : World} {ops : Array Oper} {op : Oper} {a : Act} {K : Act → World → Prop} {Q : Exit → Act → World → Prop} {E : Prop} (hg : op.guard = none) (ty : TypeId) (x : Operand) (ho : op.op = .load ty x)
    (b o : Nat) (hx : a.eval x = .pointer (some ⟨b, o, none⟩)) (cs : List Value) (d : TypeDesc) (hr : w.rangeAt b o cs) (hu : P.underlying ty = some d) (hd : d.isRow = true) (hi : (P.info? ty).map (·.size) = some cs.length)
    (h : K (a.put op.dst (.agg cs.toArray)) w) : if Region.wanted op (yielded ops a.tmps) = true then Oper.wp P op a w K Q else E := by
  rw [if_pos (by simp [Region.wanted, hg])]
  have hrun : (execOp a.eval op).run P w = .ok (.value (.agg cs.toArray)) w := by
    unfold execOp
    simp only [ho, hx, Instr.loadAt, Instr.sureAddr, Sem.run_bind, Sem.run_pure, Result.andThen_ok, run_loadVar_mid w b o ty cs d hr hu hd hi]
  unfold Oper.wp
  rw [hrun, Oper.upon_value]
  exact h
/-! ### The next block, field by field -/
theorem PP.glA {w : World} {b : Nat} {P : Pr} {S : List Nat} (h : PP w b P S) {g : Int} (hg : 0 ≤ g ∧ g < 18446744073709551616) : PStep w b S { P with la := { P.la with gl := g } } (w.setCell ⟨b, 323, none⟩ (.int .u64 g)) := by
  obtain ⟨B, hla, up⟩ := h.onA
  have ok := hla.ok
  have a1 := hla.set (j := 323) (.int .u64 g) { P.la with gl := g } (fun m s => Led0.set323 ok m s g) rfl ⟨ok.bl, ok.nl, ok.c, ok.b, ok.n, ok.m, ⟨hg.1, hg.2, ok.g.2.2⟩⟩
  rw [Nat.zero_add] at a1
  have cg := (Cg.refl b 0 326 B w).set (j := 323) (by omega) (.int .u64 g)
  exact (up { P.la with gl := g } P.sa (.tuple #[]) _ _ ⟨rfl, cg, B, a1, fun j hj => .inl hj⟩).2
theorem PP.guA {w : World} {b : Nat} {P : Pr} {S : List Nat} (h : PP w b P S) : PStep w b S { P with la := { P.la with gu := 0 } } (w.setCell ⟨b, 324, none⟩ (.int .u64 0)) := by
  obtain ⟨B, hla, up⟩ := h.onA
  have ok := hla.ok
  have a1 := hla.set (j := 324) (.int .u64 0) { P.la with gu := 0 } (fun m s => Led0.set324 ok m s 0) rfl ⟨ok.bl, ok.nl, ok.c, ok.b, ok.n, ok.m, ⟨ok.g.1, ok.g.2.1, by show (0 : Int) ≤ 0; omega, by show (0 : Int) < 18446744073709551616; omega⟩⟩
  rw [Nat.zero_add] at a1
  have cg := (Cg.refl b 0 326 B w).set (j := 324) (by omega) (.int .u64 0)
  exact (up { P.la with gu := 0 } P.sa (.tuple #[]) _ _ ⟨rfl, cg, B, a1, fun j hj => .inl hj⟩).2
theorem PP.glB {w : World} {b : Nat} {P : Pr} {S : List Nat} (h : PP w b P S) {g : Int} (hg : 0 ≤ g ∧ g < 18446744073709551616) : PStep w b S { P with lb := { P.lb with gl := g } } (w.setCell ⟨b, 649, none⟩ (.int .u64 g)) := by
  obtain ⟨B, hla, up⟩ := h.onB
  have ok := hla.ok
  have a1 := hla.set (j := 323) (.int .u64 g) { P.lb with gl := g } (fun m s => Led0.set323 ok m s g) rfl ⟨ok.bl, ok.nl, ok.c, ok.b, ok.n, ok.m, ⟨hg.1, hg.2, ok.g.2.2⟩⟩
  have cg := (Cg.refl b 326 326 B w).set (j := 323) (by omega) (.int .u64 g)
  exact (up { P.lb with gl := g } P.sb (.tuple #[]) _ _ ⟨rfl, cg, B, a1, fun j hj => .inl hj⟩).2
theorem PP.guB {w : World} {b : Nat} {P : Pr} {S : List Nat} (h : PP w b P S) : PStep w b S { P with lb := { P.lb with gu := 0 } } (w.setCell ⟨b, 650, none⟩ (.int .u64 0)) := by
  obtain ⟨B, hla, up⟩ := h.onB
  have ok := hla.ok
  have a1 := hla.set (j := 324) (.int .u64 0) { P.lb with gu := 0 } (fun m s => Led0.set324 ok m s 0) rfl ⟨ok.bl, ok.nl, ok.c, ok.b, ok.n, ok.m, ⟨ok.g.1, ok.g.2.1, by show (0 : Int) ≤ 0; omega, by show (0 : Int) < 18446744073709551616; omega⟩⟩
  have cg := (Cg.refl b 326 326 B w).set (j := 324) (by omega) (.int .u64 0)
  exact (up { P.lb with gu := 0 } P.sb (.tuple #[]) _ _ ⟨rfl, cg, B, a1, fun j hj => .inl hj⟩).2
theorem PP.snC {w : World} {b : Nat} {P : Pr} {S : List Nat} (h : PP w b P S) : PStep w b S { P with ba := { P.ba with sn := 0 } } (w.setCell ⟨b, 655, none⟩ (.int .i64 0)) := by
  obtain ⟨B, hla, up⟩ := h.onC
  exact (up { P.ba with sn := 0 } P.ta (.tuple #[]) _ _ ⟨rfl, (Cg.refl b 652 5 B w).set (j := 3) (by omega) _, B, hla.set3 0 (by omega), fun j hj => .inl hj⟩).2
theorem PP.snD {w : World} {b : Nat} {P : Pr} {S : List Nat} (h : PP w b P S) : PStep w b S { P with bb := { P.bb with sn := 0 } } (w.setCell ⟨b, 660, none⟩ (.int .i64 0)) := by
  obtain ⟨B, hla, up⟩ := h.onD
  exact (up { P.bb with sn := 0 } P.tb (.tuple #[]) _ _ ⟨rfl, (Cg.refl b 657 5 B w).set (j := 3) (by omega) _, B, hla.set3 0 (by omega), fun j hj => .inl hj⟩).2
theorem PP.snE {w : World} {b : Nat} {P : Pr} {S : List Nat} (h : PP w b P S) : PStep w b S { P with b1 := { P.b1 with sn := 0 } } (w.setCell ⟨b, 665, none⟩ (.int .i64 0)) := by
  obtain ⟨B, hla, up⟩ := h.onE
  exact (up { P.b1 with sn := 0 } P.t1 (.tuple #[]) _ _ ⟨rfl, (Cg.refl b 662 5 B w).set (j := 3) (by omega) _, B, hla.set3 0 (by omega), fun j hj => .inl hj⟩).2
/-- The cells that the next block writes. -/
theorem PP.nbc {w : World} {b : Nat} {P : Pr} {S : List Nat} (h : PP w b P S) : (∃ x, w.cell? ⟨b, 323, none⟩ = some (.int .u64 x)) ∧ (∃ x, w.cell? ⟨b, 324, none⟩ = some (.int .u64 x)) ∧ (∃ x, w.cell? ⟨b, 649, none⟩ = some (.int .u64 x)) ∧ (∃ x, w.cell? ⟨b, 650, none⟩ = some (.int .u64 x)) ∧ (∃ x, w.cell? ⟨b, 655, none⟩ = some (.int .i64 x)) ∧ (∃ x, w.cell? ⟨b, 660, none⟩ = some (.int .i64 x)) ∧ (∃ x, w.cell? ⟨b, 665, none⟩ = some (.int .i64 x)) := by
  obtain ⟨B1, a1, -⟩ := h.onA
  obtain ⟨B2, a2, -⟩ := h.onB
  obtain ⟨B3, a3, -⟩ := h.onC
  obtain ⟨B4, a4, -⟩ := h.onD
  obtain ⟨B5, a5, -⟩ := h.onE
  have c1 := a1.cell (j := 323) (fun m s => Led0.at323 a1.ok m s)
  have c2 := a1.cell (j := 324) (fun m s => Led0.at324 a1.ok m s)
  rw [Nat.zero_add] at c1 c2
  exact ⟨⟨_, c1⟩, ⟨_, c2⟩, ⟨_, a2.cell (j := 323) (fun m s => Led0.at323 a2.ok m s)⟩, ⟨_, a2.cell (j := 324) (fun m s => Led0.at324 a2.ok m s)⟩, ⟨_, a3.cell (j := 3) (fun _ _ _ => rfl)⟩, ⟨_, a4.cell (j := 3) (fun _ _ _ => rfl)⟩, ⟨_, a5.cell (j := 3) (fun _ _ _ => rfl)⟩⟩
theorem PP.fz {w : World} {b : Nat} {P : Pr} {S : List Nat} (h : PP w b P S) {j : Nat} (hj : j < 667) : w.frozen? ⟨b, j, none⟩ = false := by
  have := (h.th j hj).2
  rwa [Nat.zero_add] at this
theorem nb_eq {P : Pr} {g : Int} (h1 : P.la.opn = true) (h2 : P.lb.opn = true) : ({ P with la := { P.la with gl := g, gu := 0 }, lb := { P.lb with gl := g, gu := 0 }, ba := { P.ba with sn := 0 }, bb := { P.bb with sn := 0 }, b1 := { P.b1 with sn := 0 } } : Pr) = nbS P g := by
  unfold nbS
  rw [← h1]
  have e : ({ P.lb with opn := P.la.opn, gl := g, gu := 0 } : Led0) = { P.lb with gl := g, gu := 0 } := by rw [h1, ← h2]
  rw [e]
theorem setL_dp (P : Pr) (ch : Int) (sv : List Led0) : P.setL ch (P.led ch) sv = dpL P ch sv := by
  unfold Pr.setL Pr.led dpL
  split <;> rfl
theorem setB_dp (P : Pr) {ch : Int} (hc : ch = 1 ∨ ch = 2) (sv : List Box0) : P.setB ch (P.box ch) sv = dpB P ch sv := by
  rcases hc with rfl | rfl <;> rfl
end Go.Proofs.Qxb6500784a
