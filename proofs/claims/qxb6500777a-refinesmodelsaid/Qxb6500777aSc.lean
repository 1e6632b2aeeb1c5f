import Derived.Test.Qxb6500777aTck
import Derived.Test.Qxb6500777aLk
import Derived.Test.Qxb6500777aNm3
import Derived.Test.Qxb6500777aRows
import Derived.ProofKit
import Derived.OpenShut
import Derived.Deep.Slices
namespace Go.Proofs.Qxb6500777a
open Go.ChangeShapes Go.WideShapes Go.ChangeAt Go.RowKit Go.Deep

/-! ### The numbers' table -/
def dX (s : Nat) : Int := (Nm.dirP s).1
def dY (s : Nat) : Int := (Nm.dirP s).2
/-- fixmathm.NewTable -/
theorem newT_any (w : World) : Calls Try.prog 13 #[] w fun e w' => e = .returned (.pointer (some ⟨w.heap.size, 0, none⟩)) ∧ MT w' w.heap.size dX dY ∧ Below w.heap.size w w' := by
  refine (Nm.newTable_any w).mono ?_
  rintro e w' ⟨rfl, h, b⟩
  exact ⟨rfl, ⟨h.x, h.y, fun c hc => ⟨(Nm.dir_bnd c hc).1, (Nm.dir_bnd c hc).2.1⟩, fun c hc => ⟨(Nm.dir_bnd c hc).2.2.1, (Nm.dir_bnd c hc).2.2.2⟩⟩, b⟩
/-! ### The script -/
theorem Opn.len (o : Opn) : o.vals.length = 7 := rfl
structure OpnOk7 (op : Opn) : Prop where
  ok : OpnOk op
/-- The script: len steps of seven numbers each lie behind the address. -/
def OpsAt (w : World) (a : Option Addr) (len : Nat) (f : Nat → Opn) : Prop :=
  ∀ i, i < len → ∃ b off, a = some ⟨b, off, none⟩ ∧ OpnOk (f i) ∧ ∀ (j : Nat) (v : Value), (f i).vals[j]? = some v → w.cell? ⟨b, off + i * 7 + j, none⟩ = some v
theorem OpsAt.below {w w' : World} {a : Option Addr} {n : Nat} {f : Nat → Opn} (h : OpsAt w a n f) (hb : Below w.heap.size w w') : OpsAt w' a n f := fun i hi => by
  obtain ⟨b, off, e, h1, h2⟩ := h i hi
  exact ⟨b, off, e, h1, fun j v hv => cellKeep hb (h2 j v hv)⟩
/-- The cells of a step. -/
theorem OpsAt.at {w : World} {a : Option Addr} {n : Nat} {f : Nat → Opn} (h : OpsAt w a n f) {i : Nat} (hi : i < n) : ∃ b off, a = some ⟨b, off, none⟩ ∧ OpnOk (f i) ∧ w.cell? ⟨b, off + i * 7, none⟩ = some (.int .i64 (f i).kd) ∧ w.cell? ⟨b, off + i * 7 + 1, none⟩ = some (.int .i64 (f i).a) ∧ w.cell? ⟨b, off + i * 7 + 2, none⟩ = some (.int .i64 (f i).b) ∧ w.cell? ⟨b, off + i * 7 + 3, none⟩ = some (.int .i64 (f i).c) ∧ w.cell? ⟨b, off + i * 7 + 4, none⟩ = some (.int .i64 (f i).d) ∧ w.cell? ⟨b, off + i * 7 + 5, none⟩ = some (.int .i64 (f i).e) ∧ w.cell? ⟨b, off + i * 7 + 6, none⟩ = some (.int .i64 (f i).on) := by
  obtain ⟨b, off, e, h1, h2⟩ := h i hi
  exact ⟨b, off, e, h1, h2 0 _ rfl, h2 1 _ rfl, h2 2 _ rfl, h2 3 _ rfl, h2 4 _ rfl, h2 5 _ rfl, h2 6 _ rfl⟩
/-- trackslaw.zzSmall1. -/
theorem small_any (w : World) (a : Option Addr) (n cap : Nat) (hn : n ≤ 9223372036854775807) :
    Calls Try.prog 12 #[.slice a n cap] w fun e w' => e = .returned (.bool (decide (n ≤ 65536))) ∧ w' = w := by
  by_cases h : n ≤ 65536
  · go_enter Try.func12, Try.ntmps12
    go_wp2
    go_ret
    exact ⟨by simp [h], rfl⟩
  · go_enter Try.func12, Try.ntmps12
    go_wp2
    go_ret
    exact ⟨by simp [h], rfl⟩
theorem Try.cells37 : Try.prog.cellsOf 37 = 7 := by kernel_rfl
theorem Try.cells35 : Try.prog.cellsOf 35 = 1 := by kernel_rfl
theorem Try.cells2 : Try.prog.cellsOf 2 = 1 := by kernel_rfl
theorem wf_i64 {x : Int} (h : (Lit.int .i64 x).wf = true) : -9223372036854775808 ≤ x ∧ x < 9223372036854775808 := by
  simp [Lit.wf, IntKind.min, IntKind.max, IntKind.signed, IntKind.bits] at h
  omega
theorem take1 {cs : List Value} {j : Nat} {v : Value} (h : (cs.drop j).take 1 = [v]) : cs[j]? = some v := by
  have := congrArg (·[0]?) h
  simpa [List.getElem?_take, List.getElem?_drop] using this
/-- One step of the script: its cells. -/
theorem op_cells {H : Type} {enc : TypeId × Value → H} {w : World} {base fuel : Nat} {spare : Nat → Bool} {held : Bool} {cs : List Value} {x : DataW H × List MemPlace} (h : DataW.trod enc Try.prog w base spare held fuel 37 cs = some x) :
    ∀ j, j < 7 → ∃ n, cs[j]? = some (.int .i64 n) ∧ -9223372036854775808 ≤ n ∧ n < 9223372036854775808 := by
  obtain ⟨xs, n, _, _, _, hl, hf⟩ := DataW.trod_struct Try.underlying37 h
  have hx : ∀ j, j < 7 → ∃ y, xs[j]? = some y := fun j hj => ⟨xs[j]'(by rw [hl]; exact hj), List.getElem?_eq_getElem _⟩
  intro j hj
  obtain ⟨y, hy⟩ := hx j hj
  have key : ∀ t, Try.prog.underlying t = some (.int .i64) → Try.prog.cellsOf t = 1 → DataW.trod enc Try.prog w base spare held n t ((cs.drop j).take (Try.prog.cellsOf t)) = xs[j]? → ∃ n, cs[j]? = some (.int .i64 n) ∧ -9223372036854775808 ≤ n ∧ n < 9223372036854775808 := by
    intro t ht hc hd
    rw [hc, hy] at hd
    obtain ⟨z, hz, _, hw⟩ := DataW.trod_int ht hd
    exact ⟨z, take1 hz, wf_i64 hw⟩
  rcases (by omega : j = 0 ∨ j = 1 ∨ j = 2 ∨ j = 3 ∨ j = 4 ∨ j = 5 ∨ j = 6) with h | h | h | h | h | h | h
  · subst h; exact key 35 Try.underlying35 Try.cells35 (hf 0 _ rfl)
  · subst h; exact key 2 Try.underlying2 Try.cells2 (hf 1 _ rfl)
  · subst h; exact key 2 Try.underlying2 Try.cells2 (hf 2 _ rfl)
  · subst h; exact key 2 Try.underlying2 Try.cells2 (hf 3 _ rfl)
  · subst h; exact key 2 Try.underlying2 Try.cells2 (hf 4 _ rfl)
  · subst h; exact key 2 Try.underlying2 Try.cells2 (hf 5 _ rfl)
  · subst h; exact key 2 Try.underlying2 Try.cells2 (hf 6 _ rfl)
theorem vals_of {op : Opn} {w : World} {b o : Nat} (h0 : w.cell? ⟨b, o + 0, none⟩ = some (.int .i64 op.kd)) (h1 : w.cell? ⟨b, o + 1, none⟩ = some (.int .i64 op.a)) (h2 : w.cell? ⟨b, o + 2, none⟩ = some (.int .i64 op.b)) (h3 : w.cell? ⟨b, o + 3, none⟩ = some (.int .i64 op.c)) (h4 : w.cell? ⟨b, o + 4, none⟩ = some (.int .i64 op.d)) (h5 : w.cell? ⟨b, o + 5, none⟩ = some (.int .i64 op.e)) (h6 : w.cell? ⟨b, o + 6, none⟩ = some (.int .i64 op.on)) :
    ∀ (j : Nat) (v : Value), op.vals[j]? = some v → w.cell? ⟨b, o + j, none⟩ = some v := fun j v hv => by
  have hj : j < 7 := (List.getElem?_eq_some_iff.1 hv).1
  rcases (by omega : j = 0 ∨ j = 1 ∨ j = 2 ∨ j = 3 ∨ j = 4 ∨ j = 5 ∨ j = 6) with rfl | rfl | rfl | rfl | rfl | rfl | rfl <;> (cases hv; assumption)
/-- What the argument's reading says of memory. -/
theorem ops_open {H : Type} {enc : TypeId × Value → H} {w : World} {fuel : Nat} {a : Option Addr} {len cap : Nat} {x : DataW H × List MemPlace} (h : DataW.trod enc Try.prog w 0 (fun _ => true) true fuel 22 [.slice a len cap] = some x) :
    len ≤ 9223372036854775807 ∧ ∃ f, OpsAt w a len f := by
  rcases open_slice Try.underlying22 h with ⟨hcs, _⟩ | ⟨ad, len', cap', m, n, D, Pl, hcs, _, hl, hm, hmm, _, hel⟩
  · simp at hcs
    obtain ⟨rfl, rfl, rfl⟩ := hcs
    exact ⟨by omega, fun _ => ⟨0, 0, 0, 0, 0, 0, 0⟩, fun i hi => by omega⟩
  · simp at hcs
    obtain ⟨rfl, rfl, rfl⟩ := hcs
    simp at hmm
    subst hmm
    rw [Try.cells37] at hel
    unfold maxLen at hm
    refine ⟨by omega, ?_⟩
    by_cases hl0 : len = 0
    · exact ⟨fun _ => ⟨0, 0, 0, 0, 0, 0, 0⟩, fun i hi => by omega⟩
    have cell : ∀ i, i < len → ∀ j, j < 7 → ∃ n, w.cell? ((ad.add (i * 7)).add j) = some (.int .i64 n) ∧ -9223372036854775808 ≤ n ∧ n < 9223372036854775808 := by
      intro i hi j hj
      obtain ⟨cs', hc, ht⟩ := hel i (by omega)
      obtain ⟨_, _, hg⟩ := World.cells?_some hc
      obtain ⟨z, hz, hb⟩ := op_cells ht j hj
      exact ⟨z, (hg j hj).trans hz, hb⟩
    obtain ⟨b, off, spot⟩ := ad
    have hspot : spot = none := by
      obtain ⟨z, hz, _⟩ := cell 0 (by omega) 0 (by omega)
      simpa [Addr.add] using World.cell?_spot hz
    subst hspot
    have cell' : ∀ i, i < len → ∀ j, j < 7 → w.cell? ⟨b, off + i * 7 + j, none⟩ = some (.int .i64 (intOf ((w.cell? ⟨b, off + i * 7 + j, none⟩).getD undef))) ∧ I64 (intOf ((w.cell? ⟨b, off + i * 7 + j, none⟩).getD undef)) := by
      intro i hi j hj
      obtain ⟨z, hz, hb⟩ := cell i hi j hj
      rw [Addr.add_mid, Addr.add_mid] at hz
      rw [hz]
      exact ⟨rfl, hb⟩
    refine ⟨fun i => ⟨intOf ((w.cell? ⟨b, off + i * 7 + 0, none⟩).getD undef), intOf ((w.cell? ⟨b, off + i * 7 + 1, none⟩).getD undef), intOf ((w.cell? ⟨b, off + i * 7 + 2, none⟩).getD undef), intOf ((w.cell? ⟨b, off + i * 7 + 3, none⟩).getD undef), intOf ((w.cell? ⟨b, off + i * 7 + 4, none⟩).getD undef), intOf ((w.cell? ⟨b, off + i * 7 + 5, none⟩).getD undef), intOf ((w.cell? ⟨b, off + i * 7 + 6, none⟩).getD undef)⟩, fun i hi => ⟨b, off, rfl, ⟨(cell' i hi 1 (by omega)).2, (cell' i hi 2 (by omega)).2, (cell' i hi 3 (by omega)).2, (cell' i hi 4 (by omega)).2⟩, ?_⟩⟩
    exact vals_of (cell' i hi 0 (by omega)).1 (cell' i hi 1 (by omega)).1 (cell' i hi 2 (by omega)).1 (cell' i hi 3 (by omega)).1 (cell' i hi 4 (by omega)).1 (cell' i hi 5 (by omega)).1 (cell' i hi 6 (by omega)).1
/-! ### A law's state -/
/-- One world, one set of what is pending, one board. -/
structure LS (w0 w : World) (m p q b : Nat) (W : Nat → Tgt) (G : Nat → Int) (TT : Nat → Tbl) (N : Int) : Prop where
  mt : MT w m dX dY
  wr : WR w p W
  pa : PA w q G
  bd : BD w b m TT
  ti : TsI TT N
  wo : ∀ t, t < 112 → TgtOk (W t)
  gk : ∀ i, 0 ≤ G i ∧ G i ≤ 3
  bel : Below w0.heap.size w0 w
  ne : m ≠ p ∧ m ≠ q ∧ m ≠ b ∧ p ≠ q ∧ p ≠ b ∧ q ≠ b
  ge : w0.heap.size ≤ p ∧ w0.heap.size ≤ q ∧ w0.heap.size ≤ b
theorem bel_fr {w0 w w' : World} {p lo n : Nat} (h : Below w0.heap.size w0 w) (k : Fr p lo n w w') (hp : w0.heap.size ≤ p) : Below w0.heap.size w0 w' :=
  ((Ex.of (S := fun _ => False) h).trans2 k.ex (fun j hj => .inr (by rw [hj]; exact hp))).below (Nat.le_refl _) (fun _ _ e => e)
section
variable {w0 w w' : World} {m p q b : Nat} {W : Nat → Tgt} {G : Nat → Int} {TT : Nat → Tbl} {N : Int}
theorem LS.below (h : LS w0 w m p q b W G TT N) (k : Below w.heap.size w w') : LS w0 w' m p q b W G TT N :=
  ⟨h.mt.below k, h.wr.below k, h.pa.below k, h.bd.below k, h.ti, h.wo, h.gk, lec h.bel k, h.ne, h.ge⟩
theorem LS.drewN (h : LS w0 w m p q b W G TT N) (n : Nat) : LS w0 (w.drewN n) m p q b W G TT N := h.below (belN w n)
theorem LS.drew (h : LS w0 w m p q b W G TT N) : LS w0 w.drew m p q b W G TT N := h.below (Below.refl _ _).drew
theorem LS.world (h : LS w0 w m p q b W G TT N) (k : Fr p 0 448 w w') {W' : Nat → Tgt} (hw : WR w' p W') (ho : ∀ t, t < 112 → TgtOk (W' t)) : LS w0 w' m p q b W' G TT N :=
  ⟨h.mt.keep k.ex h.ne.1, hw, h.pa.keep k (Ne.symm h.ne.2.2.2.1), h.bd.keep k (Ne.symm h.ne.2.2.2.2.1), h.ti, ho, h.gk, bel_fr h.bel k h.ge.1, h.ne, h.ge⟩
theorem LS.pend (h : LS w0 w m p q b W G TT N) (k : Fr q 0 1792 w w') {G' : Nat → Int} (hw : PA w' q G') (ho : ∀ i, 0 ≤ G' i ∧ G' i ≤ 3) : LS w0 w' m p q b W G' TT N :=
  ⟨h.mt.keep k.ex h.ne.2.1, h.wr.keep k h.ne.2.2.2.1, hw, h.bd.keep k (Ne.symm h.ne.2.2.2.2.2), h.ti, h.wo, ho, bel_fr h.bel k h.ge.2.1, h.ne, h.ge⟩
theorem LS.board (h : LS w0 w m p q b W G TT N) (k : Fr b 0 3017 w w') {TT' : Nat → Tbl} {N' : Int} (hw : BD w' b m TT') (ho : TsI TT' N') : LS w0 w' m p q b W G TT' N' :=
  ⟨h.mt.keep k.ex h.ne.2.2.1, h.wr.keep k h.ne.2.2.2.2.1, h.pa.keep k h.ne.2.2.2.2.2, hw, ho, h.wo, h.gk, bel_fr h.bel k h.ge.2.2, h.ne, h.ge⟩
theorem LS.mono (h : LS w0 w m p q b W G TT N) {N' : Int} (hn : N ≤ N') : LS w0 w m p q b W G TT N' :=
  ⟨h.mt, h.wr, h.pa, h.bd, ⟨h.ti.tk, fun k hk => Int.le_trans (h.ti.nx k hk) hn⟩, h.wo, h.gk, h.bel, h.ne, h.ge⟩
end
end Go.Proofs.Qxb6500777a
