import Derived.Test.Qxb6500784aWf
import Derived.Test.Qxb6500784aMf
import Derived.Test.Qxb6500784aSk
namespace Go.Proofs.Qxb6500784a
open Go.RowKit

/-! ### Rows of legs -/
def num (v : Option Value) : Int := match v with
  | some (.int _ x) => x
  | _ => 0
/-- A leg out of its cells. -/
def lgOf (r : List Value) (ch tch : Int) (na : Option Addr) (nn nc : Nat) (nd : Nat → Int) : Leg := ⟨fun j => r[j]?.getD undef, num r[0]?, ch, tch, na, nn, nc, nd⟩
def lg (r : List Value) : Leg := lgOf r (num r[1]?) (num r[1]?) none 0 0 (fun _ => 0)
/-- A row without needs. -/
structure PL (r : List Value) : Prop where
  l : r.length = 86
  o : ∀ u ∈ r, u.oneCell' = true
  i : ∃ i : Int, 0 ≤ i ∧ i < 256 ∧ r[0]? = some (.int .u8 i)
  c : ∃ c : Int, (c = 1 ∨ c = 2) ∧ r[1]? = some (.int .u8 c) ∧ r[3]? = some (.int .u8 c)
  n : r[85]? = some nilS
theorem WfL.pl {i : Nat} {r : List Value} (h : WfL i r) (hi : i < 256) : PL r := ⟨h.l, h.o, ⟨i, by omega, by omega, h.a⟩, h.c, h.n⟩
theorem WfL.id {i : Nat} {r : List Value} (h : WfL i r) : num r[0]? = i := by rw [h.a]; rfl
theorem PL.code {r : List Value} (h : PL r) : legCode (lg r) = 0 := by
  obtain ⟨c, hc, h1, _⟩ := h.c
  have e : num r[1]? = c := by rw [h1]; rfl
  have a1 : (lg r).ch = c := e
  have a2 : (lg r).tch = c := e
  have a3 : (lg r).nn = 0 := rfl
  unfold legCode
  rw [a1, a2, if_pos hc, if_pos rfl, if_neg (by rw [a3]; omega)]
theorem getD_at {r : List Value} {j : Nat} {v : Value} (h : r[j]? = some v) : r[j]?.getD undef = v := by rw [h]; rfl
theorem PL.ok {w : World} {r : List Value} (h : PL r) : LegOk w (lg r) := by
  obtain ⟨i, h0, h1, hi⟩ := h.i
  obtain ⟨c, hc, c1, c3⟩ := h.c
  have e0 : num r[0]? = i := by rw [hi]; rfl
  have e1 : num r[1]? = c := by rw [c1]; rfl
  have hc2 : 0 ≤ c ∧ c < 256 := by omega
  refine ⟨?_, ?_, ?_, ?_, ?_, ?_, ?_, ?_, ?_, ?_, by show 0 ≤ _; omega, fun k hk => absurd hk (Nat.not_lt_zero _)⟩
  · show r[0]?.getD undef = .int .u8 (num r[0]?); rw [e0]; exact getD_at hi
  · show r[1]?.getD undef = .int .u8 (num r[1]?); rw [e1]; exact getD_at c1
  · show r[3]?.getD undef = .int .u8 (num r[1]?); rw [e1]; exact getD_at c3
  · exact getD_at h.n
  · show 0 ≤ num r[0]?; omega
  · show num r[0]? < 256; omega
  · show 0 ≤ num r[1]?; omega
  · show num r[1]? < 256; omega
  · show 0 ≤ num r[1]?; omega
  · show num r[1]? < 256; omega
theorem legs_of {w : World} {g n : Nat} {Q : Nat → List Value} {L : Nat → Leg} (hr : ∀ i, i < n → w.rangeAt g (i * 86) (Q i)) (hl : ∀ i, i < n → (Q i).length = 86) (hv : ∀ i, i < n → (L i).v = fun j => (Q i)[j]?.getD undef) (ho : ∀ i, i < n → LegOk w (L i)) : LegsAt w (some ⟨g, 0, none⟩) n L := fun i hi => by
  refine ⟨g, 0, rfl, fun j hj => ?_, ho i hi⟩
  have hjl : j < (Q i).length := by rw [hl i hi]; exact hj
  rw [hv i hi]
  have := hr i hi j _ (List.getElem?_eq_getElem hjl)
  rw [Nat.zero_add, this]
  show some _ = some ((Q i)[j]?.getD undef)
  rw [List.getElem?_eq_getElem hjl]
  rfl
/-- One cell of one row is set. -/
theorem rows_set {w : World} {g m n j : Nat} {Q : Nat → List Value} (hr : ∀ i, i < n → w.rangeAt g (i * 86) (Q i)) (hl : ∀ i, i < n → (Q i).length = 86) (hj : j < 86) (u : Value) :
    ∀ i, i < n → (w.setCell ⟨g, m * 86 + j, none⟩ u).rangeAt g (i * 86) (if i = m then (Q i).set j u else Q i) := fun i hi => by
  split
  · rename_i e
    subst e
    exact range_set (hr i hi) j u
  · rename_i e
    refine rangeAt_keep (hr i hi) fun k hk => ?_
    rw [hl i hi] at hk
    refine World.cell?_setCell_other _ _ _ _ ?_
    intro hh
    have : m * 86 + j = i * 86 + k := by injection hh
    omega
theorem rows_own {w : World} {B g n c : Nat} {R : List (List Value)} (h : w.ownsRow B 95 86 (.slice (some ⟨g, 0, none⟩) n c) n R.flatten) (hl : ∀ r, r ∈ R → r.length = 86) (hn : R.length = n) : ∀ i, i < n → w.rangeAt g (i * 86) (R[i]?.getD []) := fun i hi => by
  have e : R.flatten = R.flatMap id := by simp [List.flatMap_id]
  rw [e] at h
  have hi2 : R[i]? = some (R[i]?.getD []) := by rw [List.getElem?_eq_getElem (by omega)]; rfl
  exact range_flat (f := id) (k := 86) hl (own_range h) hi2
/-- What spoil answers. -/
def SpPost (B : Nat) (w : World) (e : Ending) (w' : World) : Prop :=
  ∃ (a : Option Addr) (n cap : Nat) (L : Nat → Leg) (c : Int), e = .returned (.tuple #[.agg #[.slice a n cap], .int .i64 c]) ∧ c ≠ 0 ∧ n ≤ 9 ∧ LegsAt w' a n L ∧ ordCode n L = c ∧ Below B w w'
/-- What spoil is given. -/
structure SpI (B : Nat) (w : World) (g m cap : Nat) (R : List (List Value)) : Prop where
  ow : w.ownsRow B 95 86 (.slice (some ⟨g, 0, none⟩) (m + 1) cap) (m + 1) R.flatten
  hm : m < 7
  hl : R.length = m + 1
  wf : ∀ i r, R[i]? = some r → WfL i r
  hB : B ≤ w.heap.size
def rowF (R : List (List Value)) (i : Nat) : List Value := R[i]?.getD []
theorem SpI.at {B : Nat} {w : World} {g m cap : Nat} {R : List (List Value)} (h : SpI B w g m cap R) {i : Nat} (hi : i < m + 1) : WfL i (rowF R i) := by
  have : R[i]? = some (rowF R i) := by rw [rowF, List.getElem?_eq_getElem (by rw [h.hl]; exact hi)]; rfl
  exact h.wf i _ this
theorem SpI.rg {B : Nat} {w : World} {g m cap : Nat} {R : List (List Value)} (h : SpI B w g m cap R) : ∀ i, i < m + 1 → w.rangeAt g (i * 86) (rowF R i) :=
  rows_own h.ow (fun r hr => by obtain ⟨i, hi⟩ := List.mem_iff_getElem?.1 hr; exact (h.wf i r hi).l) h.hl
theorem SpI.below {B : Nat} {w w' : World} {g m cap : Nat} {R : List (List Value)} (h : SpI B w g m cap R) (k : Below w.heap.size w w') : SpI B w' g m cap R :=
  ⟨own_kept h.ow (Ex.of (S := fun _ => False) k) (fun _ _ e => e), h.hm, h.hl, h.wf, Nat.le_trans h.hB k.size⟩
/-- The last leg with another chain, transaction's chain or list of needs. -/
def lastL (R : List (List Value)) (m : Nat) (l : Leg) (i : Nat) : Leg := if i = m then l else lg (rowF R i)
/-- One cell of the last leg is set; what comes of it. -/
theorem SpI.fin {B : Nat} {w w1 : World} {g m cap A : Nat} {R : List (List Value)} (h : SpI B w g m cap R) (hw : SpI B w1 g m cap R) (hb : Below w.heap.size w w1) (hA : A = w.heap.size) {j : Nat} (hj : j < 86) {u : Value} {l : Leg} {c : Int}
    (hv : l.v = fun k => ((rowF R m).set j u)[k]?.getD undef) (ho : LegOk ((w1.setCell ⟨g, m * 86 + j, none⟩ u).setCell ⟨A + 1, 0, none⟩ (.slice (some ⟨g, 0, none⟩) (m + 1) cap)) l) (hcd : ordCode (m + 1) (lastL R m l) = c) (hc : c ≠ 0) :
    SpPost B w (.returned (.tuple #[.agg #[.slice (some ⟨g, 0, none⟩) (m + 1) cap], .int .i64 c])) ((w1.setCell ⟨g, m * 86 + j, none⟩ u).setCell ⟨A + 1, 0, none⟩ (.slice (some ⟨g, 0, none⟩) (m + 1) cap)) := by
  have hg := h.ow.lt g rfl
  have hBw := h.hB
  refine ⟨_, _, _, lastL R m l, c, rfl, hc, by have := h.hm; omega, ?_, hcd, ?_⟩
  · refine legs_of (Q := fun i => if i = m then (rowF R i).set j u else rowF R i) (fun i hi => ?_) (fun i hi => ?_) (fun i hi => ?_) (fun i hi => ?_)
    · exact range_set_ne (rows_set hw.rg (fun i hi => (hw.at hi).l) hj u i hi) (by omega) 0 _
    · show (if i = m then (rowF R i).set j u else rowF R i).length = 86
      split
      · rw [List.length_set]; exact (h.at hi).l
      · exact (h.at hi).l
    · show (if i = m then l else lg (rowF R i)).v = fun k => (if i = m then (rowF R i).set j u else rowF R i)[k]?.getD undef
      split
      · rename_i e; subst e; exact hv
      · rfl
    · show LegOk _ (if i = m then l else lg (rowF R i))
      split
      · exact ho
      · exact ((h.at hi).pl (by have := h.hm; omega)).ok
  · exact ((hb.mono h.hB).setCell (p := ⟨g, m * 86 + j, none⟩) hg.1 u).setCell (p := ⟨A + 1, 0, none⟩) (by show B ≤ A + 1; omega) _
theorem lastL_code {B : Nat} {w : World} {g m cap : Nat} {R : List (List Value)} (h : SpI B w g m cap R) (l : Leg) : ∀ i, i < m → legCode (lastL R m l i) = 0 := fun i hi => by
  unfold lastL
  rw [if_neg (by omega)]
  exact ((h.at (by omega)).pl (by have := h.hm; omega)).code
theorem lastL_m (R : List (List Value)) (m : Nat) (l : Leg) : lastL R m l m = l := if_pos rfl
theorem lastL_id {B : Nat} {w : World} {g m cap : Nat} {R : List (List Value)} (h : SpI B w g m cap R) (l : Leg) (hl : l.id = m) : ∀ i, i < m + 1 → (lastL R m l i).id = i := fun i hi => by
  unfold lastL
  split
  · rename_i e; rw [e]; exact hl
  · exact (h.at hi).id
/-- The last leg, its needs or its chains another. -/
def lasL (R : List (List Value)) (m j : Nat) (u : Value) (ch tch : Int) (na : Option Addr) (nn nc : Nat) (nd : Nat → Int) : Leg := lgOf ((rowF R m).set j u) ch tch na nn nc nd
theorem las_id {B : Nat} {w : World} {g m cap : Nat} {R : List (List Value)} (h : SpI B w g m cap R) {j : Nat} (hj : j ≠ 0) (u : Value) : num ((rowF R m).set j u)[0]? = m := by
  rw [List.getElem?_set_ne hj, (h.at (i := m) (by omega)).a]; rfl
theorem las_ok {B : Nat} {w wz : World} {g m cap : Nat} {R : List (List Value)} (h : SpI B w g m cap R) {j : Nat} (hj : j = 1 ∨ j = 3 ∨ j = 85) {u : Value} {ch tch : Int} {na : Option Addr} {nn nc : Nat} {nd : Nat → Int}
    (h1 : ((rowF R m).set j u)[1]? = some (.int .u8 ch)) (h3 : ((rowF R m).set j u)[3]? = some (.int .u8 tch)) (h85 : ((rowF R m).set j u)[85]? = some (.slice na nn nc)) (hc : 0 ≤ ch ∧ ch < 256) (ht : 0 ≤ tch ∧ tch < 256) (hn : nn ≤ 9) (hd : NeedsAt wz na nn nd) : LegOk wz (lasL R m j u ch tch na nn nc nd) := by
  have e0 := las_id h (j := j) (by omega) u
  have hm := h.hm
  have h0 : ((rowF R m).set j u)[0]? = some (.int .u8 m) := by rw [List.getElem?_set_ne (by omega)]; exact (h.at (i := m) (by omega)).a
  refine ⟨?_, getD_at h1, getD_at h3, getD_at h85, ?_, ?_, hc.1, hc.2, ht.1, ht.2, by show nn ≤ _; omega, hd⟩
  · show ((rowF R m).set j u)[0]?.getD undef = .int .u8 (num ((rowF R m).set j u)[0]?)
    rw [e0]; exact getD_at h0
  · show 0 ≤ num ((rowF R m).set j u)[0]?; omega
  · show num ((rowF R m).set j u)[0]? < 256; omega
theorem las_63 {R : List (List Value)} {m j : Nat} {u : Value} {cc : Int} {na : Option Addr} {nn nc : Nat} {nd : Nat → Int} (hc : cc = 1 ∨ cc = 2) : legCode (lasL R m j u cc 3 na nn nc nd) = 63 := by
  have a1 : (lasL R m j u cc 3 na nn nc nd).ch = cc := rfl
  have a2 : (lasL R m j u cc 3 na nn nc nd).tch = 3 := rfl
  unfold legCode
  rw [a1, a2, if_pos hc, if_neg (by omega)]
theorem las_nn {R : List (List Value)} {m j : Nat} {u : Value} {cc : Int} {na : Option Addr} {nn nc : Nat} {nd : Nat → Int} (hc : cc = 1 ∨ cc = 2) : legCode (lasL R m j u cc cc na nn nc nd) = if nn > 8 then 64 else 0 := by
  have a1 : (lasL R m j u cc cc na nn nc nd).ch = cc := rfl
  have a2 : (lasL R m j u cc cc na nn nc nd).tch = cc := rfl
  have a3 : (lasL R m j u cc cc na nn nc nd).nn = nn := rfl
  unfold legCode
  rw [a1, a2, a3, if_pos hc, if_pos rfl]
theorem las_62 {R : List (List Value)} {m j : Nat} {u : Value} {ch tch : Int} {na : Option Addr} {nn nc : Nat} {nd : Nat → Int} (hc : ¬ (ch = 1 ∨ ch = 2)) : legCode (lasL R m j u ch tch na nn nc nd) = 62 := by
  have a1 : (lasL R m j u ch tch na nn nc nd).ch = ch := rfl
  unfold legCode
  rw [a1, if_neg hc]
theorem Try.inf5x : (Try.prog.info? 5).map (fun i => (i.zero, i.size, i.bytes)) = some (some (.int .u8 0), 1, 1) := by kernel_rfl
theorem step_buildI {w : World} {ops : Array Oper} {o : Oper} {a : Act} {K : Act → World → Prop} {Q : Exit → Act → World → Prop} {E : Prop} (hg : o.guard = none) (x : Operand) (ho : o.op = .buildSlice 93 1 #[(0, x)]) (n : Int) (hx : a.eval x = .int .u8 n)
    (h : K (a.put o.dst (.slice (some ⟨w.heap.size, 0, none⟩) 1 1)) (w.alloc (.cells #[.int .u8 n] 5))) : if Region.wanted o (yielded ops a.tmps) = true then Oper.wp Try.prog o a w K Q else E := by
  rw [if_pos (by simp [Region.wanted, hg])]
  obtain ⟨i, hi, hz, hy, _⟩ := info_parts Try.inf5x
  refine wp_buildSlice 93 5 1 #[(0, x)] ho #[.int .u8 n] i (.int .u8 0) Try.underlying93 hi hz (by omega) (by omega) ?_ h
  have e1 : (#[(0, x)].map fun (i, x) => (i, a.eval x)).toList = (([Value.int .u8 n] : List Value).zipIdx 0).map fun y => (y.2, y.1) := by simp [hx]
  rw [e1, hy]
  have := Great.fill_whole (s := 1) (by omega) [Value.int .u8 n] ((Array.range (1 * 1)).map ((Value.int .u8 0).cells[· % (Value.int .u8 0).cells.size]!)) (fun v hv => by
    have : v = .int .u8 n := by simpa using hv
    subst this
    simp [Value.cells]) (by simp)
  rw [this]
  simp [Value.cells]
theorem step_loadM {P : Program} {w : World} {ops : Array Oper} {op : Oper} {a : Act} {K : Act → World → Prop} {Q : Exit → Act → World → Prop} {E : Prop} (hg : op.guard = none) (ty : TypeId) (x : Operand) (ho : op.op = .load ty x)
    (b o : Nat) (hx : a.eval x = .pointer (some ⟨b, o, none⟩)) (cs : List Value) (d : TypeDesc) (hr : w.rangeAt b o cs) (hu : P.underlying ty = some d) (hd : d.isRow = true) (hi : (P.info? ty).map (·.size) = some cs.length)
    (h : K (a.put op.dst (.agg cs.toArray)) w) : if Region.wanted op (yielded ops a.tmps) = true then Oper.wp P op a w K Q else E := by
  rw [if_pos (by simp [Region.wanted, hg])]
  have hrun : (execOp a.eval op).run P w = .ok (.value (.agg cs.toArray)) w := by
    unfold execOp
    simp only [ho, hx, Instr.loadAt, Instr.sureAddr, Sem.run_bind, Sem.run_pure, Result.andThen_ok, run_loadVar_mid w b o ty cs d hr hu hd hi]
  unfold Oper.wp
  rw [hrun, Oper.upon_value]
  exact h
/-- A bundle that grows. -/
structure SpL (B : Nat) (w : World) (A : Nat) (wr : World) (g k c : Nat) (Q : List (List Value)) : Prop where
  ow : wr.ownsRow B 95 86 (.slice (some ⟨g, 0, none⟩) k c) k Q.flatten
  c0 : wr.cell? ⟨A, 0, none⟩ = some (.slice (some ⟨g, 0, none⟩) k c)
  f0 : wr.frozen? ⟨A, 0, none⟩ = false
  c1 : wr.cell? ⟨A + 1, 0, none⟩ = some nilS
  f1 : wr.frozen? ⟨A + 1, 0, none⟩ = false
  ln : Q.length = k
  pl : ∀ r, r ∈ Q → PL r
  be : Below B w wr
  gA : g ≠ A ∧ g ≠ A + 1
  sz : A + 2 ≤ wr.heap.size
  bA : B ≤ A
theorem SpL.below {B : Nat} {w wr wx : World} {A g k c : Nat} {Q : List (List Value)} (h : SpL B w A wr g k c Q) (b : Below wr.heap.size wr wx) : SpL B w A wx g k c Q := by
  have h3 := h.sz
  have hbA := h.bA
  refine ⟨own_kept h.ow (Ex.of (S := fun _ => False) b) (fun _ _ e => e), cellKeep b h.c0, ?_, cellKeep b h.c1, ?_, h.ln, h.pl, h.be.trans (b.mono (by omega)), h.gA, Nat.le_trans h.sz b.size, h.bA⟩
  · rw [World.frozen?_of_block (b.block _ (show A < wr.heap.size by omega))]; exact h.f0
  · rw [World.frozen?_of_block (b.block _ (show A + 1 < wr.heap.size by omega))]; exact h.f1
theorem SpL.grow {B : Nat} {w wr wx : World} {A g k c g' c' : Nat} {Q : List (List Value)} {r : List Value} (h : SpL B w A wr g k c Q) (hr : PL r) (ho : wx.ownsRow B 95 86 (.slice (some ⟨g', 0, none⟩) (k + 1) c') (k + 1) (Q.flatten ++ r)) (hg : wr.grownBy wx (some g)) (hat : g = g' ∨ wr.heap.size ≤ g') :
    SpL B w A (wx.setCell ⟨A, 0, none⟩ (.slice (some ⟨g', 0, none⟩) (k + 1) c')) g' (k + 1) c' (Q ++ [r]) := by
  have h3 := h.sz
  have hbA := h.bA
  have hgA := h.gA
  have hgB := (h.ow.lt g rfl).1
  have hg' : g' ≠ A ∧ g' ≠ A + 1 := by omega
  have b0 : wx.heap[A]? = wr.heap[A]? := hg.block A (by omega) (fun e => hgA.1 (by injection e with e; exact e.symm))
  have b1 : wx.heap[A + 1]? = wr.heap[A + 1]? := hg.block (A + 1) (by omega) (fun e => hgA.2 (by injection e with e; exact e.symm))
  have ex : Ex (fun k => k = A) wx (wx.setCell ⟨A, 0, none⟩ (.slice (some ⟨g', 0, none⟩) (k + 1) c')) := (Ex.refl (fun k => k = A) wx).set rfl _
  have hB : Below B w wx := h.be.trans ((Ex.ofGrown (S := fun j => j = g) hg (fun k e => by injection e)).below (by omega) (fun j hj e => by omega))
  have c0 : wx.cell? ⟨A, 0, none⟩ = some (.slice (some ⟨g, 0, none⟩) k c) := by rw [World.cell?_of_block b0]; exact h.c0
  refine ⟨?_, World.cell?_setCell_same _ _ _ c0, ?_, ?_, ?_, by simp [h.ln], fun q hq => ?_, hB.setCell (p := ⟨A, 0, none⟩) hbA _, hg', by have := hg.size; simp; omega, hbA⟩
  · rw [List.flatten_append, show [r].flatten = r by simp]
    exact own_kept ho ex (fun j hj e => by
      have : g' = j := by simpa [Value.ownBlock] using hj
      omega)
  · rw [set_frozen, World.frozen?_of_block b0]; exact h.f0
  · rw [set_cell_ne _ _ _ _ _ _ (by omega), World.cell?_of_block b1]; exact h.c1
  · rw [set_frozen, World.frozen?_of_block b1]; exact h.f1
  · rcases List.mem_append.1 hq with z | z
    · exact h.pl q z
    · have : q = r := by simpa using z
      rw [this]; exact hr
theorem SpL.fin {B : Nat} {w wr : World} {A g k c : Nat} {Q : List (List Value)} (h : SpL B w A wr g k c Q) (hk : k ≤ 9) {cd : Int} (hc : cd ≠ 0) (hcd : ordCode k (fun i => lg (rowF Q i)) = cd) :
    SpPost B w (.returned (.tuple #[.agg #[.slice (some ⟨g, 0, none⟩) k c], .int .i64 cd])) (wr.setCell ⟨A + 1, 0, none⟩ (.slice (some ⟨g, 0, none⟩) k c)) := by
  have hgA := h.gA
  have hat : ∀ i, i < k → PL (rowF Q i) := fun i hi => h.pl _ (by
    have : Q[i]? = some (rowF Q i) := by rw [rowF, List.getElem?_eq_getElem (by rw [h.ln]; exact hi)]; rfl
    exact List.mem_of_getElem? this)
  refine ⟨_, _, _, _, cd, rfl, hc, hk, ?_, hcd, h.be.setCell (p := ⟨A + 1, 0, none⟩) (by have := h.bA; show B ≤ A + 1; omega) _⟩
  refine legs_of (Q := rowF Q) (fun i hi => ?_) (fun i hi => (hat i hi).l) (fun i hi => rfl) (fun i hi => (hat i hi).ok)
  exact range_set_ne (rows_own h.ow (fun r hr => (h.pl r hr).l) h.ln i hi) (by omega) 0 _
theorem SpI.toL {B : Nat} {w w2 : World} {g m cap A : Nat} {R : List (List Value)} (h : SpI B w g m cap R) (h2 : SpI B w2 g m cap R) (hb : Below w.heap.size w w2) (hA : A = w.heap.size) (c0 : w2.cell? ⟨A, 0, none⟩ = some (.slice (some ⟨g, 0, none⟩) (m + 1) cap)) (f0 : w2.frozen? ⟨A, 0, none⟩ = false) (c1 : w2.cell? ⟨A + 1, 0, none⟩ = some nilS) (f1 : w2.frozen? ⟨A + 1, 0, none⟩ = false) (he : w2.heap.size = A + 2) : SpL B w A w2 g (m + 1) cap R := by
  have hg := (h.ow.lt g rfl).2
  have hB := h.hB
  have hm := h.hm
  exact ⟨h2.ow, c0, f0, c1, f1, h.hl, fun r hr => by obtain ⟨i, hi⟩ := List.mem_iff_getElem?.1 hr; exact (h.wf i r hi).pl (by have := (List.getElem?_eq_some_iff.1 hi).1; have := h.hl; omega), hb.mono hB, by omega, by omega, by omega⟩
theorem defL_pl (i : Nat) (hi : i < 256) : PL (defL i 1) := (defL_wf i (.inl rfl)).pl hi
end Go.Proofs.Qxb6500784a
