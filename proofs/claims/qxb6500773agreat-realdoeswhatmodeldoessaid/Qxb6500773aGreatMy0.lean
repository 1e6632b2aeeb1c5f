import Derived.Test.Qxb6500773aGreatMx
namespace Go.Proofs.Qxb6500773aGreat
open Go.RowKit

theorem Tryz.info136 : (Tryz.prog.info? 136).map (fun i => (i.zero, i.size, i.bytes)) = some (some (.agg #[.bool false, .slice none 0 0]), 2, 32) := by kernel_rfl
theorem Tryz.info30 : (Tryz.prog.info? 30).map (fun i => (i.zero, i.size, i.bytes)) = some (some (.slice none 0 0), 1, 24) := by kernel_rfl
def e2 (x : Bool × List Int) (v : Value) : List Value := [.bool x.1, v]
def t2 (x : Bool × List Int) : List Int := x.2
inductive DrO where
  | ok (P : List (Bool × List Int))
  | bad (er ln col : Int)
/-- the steps of a list of tokens; the text ends at line el, column ec -/
def drA (el ec : Int) : List (Bool × List Int) → Bool → List Int → List Tk → DrO
  | P, d, C, [] => if d = true ∨ 0 < C.length then .bad 11 el ec else .ok P
  | P, d, C, t :: r => if t.t = [100] ∧ d = false ∧ C.length = 0 then drA el ec P true C r
     else if (litM t.t).2 ≠ 0 then .bad (litM t.t).2 t.ln t.col
     else if (litM t.t).1 = 0 then drA el ec (P ++ [(d, C)]) false [] r
     else drA el ec P d (C ++ [(litM t.t).1]) r
def drP (X : List Int) : DrO := drA ((lnP X).length : Int) (eolM X ((lnP X).length - 1)) [] false [] (tkP X)
def DroPost (w : World) (R : DrO) (e : Ending) (w' : World) : Prop := Ex (fun _ => False) w w' ∧ match R with
  | .ok P => ∃ v n, e = .returned (.tuple #[v, fltV 0 0 0]) ∧ LP .i64 e2 t2 2 136 w.heap.size w' P v n
  | .bad er ln col => e = .returned (.tuple #[.slice none 0 0, fltV er ln col])
theorem beq_int0 (m : Nat) : ((m : Int) == 0) = decide (m = 0) := by
  by_cases h : m = 0 <;> simp [h]
theorem tkA_txt (ln : Int) (k : Nat) : ∀ (Y : List Int) (out : List Tk) (cur : List Int) (i : Nat), ∀ t ∈ tkA ln k out cur i Y, t ∈ out ∨ t.t.length ≤ cur.length + Y.length
  | [], out, cur, i, t, h => .inl h
  | b :: r, out, cur, i, t, h => by
    unfold tkA at h
    have app : ∀ (x : Tk), t ∈ out ++ [x] → t ∈ out ∨ t = x := fun x hx => by simpa using hx
    split at h
    · split at h
      · rcases tkA_txt ln k r _ _ _ t h with q | q
        · rcases app _ q with q | q
          · exact .inl q
          · subst q; simp
        · simp at q ⊢; exact .inr (by omega)
      · rcases tkA_txt ln k r _ _ _ t h with q | q
        · exact .inl q
        · simp at q ⊢; exact .inr (by omega)
    · split at h
      · rcases tkA_txt ln k r _ _ _ t h with q | q
        · rcases app _ q with q | q
          · exact .inl q
          · subst q; simp
        · simp at q ⊢; exact .inr (by omega)
      · rcases tkA_txt ln k r _ _ _ t h with q | q
        · exact .inl q
        · simp at q ⊢; exact .inr (by omega)
theorem tkL_txt : ∀ (L : List (List Int)) (out : List Tk) (n : Nat), ∀ t ∈ tkL out n L, t ∈ out ∨ t.t.length ≤ totL L
  | [], out, n, t, h => .inl h
  | Y :: r, out, n, t, h => by
    unfold tkL at h
    unfold totL
    split at h
    · rcases tkL_txt r _ _ t h with q | q
      · exact .inl q
      · exact .inr (by omega)
    · rcases tkL_txt r _ _ t h with q | q
      · rcases tkA_txt _ _ Y _ _ _ t q with q | q
        · exact .inl q
        · simp at q; exact .inr (by omega)
      · exact .inr (by omega)
theorem tkP_txt {X : List Int} {t : Tk} (h : t ∈ tkP X) : t.t.length ≤ X.length := by
  rcases tkL_txt (lnP X) [] 0 t h with q | q
  · cases q
  · have := (lnP_tot X).1; omega
theorem lnA_pos : ∀ (X : List Int) (F : List (List Int)) (C : List Int), 0 < (lnA F C X).length
  | [], F, C => by unfold lnA; simp
  | b :: r, F, C => by
    unfold lnA
    split
    · exact lnA_pos r _ _
    · exact lnA_pos r _ _
/-- the parser at work: steps, the step at work in block q, the result in block b -/
structure DS (w2 : World) (B W1 b q : Nat) (wx : World) (P : List (Bool × List Int)) (v : Value) (n : Nat) (d : Bool) (C : List Int) (u : Value) (m : Nat) (uq : Value) : Prop where
  lo : LO .i64 e2 t2 2 136 3 B (fun j => j < B ∨ j = b ∨ j = q) (fun j => B ≤ j ∧ j < W1) w2 wx P v n C u m
  q0 : wx.cell? ⟨q, 0, none⟩ = some (.bool d)
  q1 : wx.cell? ⟨q, 1, none⟩ = some uq
  qf : ∀ j, wx.frozen? ⟨q, j, none⟩ = false
  b0 : wx.cell? ⟨b, 0, none⟩ = some (.int .i64 0)
  b1 : wx.cell? ⟨b, 1, none⟩ = some (.int .i64 0)
  b2 : wx.cell? ⟨b, 2, none⟩ = some (.int .i64 0)
  bf : ∀ j, wx.frozen? ⟨b, j, none⟩ = false
  hq : B ≤ q ∧ q < W1
  hb : B ≤ b ∧ b < W1
  ne : b ≠ q
section
variable {w2 : World} {B W1 b q : Nat} {wx wy : World} {P : List (Bool × List Int)} {v : Value} {n : Nat} {d : Bool} {C : List Int} {u : Value} {m : Nat} {uq : Value}
theorem DS.lt (h : DS w2 B W1 b q wx P v n d C u m uq) : q < wx.heap.size ∧ b < wx.heap.size := ⟨World.block_lt_of_cell? _ _ h.q0, World.block_lt_of_cell? _ _ h.b0⟩
theorem DS.mv (h : DS w2 B W1 b q wx P v n d C u m uq) {S : Nat → Prop} (e : Ex S wx wy) (hs : ¬ S q ∧ ¬ S b) {P' : List (Bool × List Int)} {v' : Value} {n' : Nat} {C' : List Int} {u' : Value} {m' : Nat} (hl : LO .i64 e2 t2 2 136 3 B (fun j => j < B ∨ j = b ∨ j = q) (fun j => B ≤ j ∧ j < W1) w2 wy P' v' n' C' u' m') : DS w2 B W1 b q wy P' v' n' d C' u' m' uq :=
  ⟨hl, e.cell hs.1 h.q0, e.cell hs.1 h.q1, fun j => (e.frozen hs.1 h.lt.1).trans (h.qf j), e.cell hs.2 h.b0, e.cell hs.2 h.b1, e.cell hs.2 h.b2, fun j => (e.frozen hs.2 h.lt.2).trans (h.bf j), h.hq, h.hb, h.ne⟩
theorem DS.keep (h : DS w2 B W1 b q wx P v n d C u m uq) (e : Ex (fun _ => False) wx wy) : DS w2 B W1 b q wy P v n d C u m uq := h.mv e ⟨fun z => z, fun z => z⟩ (h.lo.keep e)
theorem DS.al (h : DS w2 B W1 b q wx P v n d C u m uq) (o : Obj) : DS w2 B W1 b q (wx.alloc o) P v n d C u m uq := h.keep (Ex.of (be1 wx o))
/-- a store into the step at work -/
theorem DS.st0 (h : DS w2 B W1 b q wx P v n d C u m uq) (x : Bool) : DS w2 B W1 b q (wx.setCell ⟨q, 0, none⟩ (.bool x)) P v n x C u m uq := by
  have e : Ex (fun j => j = q) wx (wx.setCell ⟨q, 0, none⟩ (.bool x)) := (Ex.refl (fun j => j = q) wx).set (p := q) rfl _
  exact ⟨h.lo.aside e (fun j z => .inr (.inr z)) (fun j z => .inl (by subst z; exact h.hq)), World.cell?_setCell_same _ _ _ h.q0, by rw [World.cell?_setCell_other _ _ _ _ (fun z => by injection z with _ z; cases z)]; exact h.q1, fun j => by rw [set_frozen]; exact h.qf j, by rw [set_cell_ne _ _ _ _ _ _ h.ne]; exact h.b0, by rw [set_cell_ne _ _ _ _ _ _ h.ne]; exact h.b1, by rw [set_cell_ne _ _ _ _ _ _ h.ne]; exact h.b2, fun j => by rw [set_frozen]; exact h.bf j, h.hq, h.hb, h.ne⟩
theorem DS.st1 (h : DS w2 B W1 b q wx P v n d C u m uq) (x : Value) : DS w2 B W1 b q (wx.setCell ⟨q, 1, none⟩ x) P v n d C u m x := by
  have e : Ex (fun j => j = q) wx (wx.setCell ⟨q, 1, none⟩ x) := (Ex.refl (fun j => j = q) wx).set (p := q) rfl _
  exact ⟨h.lo.aside e (fun j z => .inr (.inr z)) (fun j z => .inl (by subst z; exact h.hq)), by rw [World.cell?_setCell_other _ _ _ _ (fun z => by injection z with _ z; cases z)]; exact h.q0, World.cell?_setCell_same _ _ _ h.q1, fun j => by rw [set_frozen]; exact h.qf j, by rw [set_cell_ne _ _ _ _ _ _ h.ne]; exact h.b0, by rw [set_cell_ne _ _ _ _ _ _ h.ne]; exact h.b1, by rw [set_cell_ne _ _ _ _ _ _ h.ne]; exact h.b2, fun j => by rw [set_frozen]; exact h.bf j, h.hq, h.hb, h.ne⟩
theorem DS.num (h : DS w2 B W1 b q wx P v n d C u m uq) {x : Int} {g c : Nat} (hr : wy.ownsRow B 3 1 (.slice (some ⟨g, 0, none⟩) (m + 1) c) (m + 1) (C.map (Value.int .i64) ++ [.int .i64 x])) (hg : wx.grownBy wy u.ownBlock) (hat : u.ownBlock = some g ∨ g = wx.heap.size) : DS w2 B W1 b q wy P v n d (C ++ [x]) (.slice (some ⟨g, 0, none⟩) (m + 1) c) (m + 1) uq :=
  h.mv (Ex.ofGrown hg (S := fun j => u.ownBlock = some j) (fun _ z => z.symm)) ⟨fun z => h.lo.xu q z (.inr (.inr rfl)), fun z => h.lo.xu b z (.inr (.inl rfl))⟩ (h.lo.num hr hg hat)
/-- the step at work joins, and a new one is begun -/
theorem DS.push {a : Option Addr} {c : Nat} (h : DS w2 B W1 b q wx P v n d C (.slice a m c) m uq) {g c' : Nat} {V : List Value} (h2 : RG .i64 e2 t2 wx (fun j => v.ownBlock = some j ∨ (Value.slice a m c).ownBlock = some j ∨ (j < B ∨ j = b ∨ j = q)) V P) (hr : wy.ownsRow B 136 2 (.slice (some ⟨g, 0, none⟩) (n + 1) c') (n + 1) (V ++ [.bool d, .slice a m c])) (hg : wx.grownBy wy v.ownBlock) (hat : v.ownBlock = some g ∨ g = wx.heap.size) : DS w2 B W1 b q (((wy.setCell ⟨q, 0, none⟩ (.bool false)).setCell ⟨q, 1, none⟩ (.slice (some ⟨wy.heap.size, 0, none⟩) 0 0)).alloc (.cells #[] 3)) (P ++ [(d, C)]) (.slice (some ⟨g, 0, none⟩) (n + 1) c') (n + 1) false [] (.slice (some ⟨wy.heap.size, 0, none⟩) 0 0) 0 (.slice (some ⟨wy.heap.size, 0, none⟩) 0 0) := by
  have e1 : Ex (fun j => v.ownBlock = some j) wx wy := Ex.ofGrown hg (fun _ z => z.symm)
  have e2' : Ex (fun j => v.ownBlock = some j) wx (wy.alloc (.cells #[] 3)) := e1.alloc _
  have hl := (h.lo.push (x := (d, C)) rfl h2 hr hg hat).open (t := 3)
  have hq : q < wy.heap.size := Nat.lt_of_lt_of_le h.lt.1 e1.size
  have hh := ((h.mv e2' ⟨fun z => h.lo.xv q z (.inr (.inr rfl)), fun z => h.lo.xv b z (.inr (.inl rfl))⟩ hl).st0 false).st1 (.slice (some ⟨wy.heap.size, 0, none⟩) 0 0)
  rw [World.setCell_alloc_past _ _ _ _ hq, World.setCell_alloc_past _ _ _ _ (by simpa using hq)] at hh
  exact hh
end
/-- .. begun in a world -/
def pdW (w : World) : World := (((((w.alloc (.cells #[.int .i64 0, .int .i64 0, .int .i64 0] 41)).alloc (.cells #[] 136)).alloc (.cells #[] 3)).alloc (.cells #[.bool false, .slice (some ⟨w.heap.size + 1 + 1, 0, none⟩) 0 0] 136)))
theorem pd_ex (w : World) : Ex (fun _ => False) w (pdW w) := ((((Ex.refl _ w).alloc _).alloc _).alloc _).alloc _
theorem pd_size (w : World) : (pdW w).heap.size = w.heap.size + 4 := by unfold pdW; simp only [szAl]
theorem pd_new {w w2 : World} (e : Ex (fun _ => False) (pdW w) w2) : DS w2 w.heap.size (w.heap.size + 4) w.heap.size (w.heap.size + 1 + 1 + 1) w2 [] (.slice (some ⟨w.heap.size + 1, 0, none⟩) 0 0) 0 false [] (.slice (some ⟨w.heap.size + 1 + 1, 0, none⟩) 0 0) 0 (.slice (some ⟨w.heap.size + 1 + 1, 0, none⟩) 0 0) := by
  have hsz : w.heap.size + 4 ≤ w2.heap.size := by rw [← pd_size]; exact e.size
  have c0 := new_cells w [.int .i64 0, .int .i64 0, .int .i64 0] 41
  have k0 : Ex (fun _ => False) (w.alloc (.cells #[.int .i64 0, .int .i64 0, .int .i64 0] 41)) (pdW w) := ((((Ex.refl _ _).alloc _).alloc _).alloc _)
  have r1 : (pdW w).ownsRow w.heap.size 136 2 (.slice (some ⟨w.heap.size + 1, 0, none⟩) 0 0) 0 [] := by
    have := own_zr (w.alloc (.cells #[.int .i64 0, .int .i64 0, .int .i64 0] 41)) w.heap.size 136 2 (by rw [szAl]; omega)
    rw [szAl] at this
    exact own_kept this ((((Ex.refl (fun _ => False) _).alloc _).alloc _)) (fun _ _ z => z)
  have r2 : (pdW w).ownsRow w.heap.size 3 1 (.slice (some ⟨w.heap.size + 1 + 1, 0, none⟩) 0 0) 0 [] := by
    have := own_zr ((w.alloc (.cells #[.int .i64 0, .int .i64 0, .int .i64 0] 41)).alloc (.cells #[] 136)) w.heap.size 3 1 (by rw [szAl, szAl]; omega)
    rw [szAl, szAl] at this
    exact own_kept this (((Ex.refl (fun _ => False) _).alloc _)) (fun _ _ z => z)
  have hq : ∀ j u, [Value.bool false, .slice (some ⟨w.heap.size + 1 + 1, 0, none⟩) 0 0][j]? = some u → (pdW w).cell? ⟨w.heap.size + 1 + 1 + 1, j, none⟩ = some u := fun j u hj => by
    have := new_cells (((w.alloc (.cells #[.int .i64 0, .int .i64 0, .int .i64 0] 41)).alloc (.cells #[] 136)).alloc (.cells #[] 3)) [.bool false, .slice (some ⟨w.heap.size + 1 + 1, 0, none⟩) 0 0] 136 j u hj
    rw [szAl, szAl, szAl, Addr.add_mid, Nat.zero_add] at this
    exact this
  have fq : ∀ j, (pdW w).frozen? ⟨w.heap.size + 1 + 1 + 1, j, none⟩ = false := fun j => by
    have := frozen_new (((w.alloc (.cells #[.int .i64 0, .int .i64 0, .int .i64 0] 41)).alloc (.cells #[] 136)).alloc (.cells #[] 3)) [.bool false, .slice (some ⟨w.heap.size + 1 + 1, 0, none⟩) 0 0] 136 j
    rw [szAl, szAl, szAl] at this
    exact this
  have hb : ∀ j u, [Value.int .i64 0, .int .i64 0, .int .i64 0][j]? = some u → (pdW w).cell? ⟨w.heap.size, j, none⟩ = some u := fun j u hj => by
    have := c0 j u hj
    rw [Addr.add_mid, Nat.zero_add] at this
    exact k0.cell (fun z => z) this
  have hlt : w.heap.size < (w.alloc (.cells #[.int .i64 0, .int .i64 0, .int .i64 0] 41)).heap.size := by rw [szAl]; omega
  have fb : ∀ j, (pdW w).frozen? ⟨w.heap.size, j, none⟩ = false := fun j => (k0.frozen (fun z => z) hlt).trans (frozen_new w [.int .i64 0, .int .i64 0, .int .i64 0] 41 j)
  have zp : (pdW w).heap.size = w.heap.size + 4 := pd_size w
  refine ⟨⟨rfl, rfl, ⟨[], own_kept r1 e (fun _ _ z => z), .nil⟩, own_kept r2 e (fun _ _ z => z), fun j h1 h2 => ?_, Ex.refl _ _, fun j h => ?_, fun j h => ?_, fun j h z => ?_, fun j h z => ?_, fun j z => ?_, by omega⟩, e.cell (fun z => z) (hq 0 _ rfl), e.cell (fun z => z) (hq 1 _ rfl), fun j => (e.frozen (fun z => z) (by omega)).trans (fq j), e.cell (fun z => z) (hb 0 _ rfl), e.cell (fun z => z) (hb 1 _ rfl), e.cell (fun z => z) (hb 2 _ rfl), fun j => (e.frozen (fun z => z) (by omega)).trans (fb j), by omega, by omega, by omega⟩
  · simp [Value.ownBlock] at h1 h2; omega
  · simp [Value.ownBlock] at h; exact .inl (by omega)
  · simp [Value.ownBlock] at h; exact .inl (by omega)
  · simp [Value.ownBlock] at h; rcases z with z | z | z <;> omega
  · simp [Value.ownBlock] at h; rcases z with z | z | z <;> omega
  · rcases z with z | z | z <;> omega
end Go.Proofs.Qxb6500773aGreat
