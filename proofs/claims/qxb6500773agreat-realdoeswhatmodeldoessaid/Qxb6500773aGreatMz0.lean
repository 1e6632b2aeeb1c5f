import Derived.Test.Qxb6500773aGreatMy
namespace Go.Proofs.Qxb6500773aGreat
open Go.RowKit

inductive FmO where
  | ok (nv : Int) (F : List (List Int))
  | bad (er ln col : Int)
/-- the clauses of a list of tokens; the text ends at line el, column ec -/
def fmA (el ec vars cnt : Int) : List (List Int) → List Int → List Tk → FmO
  | F, C, [] => if 0 < C.length then .bad 11 el ec else if (F.length : Int) = cnt then .ok vars F else .bad 12 el ec
  | F, C, t :: r => if (litM t.t).2 ≠ 0 then .bad (litM t.t).2 t.ln t.col else if (F.length : Int) = cnt then .bad 12 t.ln t.col else if vars < absP (litM t.t).1 then .bad 10 t.ln t.col
     else if (litM t.t).1 = 0 then fmA el ec vars cnt (F ++ [C]) [] r else fmA el ec vars cnt F (C ++ [(litM t.t).1]) r
def tg (Ts : List Tk) (i : Nat) : Tk := Ts.getD i ⟨[], 0, 0⟩
def hdC (Ts : List Tk) (f : Int) : Nat := (Ts.filter (fun t => t.ln == f)).length
def badT (er : Int) (t : Tk) : FmO := .bad er t.ln t.col
/-- the header, from the fifth token, the fourth, .. -/
def fm5 (el ec : Int) (Ts : List Tk) (h : Nat) (vars cnt : Int) : FmO := if 4 < h then badT 7 (tg Ts 4) else fmA el ec vars cnt [] [] (Ts.drop 4)
def fm4 (el ec e0 : Int) (Ts : List Tk) (h : Nat) (f vars : Int) : FmO := if h < 4 then .bad 7 f e0 else if digM (tg Ts 3).t = true then (if numM (tg Ts 3).t 2147483647 < 0 then badT 8 (tg Ts 3) else fm5 el ec Ts h vars (numM (tg Ts 3).t 2147483647)) else badT 7 (tg Ts 3)
def fm3 (el ec e0 : Int) (Ts : List Tk) (h : Nat) (f : Int) : FmO := if h < 3 then .bad 7 f e0 else if digM (tg Ts 2).t = true then (if numM (tg Ts 2).t 16777215 < 0 then badT 3 (tg Ts 2) else fm4 el ec e0 Ts h f (numM (tg Ts 2).t 16777215)) else badT 7 (tg Ts 2)
def fm2 (el ec e0 : Int) (Ts : List Tk) (h : Nat) (f : Int) : FmO := if h < 2 then .bad 7 f e0 else if ((tg Ts 1).t == [99, 110, 102]) = true then fm3 el ec e0 Ts h f else badT 7 (tg Ts 1)
def fm1 (el ec e0 : Int) (Ts : List Tk) : FmO := if ((tg Ts 0).t == [112]) = true then fm2 el ec e0 Ts (hdC Ts (tg Ts 0).ln) (tg Ts 0).ln else badT 6 (tg Ts 0)
def fmP (X : List Int) : FmO := if (tkP X).length = 0 then .bad 6 ((lnP X).length : Int) (eolM X ((lnP X).length - 1)) else fm1 ((lnP X).length : Int) (eolM X ((lnP X).length - 1)) (eolM X ((tg (tkP X) 0).ln - 1).toNat) (tkP X)
def FmoPost (w : World) (R : FmO) (e : Ending) (w' : World) : Prop := Ex (fun _ => False) w w' ∧ match R with
  | .ok nv F => ∃ v n, e = .returned (.tuple #[.agg #[.int .i64 nv, v], fltV 0 0 0]) ∧ LP .i64 e1 t1 1 30 w.heap.size w' F v n
  | .bad er ln col => e = .returned (.tuple #[.agg #[.int .i64 0, .slice none 0 0], fltV er ln col])
theorem litM_rng (X : List Int) : -16777215 ≤ (litM X).1 ∧ (litM X).1 ≤ 16777215 := by
  have h : ∀ neg Z, -16777215 ≤ (tlM neg Z).1 ∧ (tlM neg Z).1 ≤ 16777215 := fun neg Z => by
    have h1 := numM_le Z
    unfold tlM
    split
    · split
      · exact ⟨by decide, by decide⟩
      · split
        · exact ⟨by decide, by decide⟩
        · split
          · exact ⟨by show -16777215 ≤ -numM Z 16777215; omega, by show -numM Z 16777215 ≤ 16777215; omega⟩
          · exact ⟨by show -16777215 ≤ numM Z 16777215; omega, h1⟩
    · exact ⟨by decide, by decide⟩
  unfold litM
  split
  · exact h _ _
  · split <;> exact h _ _
theorem tkA_ln (ln : Int) (k : Nat) : ∀ (Y : List Int) (out : List Tk) (cur : List Int) (i : Nat), ∀ t ∈ tkA ln k out cur i Y, t ∈ out ∨ t.ln = ln
  | [], out, cur, i, t, h => .inl h
  | b :: r, out, cur, i, t, h => by
    unfold tkA at h
    have app : ∀ (x : Tk), t ∈ out ++ [x] → t ∈ out ∨ t = x := fun x hx => by simpa using hx
    split at h
    · split at h
      · rcases tkA_ln ln k r _ _ _ t h with q | q
        · rcases app _ q with q | q
          · exact .inl q
          · subst q; exact .inr rfl
        · exact .inr q
      · exact tkA_ln ln k r _ _ _ t h
    · split at h
      · rcases tkA_ln ln k r _ _ _ t h with q | q
        · rcases app _ q with q | q
          · exact .inl q
          · subst q; exact .inr rfl
        · exact .inr q
      · exact tkA_ln ln k r _ _ _ t h
theorem tkL_ln : ∀ (L : List (List Int)) (out : List Tk) (n : Nat), ∀ t ∈ tkL out n L, t ∈ out ∨ ∃ k : Nat, n ≤ k ∧ k < n + L.length ∧ t.ln = (k : Int) + 1
  | [], out, n, t, h => .inl h
  | Y :: r, out, n, t, h => by
    unfold tkL at h
    rw [List.length_cons]
    split at h
    · rcases tkL_ln r _ _ t h with q | ⟨k, h1, h2, h3⟩
      · exact .inl q
      · exact .inr ⟨k, by omega, by omega, h3⟩
    · rcases tkL_ln r _ _ t h with q | ⟨k, h1, h2, h3⟩
      · rcases tkA_ln _ _ Y _ _ _ t q with q | q
        · exact .inl q
        · exact .inr ⟨n, by omega, by omega, q⟩
      · exact .inr ⟨k, by omega, by omega, h3⟩
theorem tkP_ln {X : List Int} {t : Tk} (h : t ∈ tkP X) : ∃ k : Nat, k < (lnP X).length ∧ t.ln = (k : Int) + 1 := by
  rcases tkL_ln (lnP X) [] 0 t h with q | ⟨k, _, h2, h3⟩
  · cases q
  · exact ⟨k, by omega, h3⟩
theorem hdC_succ {Ts : List Tk} {i : Nat} {t : Tk} (h : Ts[i]? = some t) (f : Int) : hdC (Ts.take (i + 1)) f = hdC (Ts.take i) f + (if t.ln = f then 1 else 0) := by
  unfold hdC
  rw [List.take_add_one, h, List.filter_append, List.length_append]
  by_cases z : t.ln = f <;> simp [z]
theorem hdC_le (Ts : List Tk) (f : Int) (i : Nat) : hdC (Ts.take i) f ≤ i := Nat.le_trans (List.length_filter_le _ _) (by rw [List.length_take]; omega)
theorem tg_at {Ts : List Tk} {i : Nat} (h : i < Ts.length) : Ts[i]? = some (tg Ts i) := by unfold tg; rw [List.getD_eq_getElem?_getD, List.getElem?_eq_getElem h]; rfl
/-- the parser's own blocks: the results in a and b, the empty formula in N -/
structure PH (w wx : World) (a b N : Nat) : Prop where
  ex : Ex (fun _ => False) w wx
  a0 : wx.cell? ⟨a, 0, none⟩ = some (.int .i64 0)
  a1 : wx.cell? ⟨a, 1, none⟩ = some (.slice none 0 0)
  af : ∀ j, wx.frozen? ⟨a, j, none⟩ = false
  b0 : wx.cell? ⟨b, 0, none⟩ = some (.int .i64 0)
  b1 : wx.cell? ⟨b, 1, none⟩ = some (.int .i64 0)
  b2 : wx.cell? ⟨b, 2, none⟩ = some (.int .i64 0)
  bf : ∀ j, wx.frozen? ⟨b, j, none⟩ = false
  n0 : wx.cell? ⟨N, 0, none⟩ = some (.int .i64 0)
  n1 : wx.cell? ⟨N, 1, none⟩ = some (.slice none 0 0)
  ga : w.heap.size ≤ a
  gb : w.heap.size ≤ b
  ab : a ≠ b
  na : N ≠ a
  nb : N ≠ b
theorem PH.keepS {w wx wy : World} {a b N : Nat} (h : PH w wx a b N) {S : Nat → Prop} (e : Ex S wx wy) (ha : ¬ S a) (hb : ¬ S b) (hn : ¬ S N) (hw : ∀ j, S j → w.heap.size ≤ j) : PH w wy a b N :=
  ⟨h.ex.trans2 e (fun j z => .inr (hw j z)), e.cell ha h.a0, e.cell ha h.a1, fun j => (e.frozen ha (World.block_lt_of_cell? _ _ h.a0)).trans (h.af j), e.cell hb h.b0, e.cell hb h.b1, e.cell hb h.b2, fun j => (e.frozen hb (World.block_lt_of_cell? _ _ h.b0)).trans (h.bf j), e.cell hn h.n0, e.cell hn h.n1, h.ga, h.gb, h.ab, h.na, h.nb⟩
theorem PH.keep {w wx wy : World} {a b N : Nat} (h : PH w wx a b N) (e : Ex (fun _ => False) wx wy) : PH w wy a b N := h.keepS e (fun z => z) (fun z => z) (fun z => z) (fun _ z => z.elim)
theorem PH.lt {w wx : World} {a b N : Nat} (h : PH w wx a b N) : a < wx.heap.size ∧ b < wx.heap.size ∧ N < wx.heap.size := ⟨World.block_lt_of_cell? _ _ h.a0, World.block_lt_of_cell? _ _ h.b0, World.block_lt_of_cell? _ _ h.n0⟩
def phW (w : World) : World := ((w.alloc (.cells #[.int .i64 0, .slice none 0 0] 29)).alloc (.cells #[.int .i64 0, .int .i64 0, .int .i64 0] 41)).alloc (.cells #[.int .i64 0, .slice none 0 0] 29)
theorem ph_new (w : World) : PH w (phW w) w.heap.size (w.heap.size + 1) (w.heap.size + 1 + 1) := by
  have k1 : Ex (fun _ => False) (w.alloc (.cells #[.int .i64 0, .slice none 0 0] 29)) (phW w) := ((Ex.refl _ _).alloc _).alloc _
  have k2 : Ex (fun _ => False) ((w.alloc (.cells #[.int .i64 0, .slice none 0 0] 29)).alloc (.cells #[.int .i64 0, .int .i64 0, .int .i64 0] 41)) (phW w) := (Ex.refl _ _).alloc _
  have ha : ∀ j u, [Value.int .i64 0, .slice none 0 0][j]? = some u → (phW w).cell? ⟨w.heap.size, j, none⟩ = some u := fun j u hj => by
    have := new_cells w [.int .i64 0, .slice none 0 0] 29 j u hj
    rw [Addr.add_mid, Nat.zero_add] at this
    exact k1.cell (fun z => z) this
  have hb : ∀ j u, [Value.int .i64 0, .int .i64 0, .int .i64 0][j]? = some u → (phW w).cell? ⟨w.heap.size + 1, j, none⟩ = some u := fun j u hj => by
    have := new_cells (w.alloc (.cells #[.int .i64 0, .slice none 0 0] 29)) [.int .i64 0, .int .i64 0, .int .i64 0] 41 j u hj
    rw [szAl, Addr.add_mid, Nat.zero_add] at this
    exact k2.cell (fun z => z) this
  have hn : ∀ j u, [Value.int .i64 0, .slice none 0 0][j]? = some u → (phW w).cell? ⟨w.heap.size + 1 + 1, j, none⟩ = some u := fun j u hj => by
    have := new_cells ((w.alloc (.cells #[.int .i64 0, .slice none 0 0] 29)).alloc (.cells #[.int .i64 0, .int .i64 0, .int .i64 0] 41)) [.int .i64 0, .slice none 0 0] 29 j u hj
    rw [szAl, szAl, Addr.add_mid, Nat.zero_add] at this
    exact this
  refine ⟨(((Ex.refl _ w).alloc _).alloc _).alloc _, ha 0 _ rfl, ha 1 _ rfl, fun j => ?_, hb 0 _ rfl, hb 1 _ rfl, hb 2 _ rfl, fun j => ?_, hn 0 _ rfl, hn 1 _ rfl, by omega, by omega, by omega, by omega, by omega⟩
  · exact (k1.frozen (fun z => z) (by rw [szAl]; omega)).trans (frozen_new w [.int .i64 0, .slice none 0 0] 29 j)
  · have := frozen_new (w.alloc (.cells #[.int .i64 0, .slice none 0 0] 29)) [.int .i64 0, .int .i64 0, .int .i64 0] 41 j
    rw [szAl] at this
    exact (k2.frozen (fun z => z) (by rw [szAl, szAl]; omega)).trans this
theorem LP.atG {α : Type} {k : IntKind} {enc : α → Value → List Value} {txt : α → List Int} {s T B g n cv : Nat} {w : World} {F : List α} (h : LP k enc txt s T B w F (.slice (some ⟨g, 0, none⟩) n cv) n) (hs : ∀ x y, (enc x y).length = s) {j : Nat} {x : α} (hj : F[j]? = some x) : ∃ a c, (∀ r, r < s → ∀ y, (enc x (.slice a (txt x).length c))[r]? = some y → w.cell? ⟨g, j * s + r, none⟩ = some y) ∧ IK k w a (txt x) ∧ (txt x).length ≤ c ∧ c ≤ maxLen ∧ ∀ g off, a = some ⟨g, off, none⟩ → g < w.heap.size ∧ ¬ g < B := by
  obtain ⟨g', cv', a, c, ev, _, h1, h2, h3, h4, h5⟩ := h.at hs hj
  injection ev with ev _ _
  injection ev with ev
  injection ev with ev
  subst ev
  exact ⟨a, c, h1, h2, h3, h4, fun g off ea => ⟨(h5 g off ea).1, fun z => (h5 g off ea).2 (.inr z)⟩⟩
theorem LP.under {α : Type} {k : IntKind} {enc : α → Value → List Value} {txt : α → List Int} {s T B n : Nat} {w w' : World} {F : List α} {v : Value} (h : LP k enc txt s T B w F v n) {S : Nat → Prop} (e : Ex S w w') (hS : ∀ j, S j → j < B) : LP k enc txt s T B w' F v n := by
  obtain ⟨V, h1, h2⟩ := h.ro
  exact ⟨h.hn, V, own_kept h1 e (fun j hj z => by have := (h1.lt j hj).1; have := hS j z; omega), h2.move e (fun g z => .inl (.inr (hS g z))) (fun g z => .inl z)⟩
/-- what the loads of a failing return read -/
def ErN (N : Nat) (w : World) : Prop := w.cell? ⟨N, 0, none⟩ = some (.int .i64 0) ∧ w.cell? ⟨N, 1, none⟩ = some (.slice none 0 0)
def ErT (N g o : Nat) (tv : Value) (ln col : Int) (w : World) : Prop := w.cell? ⟨N, 0, none⟩ = some (.int .i64 0) ∧ w.cell? ⟨N, 1, none⟩ = some (.slice none 0 0) ∧ w.cell? ⟨g, o, none⟩ = some tv ∧ w.cell? ⟨g, o + 1, none⟩ = some (.int .i64 ln) ∧ w.cell? ⟨g, o + 2, none⟩ = some (.int .i64 col)
theorem ErN.ex {N : Nat} {w w' : World} (h : ErN N w) {S : Nat → Prop} (e : Ex S w w') (hn : ¬ S N) : ErN N w' := ⟨e.cell hn h.1, e.cell hn h.2⟩
theorem ErT.ex {N g o : Nat} {tv : Value} {ln col : Int} {w w' : World} (h : ErT N g o tv ln col w) {S : Nat → Prop} (e : Ex S w w') (hn : ¬ S N) (hg : ¬ S g) : ErT N g o tv ln col w' := ⟨e.cell hn h.1, e.cell hn h.2.1, e.cell hg h.2.2.1, e.cell hg h.2.2.2.1, e.cell hg h.2.2.2.2⟩
def erA (w : World) (a : Nat) : World := (w.setCell ⟨a, 0, none⟩ (.int .i64 0)).setCell ⟨a, 1, none⟩ (.slice none 0 0)
def erB (w : World) (b : Nat) (er ln col : Int) : World := ((w.setCell ⟨b, 0, none⟩ (.int .i64 er)).setCell ⟨b, 1, none⟩ (.int .i64 ln)).setCell ⟨b, 2, none⟩ (.int .i64 col)
theorem erA_ex (w : World) (a : Nat) : Ex (fun j => j = a) w (erA w a) := ((Ex.refl (fun j => j = a) w).set (p := a) rfl _).set (p := a) rfl _
theorem erB_ex (w : World) (b : Nat) (er ln col : Int) : Ex (fun j => j = b) w (erB w b er ln col) := (((Ex.refl (fun j => j = b) w).set (p := b) rfl _).set (p := b) rfl _).set (p := b) rfl _
theorem PH.fin {w wx : World} {a b N : Nat} (h : PH w wx a b N) (er ln col : Int) : Ex (fun _ => False) w (erB (erA wx a) b er ln col) := (h.ex.trans2 (erA_ex wx a) (fun j z => .inr (by subst z; exact h.ga))).trans2 (erB_ex _ b er ln col) (fun j z => .inr (by subst z; exact h.gb))
/-- the clauses at work: the formula in block q -/
structure FS (w3 : World) (B q : Nat) (wx : World) (F : List (List Int)) (v : Value) (n : Nat) (C : List Int) (u : Value) (m : Nat) (nv : Int) (vq : Value) : Prop where
  lo : LO .i64 e1 t1 1 30 3 B (fun j => j < B ∨ j = q) (fun j => B ≤ j ∧ j < B + 3) w3 wx F v n C u m
  q0 : wx.cell? ⟨q, 0, none⟩ = some (.int .i64 nv)
  q1 : wx.cell? ⟨q, 1, none⟩ = some vq
  qf : ∀ j, wx.frozen? ⟨q, j, none⟩ = false
  hq : B ≤ q ∧ q < B + 3
section
variable {w3 : World} {B q : Nat} {wx wy : World} {F : List (List Int)} {v : Value} {n : Nat} {C : List Int} {u : Value} {m : Nat} {nv : Int} {vq : Value}
theorem FS.lt (h : FS w3 B q wx F v n C u m nv vq) : q < wx.heap.size := World.block_lt_of_cell? _ _ h.q0
theorem FS.mv (h : FS w3 B q wx F v n C u m nv vq) {S : Nat → Prop} (e : Ex S wx wy) (hs : ¬ S q) {F' : List (List Int)} {v' : Value} {n' : Nat} {C' : List Int} {u' : Value} {m' : Nat} (hl : LO .i64 e1 t1 1 30 3 B (fun j => j < B ∨ j = q) (fun j => B ≤ j ∧ j < B + 3) w3 wy F' v' n' C' u' m') : FS w3 B q wy F' v' n' C' u' m' nv vq :=
  ⟨hl, e.cell hs h.q0, e.cell hs h.q1, fun j => (e.frozen hs h.lt).trans (h.qf j), h.hq⟩
theorem FS.keep (h : FS w3 B q wx F v n C u m nv vq) (e : Ex (fun _ => False) wx wy) : FS w3 B q wy F v n C u m nv vq := h.mv e (fun z => z) (h.lo.keep e)
theorem FS.al (h : FS w3 B q wx F v n C u m nv vq) (o : Obj) : FS w3 B q (wx.alloc o) F v n C u m nv vq := h.keep (Ex.of (be1 wx o))
theorem FS.st1 (h : FS w3 B q wx F v n C u m nv vq) (x : Value) : FS w3 B q (wx.setCell ⟨q, 1, none⟩ x) F v n C u m nv x := by
  have e : Ex (fun j => j = q) wx (wx.setCell ⟨q, 1, none⟩ x) := (Ex.refl (fun j => j = q) wx).set (p := q) rfl _
  exact ⟨h.lo.aside e (fun j z => .inr z) (fun j z => .inl (by subst z; exact h.hq)), by rw [World.cell?_setCell_other _ _ _ _ (fun z => by injection z with _ z; cases z)]; exact h.q0, World.cell?_setCell_same _ _ _ h.q1, fun j => by rw [set_frozen]; exact h.qf j, h.hq⟩
theorem FS.num (h : FS w3 B q wx F v n C u m nv vq) {x : Int} {g c : Nat} (hr : wy.ownsRow B 3 1 (.slice (some ⟨g, 0, none⟩) (m + 1) c) (m + 1) (C.map (Value.int .i64) ++ [.int .i64 x])) (hg : wx.grownBy wy u.ownBlock) (hat : u.ownBlock = some g ∨ g = wx.heap.size) : FS w3 B q wy F v n (C ++ [x]) (.slice (some ⟨g, 0, none⟩) (m + 1) c) (m + 1) nv vq :=
  h.mv (Ex.ofGrown hg (S := fun j => u.ownBlock = some j) (fun _ z => z.symm)) (fun z => h.lo.xu q z (.inr rfl)) (h.lo.num hr hg hat)
/-- the clause at work joins, and a new one is begun -/
theorem FS.push {a : Option Addr} {c : Nat} (h : FS w3 B q wx F v n C (.slice a m c) m nv vq) {g c' : Nat} {V : List Value} (h2 : RG .i64 e1 t1 wx (fun j => v.ownBlock = some j ∨ (Value.slice a m c).ownBlock = some j ∨ (j < B ∨ j = q)) V F) (hr : wy.ownsRow B 30 1 (.slice (some ⟨g, 0, none⟩) (n + 1) c') (n + 1) (V ++ [.slice a m c])) (hg : wx.grownBy wy v.ownBlock) (hat : v.ownBlock = some g ∨ g = wx.heap.size) : FS w3 B q ((wy.setCell ⟨q, 1, none⟩ (.slice (some ⟨g, 0, none⟩) (n + 1) c')).alloc (.cells #[] 3)) (F ++ [C]) (.slice (some ⟨g, 0, none⟩) (n + 1) c') (n + 1) [] (.slice (some ⟨wy.heap.size, 0, none⟩) 0 0) 0 nv (.slice (some ⟨g, 0, none⟩) (n + 1) c') := by
  have e1 : Ex (fun j => v.ownBlock = some j) wx wy := Ex.ofGrown hg (fun _ z => z.symm)
  have e2' : Ex (fun j => v.ownBlock = some j) wx (wy.alloc (.cells #[] 3)) := e1.alloc _
  have hl := (h.lo.push (x := C) rfl h2 hr hg hat).open (t := 3)
  have hq : q < wy.heap.size := Nat.lt_of_lt_of_le h.lt e1.size
  have hh := (h.mv e2' (fun z => h.lo.xv q z (.inr rfl)) hl).st1 (.slice (some ⟨g, 0, none⟩) (n + 1) c')
  rw [World.setCell_alloc_past _ _ _ _ hq] at hh
  exact hh
end
/-- .. begun in a world -/
def fsW (w : World) (nv : Int) : World := ((w.alloc (.cells #[] 30)).alloc (.cells #[.int .i64 nv, .slice (some ⟨w.heap.size, 0, none⟩) 0 0] 29)).alloc (.cells #[] 3)
theorem fs_new (w : World) (nv : Int) : FS (fsW w nv) w.heap.size (w.heap.size + 1) (fsW w nv) [] (.slice (some ⟨w.heap.size, 0, none⟩) 0 0) 0 [] (.slice (some ⟨w.heap.size + 1 + 1, 0, none⟩) 0 0) 0 nv (.slice (some ⟨w.heap.size, 0, none⟩) 0 0) ∧ Ex (fun _ => False) w (fsW w nv) := by
  have hsz : (fsW w nv).heap.size = w.heap.size + 3 := by unfold fsW; simp only [szAl]
  have r1 : (fsW w nv).ownsRow w.heap.size 30 1 (.slice (some ⟨w.heap.size, 0, none⟩) 0 0) 0 [] := own_kept (own_zr w w.heap.size 30 1 (Nat.le_refl _)) (((Ex.refl (fun _ => False) _).alloc _).alloc _) (fun _ _ z => z)
  have r2 : (fsW w nv).ownsRow w.heap.size 3 1 (.slice (some ⟨w.heap.size + 1 + 1, 0, none⟩) 0 0) 0 [] := by
    have := own_zr ((w.alloc (.cells #[] 30)).alloc (.cells #[.int .i64 nv, .slice (some ⟨w.heap.size, 0, none⟩) 0 0] 29)) w.heap.size 3 1 (by rw [szAl, szAl]; omega)
    rw [szAl, szAl] at this
    exact this
  have k2 : Ex (fun _ => False) ((w.alloc (.cells #[] 30)).alloc (.cells #[.int .i64 nv, .slice (some ⟨w.heap.size, 0, none⟩) 0 0] 29)) (fsW w nv) := (Ex.refl _ _).alloc _
  have hq : ∀ j u, [Value.int .i64 nv, .slice (some ⟨w.heap.size, 0, none⟩) 0 0][j]? = some u → (fsW w nv).cell? ⟨w.heap.size + 1, j, none⟩ = some u := fun j u hj => by
    have := new_cells (w.alloc (.cells #[] 30)) [.int .i64 nv, .slice (some ⟨w.heap.size, 0, none⟩) 0 0] 29 j u hj
    rw [szAl, Addr.add_mid, Nat.zero_add] at this
    exact k2.cell (fun z => z) this
  refine ⟨⟨⟨rfl, rfl, ⟨[], r1, .nil⟩, r2, fun j h1 h2 => ?_, Ex.refl _ _, fun j h => ?_, fun j h => ?_, fun j h z => ?_, fun j h z => ?_, fun j z => ?_, by omega⟩, hq 0 _ rfl, hq 1 _ rfl, fun j => ?_, by omega⟩, (((Ex.refl _ w).alloc _).alloc _).alloc _⟩
  · simp [Value.ownBlock] at h1 h2; omega
  · simp [Value.ownBlock] at h; exact .inl (by omega)
  · simp [Value.ownBlock] at h; exact .inl (by omega)
  · simp [Value.ownBlock] at h; rcases z with z | z <;> omega
  · simp [Value.ownBlock] at h; rcases z with z | z <;> omega
  · rcases z with z | z <;> omega
  · have := frozen_new (w.alloc (.cells #[] 30)) [.int .i64 nv, .slice (some ⟨w.heap.size, 0, none⟩) 0 0] 29 j
    rw [szAl] at this
    exact (k2.frozen (fun z => z) (by rw [szAl, szAl]; omega)).trans this
end Go.Proofs.Qxb6500773aGreat
