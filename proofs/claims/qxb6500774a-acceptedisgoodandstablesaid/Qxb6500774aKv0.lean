import Derived.Test.Qxb6500774aKu
namespace Go.Proofs.Qxb6500774a
open Go.RowKit
set_option linter.unusedVariables false
set_option linter.unusedSimpArgs false

/-! ### Declarations -/
structure Dc where
  cls : ByteArray
  nm : ByteArray
  ty : ByteArray
  arr : Bool
  lo : Int
  hi : Int
  ini : Option E
  l : Int
  c : Int
def bCOL : ByteArray := ⟨#[58]⟩
def bARY : ByteArray := ⟨#[65, 82, 82, 65, 89]⟩
def bDD : ByteArray := ⟨#[46, 46]⟩
def bOF : ByteArray := ⟨#[79, 70]⟩
def bVAR : ByteArray := ⟨#[86, 65, 82]⟩
def bVIN : ByteArray := ⟨#[86, 65, 82, 95, 73, 78, 80, 85, 84]⟩
def bVOU : ByteArray := ⟨#[86, 65, 82, 95, 79, 85, 84, 80, 85, 84]⟩
def bEVR : ByteArray := ⟨#[69, 78, 68, 95, 86, 65, 82]⟩
/-- the bounds of an array, behind ARRAY -/
def arrS (s : List Int) (st : PSt) : (Int × Int) × PSt :=
  (((takeS s 3 (expectS s bBRA st)).1.v, (takeS s 3 (expectS s bDD (takeS s 3 (expectS s bBRA st)).2)).1.v),
   expectS s bOF (expectS s bKET (takeS s 3 (expectS s bDD (takeS s 3 (expectS s bBRA st)).2)).2))
def mayArr (s : List Int) (st : PSt) : (Bool × Int × Int) × PSt := if (acceptS s bARY st).1 = true then ((true, (arrS s (acceptS s bARY st).2).1), (arrS s (acceptS s bARY st).2).2) else ((false, 0, 0), st)
def pdecl (s : List Int) (n : Nat) (cls : ByteArray) (st : PSt) : Option (Dc × PSt) :=
  if (acceptS s bASG (takeS s 2 (mayArr s (expectS s bCOL (takeS s 2 st).2)).2).2).1 = true then
    (match pj s n (.expr 1) (acceptS s bASG (takeS s 2 (mayArr s (expectS s bCOL (takeS s 2 st).2)).2).2).2 with
     | none => none
     | some (e, st4) => some (⟨cls, (takeS s 2 st).1.x, (takeS s 2 (mayArr s (expectS s bCOL (takeS s 2 st).2)).2).1.x, (mayArr s (expectS s bCOL (takeS s 2 st).2)).1.1, (mayArr s (expectS s bCOL (takeS s 2 st).2)).1.2.1, (mayArr s (expectS s bCOL (takeS s 2 st).2)).1.2.2, some e, (tokS s st).l, (tokS s st).c⟩, expectS s bSEM st4))
  else some (⟨cls, (takeS s 2 st).1.x, (takeS s 2 (mayArr s (expectS s bCOL (takeS s 2 st).2)).2).1.x, (mayArr s (expectS s bCOL (takeS s 2 st).2)).1.1, (mayArr s (expectS s bCOL (takeS s 2 st).2)).1.2.1, (mayArr s (expectS s bCOL (takeS s 2 st).2)).1.2.2, none, (tokS s st).l, (tokS s st).c⟩, expectS s bSEM (takeS s 2 (mayArr s (expectS s bCOL (takeS s 2 st).2)).2).2)
def isVar (s : List Int) (st : PSt) : Bool := atS s bVAR st || atS s bVIN st || atS s bVOU st
inductive BJob where
  | outer
  | inner (cls : ByteArray)
def pbl (s : List Int) : Nat → BJob → PSt → Option (List Dc × PSt)
  | 0, _, _ => none
  | n + 1, .outer, st => if isVar s st = true then pbl s n (.inner (takeS s 5 st).1.x) (takeS s 5 st).2 else some ([], st)
  | n + 1, .inner cls, st => if (tokS s st).k = 2 then
      (match pdecl s n cls st with
       | none => none
       | some (x, st1) => match pbl s n (.inner cls) st1 with
         | none => none
         | some (L, st2) => some (x :: L, st2))
    else pbl s n .outer (expectS s bEVR st)
theorem arrS_da {s : List Int} {d : Int} {st : PSt} (h : DA d st) : DA d (arrS s st).2 := expectS_da (expectS_da (takeS_da (expectS_da (takeS_da (expectS_da h _) 3) _) 3) _) _
theorem mayArr_da {s : List Int} {d : Int} {st : PSt} (h : DA d st) : DA d (mayArr s st).2 := by
  unfold mayArr
  split
  · exact arrS_da (acceptS_da h _)
  · exact h
theorem pdecl_da {s : List Int} {n : Nat} {cls : ByteArray} {d : Int} {st : PSt} {R : Dc × PSt} (h : pdecl s n cls st = some R) (hd : DA d st) : DA d R.2 := by
  unfold pdecl at h
  have h1 : DA d (takeS s 2 (mayArr s (expectS s bCOL (takeS s 2 st).2)).2).2 := takeS_da (mayArr_da (expectS_da (takeS_da hd 2) _)) 2
  split at h
  · split at h
    · cases h
    · next e st4 h4 => injection h with h; rw [← h]; exact expectS_da (pj_da s _ _ _ _ d h4 (acceptS_da h1 _)) _
  · injection h with h; rw [← h]; exact expectS_da h1 _
theorem pbl_da (s : List Int) : ∀ (n : Nat) (j : BJob) (st : PSt) (R : List Dc × PSt) (d : Int), pbl s n j st = some R → DA d st → DA d R.2 := by
  intro n
  induction n with
  | zero => intro j st R d h; unfold pbl at h; cases h
  | succ n ih =>
    intro j st R d h hd
    cases j with
    | outer =>
      unfold pbl at h
      split at h
      · exact ih _ _ _ d h (takeS_da hd 5)
      · injection h with h; rw [← h]; exact hd
    | inner cls =>
      unfold pbl at h
      split at h
      · split at h
        · cases h
        · next x st1 h1 =>
          split at h
          · cases h
          · next L st2 h2 => injection h with h; rw [← h]; exact ih _ _ (L, st2) d h2 (pdecl_da h1 hd)
      · exact ih _ _ _ d h (expectS_da hd _)
section
variable (s : List Int) (er l c : Int)
theorem arr_bad : (arrS s (.bad er l c)).2 = .bad er l c := by
  unfold arrS
  dsimp only
  rw [expect_bad, take_bad, expect_bad, take_bad, expect_bad, expect_bad]
theorem mayArr_bad : (mayArr s (.bad er l c)).2 = .bad er l c := by
  unfold mayArr
  rw [accept_bad, if_neg Bool.false_ne_true]
theorem pdecl_bad {n : Nat} {cls : ByteArray} {R : Dc × PSt} (h : pdecl s n cls (.bad er l c) = some R) : R.2 = .bad er l c := by
  unfold pdecl at h
  rw [take_bad, expect_bad, mayArr_bad, take_bad, accept_bad, if_neg Bool.false_ne_true, expect_bad] at h
  injection h with h; rw [← h]
theorem pbl_bad : ∀ (n : Nat) (j : BJob) (R : List Dc × PSt), pbl s n j (.bad er l c) = some R → R.2 = .bad er l c := by
  intro n
  induction n with
  | zero => intro j R h; unfold pbl at h; cases h
  | succ n ih =>
    intro j R h
    cases j with
    | outer =>
      unfold pbl at h
      rw [if_neg (by simp [isVar, atS])] at h
      injection h with h; rw [← h]
    | inner cls =>
      unfold pbl at h
      rw [if_neg (by simp [tokS]), expect_bad] at h
      exact ih _ _ h
end
section
variable {s : List Int}
theorem isAt.mayArr {st : PSt} {d : Int} (hd : DA d st) (h0 : 0 ≤ d ∧ d ≤ 64) (h : isAt (mayArr s st).2) : isAt st := isAt.of hd h0 fun z => by
  obtain ⟨e, l, c, rfl⟩ := z.ex
  rw [mayArr_bad] at h
  exact h
theorem isAt.pbl {n : Nat} {j : BJob} {st : PSt} {R : List Dc × PSt} {d : Int} (h : pbl s n j st = some R) (hd : DA d st) (h0 : 0 ≤ d ∧ d ≤ 64) (hR : isAt R.2) : isAt st := isAt.of hd h0 fun z => by
  obtain ⟨e, l, c, rfl⟩ := z.ex
  rw [pbl_bad s e l c n j R h] at hR
  exact hR
end
/-! ### In memory -/
structure DP where
  cls : ByteArray
  nm : ByteArray
  ty : ByteArray
  arr : Bool
  lo : Int
  hi : Int
  ini : SLc
  l : Int
  c : Int
def dpL (f : DP) : List Value := [.string f.cls, .string f.nm, .string f.ty, .bool f.arr, .int .i64 f.lo, .int .i64 f.hi, .slice f.ini.q f.ini.n f.ini.c, .int .i64 f.l, .int .i64 f.c]
def dpO (f : DP) : Obj := .cells #[.string f.cls, .string f.nm, .string f.ty, .bool f.arr, .int .i64 f.lo, .int .i64 f.hi, .slice f.ini.q f.ini.n f.ini.c, .int .i64 f.l, .int .i64 f.c] 66
structure DK (w : World) (r : Nat) (f : DP) : Prop where
  c0 : w.cell? ⟨r, 0, none⟩ = some (.string f.cls)
  c1 : w.cell? ⟨r, 1, none⟩ = some (.string f.nm)
  c2 : w.cell? ⟨r, 2, none⟩ = some (.string f.ty)
  c3 : w.cell? ⟨r, 3, none⟩ = some (.bool f.arr)
  c4 : w.cell? ⟨r, 4, none⟩ = some (.int .i64 f.lo)
  c5 : w.cell? ⟨r, 5, none⟩ = some (.int .i64 f.hi)
  c6 : w.cell? ⟨r, 6, none⟩ = some (.slice f.ini.q f.ini.n f.ini.c)
  c7 : w.cell? ⟨r, 7, none⟩ = some (.int .i64 f.l)
  c8 : w.cell? ⟨r, 8, none⟩ = some (.int .i64 f.c)
  fz : ∀ j, w.frozen? ⟨r, j, none⟩ = false
theorem DK.new (w : World) (f : DP) : DK (w.alloc (dpO f)) w.heap.size f := by
  have n := fun j u h => new_cells w [.string f.cls, .string f.nm, .string f.ty, .bool f.arr, .int .i64 f.lo, .int .i64 f.hi, .slice f.ini.q f.ini.n f.ini.c, .int .i64 f.l, .int .i64 f.c] 66 j u h
  exact ⟨n 0 _ rfl, n 1 _ rfl, n 2 _ rfl, n 3 _ rfl, n 4 _ rfl, n 5 _ rfl, n 6 _ rfl, n 7 _ rfl, n 8 _ rfl, fun j => by simp [go_sem, dpO]⟩
section
variable {w w' : World} {r : Nat} {f : DP}
theorem DK.lt (h : DK w r f) : r < w.heap.size := World.block_lt_of_cell? _ _ h.c0
theorem DK.keep (h : DK w r f) {T : Nat → Prop} (ex : Ex T w w') (hr : ¬ T r) : DK w' r f :=
  ⟨ex.cell hr h.c0, ex.cell hr h.c1, ex.cell hr h.c2, ex.cell hr h.c3, ex.cell hr h.c4, ex.cell hr h.c5, ex.cell hr h.c6, ex.cell hr h.c7, ex.cell hr h.c8, fun j => (ex.frozen hr h.lt).trans (h.fz j)⟩
theorem DK.put1 (h : DK w r f) (x : ByteArray) : DK (w.setCell ⟨r, 1, none⟩ (.string x)) r { f with nm := x } := by
  refine ⟨?_, ?_, ?_, ?_, ?_, ?_, ?_, ?_, ?_, fun j => by rw [set_frozen]; exact h.fz j⟩
  all_goals simp [go_sem, h.c0, h.c1, h.c2, h.c3, h.c4, h.c5, h.c6, h.c7, h.c8]
theorem DK.put2 (h : DK w r f) (x : ByteArray) : DK (w.setCell ⟨r, 2, none⟩ (.string x)) r { f with ty := x } := by
  refine ⟨?_, ?_, ?_, ?_, ?_, ?_, ?_, ?_, ?_, fun j => by rw [set_frozen]; exact h.fz j⟩
  all_goals simp [go_sem, h.c0, h.c1, h.c2, h.c3, h.c4, h.c5, h.c6, h.c7, h.c8]
theorem DK.put3 (h : DK w r f) (x : Bool) : DK (w.setCell ⟨r, 3, none⟩ (.bool x)) r { f with arr := x } := by
  refine ⟨?_, ?_, ?_, ?_, ?_, ?_, ?_, ?_, ?_, fun j => by rw [set_frozen]; exact h.fz j⟩
  all_goals simp [go_sem, h.c0, h.c1, h.c2, h.c3, h.c4, h.c5, h.c6, h.c7, h.c8]
theorem DK.put4 (h : DK w r f) (x : Int) : DK (w.setCell ⟨r, 4, none⟩ (.int .i64 x)) r { f with lo := x } := by
  refine ⟨?_, ?_, ?_, ?_, ?_, ?_, ?_, ?_, ?_, fun j => by rw [set_frozen]; exact h.fz j⟩
  all_goals simp [go_sem, h.c0, h.c1, h.c2, h.c3, h.c4, h.c5, h.c6, h.c7, h.c8]
theorem DK.put5 (h : DK w r f) (x : Int) : DK (w.setCell ⟨r, 5, none⟩ (.int .i64 x)) r { f with hi := x } := by
  refine ⟨?_, ?_, ?_, ?_, ?_, ?_, ?_, ?_, ?_, fun j => by rw [set_frozen]; exact h.fz j⟩
  all_goals simp [go_sem, h.c0, h.c1, h.c2, h.c3, h.c4, h.c5, h.c6, h.c7, h.c8]
theorem DK.put6 (h : DK w r f) (x : SLc) : DK (w.setCell ⟨r, 6, none⟩ (.slice x.q x.n x.c)) r { f with ini := x } := by
  refine ⟨?_, ?_, ?_, ?_, ?_, ?_, ?_, ?_, ?_, fun j => by rw [set_frozen]; exact h.fz j⟩
  all_goals simp [go_sem, h.c0, h.c1, h.c2, h.c3, h.c4, h.c5, h.c6, h.c7, h.c8]
end
/-- an initial value -/
def IN (w : World) (D : Nat → Prop) : Option E → SLc → Prop
  | none, v => v = nl
  | some e, v => ∃ g f, v = ⟨some ⟨g, 0, none⟩, 1, 1⟩ ∧ (g < w.heap.size ∧ ¬ D g) ∧ RC w g 0 f ∧ ET w D e f
theorem IN.keep {w w' : World} {D D' T : Nat → Prop} (ex : Ex T w w') (hS : ∀ g, T g → D g ∨ w.heap.size ≤ g) (hD : ∀ g, D' g → D g ∨ w.heap.size ≤ g) {o : Option E} {v : SLc} (h : IN w D o v) : IN w' D' o v := by
  cases o with
  | none => exact h
  | some e =>
    obtain ⟨g, f, h1, h2, h3, h4⟩ := h
    have := okD ex hS hD h2
    exact ⟨g, f, h1, this.1, h3.keep ex this.2, h4.keep ex hS hD⟩
def DS (w : World) (D : Nat → Prop) : List Dc → List (List Value) → Prop
  | [], F => F = []
  | x :: L, F => ∃ v F', F = dpL ⟨x.cls, x.nm, x.ty, x.arr, x.lo, x.hi, v, x.l, x.c⟩ :: F' ∧ IN w D x.ini v ∧ DS w D L F'
theorem DS.keep {w w' : World} {D D' T : Nat → Prop} (ex : Ex T w w') (hS : ∀ g, T g → D g ∨ w.heap.size ≤ g) (hD : ∀ g, D' g → D g ∨ w.heap.size ≤ g) : ∀ {L : List Dc} {F : List (List Value)}, DS w D L F → DS w' D' L F := by
  intro L
  induction L with
  | nil => intro F h; exact h
  | cons x L ih =>
    rintro F ⟨f, F', h1, h2, h3⟩
    exact ⟨f, F', h1, h2.keep ex hS hD, ih h3⟩
theorem DS.snoc {w : World} {D : Nat → Prop} {x : Dc} {v : SLc} (he : IN w D x.ini v) : ∀ {L : List Dc} {F : List (List Value)}, DS w D L F → DS w D (L ++ [x]) (F ++ [dpL ⟨x.cls, x.nm, x.ty, x.arr, x.lo, x.hi, v, x.l, x.c⟩]) := by
  intro L
  induction L with
  | nil => rintro F rfl; exact ⟨v, [], rfl, he, rfl⟩
  | cons y L ih =>
    rintro F ⟨f1, F', h1, h2, h3⟩
    exact ⟨f1, F' ++ _, by rw [h1]; rfl, h2, ih h3⟩
theorem DS.len {w : World} {D : Nat → Prop} : ∀ {L : List Dc} {F : List (List Value)}, DS w D L F → F.length = L.length ∧ ∀ V ∈ F, V.length = 9 := by
  intro L
  induction L with
  | nil => rintro F rfl; exact ⟨rfl, fun V h => by cases h⟩
  | cons y L ih =>
    rintro F ⟨f1, F', h1, h2, h3⟩
    have := ih h3
    subst h1
    refine ⟨by simp [this.1], fun V h => ?_⟩
    rcases List.mem_cons.1 h with rfl | h
    · rfl
    · exact this.2 V h
theorem kp_ds {st : PSt} {L : List Dc} : KP (fun w D F => isAt st → DS w D L F) := fun _ _ _ _ _ _ ex hS hD h z => (h z).keep ex hS hD
theorem Try.inf66 : (Try.prog.info? 66).map (fun i => (i.zero, i.size, i.bytes)) = some (some (.agg #[.string ⟨#[]⟩, .string ⟨#[]⟩, .string ⟨#[]⟩, .bool false, .int .i64 0, .int .i64 0, .slice none 0 0, .int .i64 0, .int .i64 0]), 9, 112) := by kernel_rfl
/-- a declaration in the making; w1 = the world where its making began -/
structure DX9 (B p : Nat) (a : Option Addr) (cp : Nat) (s : List Int) (w1 w : World) (r : Nat) (st : PSt) (f : DP) : Prop where
  ins : InS B p a cp s w st
  ex : Ex (fun k => k = p) w1 w
  te : DK w r f
  ge : w1.heap.size ≤ r
  hb : B ≤ w1.heap.size ∧ p < B
section
variable {B p r : Nat} {a : Option Addr} {cp : Nat} {s : List Int} {w1 w w' : World} {st st' : PSt} {f f' : DP}
theorem DX9.low (h : DX9 B p a cp s w1 w r st f) (ex : Ex (fun _ => False) w w') : DX9 B p a cp s w1 w' r st f :=
  ⟨h.ins.ex ex (fun _ z => z.elim), h.ex.trans (ex.mono (fun _ z => z.elim)), h.te.keep ex (fun z => z), h.ge, h.hb⟩
theorem DX9.call (h : DX9 B p a cp s w1 w r st f) (ex : Ex (fun k => k = p) w w') (hi : InS B p a cp s w' st') : DX9 B p a cp s w1 w' r st' f :=
  have b := h.hb
  have g := h.ge
  ⟨hi, h.ex.trans ex, h.te.keep ex (by omega), h.ge, h.hb⟩
theorem DX9.set (h : DX9 B p a cp s w1 w r st f) {j : Nat} {v : Value} (ht : DK (w.setCell ⟨r, j, none⟩ v) r f') : DX9 B p a cp s w1 (w.setCell ⟨r, j, none⟩ v) r st f' :=
  have b := h.hb
  have g := h.ge
  ⟨h.ins.ex (S := fun k => k = r) ((Ex.refl (fun k => k = r) w).set (p := r) rfl _) (fun k z => by omega), h.ex.setNew (p := r) h.ge _, ht, h.ge, h.hb⟩
end
end Go.Proofs.Qxb6500774a
