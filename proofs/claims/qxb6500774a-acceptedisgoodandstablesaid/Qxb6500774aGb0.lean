import Derived.Test.Qxb6500774aGa1
namespace Go.Proofs.Qxb6500774a
open Go.RowKit
set_option linter.unusedVariables false
set_option linter.unusedSimpArgs false

/-- a function that only reads answers b -/
def RdB (w : World) (b : Bool) (e : Ending) (w' : World) : Prop := e = .returned (.bool b) ∧ Ex (fun _ => False) w w'
abbrev ND : Nat → Prop := fun _ => False
theorem rv_nil (w : World) (g : Nat) : RV w g [] := fun j v h => by simp at h
theorem RC.rv {w : World} {g : Nat} {f : XP} (h : RC w g 0 f) : RV w g [xL f].flatten := fun j v hj => by
  have e : [xL f].flatten = xL f := by simp
  rw [e] at hj
  unfold xL at hj
  match j, hj with
  | 0, hj => injection hj with hj; rw [← hj]; exact h.c0
  | 1, hj => injection hj with hj; rw [← hj]; exact h.c1
  | 2, hj => injection hj with hj; rw [← hj]; exact h.c2
  | 3, hj => injection hj with hj; rw [← hj]; exact h.c3
  | 4, hj => injection hj with hj; rw [← hj]; exact h.c4
  | 5, hj => injection hj with hj; rw [← hj]; exact h.c5
  | 6, hj => injection hj with hj; rw [← hj]; exact h.c6
  | j + 7, hj => simp at hj
theorem RC.rv2 {w : World} {g : Nat} {f f2 : XP} (h : RC w g 0 f) (k : RC w g 7 f2) : RV w g [xL f, xL f2].flatten := fun j v hj => by
  have e : [xL f, xL f2].flatten = xL f ++ xL f2 := by simp
  rw [e] at hj
  by_cases hlt : j < 7
  · rw [List.getElem?_append_left (by exact hlt)] at hj
    exact h.rv j v (by simpa using hj)
  · obtain ⟨i, rfl⟩ : ∃ i, j = 7 + i := ⟨j - 7, by omega⟩
    rw [List.getElem?_append_right (by show 7 ≤ _; omega), show 7 + i - (xL f).length = i by show 7 + i - 7 = i; omega] at hj
    unfold xL at hj
    match i, hj with
    | 0, hj => injection hj with hj; rw [← hj]; exact k.c0
    | 1, hj => injection hj with hj; rw [← hj]; exact k.c1
    | 2, hj => injection hj with hj; rw [← hj]; exact k.c2
    | 3, hj => injection hj with hj; rw [← hj]; exact k.c3
    | 4, hj => injection hj with hj; rw [← hj]; exact k.c4
    | 5, hj => injection hj with hj; rw [← hj]; exact k.c5
    | 6, hj => injection hj with hj; rw [← hj]; exact k.c6
    | i + 7, hj => simp at hj
theorem xL_len (KS : List XP) : ∀ V ∈ KS.map xL, V.length = 7 := fun V h => by
  obtain ⟨f, _, rfl⟩ := List.mem_map.1 h
  rfl
/-- an expression's kids -/
def ksOf (w : World) : E → XP → List XP → Prop
  | .fld e _ _ _, _, KS => ∃ f1, KS = [f1] ∧ ET w ND e f1
  | .idx e i _ _, _, KS => ∃ f1 f2, KS = [f1, f2] ∧ ET w ND e f1 ∧ ET w ND i f2
  | .un _ e _ _, _, KS => ∃ f1, KS = [f1] ∧ ET w ND e f1
  | .bin _ a b _ _, _, KS => ∃ f1 f2, KS = [f1, f2] ∧ ET w ND a f1 ∧ ET w ND b f2
  | _, _, KS => KS = []
theorem ET.ks {w : World} {e : E} {f : XP} (h : ET w ND e f) : ∃ KS, RW w ND (KS.map xL) ⟨f.q, f.ql, f.qc⟩ ∧ ksOf w e f KS := by
  have m1 : (1 : Nat) ≤ maxLen := by decide
  have m2 : (2 : Nat) ≤ maxLen := by decide
  cases e with
  | num v l c => rw [show f = _ from h]; exact ⟨[], RW.nil w ND, rfl⟩
  | tim v l c => rw [show f = _ from h]; exact ⟨[], RW.nil w ND, rfl⟩
  | bol v l c => rw [show f = _ from h]; exact ⟨[], RW.nil w ND, rfl⟩
  | nm x l c => rw [show f = _ from h]; exact ⟨[], RW.nil w ND, rfl⟩
  | fld e x l c =>
    obtain ⟨g, f1, h1, h2, h3, h4⟩ := h
    rw [h1]
    exact ⟨[f1], ⟨rfl, ⟨Nat.le_refl _, m1⟩, fun _ => ⟨g, rfl, h2, h3.rv⟩⟩, f1, rfl, h4⟩
  | idx e i l c =>
    obtain ⟨g, f1, f2, h1, h2, h3, h4, h5, h6⟩ := h
    rw [h1]
    exact ⟨[f1, f2], ⟨rfl, ⟨Nat.le_refl _, m2⟩, fun _ => ⟨g, rfl, h2, h3.rv2 h4⟩⟩, f1, f2, rfl, h5, h6⟩
  | un op e l c =>
    obtain ⟨g, f1, h1, h2, h3, h4⟩ := h
    rw [h1]
    exact ⟨[f1], ⟨rfl, ⟨Nat.le_refl _, m1⟩, fun _ => ⟨g, rfl, h2, h3.rv⟩⟩, f1, rfl, h4⟩
  | bin op a b l c =>
    obtain ⟨g, f1, f2, h1, h2, h3, h4, h5, h6⟩ := h
    rw [h1]
    exact ⟨[f1, f2], ⟨rfl, ⟨Nat.le_refl _, m2⟩, fun _ => ⟨g, rfl, h2, h3.rv2 h4⟩⟩, f1, f2, rfl, h5, h6⟩
theorem ET.low {w w' : World} {e : E} {f : XP} (h : ET w ND e f) (ex : Ex (fun _ => False) w w') : ET w' ND e f := h.keep ex (fun _ z => z.elim) (fun _ z => z.elim)
theorem RW.low {w w' : World} {F : List (List Value)} {v : SLc} (h : RW w ND F v) (ex : Ex (fun _ => False) w w') : RW w' ND F v := h.keep ex (fun _ z => z.elim) (fun _ z => z.elim)
theorem ET.pl {w : World} {e : E} {f : XP} (h : ET w ND e f) (hp : e.isPl = true) : (decide (f.k = 3) || decide (f.k = 4) || decide (f.k = 5)) = true := by
  cases e with
  | nm x l c => rw [show f = _ from h]; rfl
  | fld e x l c => obtain ⟨g, f1, h1, _⟩ := h; rw [h1]; rfl
  | idx e i l c => obtain ⟨g, f1, f2, h1, _⟩ := h; rw [h1]; rfl
  | _ => cases hp
theorem RW.cell {w : World} {KS : List XP} {g n c : Nat} (h : RW w ND (KS.map xL) ⟨some ⟨g, 0, none⟩, n, c⟩) {k : Nat} {f : XP} (hk : KS[k]? = some f) : RV w g (KS.map xL).flatten ∧ (KS.map xL)[k]? = some (xL f) := by
  have hlt := (List.getElem?_eq_some_iff.1 hk).1
  obtain ⟨g', e1, e2, e3⟩ := h.2.2 (by have := h.1; rw [List.length_map] at this; show 0 < n; have : n = KS.length := this; omega)
  injection e1 with e1
  injection e1 with e1
  subst e1
  exact ⟨e3, by rw [List.getElem?_map, hk]; rfl⟩
def GEX (e : E) : Prop := ∀ (w : World) (f : XP), ET w ND e f → Calls Try.prog 27 #[xV f] w (RdB w true)
end Go.Proofs.Qxb6500774a
