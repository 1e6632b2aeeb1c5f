import Derived.Test.Qxb6500784aTm
import Derived.Test.Qxb6500784aAm
namespace Go.Proofs.Qxb6500784a
open Go.RowKit

/-! ### Arrays of four sums, and lists of messages apart from them -/
def addAt (O : Nat → Int) (k : Nat) (x : Int) : Nat → Int := fun s => if s = k then w64 (O s + x) else O s
def outF (O : Nat → Int) (m : Msg) : Nat → Int := if fld m 0 = 2 ∧ fld m 2 = 3 then addAt O (fld m 6).toNat (fld m 7) else O
def flyF (ia ib : List Msg) (F : Nat → Int) (m : Msg) : Nat → Int := if fld m 0 = 2 ∧ ((fld m 2 = 1 ∧ m ∉ ia) ∨ (fld m 2 = 2 ∧ m ∉ ib)) then addAt F (fld m 6).toNat (fld m 7) else F
def depF (O : Nat → Int) (m : Msg) : Nat → Int := addAt O (fld m 6).toNat (fld m 7)
theorem addAt_cong (O : Nat → Int) (k : Nat) (x : Int) (s : Nat) : Cong (addAt O k x s) (O s + if s = k then x else 0) := by
  unfold addAt
  split
  · exact cong_w64 _
  · exact ⟨0, by omega⟩
theorem burn_cong (ia ib : List Msg) (s : Nat) : ∀ (L : List Msg) (O F : Nat → Int), (∀ m, m ∈ L → MsgOk m) → Cong (L.foldl outF O s + L.foldl (flyF ia ib) F s) (O s + F s + sumV (val ia ib s) L)
  | [], O, F, _ => ⟨0, by simp [sumV]⟩
  | m :: L, O, F, h => by
    rw [List.foldl_cons, List.foldl_cons, sumV]
    refine (burn_cong ia ib s L (outF O m) (flyF ia ib F m) (fun x hx => h x (List.mem_cons_of_mem _ hx))).trans ?_
    have h6 := (fld_r (h m (by simp)) (j := 6) (by omega)).1
    have key : Cong (outF O m s + flyF ia ib F m s) (O s + F s + val ia ib s m) := by
      unfold outF flyF val
      by_cases k2 : fld m 0 = 2
      · by_cases t3 : fld m 2 = 3
        · rw [if_pos ⟨k2, t3⟩, if_neg (fun e => by rcases e.2 with z | z <;> omega)]
          obtain ⟨q, hq⟩ := addAt_cong O (fld m 6).toNat (fld m 7) s
          by_cases e : fld m 6 = s
          · rw [if_pos ⟨k2, e, .inl t3⟩]; rw [if_pos (by omega)] at hq; exact ⟨q, by omega⟩
          · rw [if_neg (fun z => e z.2.1)]; rw [if_neg (by omega)] at hq; exact ⟨q, by omega⟩
        · rw [if_neg (fun e => t3 e.2)]
          by_cases hc : (fld m 2 = 1 ∧ m ∉ ia) ∨ (fld m 2 = 2 ∧ m ∉ ib)
          · rw [if_pos ⟨k2, hc⟩]
            obtain ⟨q, hq⟩ := addAt_cong F (fld m 6).toNat (fld m 7) s
            by_cases e : fld m 6 = s
            · rw [if_pos ⟨k2, e, .inr hc⟩]; rw [if_pos (by omega)] at hq; exact ⟨q, by omega⟩
            · rw [if_neg (fun z => e z.2.1)]; rw [if_neg (by omega)] at hq; exact ⟨q, by omega⟩
          · rw [if_neg (fun e => hc e.2), if_neg (fun e => e.2.2.elim t3 hc)]; exact ⟨0, by omega⟩
      · rw [if_neg (fun e => k2 e.1), if_neg (fun e => k2 e.1), if_neg (fun e => k2 e.1)]; exact ⟨0, by omega⟩
    obtain ⟨q, hq⟩ := key
    exact ⟨q, by omega⟩
theorem dep_cong (s : Nat) : ∀ (L : List Msg) (O : Nat → Int), (∀ m, m ∈ L → MsgOk m) → Cong (L.foldl depF O s) (O s + sumV (dpv s) L)
  | [], O, _ => ⟨0, by simp [sumV]⟩
  | m :: L, O, h => by
    rw [List.foldl_cons, sumV]
    refine (dep_cong s L (depF O m) (fun x hx => h x (List.mem_cons_of_mem _ hx))).trans ?_
    have h6 := (fld_r (h m (by simp)) (j := 6) (by omega)).1
    obtain ⟨q, hq⟩ := addAt_cong O (fld m 6).toNat (fld m 7) s
    unfold depF dpv
    by_cases e : fld m 6 = s
    · rw [if_pos e]; rw [if_pos (by omega)] at hq; exact ⟨q, by omega⟩
    · rw [if_neg e]; rw [if_neg (by omega)] at hq; exact ⟨q, by omega⟩
/-- Four sums in memory. -/
structure AR (w : World) (B : Nat) (O : Nat → Int) : Prop where
  c : ∀ s, s < 4 → w.cell? ⟨B, s, none⟩ = some (.int .u64 (O s))
  f : ∀ s, s < 4 → w.frozen? ⟨B, s, none⟩ = false
  r : ∀ s, s < 4 → 0 ≤ O s ∧ O s < 18446744073709551616
theorem AR.lt {w : World} {B : Nat} {O : Nat → Int} (h : AR w B O) : B < w.heap.size := World.block_lt_of_cell? _ _ (h.c 0 (by omega))
theorem AR.ex {w w' : World} {B : Nat} {O : Nat → Int} {Z : Nat → Prop} (h : AR w B O) (ex : Ex Z w w') (hZ : ¬ Z B) : AR w' B O :=
  ⟨fun s hs => ex.cell hZ (h.c s hs), fun s hs => by rw [ex.frozen hZ h.lt]; exact h.f s hs, h.r⟩
theorem AR.below {w w' : World} {B : Nat} {O : Nat → Int} (h : AR w B O) (b : Below w.heap.size w w') : AR w' B O := h.ex (Z := fun _ => False) (Ex.of b) (fun e => e)
theorem AR.set {w : World} {B : Nat} {O : Nat → Int} (h : AR w B O) {k : Nat} (x : Int) : AR (w.setCell ⟨B, k, none⟩ (.int .u64 (w64 (O k + x)))) B (addAt O k x) := by
  refine ⟨fun s hs => ?_, fun s hs => by rw [set_frozen]; exact h.f s hs, fun s hs => ?_⟩
  · unfold addAt
    split
    · rename_i e; subst e; exact World.cell?_setCell_same _ _ _ (h.c s hs)
    · rename_i e; rw [World.cell?_setCell_other _ _ _ _ (fun hh => e (by injection hh with _ h2; exact h2.symm))]; exact h.c s hs
  · unfold addAt
    split
    · exact w64_r _
    · exact h.r s hs
/-- A list of messages at a cell, apart from what may turn. -/
structure RowAt (w : World) (b o : Nat) (L : List Msg) (Z : Nat → Prop) : Prop where
  x : ∃ a c, w.cell? ⟨b, o, none⟩ = some (.slice a L.length c) ∧ w.ownsRow 0 68 41 (.slice a L.length c) L.length (L.flatMap msv) ∧ ∀ k, (Value.slice a L.length c).ownBlock = some k → ¬ Z k
  b : ¬ Z b
  m : ∀ m, m ∈ L → MsgOk m
theorem RowAt.ex {w w' : World} {b o : Nat} {L : List Msg} {Z : Nat → Prop} (h : RowAt w b o L Z) (ex : Ex Z w w') : RowAt w' b o L Z := by
  obtain ⟨a, c, h1, h2, h3⟩ := h.x
  exact ⟨⟨a, c, ex.cell h.b h1, own_kept h2 ex h3, h3⟩, h.b, h.m⟩
end Go.Proofs.Qxb6500784a
