import Derived.Test.Qxb6500773aGreatZS
import Derived.Test.Qxb6500773aGreatZB
namespace Go.Proofs.Qxb6500773aGreat
open Go.RowKit

/-! ### The bench in memory: six objects, apart from one another -/
abbrev OQ := World → Nat → (Nat → Prop) → Prop
def Frm (q : OQ) : Prop := ∀ w w' b S T, q w b S → Ex T w w' → (∀ k, S k → ¬ T k) → q w' b S
def FOq (B : Nat) (F : Fo) : OQ := fun w b S => ∃ va ve, FF w B b va ve F.nv F.L F.E ∧ ∀ k, S k ↔ (k = b ∨ va.ownBlock = some k ∨ ve.ownBlock = some k)
def AOq (B : Nat) (A : As) : OQ := fun w b S => ∃ va, AT w B b va A.k A.V ∧ ∀ k, S k ↔ (k = b ∨ va.ownBlock = some k)
def POq (B : Nat) (P : Pf) : OQ := fun w b S => ∃ va ve vd, PF w B b va ve vd P.L P.E P.D ∧ ∀ k, S k ↔ (k = b ∨ va.ownBlock = some k ∨ ve.ownBlock = some k ∨ vd.ownBlock = some k)
theorem FF.keepZ {w w' : World} {B b : Nat} {va ve : Value} {nv : Int} {L E : List Int} (h : FF w B b va ve nv L E) {T : Nat → Prop} (e : Ex T w w') (h1 : ¬ T b) (h2 : ∀ k, va.ownBlock = some k → ¬ T k) (h3 : ∀ k, ve.ownBlock = some k → ¬ T k) : FF w' B b va ve nv L E := ⟨h.ar.keep e h1 h2 h3, e.cell h1 h.c⟩
theorem PF.keepZ {w w' : World} {B b : Nat} {va ve vd : Value} {L E : List Int} {D : List Bool} (h : PF w B b va ve vd L E D) {T : Nat → Prop} (e : Ex T w w') (h1 : ¬ T b) (h2 : ∀ k, va.ownBlock = some k → ¬ T k) (h3 : ∀ k, ve.ownBlock = some k → ¬ T k) (h4 : ∀ k, vd.ownBlock = some k → ¬ T k) : PF w' B b va ve vd L E D := ⟨h.ar.keep e h1 h2 h3, e.cell h1 h.c2, own_kept h.r2 e h4, h.a3, h.a4, h.a5⟩
theorem frm_f (B : Nat) (F : Fo) : Frm (FOq B F) := by
  rintro w w' b S T ⟨va, ve, h, hs⟩ e hd
  exact ⟨va, ve, h.keepZ e (hd b ((hs b).2 (.inl rfl))) (fun k hk => hd k ((hs k).2 (.inr (.inl hk)))) (fun k hk => hd k ((hs k).2 (.inr (.inr hk)))), hs⟩
theorem frm_a (B : Nat) (A : As) : Frm (AOq B A) := by
  rintro w w' b S T ⟨va, h, hs⟩ e hd
  exact ⟨va, h.keep e (hd b ((hs b).2 (.inl rfl))) (fun k hk => hd k ((hs k).2 (.inr hk))), hs⟩
theorem frm_p (B : Nat) (P : Pf) : Frm (POq B P) := by
  rintro w w' b S T ⟨va, ve, vd, h, hs⟩ e hd
  exact ⟨va, ve, vd, h.keepZ e (hd b ((hs b).2 (.inl rfl))) (fun k hk => hd k ((hs k).2 (.inr (.inl hk)))) (fun k hk => hd k ((hs k).2 (.inr (.inr (.inl hk))))) (fun k hk => hd k ((hs k).2 (.inr (.inr (.inr hk))))), hs⟩
structure BN (w : World) (B r : Nat) (P : Nat → Nat) (S : Nat → Nat → Prop) (Q : Nat → OQ) : Prop where
  ptr : ∀ i, i < 6 → w.cell? ⟨r, i, none⟩ = some (.pointer (some ⟨P i, 0, none⟩))
  fz : ∀ j, w.frozen? ⟨r, j, none⟩ = false
  ob : ∀ i, i < 6 → Q i w (P i) (S i)
  rg : ∀ i, i < 6 → ∀ k, S i k → B ≤ k ∧ k < w.heap.size
  dj : ∀ i j, i < 6 → j < 6 → i ≠ j → ∀ k, S i k → ¬ S j k
  rr : ∀ i, i < 6 → ¬ S i r
  rB : B ≤ r
  fr : ∀ i, Frm (Q i)
def up {α : Type} (f : Nat → α) (i : Nat) (x : α) : Nat → α := fun j => if j = i then x else f j
theorem up_at {α : Type} (f : Nat → α) (i : Nat) (x : α) : up f i x i = x := if_pos rfl
theorem up_ne {α : Type} (f : Nat → α) {i j : Nat} (x : α) (h : j ≠ i) : up f i x j = f j := if_neg h
section
variable {w w' : World} {B r : Nat} {P : Nat → Nat} {S : Nat → Nat → Prop} {Q : Nat → OQ}
theorem BN.rlt (h : BN w B r P S Q) : r < w.heap.size := World.block_lt_of_cell? _ _ (h.ptr 0 (by decide))
theorem BN.keep (h : BN w B r P S Q) {T : Nat → Prop} (e : Ex T w w') (h1 : ¬ T r) (h2 : ∀ i, i < 6 → ∀ k, S i k → ¬ T k) : BN w' B r P S Q :=
  ⟨fun i hi => e.cell h1 (h.ptr i hi), fun j => (e.frozen h1 h.rlt).trans (h.fz j), fun i hi => h.fr i _ _ _ _ _ (h.ob i hi) e (h2 i hi), fun i hi k hk => ⟨(h.rg i hi k hk).1, Nat.lt_of_lt_of_le (h.rg i hi k hk).2 e.size⟩, h.dj, h.rr, h.rB, h.fr⟩
theorem BN.below (h : BN w B r P S Q) (e : Below w.heap.size w w') : BN w' B r P S Q := h.keep (Ex.of (S := fun _ => False) e) (fun z => z) (fun _ _ _ _ z => z)
/-- the object i turns in its place -/
theorem BN.chg (h : BN w B r P S Q) {i : Nat} (hi : i < 6) (e : Ex (S i) w w') {q' : OQ} {S' : Nat → Prop} (hq : q' w' (P i) S') (hf : Frm q') (hs : ∀ k, S' k → S i k ∨ w.heap.size ≤ k) (hl : ∀ k, S' k → B ≤ k ∧ k < w'.heap.size) : BN w' B r P (up S i S') (up Q i q') := by
  refine ⟨fun j hj => e.cell (h.rr i hi) (h.ptr j hj), fun j => (e.frozen (h.rr i hi) h.rlt).trans (h.fz j), fun j hj => ?_, fun j hj k hk => ?_, fun a b ha hb hab k hk hk' => ?_, fun j hj hk => ?_, h.rB, fun j => ?_⟩
  · by_cases z : j = i
    · subst z; rw [up_at, up_at]; exact hq
    · rw [up_ne _ _ z, up_ne _ _ z]
      exact h.fr j _ _ _ _ _ (h.ob j hj) e (fun k hk => h.dj j i hj hi z k hk)
  · by_cases z : j = i
    · subst z; rw [up_at] at hk; exact hl k hk
    · rw [up_ne _ _ z] at hk
      exact ⟨(h.rg j hj k hk).1, Nat.lt_of_lt_of_le (h.rg j hj k hk).2 e.size⟩
  · by_cases za : a = i
    · subst za
      rw [up_at] at hk
      rw [up_ne _ _ (fun z => hab z.symm)] at hk'
      rcases hs k hk with q | q
      · exact h.dj a b ha hb hab k q hk'
      · have := (h.rg b hb k hk').2; omega
    · rw [up_ne _ _ za] at hk
      by_cases zb : b = i
      · subst zb
        rw [up_at] at hk'
        rcases hs k hk' with q | q
        · exact h.dj a b ha hb hab k hk q
        · have := (h.rg a ha k hk).2; omega
      · rw [up_ne _ _ zb] at hk'
        exact h.dj a b ha hb hab k hk hk'
  · by_cases z : j = i
    · subst z
      rw [up_at] at hk
      rcases hs r hk with q | q
      · exact h.rr j hj q
      · have := h.rlt; omega
    · rw [up_ne _ _ z] at hk
      exact h.rr j hj hk
  · by_cases z : j = i
    · subst z; rw [up_at]; exact hf
    · rw [up_ne _ _ z]; exact h.fr j
/-- a new object takes the place i -/
theorem BN.new (h : BN w B r P S Q) {i : Nat} (hi : i < 6) (e : Ex (fun _ => False) w w') {q' : OQ} {b' : Nat} {S' : Nat → Prop} (hq : q' w' b' S') (hf : Frm q') (hs : ∀ k, S' k → w.heap.size ≤ k ∧ B ≤ k ∧ k < w'.heap.size) : BN (w'.setCell ⟨r, i, none⟩ (.pointer (some ⟨b', 0, none⟩))) B r (up P i b') (up S i S') (up Q i q') := by
  have h0 := h.keep e (fun z => z) (fun _ _ _ _ z => z)
  have e2 : Ex (fun k => k = r) w' (w'.setCell ⟨r, i, none⟩ (.pointer (some ⟨b', 0, none⟩))) := (Ex.refl (fun k => k = r) w').set (p := r) rfl _
  have hsz : (w'.setCell ⟨r, i, none⟩ (.pointer (some ⟨b', 0, none⟩))).heap.size = w'.heap.size := by simp
  refine ⟨fun j hj => ?_, fun j => by rw [set_frozen]; exact h0.fz j, fun j hj => ?_, fun j hj k hk => ?_, fun a b ha hb hab k hk hk' => ?_, fun j hj hk => ?_, h.rB, fun j => ?_⟩
  · by_cases z : j = i
    · subst z; rw [up_at]; exact World.cell?_setCell_same _ _ _ (h0.ptr j hj)
    · rw [up_ne _ _ z, World.cell?_setCell_other _ _ _ _ (fun q => by injection q with _ q; exact z q.symm)]; exact h0.ptr j hj
  · by_cases z : j = i
    · subst z; rw [up_at, up_at, up_at]
      exact hf _ _ _ _ _ hq e2 (fun k hk (q : k = r) => by have := (hs k hk).1; have := h.rlt; omega)
    · rw [up_ne _ _ z, up_ne _ _ z, up_ne _ _ z]
      exact h.fr j _ _ _ _ _ (h0.ob j hj) e2 (fun k hk (q : k = r) => h.rr j hj (q ▸ hk))
  · rw [hsz]
    by_cases z : j = i
    · subst z; rw [up_at] at hk; exact (hs k hk).2
    · rw [up_ne _ _ z] at hk; exact h0.rg j hj k hk
  · by_cases za : a = i
    · subst za
      rw [up_at] at hk
      rw [up_ne _ _ (fun z => hab z.symm)] at hk'
      have := (hs k hk).1
      have := (h.rg b hb k hk').2
      omega
    · rw [up_ne _ _ za] at hk
      by_cases zb : b = i
      · subst zb
        rw [up_at] at hk'
        have := (hs k hk').1
        have := (h.rg a ha k hk).2
        omega
      · rw [up_ne _ _ zb] at hk'
        exact h.dj a b ha hb hab k hk hk'
  · by_cases z : j = i
    · subst z
      rw [up_at] at hk
      have := (hs r hk).1
      have := h.rlt
      omega
    · rw [up_ne _ _ z] at hk
      exact h.rr j hj hk
  · by_cases z : j = i
    · subst z; rw [up_at]; exact hf
    · rw [up_ne _ _ z]; exact h.fr j
end
/-! ### The plain state -/
structure St where
  f : Fo
  a : As
  p : Pf
  sf : Fo
  sa : As
  sp : Pf
def QS (B : Nat) (s : St) : Nat → OQ
  | 0 => FOq B s.f
  | 1 => AOq B s.a
  | 2 => POq B s.p
  | 3 => FOq B s.sf
  | 4 => AOq B s.sa
  | _ => POq B s.sp
theorem frm_s (B : Nat) (s : St) (i : Nat) : Frm (QS B s i) := by
  unfold QS
  split
  · exact frm_f _ _
  · exact frm_a _ _
  · exact frm_p _ _
  · exact frm_f _ _
  · exact frm_a _ _
  · exact frm_p _ _
/-- the bench holds the state s -/
def BX (w : World) (B r : Nat) (s : St) : Prop := ∃ P S, BN w B r P S (QS B s)
theorem BN.re {w : World} {B r : Nat} {P : Nat → Nat} {S : Nat → Nat → Prop} {Q Q' : Nat → OQ} (h : BN w B r P S Q) (hq : ∀ i, i < 6 → Q i = Q' i) (hf : ∀ i, Frm (Q' i)) : BN w B r P S Q' :=
  ⟨h.ptr, h.fz, fun i hi => by rw [← hq i hi]; exact h.ob i hi, h.rg, h.dj, h.rr, h.rB, hf⟩
theorem six {p : Nat → Prop} (h0 : p 0) (h1 : p 1) (h2 : p 2) (h3 : p 3) (h4 : p 4) (h5 : p 5) : ∀ i, i < 6 → p i
  | 0, _ => h0
  | 1, _ => h1
  | 2, _ => h2
  | 3, _ => h3
  | 4, _ => h4
  | 5, _ => h5
  | n + 6, h => by omega
/-- what holds of the state: sizes up to z -/
structure FoOk (z : Nat) (F : Fo) : Prop where
  nv : 0 ≤ F.nv ∧ F.nv ≤ 16777215
  lit : ∀ x ∈ F.L, LitOk x ∧ x / 2 ≤ F.nv
  eok : EOk F.L F.E
  cls : clsP F.E = F.L.length
  len : F.L.length + F.E.length ≤ z
structure PfOk (z : Nat) (P : Pf) : Prop where
  lit : ∀ x ∈ P.L, LitOk x
  eok : EOk P.L P.E
  cls : clsP P.E = P.L.length
  dl : P.D.length = P.E.length
  len : P.L.length + P.E.length ≤ z
structure StOk (z : Nat) (s : St) : Prop where
  f : FoOk z s.f
  a : VOk s.a.k s.a.V
  p : PfOk z s.p
  sf : FoOk z s.sf
  sa : VOk s.sa.k s.sa.V
  sp : PfOk z s.sp
  ak : s.a.k ≤ z
  sk : s.sa.k ≤ z
end Go.Proofs.Qxb6500773aGreat
