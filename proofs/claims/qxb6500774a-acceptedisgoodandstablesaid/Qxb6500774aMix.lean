import Derived.Test.Qxb6500774aMem
namespace Go.Proofs.Qxb6500774a
open Go.RowKit

def mixF : List (Option Nat) → (Nat → Value) → List Value → List Value
  | [], _, L => L
  | none :: _, _, [] => []
  | some _ :: _, _, [] => []
  | none :: m, us, x :: L => x :: mixF m us L
  | some k :: m, us, _ :: L => us k :: mixF m us L
def mixU : List (Option Nat) → List Value → List Value → List Value
  | [], _, L => L
  | none :: _, _, [] => []
  | some _ :: _, _, [] => []
  | none :: m, U, x :: L => x :: mixU m U.tail L
  | some _ :: m, U, _ :: L => U.headD undef :: mixU m U.tail L
def wfm : Nat → List (Option Nat) → Bool
  | _, [] => true
  | i, none :: m => wfm (i + 1) m
  | i, some k :: m => k == i && wfm (i + 1) m
def getL : List Value → Nat → Value
  | [], _ => undef
  | x :: _, 0 => x
  | _ :: L, k + 1 => getL L k
def rdA (a : Act) (k : Nat) : Value := getL a.tmps.toList k

theorem mixU_self : ∀ (m : List (Option Nat)) (L : List Value), mixU m L L = L
  | [], L => rfl
  | none :: _, [] => rfl
  | some _ :: _, [] => rfl
  | none :: m, x :: L => by rw [mixU]; exact congrArg _ (mixU_self m L)
  | some _ :: m, x :: L => by rw [mixU]; exact congrArg _ (mixU_self m L)
theorem mixF_of : ∀ (m : List (Option Nat)) (i : Nat) (U L : List Value) (us : Nat → Value), wfm i m = true → (∀ j, us (i + j) = getL U j) → mixU m U L = U → mixF m us L = U
  | [], _, U, L, us, _, _, h => h
  | none :: _, _, U, [], us, _, _, h => h
  | some _ :: _, _, U, [], us, _, _, h => h
  | none :: m, i, [], x :: L, us, _, _, h => by rw [mixU] at h; cases h
  | some _ :: m, i, [], x :: L, us, _, _, h => by rw [mixU] at h; cases h
  | none :: m, i, u :: U, x :: L, us, hm, hu, h => by
    rw [mixU] at h
    rw [mixF]
    injection h with h1 h2
    rw [h1]
    exact congrArg _ (mixF_of m (i + 1) U L us hm (fun j => by have := hu (j + 1); rw [show i + 1 + j = i + (j + 1) by omega]; exact this) h2)
  | some k :: m, i, u :: U, x :: L, us, hm, hu, h => by
    rw [mixU] at h
    rw [mixF]
    injection h with h1 h2
    rw [wfm, Bool.and_eq_true, beq_iff_eq] at hm
    rw [hm.1, show us i = u from hu 0]
    exact congrArg _ (mixF_of m (i + 1) U L us hm.2 (fun j => by have := hu (j + 1); rw [show i + 1 + j = i + (j + 1) by omega]; exact this) h2)

/-- A loop whose written slots are one unknown function. -/
theorem wp_loop_mix {P : Program} {Q : Exit → Act → World → Prop} {c : Code} {L : List Value} {d : List Deferred} {w : World} (m : List (Option Nat)) (hm : wfm 0 m = true) (R : (Nat → Value) → World → Prop) (μ : (Nat → Value) → World → Nat)
    (h0 : R (getL L) w)
    (round : ∀ us wr, R us wr → ∀ J : Act → World → Prop, (∀ a' w', R (rdA a') w' → mixU m a'.tmps.toList L = a'.tmps.toList → a'.defers = d → μ (rdA a') w' < μ us wr → J a' w') → c.wp P (Exit.then J Q) ⟨(mixF m us L).toArray, d⟩ wr) :
    (Code.loop c).wp P Q ⟨L.toArray, d⟩ w :=
  wp_loop (fun a w => R (rdA a) w ∧ mixU m a.tmps.toList L = a.tmps.toList ∧ a.defers = d) (fun a w => μ (rdA a) w) ⟨h0, mixU_self m L, rfl⟩ (fun a wr hI => by
    obtain ⟨hr, hu, hd⟩ := hI
    obtain ⟨⟨U⟩, d'⟩ := a
    have e : mixF m (rdA ⟨⟨U⟩, d'⟩) L = U := mixF_of m 0 U L _ hm (fun j => by rw [Nat.zero_add]; rfl) hu
    have hd' : d' = d := hd
    subst hd'
    have h := round (rdA ⟨⟨U⟩, d'⟩) wr hr (fun a' w' => (R (rdA a') w' ∧ mixU m a'.tmps.toList L = a'.tmps.toList ∧ a'.defers = d') ∧ μ (rdA a') w' < μ (rdA ⟨⟨U⟩, d'⟩) wr) (fun a' w' h1 h2 h3 h4 => ⟨⟨h1, h2, h3⟩, h4⟩)
    rw [e] at h
    exact h)
end Go.Proofs.Qxb6500774a
