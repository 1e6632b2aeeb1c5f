import Derived.Test.Qxb6500774aKl
namespace Go.Proofs.Qxb6500774a
open Go.RowKit
set_option linter.unusedVariables false
set_option linter.unusedSimpArgs false

section
variable {B p : Nat} {a : Option Addr} {cp : Nat} {s : List Int}
theorem all_ex (N : Nat) : EXm B p a cp s N ∧ OP B p a cp s N := by
  induction N with
  | zero => exact ⟨fun m hm => absurd hm (Nat.not_lt_zero m), fun m hm => absurd hm (Nat.not_lt_zero m)⟩
  | succ N ih =>
    refine ⟨fun m hm min st R w h1 h2 h3 => ?_, fun m hm st R w h1 h2 h3 => ?_⟩
    · have hl : ∀ m', m' < m → m' < N := fun m' h => by omega
      exact exprK m (fun m' h => ih.1 m' (hl m' h)) (fun m' h => ih.2 m' (hl m' h)) min st R w h1 h2 h3
    · have hl : ∀ m', m' < m → m' < N := fun m' h => by omega
      exact operandK m (fun m' h => ih.1 m' (hl m' h) 1) (fun m' h => ih.2 m' (hl m' h)) st R w h1 h2 h3
/-- parser.expr -/
theorem expr_any (w : World) {n : Nat} {min : Int} {st : PSt} {R : E × PSt} (h : pj s n (.expr min) st = some R) (hin : InS B p a cp s w st) (hok : DOk st) : Calls Try.prog 44 #[.pointer (some ⟨p, 0, none⟩), .int .i64 min] w (XPost B p a cp s w R) :=
  (all_ex (n + 1)).1 n (Nat.lt_succ_self n) min st R w h hin hok
/-- parser.place -/
theorem place_any (w : World) {n : Nat} {st : PSt} {R : E × PSt} (h : pj s n .plac st = some R) (hin : InS B p a cp s w st) (hok : DOk st) : Calls Try.prog 93 #[.pointer (some ⟨p, 0, none⟩)] w (XPost B p a cp s w R) :=
  placeK n (fun m hm => (all_ex n).1 m hm 1) st R w h hin hok
end
end Go.Proofs.Qxb6500774a
