import Derived.Test.Qxb6500774aKt1
namespace Go.Proofs.Qxb6500774a
open Go.RowKit
set_option linter.unusedVariables false
set_option linter.unusedSimpArgs false

section
variable {B p : Nat} {a : Option Addr} {cp : Nat} {s : List Int}
theorem all_st (N : Nat) (hN : N ≤ 4294967296) : STK B p a cp s N := by
  induction N with
  | zero => exact fun m hm => absurd hm (Nat.not_lt_zero m)
  | succ N ih =>
    intro m hm st R w h1 h2 h3
    obtain ⟨d, hd0, hda⟩ := h3.da
    exact stmtsK m (by omega) (fun m' h => ih (by omega) m' (by omega)) st R w h1 h2 d hd0 hda
/-- parser.stmts -/
theorem stmts_any (w : World) {n : Nat} (hn : n < 4294967296) {st : PSt} {R : S × PSt} (h : ps s n .stmts st = some R) (hin : InS B p a cp s w st) (hok : DOk st) : Calls Try.prog 37 #[.pointer (some ⟨p, 0, none⟩)] w (LPost B p a cp s w R) :=
  all_st (n + 1) (by omega) n (Nat.lt_succ_self n) st R w h hin hok
end
end Go.Proofs.Qxb6500774a
