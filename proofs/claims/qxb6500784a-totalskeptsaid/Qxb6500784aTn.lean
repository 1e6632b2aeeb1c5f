import Derived.Test.Qxb6500784aBu
import Derived.Test.Qxb6500784aLh
import Derived.Test.Qxb6500784aMx
namespace Go.Proofs.Qxb6500784a
open Go.RowKit

theorem tk_fin {P : Pr} (h : TI P) {t : Nat} (ht : t < 4) {O F D : Int} (hOF : Cong (O + F) (tot P t)) (hD : Cong D (dep P t)) (hr : 0 ≤ D ∧ D < 18446744073709551616) : w64 (w64 (w64 (supP P.la t + supP P.lb t) + F) + O) = D := by
  obtain ⟨q1, e1⟩ := sup_sum P.la t 64
  obtain ⟨q2, e2⟩ := sup_sum P.lb t 64
  obtain ⟨q3, e3⟩ := h.s t ht
  obtain ⟨q4, e4⟩ := hOF
  obtain ⟨q5, e5⟩ := hD
  have a1 : supP P.la t = supK P.la t 64 := rfl
  have a2 : supP P.lb t = supK P.lb t 64 := rfl
  have a3 : hold P.la t = sumK P.la.bal t 64 := rfl
  have a4 : hold P.lb t = sumK P.lb.bal t 64 := rfl
  unfold w64
  rw [a1, a2]
  rw [a3, a4] at e3
  omega
theorem RowAt.mono {w : World} {b o : Nat} {L : List Msg} {Z Z' : Nat → Prop} (h : RowAt w b o L Z) (hz : ∀ k, Z' k → Z k) : RowAt w b o L Z' := by
  obtain ⟨a, c, h1, h2, h3⟩ := h.x
  exact ⟨⟨a, c, h1, h2, fun k hk e => h3 k hk (hz k e)⟩, fun e => h.b (hz _ e), h.m⟩
theorem PP.rows {y : World} {A : Nat} {P : Pr} {S : List Nat} (h : PP y A P S) {Z : Nat → Prop} (hz : ∀ k, Z k → y.heap.size ≤ k) (f : Int) : RowAt y A (boxO f + 1) (P.box f).out Z ∧ RowAt y A (boxO f + 2) (P.box f).inb Z := by
  obtain ⟨a, c, h1, h2, h3⟩ := h.outs f
  obtain ⟨a', c', h1', h2', h3'⟩ := h.inbs f
  have hb := h.bl
  exact ⟨⟨⟨a, c, h1, h2, fun k hk e => by have := (h2.lt k hk).2; have := hz k e; omega⟩, fun e => by have := hz _ e; omega, h3⟩, ⟨⟨a', c', h1', h2', fun k hk e => by have := (h2'.lt k hk).2; have := hz k e; omega⟩, fun e => by have := hz _ e; omega, h3'⟩⟩
abbrev arr0 : Array Value := #[.int .u64 0, .int .u64 0, .int .u64 0, .int .u64 0]
theorem ar_new (w : World) : AR (w.alloc (.cells arr0 98)) w.heap.size (fun _ => 0) := by
  have hr := newR w [.int .u64 0, .int .u64 0, .int .u64 0, .int .u64 0] 98
  have ht := newT w [.int .u64 0, .int .u64 0, .int .u64 0, .int .u64 0] 98
  refine ⟨fun s hs => ?_, fun s hs => ?_, fun s hs => by show (0 : Int) ≤ 0 ∧ (0 : Int) < 18446744073709551616; omega⟩
  · have := hr s (.int .u64 0) (by match s, hs with
      | 0, _ => rfl
      | 1, _ => rfl
      | 2, _ => rfl
      | 3, _ => rfl)
    rwa [Nat.zero_add] at this
  · have := (ht s hs).2
    rwa [Nat.zero_add] at this
end Go.Proofs.Qxb6500784a
