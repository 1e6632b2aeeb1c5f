import Derived.Test.Qxb6500778aV6
import Derived.Test.Qxb6500778aU3
import Derived.Test.Qxb6500778aIv1
namespace Go.Proofs.Qxb6500778a
open Go.RowKit

/-! ### Both sessions in memory, apart -/
def ARb (s b : Nat) (vr va : Nat → Value) (sv uv : Value) (k : Nat) : Prop := k = s ∨ Foot b vr va k ∨ sv.ownBlock = some k ∨ uv.ownBlock = some k
def BQb (q : Nat) (xr xa zr za : Nat → Value) (tv : Value) (k : Nat) : Prop := k = q ∨ RIn xr xa k ∨ RIn zr za k ∨ tv.ownBlock = some k
structure JS (w : World) (s b : Nat) (x : Sn) (vr va : Nat → Value) (sv uv : Value) (q : Nat) (y : SM) (xr xa zr za : Nat → Value) (tv : Value) (B0 : Nat) : Prop where
  ss : SS w s b x vr va sv uv
  sq : SQ w q y xr xa zr za tv
  ap : ∀ k, ARb s b vr va sv uv k → ¬ BQb q xr xa zr za tv k
  an : ∀ k, ARb s b vr va sv uv k → B0 ≤ k
  bn : ∀ k, BQb q xr xa zr za tv k → B0 ≤ k
  b0 : B0 ≤ w.heap.size
section
variable {w w' : World} {s b q B0 : Nat} {x x' : Sn} {y : SM} {vr va xr xa zr za : Nat → Value} {sv uv tv v : Value} {e : Ending}
theorem SS.all_lt (h : SS w s b x vr va sv uv) {k : Nat} (hk : ARb s b vr va sv uv k) : k < w.heap.size := by
  rcases hk with rfl | hk | hk | hk
  · exact h.lt
  · exact h.na.foot_lt hk
  · exact (h.st.lt k hk).2
  · exact (h.us.lt k hk).2
theorem SQ.all_lt (h : SQ w q y xr xa zr za tv) {k : Nat} (hk : BQb q xr xa zr za tv k) : k < w.heap.size := by
  rcases hk with rfl | hk | hk | hk
  · exact h.lt
  · exact h.now.mv.rlt hk
  · exact h.bef.mv.rlt hk
  · exact (h.sto.lt k hk).2
theorem JS.new (h : JS w s b x vr va sv uv q y xr xa zr za tv B0) (e : Ex (fun _ => False) w w') : JS w' s b x vr va sv uv q y xr xa zr za tv B0 :=
  ⟨h.ss.new e, h.sq.new e, h.ap, h.an, h.bn, Nat.le_trans h.b0 e.size⟩
/-- a step of the real session -/
theorem JS.real (h : JS w s b x vr va sv uv q y xr xa zr za tv B0) {F : Nat → Prop} (hF : ∀ k, F k → sv.ownBlock = some k) (hp : TPost w s b vr va sv uv F x' v e w') :
    e = .returned v ∧ Below B0 w w' ∧ ∃ vr' va' sv' uv', JS w' s b x' vr' va' sv' uv' q y xr xa zr za tv B0 := by
  obtain ⟨h1, h2, vr', va', sv', uv', h3, h4, h5, h6⟩ := hp
  have hS : ∀ k, (k = s ∨ k = b ∨ F k) → ARb s b vr va sv uv k := fun k hk => by
    rcases hk with hk | hk | hk
    · exact .inl hk
    · exact .inr (.inl (.inl hk))
    · exact .inr (.inr (.inl (hF k hk)))
  have hA : ∀ k, ARb s b vr' va' sv' uv' k → ARb s b vr va sv uv k ∨ w.heap.size ≤ k := fun k hk => by
    rcases hk with hk | hk | hk | hk
    · exact .inl (.inl hk)
    · rcases h4 k hk with z | z
      · exact .inl (.inr (.inl z))
      · exact .inr z
    · rcases h5 k hk with z | z
      · exact .inl (.inr (.inr (.inl z)))
      · exact .inr z
    · rcases h6 k hk with z | z
      · exact .inl (.inr (.inr (.inr z)))
      · exact .inr z
  refine ⟨h1, h2.below h.b0 (fun k hk z => by have := h.an k (hS k z); omega), vr', va', sv', uv', h3, ?_, fun k hk z => ?_, fun k hk => ?_, h.bn, Nat.le_trans h.b0 h2.size⟩
  · exact h.sq.keep h2 (fun z => h.ap q (hS q z) (.inl rfl)) (fun k hk z => h.ap k (hS k z) (.inr (.inr (.inr hk)))) (fun k hk z => h.ap k (hS k z) (.inr (.inl hk))) (fun k hk z => h.ap k (hS k z) (.inr (.inr (.inl hk))))
  · rcases hA k hk with a | a
    · exact h.ap k a z
    · have := h.sq.all_lt z; omega
  · rcases hA k hk with a | a
    · exact h.an k a
    · have := h.b0; omega
/-- a step of the model's session -/
theorem JS.model (h : JS w s b x vr va sv uv q y xr xa zr za tv B0) {F : Nat → Prop} (hF : ∀ k, F k → tv.ownBlock = some k) {R : SM × Ans} (hp : QPost w q xr xa zr za tv F R e w') :
    e = .returned (ansV R.2.e R.2.t R.2.x) ∧ Below B0 w w' ∧ ∃ xr' xa' zr' za' tv', JS w' s b x vr va sv uv q R.1 xr' xa' zr' za' tv' B0 := by
  obtain ⟨h1, h2, xr', xa', zr', za', tv', h3, h4, h5, h6⟩ := hp
  have hS : ∀ k, (k = q ∨ F k) → BQb q xr xa zr za tv k := fun k hk => by
    rcases hk with hk | hk
    · exact .inl hk
    · exact .inr (.inr (.inr (hF k hk)))
  have hA : ∀ k, BQb q xr' xa' zr' za' tv' k → BQb q xr xa zr za tv k ∨ w.heap.size ≤ k := fun k hk => by
    rcases hk with hk | hk | hk | hk
    · exact .inl (.inl hk)
    · rcases h4 k hk with z | z | z
      · exact .inl (.inr (.inl z))
      · exact .inl (.inr (.inr (.inl z)))
      · exact .inr z
    · rcases h5 k hk with z | z | z
      · exact .inl (.inr (.inl z))
      · exact .inl (.inr (.inr (.inl z)))
      · exact .inr z
    · rcases h6 k hk with z | z
      · exact .inl (.inr (.inr (.inr z)))
      · exact .inr z
  refine ⟨h1, h2.below h.b0 (fun k hk z => by have := h.bn k (hS k z); omega), xr', xa', zr', za', tv', ?_, h3, fun k hk z => ?_, h.an, fun k hk => ?_, Nat.le_trans h.b0 h2.size⟩
  · exact h.ss.keep h2 (fun z => h.ap s (.inl rfl) (hS s z)) (fun k hk z => h.ap k (.inr (.inl hk)) (hS k z)) (fun k hk z => h.ap k (.inr (.inr (.inl hk))) (hS k z)) (fun k hk z => h.ap k (.inr (.inr (.inr hk))) (hS k z))
  · rcases hA k z with a | a
    · exact h.ap k hk a
    · have := h.ss.all_lt hk; omega
  · rcases hA k hk with a | a
    · exact h.bn k a
    · have := h.b0; omega
end
end Go.Proofs.Qxb6500778a
