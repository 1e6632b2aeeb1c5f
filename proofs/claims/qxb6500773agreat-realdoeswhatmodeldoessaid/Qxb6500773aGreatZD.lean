import Derived.Test.Qxb6500773aGreatZC
import Derived.Test.Qxb6500773aGreatZ6
namespace Go.Proofs.Qxb6500773aGreat
open Go.RowKit

/-! ### Formula and proof: what a turn leaves; reset -/
structure Fo where
  nv : Int
  L : List Int
  E : List Int
structure Pf where
  L : List Int
  E : List Int
  D : List Bool
structure As where
  k : Int
  V : List Int
def FT (w w' : World) (B b : Nat) (va ve : Value) (F : Fo) : Prop := Ex (fun k => k = b ∨ va.ownBlock = some k ∨ ve.ownBlock = some k) w w' ∧ ∃ va' ve', FF w' B b va' ve' F.nv F.L F.E ∧ (∀ k, va'.ownBlock = some k → va.ownBlock = some k ∨ w.heap.size ≤ k) ∧ (∀ k, ve'.ownBlock = some k → ve.ownBlock = some k ∨ w.heap.size ≤ k)
def PT (w w' : World) (B b : Nat) (va ve vd : Value) (F : Pf) : Prop := Ex (fun k => k = b ∨ va.ownBlock = some k ∨ ve.ownBlock = some k ∨ vd.ownBlock = some k) w w' ∧ ∃ va' ve' vd', PF w' B b va' ve' vd' F.L F.E F.D ∧ (∀ k, va'.ownBlock = some k → va.ownBlock = some k ∨ w.heap.size ≤ k) ∧ (∀ k, ve'.ownBlock = some k → ve.ownBlock = some k ∨ w.heap.size ≤ k) ∧ (∀ k, vd'.ownBlock = some k → vd.ownBlock = some k ∨ w.heap.size ≤ k)
theorem FF.ne {w : World} {B b : Nat} {va ve : Value} {nv : Int} {L E : List Int} (h : FF w B b va ve nv L E) : va.ownBlock ≠ some b ∧ ve.ownBlock ≠ some b ∧ ∀ k, va.ownBlock = some k → ve.ownBlock ≠ some k := ⟨h.ar.a0, h.ar.a1, h.ar.a2⟩
set_option linter.unusedSimpArgs false in
set_option maxRecDepth 100000 in
set_option maxHeartbeats 4000000 in
/-- cnf.Formula.Reset -/
theorem fReset_any (w : World) (B b : Nat) (va ve : Value) (nv : Int) (L E : List Int) (h : FF w B b va ve nv L E) :
    Calls Tryz.prog 25 #[.pointer (some ⟨b, 0, none⟩)] w fun e w' => e = .returned (.tuple #[]) ∧ FT w w' B b va ve ⟨0, [], []⟩ := by
  have c := h.c
  have bf := h.ar.f
  obtain ⟨h1, e1⟩ := h.setNv 0
  have HC := hide (reset_any _ B b 1 va ve L E h1.ar)
  have HE := hide e1
  have HY := hide h1.c
  clear h h1 e1
  go_enter Tryz.func25, Tryz.ntmps25
  go_wp2_with fail
  refine HC.out.mono ?_
  rintro e w' ⟨rfl, e2, k2, va', ve', har, o1, o2⟩
  have HP : Hid (FT w w' B b va ve ⟨0, [], []⟩) := ⟨(HE.out.trans e2).mono (fun k hk => .inl hk), va', ve', ⟨har, k2 0 _ (by omega) (by omega) HY.out⟩, fun k hk => .inl (o1 k hk), fun k hk => .inl (o2 k hk)⟩
  clear e2 k2 har o1 o2 HE HY HC
  go_wp2_with (first | with_reducible refine bodyPost_ret (v := .tuple #[]) ?hr ?hd ?hp | with_reducible refine bodyPost_nrm (v := .tuple #[]) ?hr ?hd ?hp)
  case hr => exact results_nil Tryz.results25
  case hd => rfl
  case hp => first | exact ⟨rfl, HP.out⟩ | exact HP.out
set_option linter.unusedSimpArgs false in
set_option maxRecDepth 100000 in
set_option maxHeartbeats 4000000 in
/-- cnf.Proof.Reset -/
theorem pReset_any (w : World) (B b : Nat) (va ve vd : Value) (L E : List Int) (D : List Bool) (h : PF w B b va ve vd L E D) :
    Calls Tryz.prog 27 #[.pointer (some ⟨b, 0, none⟩)] w fun e w' => e = .returned (.tuple #[]) ∧ PT w w' B b va ve vd ⟨[], [], []⟩ := by
  have HC := hide (reset_any _ B b 0 va ve L E h.ar)
  have HH := hide h
  obtain ⟨x, cx, hx⟩ := own_form h.r2
  clear h
  go_enter Tryz.func27, Tryz.ntmps27
  go_wp2_with fail
  refine HC.out.mono ?_
  rintro e w1 ⟨rfl, e2, k2, va', ve', har, o1, o2⟩
  have c2 := k2 2 _ (by omega) (by omega) HH.out.c2
  have bf := har.f
  have r2 := own_kept HH.out.r2 e2 (fun j hj z => HH.out.a3 (by rw [hj, z]))
  obtain ⟨n, hn⟩ : ∃ n, D.length = n := ⟨_, rfl⟩
  have HPP : Hid (PT w (w1.setCell ⟨b, 2, none⟩ (.slice x 0 cx)) B b va ve vd ⟨[], [], []⟩) := by
    have e3 : Ex (fun j => j = b) w1 (w1.setCell ⟨b, 2, none⟩ (.slice x 0 cx)) := (Ex.refl (fun j => j = b) w1).set (p := b) rfl _
    have nx : ∀ k, (Value.slice x 0 cx).ownBlock = some k → vd.ownBlock = some k := fun k hk => by rw [hx]; cases x <;> exact hk
    have hd' := HH.out.a3
    refine ⟨(e2.trans e3).mono (fun k hk => .inl hk), va', ve', .slice x 0 cx, ⟨⟨?_, ?_, fun j => by rw [set_frozen]; exact bf j, own_kept har.r0 e3 (fun j hj (z : j = b) => har.a0 (by rw [← z]; exact hj)), own_kept har.r1 e3 (fun j hj (z : j = b) => har.a1 (by rw [← z]; exact hj)), har.a0, har.a1, har.a2⟩, World.cell?_setCell_same _ _ _ c2, ?_, fun z => hd' (nx b z), fun k hk hk2 => HH.out.a4 k (o1 k hk) (nx k hk2), fun k hk hk2 => HH.out.a5 k (o2 k hk) (nx k hk2)⟩, fun k hk => .inl (o1 k hk), fun k hk => .inl (o2 k hk), fun k hk => .inl (nx k hk)⟩
    · rw [World.cell?_setCell_other _ _ _ _ (fun z => by injection z with _ z; omega)]; exact har.c0
    · rw [World.cell?_setCell_other _ _ _ _ (fun z => by injection z with _ z; omega)]; exact har.c1
    · rw [hx, hn] at r2
      exact own_kept (own_zero r2) e3 (fun j hj (z : j = b) => hd' (by rw [← z]; exact nx j hj))
  rw [hn] at hx
  rw [hx, hn] at r2
  rw [hx] at c2
  have hcx : n ≤ cx := own_capZ r2
  have hbx : (0 : Int) ≤ (cx : Int) := by omega
  clear e2 k2 har o1 o2 HC HH hx r2 hn
  go_wp2_with (first | with_reducible refine bodyPost_ret (v := .tuple #[]) ?hr ?hd ?hp | with_reducible refine bodyPost_nrm (v := .tuple #[]) ?hr ?hd ?hp)
  case hr => exact results_nil Tryz.results27
  case hd => rfl
  case hp => first | exact ⟨rfl, HPP.out⟩ | exact HPP.out
end Go.Proofs.Qxb6500773aGreat
