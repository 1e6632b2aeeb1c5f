import Derived.Test.Qxb6500784aSz
import Derived.Test.Qxb6500784aSb
namespace Go.Proofs.Qxb6500784a
open Go.RowKit

attribute [-simp] Try.isAgg70 Try.sizeOf70 Try.typeInfo70 Try.isAgg68 Try.sizeOf68 Try.typeInfo68 Try.isAgg65 Try.sizeOf65 Try.typeInfo65
attribute [local irreducible] rootP shaP
set_option linter.unusedSimpArgs false in
set_option maxRecDepth 100000 in
set_option maxHeartbeats 8000000 in
/-- sameAnswer -/
theorem sameA_any (w : World) (x y : An) (vo vr vs uo ur us : Value) (C E : List Nat) (h1 : RL w x.r vo vr vs C) (h2 : RL w y.r uo ur us E) (hc : x.code = y.code) (he : RsE x.r y.r) (hm : x.m = y.m) (hx : x.r.Ok) (hy : y.r.Ok) (mx : MsgOk x.m) :
    Calls Try.prog 30 #[.agg (x.vals vo vr vs).toArray, .agg (y.vals uo ur us).toArray] w fun e w' => e = .returned (.bool true) ∧ Below w.heap.size w w' := by
  have HSR : Hid (∀ W, Below w.heap.size w W → Calls Try.prog 35 #[.agg (x.r.vals vo vr vs).toArray, .agg (y.r.vals uo ur us).toArray] W fun e w' => e = .returned (.bool true) ∧ Below W.heap.size W w') := fun W k => sameR_any W x.r y.r vo vr vs uo ur us C E (h1.keep (Ex.of (S := fun _ => False) k) (fun _ _ e => e)) (h2.keep (Ex.of (S := fun _ => False) k) (fun _ _ e => e)) he hx
  have he68 : ∀ w, (Op.equalIn 10000 68 (.agg (msv x.m).toArray) (.agg (msv x.m).toArray)).run Try.prog w = .ok true w := fun w => by have := eq68 w mx mx 9996; simpa using this
  obtain ⟨F, hF⟩ : ∃ F, x.vals vo vr vs = F := ⟨_, rfl⟩
  obtain ⟨G, hG⟩ : ∃ G, y.vals uo ur us = G := ⟨_, rfl⟩
  obtain ⟨M, hM⟩ : ∃ M, msv x.m = M := ⟨_, rfl⟩
  obtain ⟨R1, hR1⟩ : ∃ R, x.r.vals vo vr vs = R := ⟨_, rfl⟩
  obtain ⟨R2, hR2⟩ : ∃ R, y.r.vals uo ur us = R := ⟨_, rfl⟩
  have HMl : Hid (M.length = 41) := by rw [← hM]; exact msv_len mx
  have HL1 : Hid (R1.length = 70) := by rw [← hR1]; exact Rs.len hx _ _ _
  have HL2 : Hid (R2.length = 70) := by rw [← hR2]; exact Rs.len hy _ _ _
  have HFE : Hid (F = .int .i64 x.code :: (R1 ++ M)) := by rw [← hF, ← hR1, ← hM]; exact rfl
  have HGE : Hid (G = .int .i64 x.code :: (R2 ++ M)) := by rw [← hG, ← hR2, ← hM, hc, hm]; exact rfl
  rw [hF, hG]
  rw [hR1, hR2] at HSR
  rw [hM] at he68
  clear hF hG hM hR1 hR2 h1 h2 hc he hm hx hy mx
  generalize x.code = cd at *
  go_enter Try.func30, Try.ntmps30
  go_upto_region 1 with fail
  have b1 := be1 w (.cells F.toArray 70)
  have b2 := be1 (w.alloc (.cells F.toArray 70)) (.cells G.toArray 70)
  have z1 : (w.alloc (.cells F.toArray 70)).heap.size = w.heap.size + 1 := by simp
  have r1 := range_below (newR w F 70) (by rw [z1]; omega) b2
  have r2 := newR (w.alloc (.cells F.toArray 70)) G 70
  rw [z1] at r2
  have HBE := hide (lec b1 b2)
  obtain ⟨D, hD⟩ : ∃ D, w.heap.size = D := ⟨_, rfl⟩
  rw [hD] at r1 r2 ⊢
  generalize (w.alloc (.cells F.toArray 70)).alloc (.cells G.toArray 70) = w1 at *
  rw [HFE.out] at r1
  rw [HGE.out] at r2
  have k1 := (range_app (A := [.int .i64 cd]) (B := R1 ++ M) r1).2
  have k2 := (range_app (A := [.int .i64 cd]) (B := R2 ++ M) r2).2
  have c0 : w1.cell? ⟨D, 0, none⟩ = some (.int .i64 cd) := by have := r1 0 _ rfl; rwa [Nat.zero_add] at this
  have c1 : w1.cell? ⟨D + 1, 0, none⟩ = some (.int .i64 cd) := by have := r2 0 _ rfl; rwa [Nat.zero_add] at this
  have HA1 : Hid (w1.rangeAt D 1 R1) := (range_app k1).1
  have HA2 : Hid (w1.rangeAt (D + 1) 1 R2) := (range_app k2).1
  have HM1 : Hid (w1.rangeAt D 71 M) := by have := (range_app k1).2; rw [HL1.out] at this; exact this
  have HM2 : Hid (w1.rangeAt (D + 1) 71 M) := by have := (range_app k2).2; rw [HL2.out] at this; exact this
  clear b1 b2 z1 r1 r2 k1 k2 hD HFE HGE
  go_wp2_with fail
  simp only [Try.sizeOf68, Result.andThen, show ((41 : Nat) = 0) = False from by simp, ↓reduceIte]
  rw [Oper.upon_value]
  go_wp2_with fail
  simp only [Try.isAgg68, Try.sizeOf68, Result.andThen, ↓reduceIte, ldC w1 D 71 M 41 HMl.out HM1.out]
  rw [Oper.upon_value]
  go_wp2_with fail
  simp only [Try.sizeOf68, Result.andThen, show ((41 : Nat) = 0) = False from by simp, ↓reduceIte]
  rw [Oper.upon_value]
  go_wp2_with fail
  simp only [Try.isAgg68, Try.sizeOf68, Result.andThen, ↓reduceIte, ldC w1 (D + 1) 71 M 41 HMl.out HM2.out]
  rw [Oper.upon_value]
  go_wp2_with fail
  simp only [Try.sizeOf65, Result.andThen, show ((70 : Nat) = 0) = False from by simp, ↓reduceIte]
  rw [Oper.upon_value]
  go_wp2_with fail
  simp only [Try.isAgg65, Try.sizeOf65, Result.andThen, ↓reduceIte, ldC w1 D 1 R1 70 HL1.out HA1.out]
  rw [Oper.upon_value]
  go_wp2_with fail
  simp only [Try.sizeOf65, Result.andThen, show ((70 : Nat) = 0) = False from by simp, ↓reduceIte]
  rw [Oper.upon_value]
  go_wp2_with fail
  simp only [Try.isAgg65, Try.sizeOf65, Result.andThen, ↓reduceIte, ldC w1 (D + 1) 1 R2 70 HL2.out HA2.out]
  rw [Oper.upon_value]
  go_wp2_with (go_at_call 35; refine (HSR.out w1 HBE.out).mono ?_; rintro e z9 ⟨rfl, hbe⟩; have HBZ := hide (lec HBE.out hbe); clear hbe; simp only [])
  go_ret
  exact ⟨rfl, HBZ.out⟩
end Go.Proofs.Qxb6500784a
