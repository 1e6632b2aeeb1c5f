import Derived.Test.Qxb6500784aSp
import Derived.Test.Qxb6500784aSp2
import Derived.Test.Qxb6500784aIn
namespace Go.Proofs.Qxb6500784a
open Go.RowKit

/-- spoil of a well-formed bundle -/
theorem spoil_any (B : Nat) (w : World) (g m cap : Nat) (R : List (List Value)) (h : SpI B w g m cap R) (q : Nat) (h1 : 1 ≤ q) (h9 : q ≤ 9) : Calls Try.prog 26 #[.agg #[.slice (some ⟨g, 0, none⟩) (m + 1) cap], .int .i64 q] w (SpPost B w) := by
  obtain rfl | rfl | rfl | rfl | rfl | rfl | rfl | rfl | rfl : q = 1 ∨ q = 2 ∨ q = 3 ∨ q = 4 ∨ q = 5 ∨ q = 6 ∨ q = 7 ∨ q = 8 ∨ q = 9 := by omega
  · exact spoil_1 B w g m cap R h
  · exact spoil_2 B w g m cap R h
  · exact spoil_3 B w g m cap R h
  · exact spoil_4 B w g m cap R h
  · exact spoil_5 B w g m cap R h
  · exact spoil_6 B w g m cap R h
  · exact spoil_7 B w g m cap R h
  · exact spoil_8 B w g m cap R h
  · exact spoil_9 B w g m cap R h
attribute [-simp] Try.isAgg65 Try.sizeOf65 Try.typeInfo65
set_option linter.unusedSimpArgs false in
set_option maxRecDepth 100000 in
set_option maxHeartbeats 8000000 in
/-- Include of a bundle with a fault of form -/
theorem include_bad (w : World) (b : Nat) (a : Option Addr) (n cap : Nat) (L : Nat → Leg) (hn : n ≤ 9223372036854775807) (hL : LegsAt w a n L) (hc : ordCode n L ≠ 0) :
    Calls Try.prog 28 #[.pointer (some ⟨b, 0, none⟩), .agg #[.slice a n cap]] w fun e w' => e = .returned (.agg ((refR (ordCode n L) (-1)).vals nilS nilS nilS).toArray) ∧ Below w.heap.size w w' := by
  have HSA := hide (fun (w1 : World) (k : Below w.heap.size w w1) => sim_bad w1 b true a n cap L hn (hL.below k) hc)
  have HFl : Hid (((refR (ordCode n L) (-1)).vals nilS nilS nilS).length = 70) := Rs.len (refR_ok _ _) _ _ _
  have HF1 : Hid (∀ u ∈ (refR (ordCode n L) (-1)).vals nilS nilS nilS, u.oneCell' = true) := Rs.one _ rfl rfl rfl
  clear hL hc hn
  generalize (refR (ordCode n L) (-1)).vals nilS nilS nilS = F at *
  go_enter Try.func28, Try.ntmps28
  go_upto_region 1 with fail
  obtain ⟨g1, g2, g3, g4, g5⟩ := new2 w (.slice a n cap)
  obtain ⟨D, hD⟩ : ∃ D, w.heap.size = D := ⟨_, rfl⟩
  have HD := hide hD
  have HBE := hide g1
  rw [hD] at g2 g3 g4 g5 ⊢
  clear hD
  have cl := g2
  have HT := hide g3
  have HS := hide g4
  clear g1 g2 g3 g4 g5
  generalize (w.alloc (.cells #[.slice a n cap] 27)).alloc (.cells Try.zeroCells65 65) = w1 at *
  go_wp2_with (go_at_call 63; refine (HSA.out w1 HBE.out).mono ?_; rintro e wq ⟨rfl, hb⟩; have HBQ := hide hb; clear hb; simp only [])
  have HT6 : Hid (wq.there (D + 1) 0 70) := there_below HT.out (by have := HS.out; omega) HBQ.out
  simp only [Try.sizeOf65, Result.andThen, HFl.out, ↓reduceIte, stC wq (D + 1) 0 F (by rw [HFl.out]; exact HT6.out) HF1.out]
  rw [Oper.upon_skip]
  have HRZ := hide (World.rangeAt_setCells_same wq (D + 1) 0 F (by rw [HFl.out]; exact HT6.out))
  have HBZ : Hid (Below D w (wq.setCells (D + 1) 0 F)) := by
    have h0 : Below D w wq := by have := lec HBE.out HBQ.out; rw [HD.out] at this; exact this
    exact h0.trans ((Ex.sets (S := fun j => j = D + 1) rfl F 0 wq (Ex.refl _ _)).below (by have := h0.size; have := HD.out; omega) (fun j hj e => by omega))
  generalize wq.setCells (D + 1) 0 F = wz at *
  clear HT6
  go_wp2_with fail
  exact bodyPost_ret (v := .agg F.toArray) (res_cell Try.results28 rfl (run_loadVar_mid wz (D + 1) 0 65 F _ HRZ.out Try.underlying65 rfl (by rw [HFl.out]; exact Try.sz65))) rfl ⟨rfl, by rw [HD.out]; exact HBZ.out⟩
end Go.Proofs.Qxb6500784a
