import Derived.Test.Qxb6500773aGreatMn
namespace Go.Proofs.Qxb6500773aGreat
open Go.RowKit

set_option linter.unusedSimpArgs false in
set_option maxRecDepth 100000 in
set_option maxHeartbeats 8000000 in
/-- cnflaw.sameObs, at two equal answers -/
theorem sameObs_eq (w : World) (er ln col n m : Int) (a : Option Addr) (c : Nat) (b : Option Addr) (d : Nat) (X : List Int) (hA : UL w a X) (hB : UL w b X) (hl : X.length ≤ 4000000000000000000) :
    Calls Tryz.prog 8 #[.agg #[.int .i64 er, .int .i64 ln, .int .i64 col, .int .i64 n, .int .i64 m, .slice a X.length c], .agg #[.int .i64 er, .int .i64 ln, .int .i64 col, .int .i64 n, .int .i64 m, .slice b X.length d]] w (ExPost w (.bool true)) := by
  obtain ⟨w0, hw0⟩ : ∃ z, w.alloc (.cells #[.int .i64 er, .int .i64 ln, .int .i64 col, .int .i64 n, .int .i64 m, .slice a X.length c] 43) = z := ⟨_, rfl⟩
  obtain ⟨w1, hw1⟩ : ∃ z, w0.alloc (.cells #[.int .i64 er, .int .i64 ln, .int .i64 col, .int .i64 n, .int .i64 m, .slice b X.length d] 43) = z := ⟨_, rfl⟩
  have HE0 : Hid (Ex (fun _ => False) w w1) := by show Ex _ _ _; rw [← hw1, ← hw0]; exact ((Ex.refl _ w).alloc _).alloc _
  have E01 : Ex (fun _ => False) w0 w1 := by rw [← hw1]; exact (Ex.refl _ w0).alloc _
  have hs : w0.heap.size = w.heap.size + 1 := by rw [← hw0]; exact Array.size_push _
  have F : ∀ j v, [Value.int .i64 er, .int .i64 ln, .int .i64 col, .int .i64 n, .int .i64 m, .slice a X.length c][j]? = some v → w0.cell? ((⟨w.heap.size, 0, none⟩ : Addr).add j) = some v := fun j v h => by rw [← hw0]; exact new_cells w _ 43 j v h
  have G : ∀ j v, [Value.int .i64 er, .int .i64 ln, .int .i64 col, .int .i64 n, .int .i64 m, .slice b X.length d][j]? = some v → w1.cell? ((⟨w.heap.size + 1, 0, none⟩ : Addr).add j) = some v := fun j v h => by rw [← hw1, ← hs]; exact new_cells w0 _ 43 j v h
  have f0 : w1.cell? ⟨w.heap.size, 0, none⟩ = some (.int .i64 er) := E01.cell (fun z => z) (F 0 _ rfl)
  have f1 : w1.cell? ⟨w.heap.size, 1, none⟩ = some (.int .i64 ln) := E01.cell (fun z => z) (F 1 _ rfl)
  have f2 : w1.cell? ⟨w.heap.size, 2, none⟩ = some (.int .i64 col) := E01.cell (fun z => z) (F 2 _ rfl)
  have f3 : w1.cell? ⟨w.heap.size, 3, none⟩ = some (.int .i64 n) := E01.cell (fun z => z) (F 3 _ rfl)
  have f4 : w1.cell? ⟨w.heap.size, 4, none⟩ = some (.int .i64 m) := E01.cell (fun z => z) (F 4 _ rfl)
  have f5 : w1.cell? ⟨w.heap.size, 5, none⟩ = some (.slice a X.length c) := E01.cell (fun z => z) (F 5 _ rfl)
  have g0 : w1.cell? ⟨w.heap.size + 1, 0, none⟩ = some (.int .i64 er) := G 0 _ rfl
  have g1 : w1.cell? ⟨w.heap.size + 1, 1, none⟩ = some (.int .i64 ln) := G 1 _ rfl
  have g2 : w1.cell? ⟨w.heap.size + 1, 2, none⟩ = some (.int .i64 col) := G 2 _ rfl
  have g3 : w1.cell? ⟨w.heap.size + 1, 3, none⟩ = some (.int .i64 n) := G 3 _ rfl
  have g4 : w1.cell? ⟨w.heap.size + 1, 4, none⟩ = some (.int .i64 m) := G 4 _ rfl
  have g5 : w1.cell? ⟨w.heap.size + 1, 5, none⟩ = some (.slice b X.length d) := G 5 _ rfl
  have c24 := hide (sameBytes_eq w1 a c b d X (hA.keep HE0.out) (hB.keep HE0.out) hl)
  have HW : Hid ((w.alloc (.cells #[.int .i64 er, .int .i64 ln, .int .i64 col, .int .i64 n, .int .i64 m, .slice a X.length c] 43)).alloc (.cells #[.int .i64 er, .int .i64 ln, .int .i64 col, .int .i64 n, .int .i64 m, .slice b X.length d] 43) = w1) := by show _ = _; rw [hw0, hw1]
  clear hw0 hw1 hs E01 F G hA hB hl
  generalize X.length = k at *
  go_enter Tryz.func8, Tryz.ntmps8
  go_upto_region 1 with fail
  rw [HW.out]
  clear HW
  generalize w.heap.size = B0 at *
  go_wp2_with fail
  refine c24.out.mono ?_
  rintro e wz ⟨rfl, q, rfl⟩
  have HE2 := hide (HE0.out.drewN q)
  generalize w1.drewN q = w2 at *
  go_wp2
  exact bodyPost_ret (v := .bool true) (by simp [results, Tryz.results8, go_sem]) rfl ⟨rfl, HE2.out⟩
end Go.Proofs.Qxb6500773aGreat
