import Derived.Test.Qxb6500776aLod
namespace Go.Proofs.Qxb6500776a
open Go.RowKit

/-- The scanner's board. -/
def BRD (w : World) (s : Nat) (B : Brd) : Prop := ∃ C, CB w s C ∧ BB C B
theorem BRD.keep {w w' : World} {s : Nat} {B : Brd} (h : BRD w s B) {S : Nat → Prop} (e : Ex S w w') (hs : ¬ S s) : BRD w' s B := by
  obtain ⟨C, h1, h2⟩ := h
  exact ⟨C, h1.keep e hs, h2⟩
theorem BRD.below {w w' : World} {s : Nat} {B : Brd} (h : BRD w s B) (hb : Below w.heap.size w w') : BRD w' s B := h.keep (Ex.of (S := fun _ => False) hb) (fun e => e)
theorem BRD.lt {w : World} {s : Nat} {B : Brd} (h : BRD w s B) : s < w.heap.size := by
  obtain ⟨C, h1, h2⟩ := h
  exact h1.lt
theorem BRD.at {w : World} {s : Nat} {B : Brd} (h : BRD w s B) {T i k : Nat} (hT : T < 4) (hi : i < 48) (hk : k < 4) : w.cell? ⟨s, 1718 + T * 768 + i * 16 + k * 4, none⟩ = some (.bool (B T i k).seen) ∧ w.cell? ⟨s, 1718 + T * 768 + i * 16 + k * 4 + 1, none⟩ = some (.int .i64 (B T i k).obs) ∧ w.cell? ⟨s, 1718 + T * 768 + i * 16 + k * 4 + 2, none⟩ = some (.int .i64 (B T i k).d) ∧ w.cell? ⟨s, 1718 + T * 768 + i * 16 + k * 4 + 3, none⟩ = some (.int .i64 (B T i k).g) := by
  obtain ⟨C, h1, h2⟩ := h
  obtain ⟨a, b, c, d⟩ := h2 T i k hT hi hk
  rw [h1.c _ (by omega), h1.c _ (by omega), h1.c _ (by omega), h1.c _ (by omega), a, b, c, d]
  exact ⟨rfl, rfl, rfl, rfl⟩
theorem SCN.brd {w : World} {s : Nat} {A : List Shp} {v2 : Value} {ld tl : Int} {pg : Bool} {M : List Smk} {B : Brd} (h : SCN w s A v2 ld tl pg M B) : BRD w s B := by
  obtain ⟨C, h⟩ := h
  exact ⟨C, h.cb, h.bb⟩
/-- A record. -/
structure Det where
  team : Int
  target : Int
  sensor : Int
  obs : Int
  d : Int
  g : Int
def Det.vals (r : Det) : List Value := [.int .i64 r.team, .int .i64 r.target, .int .i64 r.sensor, .int .i64 r.obs, .int .i64 r.d, .int .i64 r.g]
theorem Det.vals_len (r : Det) : r.vals.length = 6 := rfl
def det0 : Det := ⟨0, 0, 0, 0, 0, 0⟩
def lkP (B : Brd) (T i k : Int) : Det × Bool := if 0 ≤ T ∧ T < 4 ∧ 0 ≤ i ∧ i < 48 ∧ 0 ≤ k ∧ k < 4 then (if (B T.toNat i.toNat k.toNat).seen then (⟨T, i, k, (B T.toNat i.toNat k.toNat).obs, (B T.toNat i.toNat k.toNat).d, (B T.toNat i.toNat k.toNat).g⟩, true) else (det0, false)) else (det0, false)
def LkPost (w : World) (r : Det × Bool) (e : Ending) (w' : World) : Prop := e = .returned (.tuple #[.agg #[.int .i64 r.1.team, .int .i64 r.1.target, .int .i64 r.1.sensor, .int .i64 r.1.obs, .int .i64 r.1.d, .int .i64 r.1.g], .bool r.2]) ∧ Below w.heap.size w w'
theorem lkP_in (B : Brd) {T i k : Nat} (hT : T < 4) (hi : i < 48) (hk : k < 4) : lkP B T i k = if (B T i k).seen then (⟨T, i, k, (B T i k).obs, (B T i k).d, (B T i k).g⟩, true) else (det0, false) := by
  unfold lkP
  rw [if_pos (by omega)]
  simp
set_option maxRecDepth 100000 in
set_option maxHeartbeats 1000000 in
theorem lookup_in (w : World) (s : Nat) (B : Brd) (h : BRD w s B) (T i k : Nat) (hT : T < 4) (hi : i < 48) (hk : k < 4) :
    Calls Try.prog 28 #[.pointer (some ⟨s, 0, none⟩), .int .i64 T, .int .i64 i, .int .i64 k] w (LkPost w (lkP B T i k)) := by
  have HP := hide (lkP_in B hT hi hk)
  have HB := hide (h.below (be1 w (.cells #[.int .i64 0, .int .i64 0, .int .i64 0, .int .i64 0, .int .i64 0, .int .i64 0] 58)))
  have HE := hide (be1 w (.cells #[.int .i64 0, .int .i64 0, .int .i64 0, .int .i64 0, .int .i64 0, .int .i64 0] 58))
  have hTi : (T : Int) < 4 := by omega
  have hii : (i : Int) < 48 := by omega
  have hki : (k : Int) < 4 := by omega
  have hsl := h.lt
  clear h
  have g1 : ¬ (T : Int) < 0 := by omega
  have g2 : ¬ (4 : Int) ≤ (T : Int) := by omega
  have g3 : ¬ (i : Int) < 0 := by omega
  have g4 : ¬ (48 : Int) ≤ (i : Int) := by omega
  have g5 : ¬ (k : Int) < 0 := by omega
  have g6 : ¬ (4 : Int) ≤ (k : Int) := by omega
  obtain ⟨z0, z1, z2, z3⟩ := HB.out.at hT hi hk
  generalize hm : B T i k = m at *
  obtain ⟨se, ob, d, g⟩ := m
  dsimp only at z0 z1 z2 z3
  clear hm
  cases se
  · go_enter Try.func28, Try.ntmps28
    go_wp2
    exact bodyPost_ret (v := .tuple #[.agg #[.int .i64 0, .int .i64 0, .int .i64 0, .int .i64 0, .int .i64 0, .int .i64 0], .bool false]) (by simp [results, Try.results28, go_sem]) rfl ⟨by rw [HP.out]; rfl, be2 _ _ _⟩
  · go_enter Try.func28, Try.ntmps28
    go_wp2
    exact bodyPost_ret (v := .tuple #[.agg #[.int .i64 T, .int .i64 i, .int .i64 k, .int .i64 ob, .int .i64 d, .int .i64 g], .bool true]) (by simp [results, Try.results28, go_sem]) rfl ⟨by rw [HP.out]; rfl, be2 _ _ _⟩
set_option maxRecDepth 100000 in
set_option maxHeartbeats 1000000 in
theorem lookup_out (w : World) (s : Nat) (B : Brd) (T i k : Int) (h : ¬ (0 ≤ T ∧ T < 4 ∧ 0 ≤ i ∧ i < 48 ∧ 0 ≤ k ∧ k < 4)) :
    Calls Try.prog 28 #[.pointer (some ⟨s, 0, none⟩), .int .i64 T, .int .i64 i, .int .i64 k] w (LkPost w (lkP B T i k)) := by
  have HP := hide (show lkP B T i k = (det0, false) by unfold lkP; rw [if_neg h])
  have key : T < 0 ∨ (¬ T < 0 ∧ (4 ≤ T ∨ (¬ 4 ≤ T ∧ (i < 0 ∨ (¬ i < 0 ∧ (48 ≤ i ∨ (¬ 48 ≤ i ∧ (k < 0 ∨ (¬ k < 0 ∧ 4 ≤ k))))))))) := by omega
  clear h
  rcases key with a1 | ⟨a1, a2 | ⟨a2, a3 | ⟨a3, a4 | ⟨a4, a5 | ⟨a5, a6⟩⟩⟩⟩⟩
  all_goals
    go_enter Try.func28, Try.ntmps28
    go_wp2
    exact bodyPost_ret (v := .tuple #[.agg #[.int .i64 0, .int .i64 0, .int .i64 0, .int .i64 0, .int .i64 0, .int .i64 0], .bool false]) (by simp [results, Try.results28, go_sem]) rfl ⟨by rw [HP.out]; rfl, be1 _ _⟩
theorem lookup_any (w : World) (s : Nat) (B : Brd) (h : BRD w s B) (T i k : Int) :
    Calls Try.prog 28 #[.pointer (some ⟨s, 0, none⟩), .int .i64 T, .int .i64 i, .int .i64 k] w (LkPost w (lkP B T i k)) := by
  by_cases hr : 0 ≤ T ∧ T < 4 ∧ 0 ≤ i ∧ i < 48 ∧ 0 ≤ k ∧ k < 4
  · obtain ⟨T', rfl⟩ : ∃ n : Nat, T = n := ⟨T.toNat, by omega⟩
    obtain ⟨i', rfl⟩ : ∃ n : Nat, i = n := ⟨i.toNat, by omega⟩
    obtain ⟨k', rfl⟩ : ∃ n : Nat, k = n := ⟨k.toNat, by omega⟩
    exact lookup_in w s B h T' i' k' (by omega) (by omega) (by omega)
  · exact lookup_out w s B T i k hr
end Go.Proofs.Qxb6500776a
