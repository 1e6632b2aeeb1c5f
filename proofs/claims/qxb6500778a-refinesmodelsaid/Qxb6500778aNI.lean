import Derived.Test.Qxb6500778aND
import Derived.Test.Qxb6500778aNG
import Derived.Test.Qxb6500778aNH
import Derived.Laws.MakeOwn
namespace Go.Proofs.Qxb6500778a
open Go.RowKit

/-! ### A batch is run -/
def runL : (Nat → Dv) → List Chg → Nat → List Chg → (Nat → Dv) × List Chg × Int × Int
  | N, [], _, U => (N, U, 0, 0)
  | N, c :: C, i, U => if (stepP N c).2.2 = 0 then runL (stepP N c).1 C (i + 1) ((stepP N c).2.1 :: U) else (N, [], (stepP N c).2.2, (i : Int))
def runP (N : Nat → Dv) (id : Int) (C : List Chg) : (Nat → Dv) × List Chg × Int × Int :=
  if (checkP id C).1 = 0 then runL N C 0 [] else (N, [], (checkP id C).1, (checkP id C).2)
theorem bad_none : ∀ (C : List Chg) (i : Nat), badAt C i = none → ∀ c ∈ C, GoodC c
  | [], _, _, c, h => by cases h
  | x :: C, i, hb, c, h => by
    rw [badAt] at hb
    split at hb
    · rename_i hg
      rcases List.mem_cons.1 h with rfl | h
      · exact hg
      · exact bad_none C _ hb c h
    · cases hb
theorem check_ok {id : Int} {C : List Chg} (h : (checkP id C).1 = 0) : (0 ≤ id ∧ id ≤ 999999) ∧ C.length ≤ 128 ∧ ∀ c ∈ C, GoodC c := by
  unfold checkP at h
  split at h
  · cases h
  · split at h
    · cases h
    · split at h
      · cases h
      · split at h
        · cases h
        · rename_i hb
          exact ⟨by omega, by omega, bad_none C 0 hb⟩
def setMany : List Value → Nat → List Value → List Value
  | xs, _, [] => xs
  | xs, o, v :: vs => setMany (xs.set o v) (o + 1) vs
theorem own_sets {B e s n cap g : Nat} : ∀ (vs : List Value) (w : World) (o : Nat) (xs : List Value), w.ownsRow B e s (.slice (some ⟨g, 0, none⟩) n cap) n xs → (w.setCells g o vs).ownsRow B e s (.slice (some ⟨g, 0, none⟩) n cap) n (setMany xs o vs)
  | [], w, o, xs, h => h
  | v :: vs, w, o, xs, h => by
    rw [World.setCells, setMany]
    exact own_sets vs _ _ _ (h.stored o v).1
theorem setMany_eq : ∀ (vs xs : List Value) (o : Nat), o + vs.length ≤ xs.length → setMany xs o vs = xs.take o ++ vs ++ xs.drop (o + vs.length)
  | [], xs, o, _ => by simp [setMany]
  | v :: vs, xs, o, h => by
    rw [List.length_cons] at h
    rw [setMany, setMany_eq vs _ (o + 1) (by rw [List.length_set]; omega), List.length_cons]
    have := list_seg_step xs o v vs (by omega)
    simpa [Nat.add_assoc, Nat.add_comm, Nat.add_left_comm] using this
theorem set_flat (M : List Chg) (k : Nat) (y : Chg) (hk : k < M.length) : setMany (flatC M) (k * 9) y.vals = flatC (M.set k y) := by
  have hl : (flatC M).length = M.length * 9 := flat_len Chg.vals 9 ch_len M
  rw [setMany_eq _ _ _ (by rw [hl, ch_len]; omega), ch_len, show k * 9 + 9 = (k + 1) * 9 by omega]
  unfold flatC
  rw [fm_take Chg.vals 9 ch_len, fm_drop Chg.vals 9 ch_len, List.set_eq_take_append_cons_drop, if_pos hk]
  simp
theorem made_flat (n : Nat) : (madeCells #[Value.int .i64 0, .int .i64 0, .int .i64 0, .int .i64 0, .int .i64 0, .int .i64 0, .int .i64 0, .bool false, .bool false] (n * 9)).toList = flatC (List.replicate n .zero) := by
  apply List.ext_getElem?
  intro j
  have hl : (flatC (List.replicate n Chg.zero)).length = n * 9 := by
    have := flat_len Chg.vals 9 ch_len (List.replicate n Chg.zero)
    rwa [List.length_replicate] at this
  by_cases hj : j < n * 9
  · have h1 : j = (j / 9) * 9 + j % 9 := by omega
    have h2 : j % 9 < 9 := Nat.mod_lt _ (by decide)
    have := flat_at Chg.vals 9 ch_len (List.replicate n Chg.zero) (j / 9) .zero (by rw [List.getElem?_replicate, if_pos (by omega)]) (j % 9) h2
    rw [← h1] at this
    rw [flatC, this]
    simp only [madeCells, Array.toList_map, List.getElem?_map]
    rw [show (Array.range (n * 9)).toList[j]? = some j by simp [hj]]
    simp only [Option.map_some]
    have h3 : ∀ k, k < 9 → some (#[Value.int .i64 0, .int .i64 0, .int .i64 0, .int .i64 0, .int .i64 0, .int .i64 0, .int .i64 0, .bool false, .bool false][k]!) = Chg.zero.vals[k]? := by
      intro k hk
      have : k = 0 ∨ k = 1 ∨ k = 2 ∨ k = 3 ∨ k = 4 ∨ k = 5 ∨ k = 6 ∨ k = 7 ∨ k = 8 := by omega
      rcases this with rfl | rfl | rfl | rfl | rfl | rfl | rfl | rfl | rfl <;> rfl
    exact h3 _ h2
  · rw [List.getElem?_eq_none (by simp [size_madeCells]; omega), List.getElem?_eq_none (by rw [hl]; omega)]
theorem make45 (w : World) (n : Nat) (hn : n ≤ 1000000) : (Instr.makeSlice 35 (.int .i64 (n : Int)) (.int .i64 (n : Int))).run Try.prog w = .ok (.slice (some ⟨w.heap.size, 0, none⟩) n n) (w.alloc (.cells (madeCells #[Value.int .i64 0, .int .i64 0, .int .i64 0, .int .i64 0, .int .i64 0, .int .i64 0, .int .i64 0, .bool false, .bool false] (n * 9)) 45)) := by
  obtain ⟨i0, hi, hz0, hz1, hz2⟩ := info_parts Try.inf45
  have := run_make (P := Try.prog) w 35 45 i0 _ Try.underlying35 hi hz0 .i64 .i64 (n : Int) (n : Int) (by omega) (Int.le_refl _) (by rw [hz2]; omega) (by omega)
  rw [hz1, Int.toNat_natCast] at this
  exact this
theorem own_made (w : World) (n B : Nat) (hB : B ≤ w.heap.size) (hn : n ≤ 1000000) : (w.alloc (.cells (madeCells #[Value.int .i64 0, .int .i64 0, .int .i64 0, .int .i64 0, .int .i64 0, .int .i64 0, .int .i64 0, .bool false, .bool false] (n * 9)) 45)).ownsRow B 45 9 (.slice (some ⟨w.heap.size, 0, none⟩) n n) n (flatC (List.replicate n .zero)) := by
  have := World.ownsRow_lit (base := B) (e := 45) (size := 9) w (madeCells #[Value.int .i64 0, .int .i64 0, .int .i64 0, .int .i64 0, .int .i64 0, .int .i64 0, .int .i64 0, .bool false, .bool false] (n * 9)) n hB (by unfold maxLen; omega) (size_madeCells _ _)
  rwa [made_flat] at this
end Go.Proofs.Qxb6500778a
