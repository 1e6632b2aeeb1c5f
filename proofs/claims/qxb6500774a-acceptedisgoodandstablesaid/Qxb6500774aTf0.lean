import Derived.Test.Qxb6500774aTe
namespace Go.Proofs.Qxb6500774a
open Go.RowKit
set_option linter.unusedVariables false
set_option linter.unusedSimpArgs false

/-- what a printed text leaves -/
def TxPost (w : World) (T : List Int) (e : Ending) (w' : World) : Prop := ∃ a c, e = .returned (.slice a T.length c) ∧ Ex (fun _ => False) w w' ∧ SrcAt w' a T ∧ (∀ g off, a = some ⟨g, off, none⟩ → g < w'.heap.size) ∧ (T.length ≤ c ∧ c ≤ maxLen)
theorem PR.new0 (w : World) : PR (w.alloc (.cells #[.slice none 0 0, .int .i64 0] 72)) w.heap.size [] 0 := by
  have n := fun j u h => new_cells w [.slice none 0 0, .int .i64 0] 72 j u h
  exact ⟨⟨_, n 0 _ rfl, World.ownsRow_nil _ _ 5 1⟩, n 1 _ rfl, fun j => by simp [go_sem]⟩
theorem PR.pd0 (w : World) {k : Nat} (h : PD (w.alloc (.cells #[.slice none 0 0, .int .i64 0] 72)) w.heap.size k) : w.heap.size ≤ k := by
  rcases h with z | ⟨v, h1, h2⟩
  · omega
  · have n := new_cells w [.slice none 0 0, .int .i64 0] 72 0 _ rfl
    have e : (w.alloc (.cells #[.slice none 0 0, .int .i64 0] 72)).cell? ⟨w.heap.size, 0, none⟩ = some (.slice none 0 0) := n
    rw [e] at h1
    injection h1 with h1
    rw [← h1] at h2
    cases h2
theorem PR.src {w : World} {b : Nat} {T : List Int} {i : Int} (h : PR w b T i) : ∃ a c, w.cell? ⟨b, 0, none⟩ = some (.slice a T.length c) ∧ SrcAt w a T ∧ (∀ g off, a = some ⟨g, off, none⟩ → g < w.heap.size) ∧ (T.length ≤ c ∧ c ≤ maxLen) := by
  obtain ⟨v, h1, h2⟩ := h.ex
  rcases h2.2 with ⟨e, e2⟩ | ⟨g, cap, cur, e, hb, hg, hc1, hc2, hc3, hc4⟩
  · subst e
    refine ⟨none, 0, by rw [e2]; exact h1, fun j c hj => ?_, fun g off z => (by cases z), (by omega), Nat.zero_le _⟩
    have := (List.getElem?_eq_some_iff.1 hj).1
    omega
  · subst e
    refine ⟨_, cap, h1, fun j c hj => ?_, fun g' off z => ?_, hc1, hc2⟩
    · refine ⟨g, 0, rfl, ?_⟩
      have hj2 : (cur.toList.take (T.length * 1))[j]? = some (.int .u8 c) := by rw [hc4]; unfold u8s; rw [List.getElem?_map, hj]; rfl
      rw [List.getElem?_take] at hj2
      split at hj2
      · rw [Nat.zero_add, cell_of_row w g j cur 5 (0, 0) hg]
        simpa using hj2
      · cases hj2
    · injection z with z
      injection z with z1 z2
      rw [← z1]
      exact (Array.getElem?_eq_some_iff.1 hg).1
theorem tx_fin {w w2 w' : World} {b : Nat} {T : List Int} (e0 : Ex (fun _ => False) w w2) (hpd : ∀ k, PD w2 b k → w.heap.size ≤ k) (g : PGo b w2 w') {a : Option Addr} {c : Nat} (hs : SrcAt w' a T) (ha : ∀ g off, a = some ⟨g, off, none⟩ → g < w'.heap.size) (hcc : T.length ≤ c ∧ c ≤ maxLen) : TxPost w T (.returned (.slice a T.length c)) w' :=
  ⟨a, c, rfl, e0.trans2 g.ex (fun k z => .inr (hpd k z)), hs, ha, hcc⟩
def prPp (P : Pp) : List Int := if P.re = true then [82, 69, 83, 80, 79, 78, 83, 69, 32] ++ prE P.p 0 ++ ([32, 87, 73, 84, 72, 73, 78, 32] ++ decL P.wi.toNat ++ [32, 84, 72, 69, 78, 32]) ++ (match P.q with | none => [] | some q => prE q 0) ++ [59, 10] else [73, 78, 86, 65, 82, 73, 65, 78, 84, 32] ++ prE P.p 0 ++ [59, 10]
end Go.Proofs.Qxb6500774a
