import Derived.Test.Qxb6500778aU5
namespace Go.Proofs.Qxb6500778a
open Go.RowKit

/-- the changes of a batch on the model's copy, plain -/
def mrun : MN → List Chg → Nat → MN × Int × Int
  | M, [], _ => (M, 0, 0)
  | M, c :: C, i => if (mchg M c).2 = 0 then mrun (mchg M c).1 C (i + 1) else (M, (mchg M c).2, (i : Int))
/-- configm.Apply, plain -/
def mapply (M : MN) (id : Int) (C : List Chg) : MN × Int × Int :=
  if (checkP id C).1 = 0 then (if (mrun M C 0).2.1 = 0 then mrun M C 0 else (M, (mrun M C 0).2)) else (M, checkP id C)
theorem mrun_rel : ∀ (C : List Chg) (N : Nat → Dv) (M : MN) (i : Nat) (U : List Chg), MR N M → NetOk N → LkOk N → (∀ c ∈ C, GoodC c) →
    (mrun M C i).2 = (runL N C i U).2.2 ∧ ((runL N C i U).2.2.1 = 0 → MR (runL N C i U).1 (mrun M C i).1)
  | [], N, M, i, U, h, _, _, _ => ⟨rfl, fun _ => h⟩
  | c :: C, N, M, i, U, h, hok, hlk, hg => by
    have hc := hg c (List.mem_cons_self ..)
    obtain ⟨r1, r2⟩ := change_rel h hok hlk hc
    rw [mrun, runL]
    by_cases he : (stepP N c).2.2 = 0
    · rw [if_pos (r1.trans he)]
      have := mrun_rel C (stepP N c).1 (mchg M c).1 (i + 1) ((stepP N c).2.1 :: U) r2 (step_ok N c hok hc) (step_lk hok hlk hc he) (fun x hx => hg x (List.mem_cons_of_mem _ hx))
      simp only [he, ↓reduceIte]
      exact this
    · rw [if_neg (by rw [r1]; exact he)]
      rw [if_neg he]
      exact ⟨by rw [r1], fun z => absurd z he⟩
theorem mapply_rel {N : Nat → Dv} {M : MN} (h : MR N M) (hok : NetOk N) (hlk : LkOk N) (id : Int) (C : List Chg) :
    (mapply M id C).2 = (runP N id C).2.2 ∧ MR (applyP N id C) (mapply M id C).1 := by
  unfold mapply applyP runP
  by_cases hc : (checkP id C).1 = 0
  · obtain ⟨_, _, hg⟩ := check_ok hc
    obtain ⟨r1, r2⟩ := mrun_rel C N M 0 [] h hok hlk hg
    rw [if_pos hc, if_pos hc]
    by_cases he : (runL N C 0 []).2.2.1 = 0
    · rw [if_pos (by rw [r1]; exact he), if_pos he]
      exact ⟨r1, r2 he⟩
    · rw [if_neg (by rw [r1]; exact he), if_neg he]
      exact ⟨r1, h⟩
  · rw [if_neg hc, if_neg hc]
    simp only [if_neg hc]
    exact ⟨trivial, h⟩
end Go.Proofs.Qxb6500778a
