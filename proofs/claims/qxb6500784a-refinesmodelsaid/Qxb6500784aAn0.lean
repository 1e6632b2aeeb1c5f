import Derived.Test.Qxb6500784aBg1
import Derived.Test.Qxb6500784aSz
import Derived.Test.Qxb6500784aMm
namespace Go.Proofs.Qxb6500784a
open Go.RowKit

attribute [local irreducible] rootP shaP
/-! ### AllOrNothing: plain -/
theorem legs_one {n : Nat} {L : Nat → Leg} {T : Nat → List Int} (h : ∀ i, i < n → LegV (legL (L i)) (L i).ch (T i)) : LegsOne n L := fun q hq _ hj => (h q hq).o _ (List.mem_of_getElem? (legL_at (L q) hj))
theorem dep_sim (kp : Bool) (P : Pr) (n : Nat) (L : Nat → Leg) (T : Nat → List Int) : depV (simS kp P n L T) = depV P := by
  unfold simS
  split <;> rfl
theorem runK_fin (L : Nat → Leg) (T : Nat → List Int) : ∀ (is : List Nat) (P : Pr) (r : Rs), (runK L T is P r).2.2.1 = 0 → (runK L T is P r).2.2.2 = -1
  | [], _, _, _ => rfl
  | i :: is, P, r, h => by
    rw [runK] at h ⊢
    split
    · rename_i hz
      rw [if_pos hz] at h
      exact runK_fin L T is _ _ h
    · rename_i hz
      rw [if_neg hz] at h
      exact absurd h hz
theorem sim_zero {P : Pr} {n : Nat} {L : Nat → Leg} {T : Nat → List Int} {v : Value} (h : (simR P n L T v).code = 0) : ordCode n L = 0 ∧ shallow P ∧ (simR P n L T v).ra = rootP (simS true P n L T).la ∧ (simR P n L T v).rb = rootP (simS true P n L T).lb := by
  by_cases h1 : ordCode n L = 0
  · by_cases h2 : shallow P
    · obtain ⟨Q, r, c, f, hK⟩ : ∃ Q r c f, simK P n L T v = (Q, r, c, f) := ⟨_, _, _, _, rfl⟩
      by_cases h3 : c = 0
      · have hf : f = -1 := by
          have := runK_fin L T (ordP n L) (opened P) (res0 (ordI (ordP n L)) v)
          unfold simK at hK
          rw [hK] at this
          exact this h3
        subst h3 hf
        obtain ⟨e1, e2⟩ := sim_ok h1 h2 hK true
        rw [e1, e2, if_pos rfl]
        exact ⟨h1, h2, rfl, rfl⟩
      · obtain ⟨e1, _⟩ := sim_fail h1 h2 hK h3 true
        rw [e1] at h
        exact absurd h h3
    · unfold simR at h
      rw [if_neg (by simp [h1]), if_pos h2] at h
      cases h
  · unfold simR at h
    rw [if_pos h1] at h
    exact absurd h h1
theorem sim_nz {P : Pr} {n : Nat} {L : Nat → Leg} {T : Nat → List Int} {v : Value} (h : (simR P n L T v).code ≠ 0) : simS true P n L T = P := by
  unfold simS
  rw [if_neg]
  rintro ⟨_, h1, h2, h3⟩
  refine h ?_
  have e := (runK_indep (L := L) (T := T) (ordP n L) (opened P) (res0 (ordI (ordP n L)) nilS) (res0 (ordI (ordP n L)) v)).2
  have e' : (simK P n L T nilS).2.2 = (simK P n L T v).2.2 := e
  rw [e'] at h3
  unfold simR
  rw [if_neg (by simp [h1]), if_neg (by simp [h2]), if_neg (by simp [h3])]
  exact (runK_ord (ordP n L) (opened P) (res0 (ordI (ordP n L)) v)).2
theorem Try.fo59 : Try.prog.fieldsOf 59 = #[{ name := "LedgerA", type := 3, offset := 0, embedded := false, tag := "", pkgPath := "", byteOffset := 0 }, { name := "LedgerB", type := 3, offset := 1, embedded := false, tag := "", pkgPath := "", byteOffset := 8 }, { name := "BoxA", type := 3, offset := 2, embedded := false, tag := "", pkgPath := "", byteOffset := 16 }, { name := "BoxB", type := 3, offset := 3, embedded := false, tag := "", pkgPath := "", byteOffset := 24 }] := by kernel_rfl
theorem eq59 {w : World} (d : Nat) (a b c e : Int) : (Op.equalIn (d + 6) 59 (.agg #[.int .i64 a, .int .i64 b, .int .i64 c, .int .i64 e]) (.agg #[.int .i64 a, .int .i64 b, .int .i64 c, .int .i64 e])).run Try.prog w = .ok true w := by
  rw [run_equalIn_struct w (d + 5) 59 _ _ (by rw [Try.underlying59, Try.fo59]) (by kernel_rfl), Try.fo59]
  rw [eqFields_all (fun _ => true)]
  · simp
  · intro f hf
    simp only [List.mem_cons, List.not_mem_nil, or_false] at hf
    rcases hf with rfl | rfl | rfl | rfl
    · exact ⟨by decide, eqIntT (k := .i64) (x := a) (by kernel_rfl) Try.underlying3 rfl⟩
    · exact ⟨by decide, eqIntT (k := .i64) (x := b) (by kernel_rfl) Try.underlying3 rfl⟩
    · exact ⟨by decide, eqIntT (k := .i64) (x := c) (by kernel_rfl) Try.underlying3 rfl⟩
    · exact ⟨by decide, eqIntT (k := .i64) (x := e) (by kernel_rfl) Try.underlying3 rfl⟩
end Go.Proofs.Qxb6500784a
