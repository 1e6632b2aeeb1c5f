import Derived.Test.Qxb6500776aLeaf
namespace Go.Proofs.Qxb6500776a
open Go.RowKit

theorem pow2_half (e : Nat) : (2 : Int) ^ (e + 1) / 2 = 2 ^ e := by rw [Int.pow_succ]; omega
theorem pow2_pos (e : Nat) : (1 : Int) ≤ 2 ^ e := by have := Int.pow_pos (n := 2) (m := e) (by decide); omega
theorem pow2_le {e f : Nat} (h : e ≤ f) : (2 : Int) ^ e ≤ 2 ^ f := by
  obtain ⟨k, rfl⟩ : ∃ k, f = e + k := ⟨f - e, by omega⟩
  rw [Int.pow_add]
  have a := pow2_pos e
  have b := pow2_pos k
  have := Int.mul_le_mul_of_nonneg_left b (show (0 : Int) ≤ 2 ^ e by omega)
  omega
set_option maxHeartbeats 1000000 in
/-- IsqrtCeil: a root that is not too small. -/
theorem isqrtCeil_any (w : World) (n : Int) (hn : n ≤ 1152921504606846976) : Calls Try.prog 71 #[.int .i64 n] w fun e w' => (∃ r : Int, e = .returned (.int .i64 r) ∧ 0 ≤ r ∧ r ≤ 2147483648 ∧ n ≤ r * r) ∧ w' = w := by
  by_cases h0 : n ≤ 0
  · go_enter Try.func71, Try.ntmps71
    go_wp2
    go_ret
    exact ⟨⟨0, rfl, by omega, by omega, by omega⟩, rfl⟩
  · go_enter Try.func71, Try.ntmps71
    go_wp2
    go_loop [3, 4] (fun x y => ∃ (e : Nat) (b m M : Int), e ≤ 31 ∧ x = .int .i64 b ∧ y = .int .i64 m ∧ 0 ≤ b ∧ 0 ≤ m ∧ Hid (M = 2 ^ e) ∧ 1 ≤ M ∧ ((e = 0 ∧ m = 0) ∨ (1 ≤ e ∧ 1 ≤ m ∧ 2 * m = M)) ∧ b + M ≤ 2147483648 ∧ Hid (n ≤ (b + M) * (b + M))) (fun _ y => (intOf y).toNat)
    case atStart => exact ⟨31, 0, 1073741824, 2147483648, by omega, rfl, rfl, by omega, by omega, hide rfl, by omega, .inr ⟨by omega, by omega, by omega⟩, by omega, hide (by omega)⟩
    case round =>
      obtain ⟨e, b, m, M, he, rfl, rfl, hb, hm, HM, hM1, hcase, hbM, HN⟩ := hrel
      rcases hcase with ⟨rfl, rfl⟩ | ⟨he1, hm1, hmM⟩
      · have hM : M = 1 := HM.out
        subst hM
        go_wp2
        go_ret
        exact ⟨⟨b + 1, rfl, by omega, by omega, HN.out⟩, rfl⟩
      · obtain ⟨f, rfl⟩ : ∃ f, e = f + 1 := ⟨e - 1, by omega⟩
        have hmf : m = 2 ^ f := by have := HM.out; rw [Int.pow_succ] at this; omega
        have HMF := hide hmf
        clear hmf
        have hsq : 0 ≤ (b + m) * (b + m) ∧ (b + m) * (b + m) ≤ 4611686018427387904 := ⟨Int.mul_nonneg (by omega) (by omega), by have := sq_mono (a := b + m) (b := 2147483648) (by omega) (by omega); omega⟩
        obtain ⟨s, hs⟩ : ∃ s, b + m = s := ⟨_, rfl⟩
        rw [hs] at hsq
        obtain ⟨ss, hss⟩ : ∃ x, s * s = x := ⟨_, rfl⟩
        rw [hss] at hsq
        have HSS := hide hss
        obtain ⟨m2, hm2⟩ : ∃ x, m / 2 = x := ⟨_, rfl⟩
        have hm2t : m.tdiv 2 = m2 := by rw [Int.tdiv_eq_ediv_of_nonneg (by omega)]; exact hm2
        have hnext : Hid ((f = 0 ∧ m2 = 0) ∨ (1 ≤ f ∧ 1 ≤ m2 ∧ 2 * m2 = m)) := by
          rcases (by omega : f = 0 ∨ 1 ≤ f) with z | z
          · left; subst z; have := HMF.out; simp at this; exact ⟨rfl, by omega⟩
          · right
            obtain ⟨g, rfl⟩ : ∃ g, f = g + 1 := ⟨f - 1, by omega⟩
            have := HMF.out
            have p := pow2_pos g
            rw [Int.pow_succ] at this
            exact ⟨by omega, by omega, by omega⟩
        have hm2b : 0 ≤ m2 ∧ m2 < m := by omega
        clear hm2
        by_cases hlt : ss < n
        · go_wp2
          refine ⟨⟨f, s, m2, m, by omega, rfl, rfl, by omega, by omega, HMF, by omega, hnext.out, by omega, ?_⟩, by simp [intOf]; omega⟩
          have := HN.out
          rw [show s + m = b + M by omega]; exact hide this
        · go_wp2
          refine ⟨⟨f, b, m2, m, by omega, rfl, rfl, by omega, by omega, HMF, by omega, hnext.out, by omega, ?_⟩, by simp [intOf]; omega⟩
          rw [hs, HSS.out]; exact hide (by omega)
end Go.Proofs.Qxb6500776a
