import Derived.Test.Qxb6500778aM4
namespace Go.Proofs.Qxb6500778a
open Go.RowKit

def gfM (p l : Int) : Bool := decide (0 ≤ l ∧ l ≤ 8 ∧ 0 ≤ p ∧ p ≤ 255) && algB p l
theorem alg_nat : ∀ l : Nat, l < 9 → ∀ p : Nat, p < 256 → algB (p : Int) (l : Int) = decide (p % 2 ^ (8 - l) = 0) := by decide +kernel
theorem alg_mod {p l : Int} (hl : 0 ≤ l ∧ l ≤ 8) (hp : 0 ≤ p ∧ p ≤ 255) : algB p l = (p % 2 ^ (8 - l.toNat) == 0) := by
  obtain ⟨a, rfl⟩ : ∃ a : Nat, p = a := ⟨p.toNat, by omega⟩
  obtain ⟨b, rfl⟩ : ∃ b : Nat, l = b := ⟨l.toNat, by omega⟩
  rw [alg_nat b (by omega) a (by omega), Int.toNat_natCast]
  have e : ((a : Int) % 2 ^ (8 - b)) = ((a % 2 ^ (8 - b) : Nat) : Int) := by simp
  rw [e]
  by_cases h : a % 2 ^ (8 - b) = 0
  · rw [h]; rfl
  · rw [decide_eq_false h]
    symm
    rw [beq_eq_false_iff_ne]
    omega
set_option linter.unusedSimpArgs false in
set_option maxRecDepth 100000 in
set_option maxHeartbeats 4000000 in
/-- configm.goodPrefix -/
theorem goodPrefixM_any (w : World) (p l : Int) : Calls Try.prog 79 #[.int .i64 p, .int .i64 l] w fun e w' => e = .returned (.bool (gfM p l)) ∧ w = w' := by
  by_cases h1 : l < 0
  · have d1 : decide (l < 0) = true := decide_eq_true h1
    have e : gfM p l = false := by unfold gfM; rw [decide_eq_false (by omega)]; rfl
    rw [e]
    clear h1
    go_enter Try.func79, Try.ntmps79
    go_wp2
    go_ret
    exact ⟨rfl, rfl⟩
  · have d1 : decide (l < 0) = false := decide_eq_false h1
    by_cases h2 : 8 < l
    · have d2 : decide (8 < l) = true := decide_eq_true h2
      have e : gfM p l = false := by unfold gfM; rw [decide_eq_false (by omega)]; rfl
      rw [e]
      go_enter Try.func79, Try.ntmps79
      go_wp2
      go_ret
      exact ⟨rfl, rfl⟩
    · have d2 : decide (8 < l) = false := decide_eq_false h2
      by_cases h3 : p < 0
      · have d3 : decide (p < 0) = true := decide_eq_true h3
        have e : gfM p l = false := by unfold gfM; rw [decide_eq_false (by omega)]; rfl
        rw [e]
        go_enter Try.func79, Try.ntmps79
        go_wp2
        go_ret
        exact ⟨rfl, rfl⟩
      · have d3 : decide (p < 0) = false := decide_eq_false h3
        by_cases h4 : 255 < p
        · have d4 : decide (255 < p) = true := decide_eq_true h4
          have e : gfM p l = false := by unfold gfM; rw [decide_eq_false (by omega)]; rfl
          rw [e]
          go_enter Try.func79, Try.ntmps79
          go_wp2
          go_ret
          exact ⟨rfl, rfl⟩
        · have d4 : decide (255 < p) = false := decide_eq_false h4
          have HG : Hid (gfM p l = (p % 2 ^ (8 - l.toNat) == 0)) := by
            show gfM p l = _
            unfold gfM
            rw [decide_eq_true (by omega), alg_mod (by omega) (by omega)]
            rfl
          obtain ⟨n, rfl⟩ : ∃ n : Nat, l = n := ⟨l.toNat, by omega⟩
          rw [Int.toNat_natCast] at HG
          have hn8 : n ≤ 8 := by omega
          have hp0 : 0 ≤ p := by omega
          have hp1 : p ≤ 255 := by omega
          go_enter Try.func79, Try.ntmps79
          go_wp2_with fail
          clear h1 h2 h3 h4
          go_loopw [5, 6] (fun s5 s6 wr => ∃ (i : Nat) (f : Int), s6 = .int .i64 i ∧ s5 = .int .i64 f ∧ n ≤ i ∧ i ≤ 8 ∧ Hid (f = 2 ^ (i - n)) ∧ 1 ≤ f ∧ f ≤ 256 ∧ w = wr) (fun _ s6 _ => 8 - (intOf s6).toNat)
          case atStart => exact ⟨n, 1, rfl, rfl, Nat.le_refl _, hn8, (by show _ = _; rw [Nat.sub_self]; rfl), by omega, by omega, rfl⟩
          case round =>
            obtain ⟨i, f, rfl, rfl, hni, hi8, HF, hf1, hf2, rfl⟩ := hrel
            by_cases hlt : i < 8
            · have di : decide ((i : Int) < 8) = true := decide_eq_true (by omega)
              have HF2 : Hid (f * 2 = 2 ^ (i + 1 - n)) := by
                show _ = _
                rw [HF.out, show i + 1 - n = (i - n) + 1 by omega, Int.pow_succ]
              have hf3 : f * 2 ≤ 256 := by
                rw [HF2.out]
                have : (2 : Nat) ^ (i + 1 - n) ≤ 2 ^ 8 := Nat.pow_le_pow_right (by decide) (by omega)
                have e : ((2 : Int) ^ (i + 1 - n)) = ((2 ^ (i + 1 - n) : Nat) : Int) := by simp
                rw [e]
                omega
              have hw : IntKind.i64.wrap (f * 2) = f * 2 := by rw [IntKind.wrap_i64]; omega
              go_wp2
              go_roundw
              case rel => exact ⟨i + 1, f * 2, by go_num, by go_num, by omega, by omega, HF2, by omega, by omega, trivial⟩
              case measure => simp [intOf]; omega
            · obtain rfl : i = 8 := by omega
              have hf0 : f ≠ 0 := by omega
              have hm : p.tmod f = p % f := Int.tmod_eq_emod_of_nonneg hp0
              have HR : Hid ((p % f == 0) = gfM p n) := by
                show _ = _
                rw [HG.out, HF.out]
              have hb : 0 ≤ p % f ∧ p % f ≤ p := ⟨Int.emod_nonneg _ hf0, by
                obtain ⟨a, rfl⟩ : ∃ a : Nat, p = a := ⟨p.toNat, by omega⟩
                obtain ⟨b, rfl⟩ : ∃ b : Nat, f = b := ⟨f.toNat, by omega⟩
                have := Nat.mod_le a b
                omega⟩
              obtain ⟨z, hz⟩ : ∃ z, p % f = z := ⟨_, rfl⟩
              rw [hz] at hm HR hb
              have hw : IntKind.i64.wrap z = z := by rw [IntKind.wrap_i64]; omega
              clear hz
              go_wp2
              go_ret
              exact ⟨ret_bool HR.out, rfl⟩
end Go.Proofs.Qxb6500778a
