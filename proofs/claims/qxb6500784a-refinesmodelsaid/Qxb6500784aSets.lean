import Derived.Test.Qxb6500784aData
import Derived.Handy
import Derived.Deep.OwnRows
import Derived.Deep.RegionHeld3
import Derived.BigQuiet
import Derived.Deep.DeepCutAuto
import Derived.Laws.BitsAllLaws
import Derived.Laws.Bits64b
namespace Go.Proofs.Qxb6500784a
open Go.RowKit

theorem hide {p : Prop} (h : p) : Hid p := h
theorem bat {B : Nat} {W w1 : World} (hb : Below B W w1) {b : Nat} (o : Nat) (h : b < B) : w1.cell? ⟨b, o, none⟩ = W.cell? ⟨b, o, none⟩ := hb.cell (p := ⟨b, o, none⟩) h
theorem lecB {a b c : World} (h : Below a.heap.size a b) (k : Below b.heap.size b c) : Below a.heap.size a c := h.trans (k.mono h.size)
theorem belAl {a b : World} (h : Below a.heap.size a b) (o : Obj) : Below a.heap.size a (b.alloc o) := h.alloc h.size o

theorem and1_u8 (s m : Nat) (hs : s < 256) : (bits BinOp.and .u8 ((s : Int) / 2 ^ m) 1 != 0) = s.testBit m := by
  have e : ((s : Int) / 2 ^ m) = ((s / 2 ^ m : Nat) : Int) := by simp
  have hlt : s / 2 ^ m < 256 := Nat.lt_of_le_of_lt (Nat.div_le_self _ _) hs
  rw [e, show (1 : Int) = ((1 : Nat) : Int) from rfl, u8_and_nat _ _ hlt (by omega), Nat.and_one_is_mod, Nat.testBit_eq_decide_div_mod_eq]
  rcases Nat.mod_two_eq_zero_or_one (s / 2 ^ m) with h | h <;> rw [h] <;> rfl
theorem and1_u64 (s m : Nat) (hs : s < 18446744073709551616) : (bits BinOp.and .u64 ((s : Int) / 2 ^ m) 1 != 0) = s.testBit m := by
  have e : ((s : Int) / 2 ^ m) = ((s / 2 ^ m : Nat) : Int) := by simp
  have hlt : s / 2 ^ m < 18446744073709551616 := Nat.lt_of_le_of_lt (Nat.div_le_self _ _) hs
  rw [e, show (1 : Int) = ((1 : Nat) : Int) from rfl, bits_and_u64_nat _ _ hlt (by omega), Nat.and_one_is_mod, Nat.testBit_eq_decide_div_mod_eq]
  rcases Nat.mod_two_eq_zero_or_one (s / 2 ^ m) with h | h <;> rw [h] <;> rfl
/-- legSet.has -/
theorem has_any (w : World) (s i : Nat) (hs : s < 256) (hi : i < 8) :
    Calls Try.prog 75 #[.int .u8 s, .int .i64 i] w fun e w' => e = .returned (.bool (s.testBit i)) ∧ w' = w := by
  go_enter Try.func75, Try.ntmps75
  go_wp2
  go_ret
  refine ⟨?_, rfl⟩
  rw [← and1_u8 s i hs]
  rfl
theorem roll_any (w : World) (c : Int) :
    Calls Try.prog 78 #[.int .u8 c] w fun e w' => e = .returned (.bool (decide (c = 1 ∨ c = 2))) ∧ w' = w := by
  go_enter Try.func78, Try.ntmps78
  go_wp2
  all_goals
    go_ret
    refine ⟨?_, rfl⟩
    simp [*]
    try (by_cases h2 : c = 2 <;> simp [*])
/-- idSet.has -/
theorem idhas_any (w : World) (p : Nat) (x id : Nat) (hid : id < 256) (hx : x < 18446744073709551616) (hc : w.cell? ⟨p, id / 64, none⟩ = some (.int .u64 x)) :
    Calls Try.prog 73 #[.pointer (some ⟨p, 0, none⟩), .int .u8 id] w fun e w' => e = .returned (.bool (x.testBit (id % 64))) ∧ w' = w := by
  go_enter Try.func73, Try.ntmps73
  go_wp2
  go_ret
  refine ⟨?_, rfl⟩
  rw [← and1_u64 x (id % 64) hx]
  rfl
theorem or_pow (x m : Nat) (hx : x < 18446744073709551616) (hm : m < 64) : bits BinOp.or .u64 (x : Int) (IntKind.u64.wrap (2 ^ m)) = ((x ||| 2 ^ m : Nat) : Int) := by
  have hp : 2 ^ m < 18446744073709551616 := Nat.lt_of_lt_of_eq (Nat.pow_lt_pow_right (by omega) hm) rfl
  have e : (2 : Int) ^ m = ((2 ^ m : Nat) : Int) := by simp
  rw [e, IntWalk.u64_in _ ⟨Int.natCast_nonneg _, by omega⟩]
  exact bits_or_u64_nat _ _ hx hp
/-- idSet.add -/
theorem idadd_any (w : World) (p : Nat) (x id : Nat) (hid : id < 256) (hx : x < 18446744073709551616) (hc : w.cell? ⟨p, id / 64, none⟩ = some (.int .u64 x)) (hf : w.frozen? ⟨p, id / 64, none⟩ = false) :
    Calls Try.prog 74 #[.pointer (some ⟨p, 0, none⟩), .int .u8 id] w fun e w' => e = .returned (.tuple #[]) ∧ w' = (w.setCell ⟨p, id / 64, none⟩ (.int .u64 ((x ||| 2 ^ (id % 64) : Nat) : Int))).drew := by
  go_enter Try.func74, Try.ntmps74
  go_region
  go_end0
  rw [or_pow x (id % 64) hx (by omega)]
  exact ⟨rfl, rfl⟩
/-- legSet.lowest -/
theorem lowest_any (w : World) (s : Nat) (hs : s < 256) (h0 : s ≠ 0) :
    Calls Try.prog 69 #[.int .u8 s] w fun e w' => ∃ k : Nat, e = .returned (.int .i64 k) ∧ k < 8 ∧ s.testBit k = true ∧ w' = w := by
  go_enter Try.func69, Try.ntmps69
  go_wp2
  obtain ⟨i, hi⟩ : ∃ i, s.testBit i = true := by
    refine Classical.byContradiction fun h => h0 (Nat.eq_of_testBit_eq fun i => ?_)
    cases hb : s.testBit i
    · simp
    · exact absurd ⟨i, hb⟩ h
  have hi8 : i < 8 := by
    refine Nat.lt_of_not_le fun h => ?_
    rw [Nat.testBit_lt_two_pow (Nat.lt_of_lt_of_le hs (show 2 ^ 8 ≤ 2 ^ i from Nat.pow_le_pow_right (by omega) h))] at hi
    cases hi
  go_loop [3] (fun v => ∃ k : Nat, k ≤ i ∧ v = .int .i64 k) (fun v => i - (intOf v).toNat)
  case atStart => exact ⟨0, Nat.zero_le _, rfl⟩
  case round =>
    obtain ⟨k, hk, rfl⟩ := hrel
    go_wp2_with fail
    refine (has_any _ s k hs (by omega)).mono ?_
    rintro e w' ⟨rfl, rfl⟩
    cases hb : s.testBit k
    · go_wp2
      go_round
      case rel =>
        refine ⟨k + 1, ?_, by go_num⟩
        rcases Nat.lt_or_ge k i with h | h
        · omega
        · have : k = i := by omega
          subst this; rw [hb] at hi; cases hi
      case measure =>
        have : k < i := by
          rcases Nat.lt_or_ge k i with h | h
          · omega
          · have : k = i := by omega
            subst this; rw [hb] at hi; cases hi
        simp [intOf]; omega
    · go_wp2
      go_ret
      exact ⟨k, rfl, by omega, hb, rfl⟩
end Go.Proofs.Qxb6500784a
