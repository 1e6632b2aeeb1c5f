import Derived.Test.Qxb6500776aSml
import Derived.Laws.BitsAllLaws
import Derived.Laws.Bits64b
namespace Go.Proofs.Qxb6500776a
open Go.RowKit

theorem or_pow (x m : Nat) (hx : x < 18446744073709551616) (hm : m < 64) : bits BinOp.or .u64 (x : Int) (IntKind.u64.wrap (2 ^ m)) = ((x ||| 2 ^ m : Nat) : Int) := by
  have hp : 2 ^ m < 18446744073709551616 := Nat.lt_of_lt_of_eq (Nat.pow_lt_pow_right (by omega) hm) rfl
  have e : (2 : Int) ^ m = ((2 ^ m : Nat) : Int) := by simp
  rw [e, IntWalk.u64_in _ ⟨Int.natCast_nonneg _, by omega⟩]
  exact bits_or_u64_nat _ _ hx hp
/-- The first k sensors of a team's target. -/
def anyK (B : Brd) (T j : Nat) : Nat → Bool
  | 0 => false
  | k + 1 => anyK B T j k || (B T j k).seen
/-- Bit j, while the loops stand at I, K. -/
def bitAt (B : Brd) (T I K j : Nat) : Bool := if j < I then anyK B T j 4 else if j = I then anyK B T j K else false
theorem bit_or (B : Brd) (T I K : Nat) (n : Nat) (h : ∀ j, n.testBit j = bitAt B T I K j) (hs : (B T I K).seen = true) (j : Nat) : (n ||| 2 ^ I).testBit j = bitAt B T I (K + 1) j := by
  rw [Nat.testBit_or, h, Nat.testBit_two_pow]
  unfold bitAt
  by_cases h1 : j < I
  · rw [if_pos h1, if_pos h1]
    have : ¬ I = j := by omega
    simp [this]
  · rw [if_neg h1, if_neg h1]
    by_cases h2 : j = I
    · subst h2
      rw [if_pos rfl, if_pos rfl, anyK, hs]
      simp
    · rw [if_neg h2, if_neg h2]
      have : ¬ I = j := by omega
      simp [this]
theorem bit_no (B : Brd) (T I K : Nat) (n : Nat) (h : ∀ j, n.testBit j = bitAt B T I K j) (hs : (B T I K).seen = false) (j : Nat) : n.testBit j = bitAt B T I (K + 1) j := by
  rw [h]
  unfold bitAt
  rw [anyK.eq_def B T j (K + 1)]
  by_cases h2 : j = I
  · subst h2; simp [hs]
  · simp [h2]
theorem bit_next (B : Brd) (T I : Nat) (n : Nat) (h : ∀ j, n.testBit j = bitAt B T I 4 j) (j : Nat) : n.testBit j = bitAt B T (I + 1) 0 j := by
  rw [h]
  unfold bitAt
  by_cases h1 : j < I
  · rw [if_pos h1, if_pos (by omega)]
  · rw [if_neg h1]
    by_cases h2 : j = I
    · rw [if_pos h2, if_pos (by omega)]
    · rw [if_neg h2, if_neg (by omega)]
      by_cases h3 : j = I + 1
      · rw [if_pos h3]; rfl
      · rw [if_neg h3]
theorem bit_lt {n : Nat} (B : Brd) (T I K : Nat) (hI : I ≤ 47) (h : ∀ j, n.testBit j = bitAt B T I K j) : n < 2 ^ 48 := by
  apply Nat.lt_pow_two_of_testBit
  intro i hi
  rw [h]
  unfold bitAt
  rw [if_neg (by omega), if_neg (by omega)]
def DtPost (w : World) (B : Brd) (T : Int) (e : Ending) (w' : World) : Prop := ∃ n : Nat, e = .returned (.int .u64 n) ∧ n < 18446744073709551616 ∧ (∀ j, j < 48 → n.testBit j = if 0 ≤ T ∧ T < 4 then anyK B T.toNat j 4 else false) ∧ w' = w
set_option maxRecDepth 100000 in
set_option maxHeartbeats 1000000 in
theorem detected_any (w : World) (s : Nat) (B : Brd) (h : BRD w s B) (T : Int) :
    Calls Try.prog 29 #[.pointer (some ⟨s, 0, none⟩), .int .i64 T] w (DtPost w B T) := by
  have HB := hide h
  clear h
  by_cases h0 : T < 0
  · go_enter Try.func29, Try.ntmps29
    go_wp2
    go_ret
    exact ⟨0, rfl, by omega, fun j _ => by rw [if_neg (by omega)]; simp, rfl⟩
  · by_cases h4 : 4 ≤ T
    · go_enter Try.func29, Try.ntmps29
      go_wp2
      go_ret
      exact ⟨0, rfl, by omega, fun j _ => by rw [if_neg (by omega)]; simp, rfl⟩
    · obtain ⟨t, rfl⟩ : ∃ t : Nat, T = t := ⟨T.toNat, by omega⟩
      have ht4 : t < 4 := by omega
      have ht4i : (t : Int) < 4 := by omega
      go_enter Try.func29, Try.ntmps29
      go_wp2
      go_loop [5, 6] (fun sn sI => ∃ (n I : Nat), I ≤ 48 ∧ sn = .int .u64 n ∧ sI = .int .i64 I ∧ n < 281474976710656 ∧ Hid (∀ j, n.testBit j = bitAt B t I 0 j)) (fun _ sI => 48 - (intOf sI).toNat)
      case atStart => exact ⟨0, 0, by omega, rfl, rfl, by omega, hide fun j => by simp [bitAt, anyK]⟩
      case round =>
        obtain ⟨n, I, hI, rfl, rfl, hn, HN⟩ := hrel
        by_cases hI48 : I < 48
        · have hI48i : (I : Int) < 48 := by omega
          go_wp2
          go_loop [5, 7] (fun sn sK => ∃ (n K : Nat), K ≤ 4 ∧ sn = .int .u64 n ∧ sK = .int .i64 K ∧ n < 281474976710656 ∧ Hid (∀ j, n.testBit j = bitAt B t I K j)) (fun _ sK => 4 - (intOf sK).toNat)
          case atStart => exact ⟨n, 0, by omega, rfl, rfl, hn, HN⟩
          case round =>
            clear HN hn
            obtain ⟨n, K, hK, rfl, rfl, hn, HN⟩ := hrel
            by_cases hK4 : K < 4
            · have hK4i : (K : Int) < 4 := by omega
              have z0 := (HB.out.at ht4 hI48 hK4).1
              cases hs : (B t I K).seen
              · rw [hs] at z0
                have HS := hide hs
                clear hs
                go_wp2
                refine ⟨⟨n, K + 1, by omega, rfl, by go_num, hn, hide (bit_no B t I K n HN.out HS.out)⟩, by simp [intOf]; omega⟩
              · rw [hs] at z0
                have HS := hide hs
                clear hs
                have hor := or_pow n I (by omega) (by omega)
                have hb2 := bit_or B t I K n HN.out HS.out
                have hlt := bit_lt B t I (K + 1) (by omega) hb2
                have HO := hide (And.intro hb2 hlt)
                clear hb2 hlt
                go_wp2
                refine ⟨⟨n ||| 2 ^ I, K + 1, by omega, rfl, by go_num, Nat.lt_of_lt_of_eq HO.out.2 rfl, hide HO.out.1⟩, by simp [intOf]; omega⟩
            · obtain rfl : K = 4 := by omega
              go_wp2
              refine ⟨⟨n, I + 1, by omega, rfl, by go_num, hn, hide (bit_next B t I n HN.out)⟩, by simp [intOf]; omega⟩
        · obtain rfl : I = 48 := by omega
          go_wp2
          go_ret
          refine ⟨n, rfl, by omega, fun j hj => ?_, rfl⟩
          rw [HN.out, if_pos (by omega)]
          unfold bitAt
          rw [if_pos hj]
          simp
end Go.Proofs.Qxb6500776a
