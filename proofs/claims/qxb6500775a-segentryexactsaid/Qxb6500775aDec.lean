import Derived.Test.Qxb6500775aNew
import Derived.Test.Qxb6500775aPow
namespace Go.Proofs.Qxb6500775a
open Go.RowKit

def lossB (k : Nat) : Bool := decide ((10 : Int) ^ k ≤ lossP k ^ 10 ∧ (lossP k - 1) ^ 10 < (10 : Int) ^ k ∧ 1 ≤ lossP k ∧ lossP k < 4611686018427387904)
set_option maxRecDepth 1000000 in
theorem lossAll : allB lossB 131 = true := by decide +kernel
theorem loss_at (k : Nat) (h : k < 131) : (10 : Int) ^ k ≤ lossP k ^ 10 ∧ (lossP k - 1) ^ 10 < (10 : Int) ^ k ∧ 1 ≤ lossP k ∧ lossP k < 4611686018427387904 := by
  have := allB_at lossAll k h
  unfold lossB at this
  simpa only [decide_eq_true_eq] using this
theorem pow_mono {a b : Int} (h0 : 0 ≤ a) (h : a ≤ b) : ∀ n : Nat, a ^ n ≤ b ^ n
  | 0 => by simp
  | n + 1 => by
    rw [Int.pow_succ, Int.pow_succ]
    exact Int.mul_le_mul (pow_mono h0 h n) h h0 (Int.le_trans (Int.pow_nonneg h0) (pow_mono h0 h n))
/-- What Decibel finds. -/
def DecAt (n : Int) (k : Nat) : Prop := k ≤ 130 ∧ (k = 0 ∨ lossP k ≤ n) ∧ (k = 130 ∨ n < lossP (k + 1))
theorem dec_law {n : Int} {k : Nat} (hn : 1 ≤ n) (h : DecAt n k) : (10 : Int) ^ k ≤ n ^ 10 ∧ (k < 130 → n ^ 10 < (10 : Int) ^ (k + 1)) := by
  obtain ⟨h1, h2, h3⟩ := h
  have l := loss_at k (by omega)
  refine ⟨?_, fun hk => ?_⟩
  · have h2' : lossP k ≤ n := by
      rcases h2 with rfl | z
      · have : lossP 0 = 1 := by decide +kernel
        rw [this]; exact hn
      · exact z
    exact Int.le_trans l.1 (pow_mono (by omega) h2' 10)
  · have l2 := loss_at (k + 1) (by omega)
    have : n ≤ lossP (k + 1) - 1 := by rcases h3 with z | z <;> omega
    exact Int.lt_of_le_of_lt (pow_mono (by omega) this 10) l2.2.1
theorem decibel_low (w : World) (b : Nat) (n : Int) (hn : n < 1) :
    Calls Try.prog 37 #[.pointer (some ⟨b, 0, none⟩), .int .i64 n] w fun e w' => e = .returned (.tuple #[.int .i64 0, .int .i64 4]) ∧ w' = w := by
  go_enter Try.func37, Try.ntmps37
  go_wp2
  exact bodyPost_ret (v := .tuple #[.int .i64 0, .int .i64 4]) (by simp [results, Try.results37, go_sem]) rfl ⟨rfl, rfl⟩
set_option maxRecDepth 100000 in
set_option maxHeartbeats 2000000 in
theorem decibel_any (w : World) (b : Nat) (n : Int) (hn : 1 ≤ n) (h : Tabs w b) :
    Calls Try.prog 37 #[.pointer (some ⟨b, 0, none⟩), .int .i64 n] w fun e w' => ∃ k : Nat, e = .returned (.tuple #[.int .i64 k, .int .i64 0]) ∧ DecAt n k ∧ w' = w := by
  have HT := hide h
  clear h
  go_enter Try.func37, Try.ntmps37
  go_wp2
  go_loopw [6, 7] (fun x y wr => ∃ lo hi : Nat, x = .int .i64 lo ∧ y = .int .i64 hi ∧ lo < hi ∧ hi ≤ 131 ∧ Hid ((lo = 0 ∨ lossP lo ≤ n) ∧ (hi = 131 ∨ n < lossP hi)) ∧ wr = w) (fun x y _ => (intOf y - intOf x).toNat)
  case atStart => exact ⟨0, 131, rfl, rfl, by omega, by omega, hide ⟨.inl rfl, .inl rfl⟩, rfl⟩
  case round =>
    obtain ⟨lo, hi, rfl, rfl, hlt, hhi, HI, rfl⟩ := hrel
    by_cases hgo : lo + 1 < hi
    · have hg1 : 1 < (hi : Int) - (lo : Int) := by omega
      obtain ⟨mid, hmid⟩ : ∃ m : Nat, m = (lo + hi) / 2 := ⟨_, rfl⟩
      have e1 : ((lo : Int) + (hi : Int)) / 2 = (mid : Int) := by omega
      have e2 : ((lo : Int) + (hi : Int)).tdiv 2 = (mid : Int) := by rw [Int.tdiv_eq_ediv_of_nonneg (by omega)]; exact e1
      have m1 : lo < mid := by omega
      have m2 : mid < hi := by omega
      have m3 : mid < 131 := by omega
      have x := HT.out.loss mid m3
      have hm64 : (mid : Int) < 131 := by omega
      clear hmid hgo
      obtain ⟨L, hL⟩ : ∃ L, lossP mid = L := ⟨_, rfl⟩
      rw [hL] at x
      have HL := hide hL
      clear hL
      by_cases hc : L ≤ n
      · go_wp2
        go_roundw
        case rel => exact ⟨mid, hi, rfl, rfl, m2, hhi, hide ⟨.inr (by rw [HL.out]; exact hc), HI.out.2⟩, trivial⟩
        case measure => simp [intOf]; omega
      · go_wp2
        go_roundw
        case rel => exact ⟨lo, mid, rfl, rfl, m1, by omega, hide ⟨HI.out.1, .inr (by rw [HL.out]; omega)⟩, trivial⟩
        case measure => simp [intOf]; omega
    · have hg1 : ¬ 1 < (hi : Int) - (lo : Int) := by omega
      go_wp2
      refine bodyPost_ret (v := .tuple #[.int .i64 lo, .int .i64 0]) (by simp [results, Try.results37, go_sem]) rfl ⟨lo, rfl, ⟨by omega, HI.out.1, ?_⟩, rfl⟩
      have he : hi = lo + 1 := by omega
      rcases HI.out.2 with z | z
      · left; omega
      · right; rw [he] at z; exact z
set_option maxRecDepth 100000 in
theorem lossRange_any (w : World) (b k : Nat) (h1 : 1 ≤ k) (h2 : k ≤ 130) (h : Tabs w b) :
    Calls Try.prog 39 #[.pointer (some ⟨b, 0, none⟩), .int .i64 k] w fun e w' => e = .returned (.tuple #[.int .i64 (lossP k), .int .i64 0]) ∧ w' = w := by
  have x := h.loss k (by omega)
  clear h
  generalize lossP k = L at *
  have h3 : ¬ (k : Int) ≤ 0 := by omega
  have h4 : (k : Int) < 131 := by omega
  go_enter Try.func39, Try.ntmps39
  go_wp2
  exact bodyPost_ret (v := .tuple #[.int .i64 L, .int .i64 0]) (by simp [results, Try.results39, go_sem]) rfl ⟨rfl, rfl⟩
end Go.Proofs.Qxb6500775a
