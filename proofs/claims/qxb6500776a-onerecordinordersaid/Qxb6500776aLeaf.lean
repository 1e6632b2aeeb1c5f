import Derived.Test.Qxb6500776aProg
import Derived.WalkKit
import Derived.WalkSpells
import Derived.WalkLawsBesides
import Derived.Handy
import Derived.Deep.OwnRows
import Derived.Deep.RegionHeld3
import Derived.Deep.RegionLaw
import Derived.BigQuiet
import Derived.Deep.DeepCutAuto
namespace Go.Proofs.Qxb6500776a
open Go.RowKit

theorem hide {p : Prop} (h : p) : Hid p := h
theorem ret_int {k : IntKind} {a b : Int} (h : a = b) : Ending.returned (.int k a) = .returned (.int k b) := by rw [h]
theorem ret_bool {a b : Bool} (h : a = b) : Ending.returned (.bool a) = .returned (.bool b) := by rw [h]
theorem sq_mono {a b : Int} (h0 : 0 ≤ a) (h : a ≤ b) : a * a ≤ b * b := Int.mul_le_mul h h h0 (by omega)
theorem sq_nn (a : Int) : 0 ≤ a * a := by
  rcases (by omega : 0 ≤ a ∨ a ≤ 0) with z | z
  · exact Int.mul_nonneg z z
  · have := Int.mul_nonneg (show 0 ≤ -a by omega) (show 0 ≤ -a by omega); rw [Int.neg_mul_neg] at this; exact this
theorem sq_bd {a : Int} (h0 : -2097152 ≤ a) (h1 : a ≤ 2097152) : 0 ≤ a * a ∧ a * a ≤ 4398046511104 := by
  refine ⟨sq_nn a, ?_⟩
  rcases (by omega : 0 ≤ a ∨ a ≤ 0) with z | z
  · have := sq_mono z h1; omega
  · have := sq_mono (show 0 ≤ -a by omega) (show -a ≤ 2097152 by omega); rw [Int.neg_mul_neg] at this; omega
/-- worldm.wrap -/
theorem wrap_any (w : World) (v n : Int) (hn : 1 ≤ n) (hn2 : n ≤ 1000000) (h0 : -9223372036854775808 ≤ v) (h1 : v < 9223372036854775808) :
    Calls Try.prog 30 #[.int .i64 v, .int .i64 n] w fun e w' => e = .returned (.int .i64 (v % n)) ∧ w' = w := by
  have hnz : ¬ n = 0 := by omega
  have hnb : (n == 0) = false := by simpa using hnz
  have b0 := Int.emod_nonneg v hnz
  have b1 := Int.emod_lt_of_pos v (show 0 < n by omega)
  obtain ⟨r, hr⟩ : ∃ r, v.tmod n = r := ⟨_, rfl⟩
  have hrel : (0 ≤ r ∧ v % n = r) ∨ (r < 0 ∧ v % n = r + n ∧ -n < r) := by
    rcases (by omega : 0 ≤ v ∨ v < 0) with z | z
    · left
      rw [Int.tmod_eq_emod_of_nonneg z] at hr
      exact ⟨by omega, hr⟩
    · have e1 := Int.mul_tdiv_add_tmod v n
      rw [hr] at e1
      have hr2 : r ≤ 0 := by
        have := Int.tmod_nonneg n (a := -v) (by omega)
        rw [Int.neg_tmod, hr] at this; omega
      have hr3 : -n < r := by
        have := Int.tmod_lt_of_pos (-v) (show 0 < n by omega)
        rw [Int.neg_tmod, hr] at this; omega
      rcases (by omega : r = 0 ∨ r < 0) with y | y
      · left
        refine ⟨by omega, ?_⟩
        rw [← e1, y, Int.add_zero, Int.mul_emod_right]
      · right
        refine ⟨y, ?_, hr3⟩
        have : v = (r + n) + n * (v.tdiv n - 1) := by rw [Int.mul_sub]; omega
        rw [this, Int.add_mul_emod_self_left, Int.emod_eq_of_lt (by omega) (by omega)]
  rcases hrel with ⟨r0, e⟩ | ⟨r0, e, r1⟩
  · rw [e]
    clear e b0 b1
    go_enter Try.func30, Try.ntmps30
    go_wp2
    go_ret
    exact ⟨rfl, rfl⟩
  · rw [e]
    clear e b0 b1
    go_enter Try.func30, Try.ntmps30
    go_wp2
    go_ret
    exact ⟨rfl, rfl⟩
def holdP (v lo hi : Int) : Int := if v < lo then lo else if hi < v then hi else v
theorem hold_any (w : World) (v lo hi : Int) : Calls Try.prog 32 #[.int .i64 v, .int .i64 lo, .int .i64 hi] w fun e w' => e = .returned (.int .i64 (holdP v lo hi)) ∧ w' = w := by
  by_cases h1 : v < lo
  · go_enter Try.func32, Try.ntmps32
    go_wp2
    go_ret
    exact ⟨ret_int (by rw [holdP, if_pos h1]), rfl⟩
  · by_cases h2 : hi < v
    · go_enter Try.func32, Try.ntmps32
      go_wp2
      go_ret
      exact ⟨ret_int (by rw [holdP, if_neg (by omega), if_pos h2]), rfl⟩
    · go_enter Try.func32, Try.ntmps32
      go_wp2
      go_ret
      exact ⟨ret_int (by rw [holdP, if_neg (by omega), if_neg (by omega)]), rfl⟩
theorem hold_rng {v lo hi : Int} (h : lo ≤ hi) : lo ≤ holdP v lo hi ∧ holdP v lo hi ≤ hi := by unfold holdP; split; omega; split <;> omega
/-- On the map. -/
def OnM (x : Int) : Prop := -1048576 ≤ x ∧ x ≤ 1048576
def dsq (ax ay bx by_ : Int) : Int := (ax - bx) * (ax - bx) + (ay - by_) * (ay - by_)
theorem dsq_rng {ax ay bx by_ : Int} (h1 : OnM ax) (h2 : OnM ay) (h3 : OnM bx) (h4 : OnM by_) : 0 ≤ dsq ax ay bx by_ ∧ dsq ax ay bx by_ ≤ 8796093022208 := by
  unfold OnM at *
  have a := sq_bd (a := ax - bx) (by omega) (by omega)
  have b := sq_bd (a := ay - by_) (by omega) (by omega)
  unfold dsq; omega
theorem distSq_any (w : World) (ax ay bx by_ : Int) (h1 : OnM ax) (h2 : OnM ay) (h3 : OnM bx) (h4 : OnM by_) :
    Calls Try.prog 22 #[.int .i64 ax, .int .i64 ay, .int .i64 bx, .int .i64 by_] w fun e w' => e = .returned (.int .i64 (dsq ax ay bx by_)) ∧ w' = w := by
  unfold OnM at *
  have a := sq_bd (a := ax - bx) (by omega) (by omega)
  have b := sq_bd (a := ay - by_) (by omega) (by omega)
  go_enter Try.func22, Try.ntmps22
  go_wp2
  go_ret
  exact ⟨ret_int rfl, rfl⟩
theorem cellOf_any (w : World) (v : Int) (h : OnM v) : Calls Try.prog 68 #[.int .i64 v] w fun e w' => e = .returned (.int .i64 ((v + 1048576) / 65536)) ∧ w' = w := by
  unfold OnM at h
  go_enter Try.func68, Try.ntmps68
  go_wp2
  go_ret
  exact ⟨rfl, rfl⟩
theorem toMap_any (w : World) (v : Int) : Calls Try.prog 75 #[.int .i64 v] w fun e w' => e = .returned (.int .i64 (holdP v (-1048576) 1048576)) ∧ w' = w := by
  by_cases h1 : v < -1048576
  · go_enter Try.func75, Try.ntmps75
    go_wp2
    go_ret
    exact ⟨ret_int (by rw [holdP, if_pos h1]), rfl⟩
  · by_cases h2 : 1048576 < v
    · go_enter Try.func75, Try.ntmps75
      go_wp2
      go_ret
      exact ⟨ret_int (by rw [holdP, if_neg (by omega), if_pos h2]), rfl⟩
    · go_enter Try.func75, Try.ntmps75
      go_wp2
      go_ret
      exact ⟨ret_int (by rw [holdP, if_neg (by omega), if_neg (by omega)]), rfl⟩
/-- power10 -/
theorem power10_any (w : World) (n : Nat) (hn : n ≤ 18) : Calls Try.prog 67 #[.int .i64 n] w fun e w' => e = .returned (.int .i64 ((10 ^ n : Nat) : Int)) ∧ w' = w := by
  go_enter Try.func67, Try.ntmps67
  go_wp2
  go_loop [3, 4] (fun p i => ∃ (k : Nat) (x : Int), k ≤ n ∧ p = .int .i64 x ∧ i = .int .i64 k ∧ 0 ≤ x ∧ x = ((10 ^ k : Nat) : Int)) (fun _ i => n - (intOf i).toNat)
  case atStart => exact ⟨0, 1, by omega, rfl, rfl, by omega, rfl⟩
  case round =>
    obtain ⟨k, x, hk, rfl, rfl, hx0, hx⟩ := hrel
    have HX := hide hx
    have hxb : x ≤ 1000000000000000000 := by
      have : (10 ^ k : Nat) ≤ 10 ^ 18 := Nat.pow_le_pow_right (by omega) (by omega)
      rw [hx]; omega
    clear hx
    by_cases hlt : k < n
    · have hxb2 : x ≤ 100000000000000000 := by
        have : (10 ^ k : Nat) ≤ 10 ^ 17 := Nat.pow_le_pow_right (by omega) (by omega)
        have := HX.out; omega
      go_wp2
      exact ⟨⟨k + 1, x * 10, by omega, rfl, by go_num, by omega, by rw [HX.out, Nat.pow_succ]; omega⟩, by simp [intOf]; omega⟩
    · obtain rfl : k = n := by omega
      go_wp2
      go_ret
      exact ⟨ret_int HX.out, rfl⟩
/-! ### the decibel table -/
def dmP (j : Nat) : Nat :=
  match j with
  | 1 => 1258925411794167 | 2 => 1584893192461113 | 3 => 1995262314968879 | 4 => 2511886431509580 | 5 => 3162277660168379 | 6 => 3981071705534972 | 7 => 5011872336272722 | 8 => 6309573444801932 | _ => 7943282347242815
def lossP (k : Nat) : Int := if k % 10 = 0 then ((10 ^ (k / 10) : Nat) : Int) else ((dmP (k % 10) / 10 ^ (15 - k / 10) + 1 : Nat) : Int)
set_option maxRecDepth 100000 in
set_option maxHeartbeats 2000000 in
theorem lossRange_any (w : World) (k : Nat) (hk : k ≤ 130) : Calls Try.prog 47 #[.int .i64 k] w fun e w' => e = .returned (.int .i64 (lossP k)) ∧ w' = w := by
  obtain ⟨d, hd⟩ : ∃ d, k / 10 = d := ⟨_, rfl⟩
  obtain ⟨j, hj⟩ : ∃ j, k % 10 = j := ⟨_, rfl⟩
  have hd13 : d ≤ 13 := by omega
  have hj9 : j < 10 := by omega
  obtain ⟨c, hc⟩ : ∃ c, 15 - d = c := ⟨_, rfl⟩
  have e1 : (k : Int) / 10 = (d : Int) := by omega
  have e2 : (k : Int).tdiv 10 = (d : Int) := by rw [Int.tdiv_eq_ediv_of_nonneg (by omega)]; exact e1
  have e3 : (k : Int) % 10 = (j : Int) := by omega
  have e4 : (k : Int).tmod 10 = (j : Int) := by rw [Int.tmod_eq_emod_of_nonneg (by omega)]; exact e3
  have e5 : (15 : Int) - (d : Int) = (c : Int) := by omega
  have hp := fun w => hide (power10_any w c (by omega))
  have hp2 := fun w => hide (power10_any w d (by omega))
  have hP1 : 1 ≤ 10 ^ c := Nat.pow_pos (by omega)
  have hP2 : 10 ^ c ≤ 10 ^ 15 := Nat.pow_le_pow_right (by omega) (by omega)
  have hL : lossP k = if j = 0 then ((10 ^ d : Nat) : Int) else ((dmP j / 10 ^ c + 1 : Nat) : Int) := by unfold lossP; rw [hd, hj, hc]
  rw [hL]
  clear hL hd hj hc
  generalize 10 ^ c = P at *
  generalize 10 ^ d = T at *
  have hPz : ¬ (P : Int) = 0 := by omega
  have hPn : ¬ P = 0 := by omega
  have key : ∀ m : Nat, ((m / P + 1 : Nat) : Int) = (m : Int) / (P : Int) + 1 := fun m => by simp
  have keyt : ∀ m : Int, 0 ≤ m → m.tdiv (P : Int) = m / (P : Int) ∧ 0 ≤ m / (P : Int) ∧ m / (P : Int) ≤ m := fun m h => ⟨Int.tdiv_eq_ediv_of_nonneg h, Int.ediv_nonneg h (by omega), Int.ediv_le_self _ h⟩
  rcases (by omega : j = 0 ∨ j = 1 ∨ j = 2 ∨ j = 3 ∨ j = 4 ∨ j = 5 ∨ j = 6 ∨ j = 7 ∨ j = 8 ∨ j = 9) with rfl | rfl | rfl | rfl | rfl | rfl | rfl | rfl | rfl | rfl
  · rw [if_pos rfl]
    go_enter Try.func47, Try.ntmps47
    go_wp2_with fail
    refine (hp _).out.mono ?_
    rintro e w' ⟨rfl, rfl⟩
    go_wp2_with fail
    refine (hp2 _).out.mono ?_
    rintro e w' ⟨rfl, rfl⟩
    go_wp2
    go_ret
    exact ⟨rfl, rfl⟩
  · rw [if_neg (by omega), key, show ((dmP 1 : Nat) : Int) = 1258925411794167 from rfl]
    obtain ⟨q1, q2, q3⟩ := keyt 1258925411794167 (by omega)
    obtain ⟨Q, hQ⟩ : ∃ Q, (1258925411794167 : Int) / (P : Int) = Q := ⟨_, rfl⟩
    rw [hQ] at q1 q2 q3 ⊢
    clear key keyt hp2
    go_enter Try.func47, Try.ntmps47
    go_wp2_with fail
    refine (hp _).out.mono ?_
    rintro e w' ⟨rfl, rfl⟩
    clear hp
    go_wp2
    go_ret
    exact ⟨rfl, rfl⟩
  · rw [if_neg (by omega), key, show ((dmP 2 : Nat) : Int) = 1584893192461113 from rfl]
    obtain ⟨q1, q2, q3⟩ := keyt 1584893192461113 (by omega)
    obtain ⟨Q, hQ⟩ : ∃ Q, (1584893192461113 : Int) / (P : Int) = Q := ⟨_, rfl⟩
    rw [hQ] at q1 q2 q3 ⊢
    clear key keyt hp2
    go_enter Try.func47, Try.ntmps47
    go_wp2_with fail
    refine (hp _).out.mono ?_
    rintro e w' ⟨rfl, rfl⟩
    clear hp
    go_wp2
    go_ret
    exact ⟨rfl, rfl⟩
  · rw [if_neg (by omega), key, show ((dmP 3 : Nat) : Int) = 1995262314968879 from rfl]
    obtain ⟨q1, q2, q3⟩ := keyt 1995262314968879 (by omega)
    obtain ⟨Q, hQ⟩ : ∃ Q, (1995262314968879 : Int) / (P : Int) = Q := ⟨_, rfl⟩
    rw [hQ] at q1 q2 q3 ⊢
    clear key keyt hp2
    go_enter Try.func47, Try.ntmps47
    go_wp2_with fail
    refine (hp _).out.mono ?_
    rintro e w' ⟨rfl, rfl⟩
    clear hp
    go_wp2
    go_ret
    exact ⟨rfl, rfl⟩
  · rw [if_neg (by omega), key, show ((dmP 4 : Nat) : Int) = 2511886431509580 from rfl]
    obtain ⟨q1, q2, q3⟩ := keyt 2511886431509580 (by omega)
    obtain ⟨Q, hQ⟩ : ∃ Q, (2511886431509580 : Int) / (P : Int) = Q := ⟨_, rfl⟩
    rw [hQ] at q1 q2 q3 ⊢
    clear key keyt hp2
    go_enter Try.func47, Try.ntmps47
    go_wp2_with fail
    refine (hp _).out.mono ?_
    rintro e w' ⟨rfl, rfl⟩
    clear hp
    go_wp2
    go_ret
    exact ⟨rfl, rfl⟩
  · rw [if_neg (by omega), key, show ((dmP 5 : Nat) : Int) = 3162277660168379 from rfl]
    obtain ⟨q1, q2, q3⟩ := keyt 3162277660168379 (by omega)
    obtain ⟨Q, hQ⟩ : ∃ Q, (3162277660168379 : Int) / (P : Int) = Q := ⟨_, rfl⟩
    rw [hQ] at q1 q2 q3 ⊢
    clear key keyt hp2
    go_enter Try.func47, Try.ntmps47
    go_wp2_with fail
    refine (hp _).out.mono ?_
    rintro e w' ⟨rfl, rfl⟩
    clear hp
    go_wp2
    go_ret
    exact ⟨rfl, rfl⟩
  · rw [if_neg (by omega), key, show ((dmP 6 : Nat) : Int) = 3981071705534972 from rfl]
    obtain ⟨q1, q2, q3⟩ := keyt 3981071705534972 (by omega)
    obtain ⟨Q, hQ⟩ : ∃ Q, (3981071705534972 : Int) / (P : Int) = Q := ⟨_, rfl⟩
    rw [hQ] at q1 q2 q3 ⊢
    clear key keyt hp2
    go_enter Try.func47, Try.ntmps47
    go_wp2_with fail
    refine (hp _).out.mono ?_
    rintro e w' ⟨rfl, rfl⟩
    clear hp
    go_wp2
    go_ret
    exact ⟨rfl, rfl⟩
  · rw [if_neg (by omega), key, show ((dmP 7 : Nat) : Int) = 5011872336272722 from rfl]
    obtain ⟨q1, q2, q3⟩ := keyt 5011872336272722 (by omega)
    obtain ⟨Q, hQ⟩ : ∃ Q, (5011872336272722 : Int) / (P : Int) = Q := ⟨_, rfl⟩
    rw [hQ] at q1 q2 q3 ⊢
    clear key keyt hp2
    go_enter Try.func47, Try.ntmps47
    go_wp2_with fail
    refine (hp _).out.mono ?_
    rintro e w' ⟨rfl, rfl⟩
    clear hp
    go_wp2
    go_ret
    exact ⟨rfl, rfl⟩
  · rw [if_neg (by omega), key, show ((dmP 8 : Nat) : Int) = 6309573444801932 from rfl]
    obtain ⟨q1, q2, q3⟩ := keyt 6309573444801932 (by omega)
    obtain ⟨Q, hQ⟩ : ∃ Q, (6309573444801932 : Int) / (P : Int) = Q := ⟨_, rfl⟩
    rw [hQ] at q1 q2 q3 ⊢
    clear key keyt hp2
    go_enter Try.func47, Try.ntmps47
    go_wp2_with fail
    refine (hp _).out.mono ?_
    rintro e w' ⟨rfl, rfl⟩
    clear hp
    go_wp2
    go_ret
    exact ⟨rfl, rfl⟩
  · rw [if_neg (by omega), key, show ((dmP 9 : Nat) : Int) = 7943282347242815 from rfl]
    obtain ⟨q1, q2, q3⟩ := keyt 7943282347242815 (by omega)
    obtain ⟨Q, hQ⟩ : ∃ Q, (7943282347242815 : Int) / (P : Int) = Q := ⟨_, rfl⟩
    rw [hQ] at q1 q2 q3 ⊢
    clear key keyt hp2
    go_enter Try.func47, Try.ntmps47
    go_wp2_with fail
    refine (hp _).out.mono ?_
    rintro e w' ⟨rfl, rfl⟩
    clear hp
    go_wp2
    go_ret
    exact ⟨rfl, rfl⟩
/-- Decibel, plain. -/
def decF : Nat → Int → Nat → Nat
  | 0, _, k => k
  | f + 1, n, k => if lossP (k + 1) ≤ n then decF f n (k + 1) else k
def decP (n : Int) : Nat := decF 130 n 0
theorem decF_le : ∀ (f : Nat) (n : Int) (k : Nat), decF f n k ≤ k + f
  | 0, _, k => by simp [decF]
  | f + 1, n, k => by
    unfold decF
    split
    · have := decF_le f n (k + 1); omega
    · omega
theorem decP_le (n : Int) : decP n ≤ 130 := by have := decF_le 130 n 0; unfold decP; omega
set_option maxRecDepth 100000 in
theorem decibel_any (w : World) (n : Int) : Calls Try.prog 24 #[.int .i64 n] w fun e w' => e = .returned (.int .i64 (decP n : Nat)) ∧ w' = w := by
  go_enter Try.func24, Try.ntmps24
  go_wp2
  go_loop [3] (fun i => ∃ (k f : Nat), k + f = 130 ∧ i = .int .i64 k ∧ Hid (decF f n k = decP n)) (fun i => 130 - (intOf i).toNat)
  case atStart => exact ⟨0, 130, rfl, rfl, rfl⟩
  case round =>
    obtain ⟨k, f, hkf, rfl, HD⟩ := hrel
    by_cases hlt : k < 130
    · have hlt' : (k : Int) < 130 := by omega
      obtain ⟨k1, hk1⟩ : ∃ k1, k + 1 = k1 := ⟨_, rfl⟩
      have hk1i : (k : Int) + 1 = (k1 : Int) := by omega
      have hc := fun w => hide (lossRange_any w k1 (by omega))
      obtain ⟨f', rfl⟩ : ∃ f', f = f' + 1 := ⟨f - 1, by omega⟩
      have hD := HD.out
      unfold decF at hD
      rw [hk1] at hD
      by_cases hle : lossP k1 ≤ n
      · rw [if_pos hle] at hD
        have HD2 := hide hD
        generalize lossP k1 = L at *
        clear hD HD
        go_wp2_with fail
        refine (hc _).out.mono ?_
        rintro e w' ⟨rfl, rfl⟩
        go_wp2
        exact ⟨⟨k1, f', by omega, rfl, HD2⟩, by simp [intOf]; omega⟩
      · rw [if_neg hle] at hD
        have HD2 := hide hD
        generalize lossP k1 = L at *
        clear hD HD
        go_wp2_with fail
        refine (hc _).out.mono ?_
        rintro e w' ⟨rfl, rfl⟩
        go_wp2
        go_ret
        exact ⟨ret_int (by rw [← HD2.out]), rfl⟩
    · obtain rfl : k = 130 := by omega
      obtain rfl : f = 0 := by omega
      rw [show ((130 : Nat) : Int) = 130 from rfl]
      go_wp2
      go_ret
      exact ⟨ret_int (by rw [← HD.out]; rfl), rfl⟩
end Go.Proofs.Qxb6500776a
