import Derived.Test.Qxb6500774aGa0
import Derived.Test.Qxb6500774aHn
namespace Go.Proofs.Qxb6500774a
open Go.RowKit
set_option linter.unusedVariables false
set_option linter.unusedSimpArgs false

set_option maxRecDepth 100000 in
set_option maxHeartbeats 4000000 in
theorem wordByte_yes (w : World) (c : Int) (h : (48 ≤ c ∧ c ≤ 57) ∨ (65 ≤ c ∧ c ≤ 90) ∨ c = 95) : Calls Try.prog 64 #[.int .u8 c] w fun e w' => e = .returned (.bool true) ∧ w' = w := by
  obtain ⟨d1, h1⟩ : ∃ d, decide ((48 : Int) ≤ c) = d := ⟨_, rfl⟩
  obtain ⟨d2, h2⟩ : ∃ d, decide (c ≤ 57) = d := ⟨_, rfl⟩
  have HD := hide (digit_any w c d1 d2 h1 h2)
  rcases h with h | h | h
  · obtain rfl : d1 = true := by rw [← h1]; exact decide_eq_true h.1
    obtain rfl : d2 = true := by rw [← h2]; exact decide_eq_true h.2
    clear h1 h2
    go_enter Try.func64, Try.ntmps64
    go_wp2_with (go_at_call 62; refine HD.out.mono ?_; rintro e9 w9 ⟨rfl, rfl⟩; simp only [])
    go_ret
    exact ⟨rfl, rfl⟩
  · obtain rfl : d1 = true := by rw [← h1]; exact decide_eq_true (by omega)
    obtain rfl : d2 = false := by rw [← h2]; exact decide_eq_false (by omega)
    have k1 : decide ((65 : Int) ≤ c) = true := decide_eq_true (by omega)
    have k2 : decide (c ≤ 90) = true := decide_eq_true (by omega)
    clear h1 h2 h
    go_enter Try.func64, Try.ntmps64
    go_wp2_with (go_at_call 62; refine HD.out.mono ?_; rintro e9 w9 ⟨rfl, rfl⟩; simp only [])
    go_ret
    exact ⟨rfl, rfl⟩
  · subst h
    obtain rfl : d1 = true := by rw [← h1]; rfl
    obtain rfl : d2 = false := by rw [← h2]; rfl
    clear h1 h2
    go_enter Try.func64, Try.ntmps64
    go_wp2_with (go_at_call 62; refine HD.out.mono ?_; rintro e9 w9 ⟨rfl, rfl⟩; simp only [])
    go_ret
    exact ⟨rfl, rfl⟩
set_option maxRecDepth 100000 in
set_option maxHeartbeats 4000000 in
theorem isPlace_any (w : World) (f : XP) (b : Bool) (hb : (decide (f.k = 3) || decide (f.k = 4) || decide (f.k = 5)) = b) : Calls Try.prog 54 #[xV f] w fun e w' => e = .returned (.bool b) ∧ Ex (fun _ => False) w w' := by
  have ex1 : Ex (fun _ => False) w (w.alloc (xO f)) := (Ex.refl _ _).alloc _
  have hk := XK.new w f
  have k0 := hk.c0
  have HE := hide ex1
  unfold xV
  obtain ⟨b3, h3⟩ : ∃ d, (f.k == 3) = d := ⟨_, rfl⟩
  obtain ⟨b4, h4⟩ : ∃ d, (f.k == 4) = d := ⟨_, rfl⟩
  obtain ⟨b5, h5⟩ : ∃ d, (f.k == 5) = d := ⟨_, rfl⟩
  obtain rfl : b = (b3 || b4 || b5) := by rw [← hb, ← h3, ← h4, ← h5]; rfl
  clear hb hk ex1
  obtain ⟨w1, hw1⟩ : ∃ x, w.alloc (xO f) = x := ⟨_, rfl⟩
  rw [hw1] at k0 HE
  have HW1 := hide hw1
  unfold xO at HW1
  clear hw1
  go_enter Try.func54, Try.ntmps54
  go_upto_region 1 with fail
  rw [HW1.out]
  clear HW1
  generalize w.heap.size = r1 at *
  cases b3 <;> cases b4 <;> cases b5 <;> go_wp2 <;> go_ret <;> exact ⟨rfl, HE.out⟩
set_option maxRecDepth 100000 in
set_option maxHeartbeats 4000000 in
theorem goodName_yes (w : World) (x : ByteArray) (h : gN x = true) (hsz : x.size ≤ 4611686018427387904) : Calls Try.prog 26 #[.string x] w fun e w' => e = .returned (.bool true) ∧ w' = w := by
  obtain ⟨hw, ⟨c0, r0, hc0, hnd⟩, hk⟩ := gN_facts h
  have HWD := hide hw
  have HLN := hide (strL_len x)
  have HSZ := hide hsz
  have hpos : 0 < x.size := by rw [strL_len, hc0]; simp
  have e0 : (x.toList == []) = false := by
    cases hq : x.toList with
    | nil => rw [strL_eq, hq] at hc0; cases hc0
    | cons a l => rfl
  obtain ⟨hlt0, hb0⟩ := str_at x 0 c0 (by rw [hc0]; rfl)
  have HKW := hide (keyword_no w x hk)
  have HDG : Hid (Calls Try.prog 62 #[.int .u8 c0] w fun e w' => e = .returned (.bool false) ∧ w' = w) := by
    have := digit_any w c0 _ _ rfl rfl
    rw [show (decide ((48 : Int) ≤ c0) && decide (c0 ≤ 57)) = false by rw [← Bool.decide_and]; exact decide_eq_false hnd] at this
    exact this
  clear h hw hnd hk hc0 hsz
  go_enter Try.func26, Try.ntmps26
  go_upto_region 1 with fail
  go_wp2_with (first | (go_at_call 62; refine HDG.out.mono ?_; rintro e9 w9 ⟨rfl, hw9⟩; (have hw9' := hw9.symm; subst hw9'); simp only []) | (go_at_call 63; refine HKW.out.mono ?_; rintro e9 w9 ⟨rfl, hw9⟩; (have hw9' := hw9.symm; subst hw9'); simp only []))
  clear HDG HKW hb0 hlt0 e0
  go_loopw [3] (fun s3 wr => ∃ (k : Nat), k ≤ x.size ∧ s3 = .int .i64 k ∧ w = wr) (fun s3 _ => x.size - (intOf s3).toNat)
  case atStart => exact ⟨0, Nat.zero_le _, rfl, rfl⟩
  case round =>
    obtain ⟨k, hk, rfl, rfl⟩ := hrel
    by_cases hlt : k < x.size
    · have d1 : decide ((k : Int) < (x.size : Int)) = true := decide_eq_true (by omega)
      have d1n : decide (k < x.size) = true := decide_eq_true hlt
      obtain ⟨c, hc⟩ : ∃ c, (strL x)[k]? = some c := ⟨_, List.getElem?_eq_getElem (by rw [← HLN.out]; exact hlt)⟩
      obtain ⟨hks, hkc⟩ := str_at x k c hc
      have hwd := HWD.out c (List.mem_of_getElem? hc)
      have HWB := hide (wordByte_yes w c hwd)
      have d2 : decide ((97 : Int) ≤ c) = false := decide_eq_false (by unfold wdI at hwd; omega)
      have hw1 : IntKind.i64.wrap ((k : Int) + 1) = ((k + 1 : Nat) : Int) := by rw [IntKind.wrap_i64]; have := HSZ.out; omega
      clear hc hwd
      go_wp2_with (go_at_call 64; refine HWB.out.mono ?_; rintro e9 w9 ⟨rfl, hw9⟩; (have hw9' := hw9.symm; subst hw9'); simp only [])
      go_roundw
      case rel => exact ⟨k + 1, by omega, by go_num, trivial⟩
      case measure => simp [intOf]; omega
    · obtain rfl : k = x.size := by omega
      have d1 : decide ((x.size : Int) < (x.size : Int)) = false := decide_eq_false (by omega)
      go_wp2
      go_ret
      exact ⟨rfl, rfl⟩
end Go.Proofs.Qxb6500774a
