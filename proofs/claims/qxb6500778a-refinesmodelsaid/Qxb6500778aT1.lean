import Derived.Test.Qxb6500778aMB
namespace Go.Proofs.Qxb6500778a
open Go.RowKit

theorem str_app (a b : List Int) : strOfNums (a ++ b) = strOfNums a ++ strOfNums b := by
  unfold strOfNums
  apply ByteArray.ext
  rw [ByteArray.data_append, List.map_append]
  simp
theorem str_size (l : List Int) : (strOfNums l).size = l.length := by
  unfold strOfNums
  show (List.toArray _).size = _
  simp
set_option linter.unusedSimpArgs false in
set_option maxRecDepth 100000 in
set_option maxHeartbeats 8000000 in
theorem itoa_one (w : World) (v : Nat) (h : v < 10) : Calls Try.prog 45 #[.int .i64 v] w fun e w' => e = .returned (.string (strOfNums (decL v))) ∧ Ex (fun _ => False) w w' := by
  have d0 : decide ((v : Int) < 0) = false := decide_eq_false (by omega)
  have d1 : decide ((v : Int) < 10) = true := decide_eq_true (by omega)
  have hw1 : wrap64 (48 + (v : Int)) = 48 + (v : Int) := by unfold wrap64; omega
  have hw2 : IntKind.u8.wrap (48 + (v : Int)) = 48 + (v : Int) := by rw [IntKind.wrap_u8]; omega
  have HE : Hid (Ex (fun _ => False) w (w.alloc (.cells #[.int .u8 (48 + (v : Int))] 5))) := (Ex.refl _ w).alloc _
  have hcv := run_convert_bytes_arg (P := Try.prog) (w.alloc (.cells #[.int .u8 (48 + (v : Int))] 5)) 46 5 Try.underlying46 Try.underlying5 w.heap.size 0 1 1 [48 + (v : Int)] rfl (fun j hj => by
    obtain rfl : j = 0 := by omega
    have := new_cells w [.int .u8 (48 + (v : Int))] 5 0 _ rfl
    rw [Addr.add_mid] at this
    exact this) 9 Try.underlying9
  have HD : Hid (decL v = [48 + (v : Int)]) := by show decL v = _; rw [decL, if_pos h]
  rw [HD.out]
  clear HD
  go_enter Try.func45, Try.ntmps45
  go_wp2
  go_ret
  exact ⟨rfl, HE.out⟩
set_option linter.unusedSimpArgs false in
set_option maxRecDepth 100000 in
set_option maxHeartbeats 8000000 in
/-- configm.Itoa -/
theorem itoa_any : ∀ (v : Nat) (w : World), v ≤ 1000000 → Calls Try.prog 45 #[.int .i64 v] w fun e w' => e = .returned (.string (strOfNums (decL v))) ∧ Ex (fun _ => False) w w' := by
  intro v
  induction v using Nat.strongRecOn with
  | ind v ih =>
    intro w hv
    by_cases h : v < 10
    · exact itoa_one w v h
    · have d0 : decide ((v : Int) < 0) = false := decide_eq_false (by omega)
      have d1 : decide ((v : Int) < 10) = false := decide_eq_false (by omega)
      have HI := hide (fun V => ih (v / 10) (by omega) V (by omega))
      have HO := hide (fun V => itoa_one V (v % 10) (by omega))
      have HD : Hid (strOfNums (decL v) = strOfNums (decL (v / 10)) ++ strOfNums (decL (v % 10))) := by
        show _ = _
        rw [← str_app]
        congr 1
        rw [decL, if_neg h]
        congr 1
        rw [decL, if_pos (by omega)]
      have hq : (v : Int) / 10 = ((v / 10 : Nat) : Int) := by omega
      have hr : (v : Int) % 10 = ((v % 10 : Nat) : Int) := by omega
      have hsz : ¬ 9223372036854775807 < (strOfNums (decL (v / 10))).size + (strOfNums (decL (v % 10))).size := by
        rw [str_size, str_size]
        have := decL_len (v / 10)
        have := decL_len (v % 10)
        omega
      rw [HD.out]
      clear HD ih
      generalize v / 10 = a at *
      generalize v % 10 = b at *
      go_enter Try.func45, Try.ntmps45
      go_wp2_with fail
      refine (HI.out _).mono ?_
      rintro e w2 ⟨rfl, hex2⟩
      go_wp2_with fail
      refine (HO.out _).mono ?_
      rintro e w3 ⟨rfl, hex3⟩
      have HE := hide (hex2.trans hex3)
      clear hex2 hex3
      go_wp2
      go_ret
      exact ⟨rfl, HE.out⟩
set_option maxRecDepth 100000 in
/-- configm.oneOf -/
theorem oneOf_any (w : World) (b : Bool) (y z : ByteArray) : Calls Try.prog 68 #[.bool b, .string y, .string z] w fun e w' => e = .returned (.string (if b = true then y else z)) ∧ w = w' := by
  cases b <;> (go_enter Try.func68, Try.ntmps68; go_wp2; go_ret; exact ⟨rfl, rfl⟩)
end Go.Proofs.Qxb6500778a
