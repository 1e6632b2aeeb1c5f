import Derived.Test.Qxb6500778aD1
namespace Go.Proofs.Qxb6500778a
open Go.RowKit

def SmPost (w : World) (n : Nat) (e : Ending) (w' : World) : Prop := ∃ b : Bool, e = .returned (.bool b) ∧ w' = w ∧ (b = true → n ≤ 65536)
set_option maxRecDepth 100000 in
set_option maxHeartbeats 4000000 in
theorem small_any (w : World) (a : Option Addr) (n cap : Nat) (f : Nat → Stp) (hn : n ≤ 9223372036854775807) (hO : OA w a n f) :
    Calls Try.prog 8 #[.slice a n cap] w (SmPost w n) := by
  have HO := hide hO
  clear hO
  go_enter Try.func8, Try.ntmps8
  by_cases hbig : (n : Int) > 65536
  · go_wp2
    go_ret
    exact ⟨_, rfl, rfl, fun h => by cases h⟩
  have hsm : n ≤ 65536 := by omega
  go_wp2
  go_loop [3, 4] (fun x i => ∃ (z : Int) (k : Nat), x = .int .i64 z ∧ k ≤ n ∧ i = .int .i64 k) (fun _ i => n - (intOf i).toNat)
  case atStart => exact ⟨n, 0, rfl, Nat.zero_le _, rfl⟩
  case round =>
    obtain ⟨z, k, rfl, hk, rfl⟩ := hrel
    by_cases hlt : k < n
    · obtain ⟨b, off, rfl, hc, hl, hlc, hby⟩ := HO.out k hlt
      have hc := hc 11 _ rfl
      clear hlc hby
      generalize (f k).p.d.length = tn at *
      generalize (f k).da = ta at *
      generalize (f k).cp = tc at *
      go_upto_if 24 with fail
      generalize wrap64 (z + (tn : Int)) = y
      by_cases hy : 65536 < y
      · go_wp2
        go_ret
        exact ⟨_, rfl, rfl, fun _ => hsm⟩
      · go_wp2
        go_round
        case rel => exact ⟨_, k + 1, rfl, by omega, by go_num⟩
        case measure => simp [intOf]; omega
    · go_wp2
      go_ret
      exact ⟨_, rfl, rfl, fun _ => hsm⟩
end Go.Proofs.Qxb6500778a
