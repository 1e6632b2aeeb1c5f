import Derived.Test.Qxb6500775aRat2
namespace Go.Proofs.Qxb6500775a
open Go.RowKit

set_option maxRecDepth 100000 in
set_option maxHeartbeats 2000000 in
theorem ratioLevel_any (w : World) (b : Nat) (a : Int) (h1 : 1 ≤ a) (h2 : a ≤ 2147483647) (h : Tabs w b) :
    Calls Try.prog 42 #[.pointer (some ⟨b, 0, none⟩), .int .i64 a] w fun e w' => ∃ k : Int, e = .returned (.tuple #[.int .i64 k, .int .i64 0]) ∧ (-49 ≤ k ∧ k ≤ 45 ∧ 0 ≤ tenth a k ∧ tenth a (k + 1) < 0) ∧ w' = w := by
  have HT := hide h
  clear h
  go_enter Try.func42, Try.ntmps42
  go_wp2
  go_loopw [6, 7] (fun x y wr => ∃ lo hi : Int, x = .int .i64 lo ∧ y = .int .i64 hi ∧ -49 ≤ lo ∧ lo < hi ∧ hi ≤ 46 ∧ Hid (0 ≤ tenth a lo ∧ tenth a hi < 0) ∧ wr = w) (fun x y _ => (intOf y - intOf x).toNat)
  case atStart => exact ⟨-49, 46, rfl, rfl, by omega, by omega, by omega, hide (reach_ends h1 h2), rfl⟩
  case round =>
    obtain ⟨lo, hi, rfl, rfl, hlo, hlt, hhi, HI, rfl⟩ := hrel
    by_cases hgo : lo + 1 < hi
    · have hg1 : 1 < hi - lo := by omega
      obtain ⟨mid, hmid⟩ : ∃ m : Int, m = lo + (hi - lo) / 2 := ⟨_, rfl⟩
      obtain ⟨d, hd⟩ : ∃ d : Int, d = (hi - lo) / 2 := ⟨_, rfl⟩
      have e1 : (hi - lo) / 2 = d := by omega
      have e2 : (hi - lo).tdiv 2 = d := by rw [Int.tdiv_eq_ediv_of_nonneg (by omega)]; exact e1
      have e3 : lo + d = mid := by omega
      have m1 : lo < mid := by omega
      have m2 : mid < hi := by omega
      have hdb : 0 ≤ d ∧ d ≤ 100 := by omega
      obtain ⟨j, hj⟩ : ∃ j : Nat, mid + 49 = j := ⟨(mid + 49).toNat, by omega⟩
      have hj95 : j < 95 := by omega
      have hcall := fun w h => hide (reaches_any w b j a mid hj hj95 h)
      have hjm : (j : Int) - 49 = mid := by omega
      clear hmid hgo hd
      cases hc : reachP a j
      · have hn := reach_no (by omega) hj95 hc
        rw [hjm] at hn
        rw [hc] at hcall
        have HN := hide hn
        clear hn hc hjm hj hj95
        go_wp2_with fail
        refine (hcall _ HT.out).out.mono ?_
        rintro e w' ⟨rfl, rfl⟩
        go_wp2
        go_roundw
        case rel => exact ⟨lo, mid, rfl, rfl, hlo, m1, by omega, hide ⟨HI.out.1, HN.out⟩, trivial⟩
        case measure => simp [intOf]; omega
      · have hn := reach_yes hj95 hc
        rw [hjm] at hn
        rw [hc] at hcall
        have HN := hide hn
        clear hn hc hjm hj hj95
        go_wp2_with fail
        refine (hcall _ HT.out).out.mono ?_
        rintro e w' ⟨rfl, rfl⟩
        go_wp2
        go_roundw
        case rel => exact ⟨mid, hi, rfl, rfl, by omega, m2, hhi, hide ⟨HN.out, HI.out.2⟩, trivial⟩
        case measure => simp [intOf]; omega
    · have hg1 : ¬ 1 < hi - lo := by omega
      go_wp2
      refine bodyPost_ret (v := .tuple #[.int .i64 lo, .int .i64 0]) (by simp [results, Try.results42, go_sem]) rfl ⟨lo, rfl, ⟨by omega, by omega, HI.out.1, ?_⟩, rfl⟩
      rw [show lo + 1 = hi by omega]
      exact HI.out.2
end Go.Proofs.Qxb6500775a
