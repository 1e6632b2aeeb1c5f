import Derived.Test.Qxb6500775aNT
namespace Go.Proofs.Qxb6500775a
open Go.RowKit

theorem MTabs.drew {w : World} {b : Nat} (h : MTabs w b) : MTabs w.drew b := ⟨h.x, h.y⟩
set_option maxRecDepth 100000 in
set_option maxHeartbeats 4000000 in
theorem matches_walk (w : World) : Calls Try.prog 12 #[] w fun e w' => e = .returned (.bool true) ∧ Below w.heap.size w w' := by
  go_enter Try.func12, Try.ntmps12
  go_wp2_with fail
  refine (new_any _).mono ?_
  rintro e w1 ⟨rfl, ht, hb⟩
  have HT := hide ht
  have HB := hide hb
  clear ht hb
  generalize hbb : w.heap.size = b at *
  go_wp2_with fail
  refine (newTable_any _).mono ?_
  rintro e w2 ⟨rfl, hm, hb2⟩
  have HM := hide hm
  have HT2 := hide (HT.out.below hb2)
  have hb1 : b ≤ w1.heap.size := by have := HB.out.size; rw [hbb] at this; exact this
  have HB2 : Hid (Below b w w2) := HB.out.trans (hb2.mono hb1)
  clear HT HB hm hb2 hb1
  generalize w1.heap.size = bm at *
  go_wp2
  go_loopw [3] (fun s wr => ∃ k : Nat, k ≤ 4096 ∧ s = .int .i64 k ∧ Tabs wr b ∧ MTabs wr bm ∧ Below b w wr) (fun s _ => 4096 - (intOf s).toNat)
  case atStart => exact ⟨0, by omega, rfl, HT2.out, HM.out, HB2.out⟩
  case round =>
    clear HT2 HM HB2
    obtain ⟨k, hk, rfl, ht, hm, hb⟩ := hrel
    have HT := hide ht
    have HM := hide hm
    have HB := hide hb
    have hbs := hb.size
    rw [hbb] at hbs
    clear ht hm hb
    by_cases hlt : k < 4096
    · have hlt' : (k : Int) < 4096 := by omega
      have hcall := fun w h => hide (dir_any w b k k (by omega) h)
      obtain ⟨x, hx⟩ : ∃ x, (dirP k).1 = x := ⟨_, rfl⟩
      obtain ⟨y, hy⟩ : ∃ x, (dirP k).2 = x := ⟨_, rfl⟩
      rw [hx, hy] at hcall
      go_wp2_with fail
      refine (hcall _ HT.out).out.mono ?_
      rintro e w3 ⟨rfl, hb3, ht3⟩
      have HM3 := hide (HM.out.below hb3)
      have c0 := HM3.out.x k hlt
      have c1 := HM3.out.y k hlt
      rw [hx] at c0
      rw [hy] at c1
      have HT3 := hide ht3
      have HB3 : Hid (Below b w w3) := HB.out.trans (hb3.mono hbs)
      clear hb3 ht3 HT HM HB hcall hx hy hbs
      go_wp2
      go_roundw
      case rel => exact ⟨k + 1, by omega, by go_num, HT3.out, HM3.out, HB3.out⟩
      case measure => simp [intOf]; omega
    · obtain rfl : k = 4096 := by omega
      rw [show ((4096 : Nat) : Int) = 4096 from rfl]
      go_wp2
      go_ret
      exact ⟨rfl, by rw [hbb]; exact HB.out⟩
end Go.Proofs.Qxb6500775a
