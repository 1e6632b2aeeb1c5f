import Derived.Test.Qxb6500775aNew
namespace Go.Proofs.Qxb6500775a
open Go.RowKit

theorem absmul {B x y : Int} (h1 : -B ≤ x) (h2 : x ≤ B) (h3 : -B ≤ y) (h4 : y ≤ B) : -(B * B) ≤ x * y ∧ x * y ≤ B * B := by
  have a1 : 0 ≤ (B - x) * (B + y) := Int.mul_nonneg (by omega) (by omega)
  have a2 : 0 ≤ (B + x) * (B - y) := Int.mul_nonneg (by omega) (by omega)
  have a3 : 0 ≤ (B - x) * (B - y) := Int.mul_nonneg (by omega) (by omega)
  have a4 : 0 ≤ (B + x) * (B + y) := Int.mul_nonneg (by omega) (by omega)
  simp only [Int.sub_mul, Int.mul_sub, Int.add_mul, Int.mul_add] at a1 a2 a3 a4
  rw [Int.mul_comm x B] at a1 a2 a3 a4
  omega
theorem d_tab : dirP 0 = (0, 1073741824) ∧ dirP 512 = (759250125, 759250125) ∧ dirP 1024 = (1073741824, 0) ∧ dirP 1536 = (759250125, -759250125) ∧ dirP 2048 = (0, -1073741824) ∧ dirP 2560 = (-759250125, -759250125) ∧ dirP 3072 = (-1073741824, 0) ∧ dirP 3584 = (-759250125, 759250125) := by decide +kernel
set_option maxRecDepth 100000 in
set_option maxHeartbeats 8000000 in
theorem turns_walk (w : World) : Calls Try.prog 13 #[] w fun e w' => e = .returned (.bool true) ∧ Below w.heap.size w w' := by
  obtain ⟨d0, d1, d2, d3, d4, d5, d6, d7⟩ := d_tab
  go_enter Try.func13, Try.ntmps13
  go_wp2_with fail
  refine (new_any _).mono ?_
  rintro e w1 ⟨rfl, ht, hb⟩
  have HT := hide ht
  have HB := hide hb
  clear ht hb
  generalize hbb : w.heap.size = b at *
  go_upto_region 3 with fail
  go_wp2_with fail
  refine (dir_any _ b 512 512 rfl HT.out).mono ?_
  rintro e w2 ⟨rfl, hb2, ht2⟩
  rw [d1]
  have HT2 := hide ht2
  have HB2 : Hid (Below b w w2) := HB.out.trans (hb2.mono (by have := HB.out.size; rw [hbb] at this; exact this))
  clear HT HB ht2 hb2
  go_wp2
  go_loopw [5] (fun s wr => ∃ q : Nat, q ≤ 4 ∧ s = .int .i64 q ∧ Tabs wr b ∧ Below b w wr) (fun s _ => 4 - (intOf s).toNat)
  case atStart => exact ⟨0, by omega, rfl, HT2.out, HB2.out⟩
  case round =>
    clear HT2 HB2
    obtain ⟨q, hq, rfl, ht, hb⟩ := hrel
    have HT := hide ht
    have HB := hide hb
    have hbs := hb.size
    rw [hbb] at hbs
    clear ht hb
    rcases (by omega : q = 0 ∨ q = 1 ∨ q = 2 ∨ q = 3 ∨ q = 4) with rfl | rfl | rfl | rfl | rfl
    · go_wp2_with fail
      refine (dir_any _ b 0 0 rfl HT.out).mono ?_
      rintro e w3 ⟨rfl, hb3, ht3⟩
      rw [d0]
      have HT3 := hide ht3
      have HB3 : Hid (Below b w w3) := HB.out.trans (hb3.mono hbs)
      have hbs3 : b ≤ w3.heap.size := Nat.le_trans hbs hb3.size
      clear HT HB hbs ht3 hb3
      go_wp2_with fail
      refine (dir_any _ b 512 512 rfl HT3.out).mono ?_
      rintro e w4 ⟨rfl, hb4, ht4⟩
      rw [d1]
      have HT4 := hide ht4
      have HB4 : Hid (Below b w w4) := HB3.out.trans (hb4.mono hbs3)
      clear HT3 HB3 hbs3 ht4 hb4
      go_wp2
      go_roundw
      case rel => exact ⟨1, by omega, by simp, HT4.out, HB4.out⟩
      case measure => simp [intOf]
    · go_wp2_with fail
      refine (dir_any _ b 1024 1024 rfl HT.out).mono ?_
      rintro e w3 ⟨rfl, hb3, ht3⟩
      rw [d2]
      have HT3 := hide ht3
      have HB3 : Hid (Below b w w3) := HB.out.trans (hb3.mono hbs)
      have hbs3 : b ≤ w3.heap.size := Nat.le_trans hbs hb3.size
      clear HT HB hbs ht3 hb3
      go_wp2_with fail
      refine (dir_any _ b 1536 1536 rfl HT3.out).mono ?_
      rintro e w4 ⟨rfl, hb4, ht4⟩
      rw [d3]
      have HT4 := hide ht4
      have HB4 : Hid (Below b w w4) := HB3.out.trans (hb4.mono hbs3)
      clear HT3 HB3 hbs3 ht4 hb4
      go_wp2
      go_roundw
      case rel => exact ⟨2, by omega, by simp, HT4.out, HB4.out⟩
      case measure => simp [intOf]
    · go_wp2_with fail
      refine (dir_any _ b 2048 2048 rfl HT.out).mono ?_
      rintro e w3 ⟨rfl, hb3, ht3⟩
      rw [d4]
      have HT3 := hide ht3
      have HB3 : Hid (Below b w w3) := HB.out.trans (hb3.mono hbs)
      have hbs3 : b ≤ w3.heap.size := Nat.le_trans hbs hb3.size
      clear HT HB hbs ht3 hb3
      go_wp2_with fail
      refine (dir_any _ b 2560 2560 rfl HT3.out).mono ?_
      rintro e w4 ⟨rfl, hb4, ht4⟩
      rw [d5]
      have HT4 := hide ht4
      have HB4 : Hid (Below b w w4) := HB3.out.trans (hb4.mono hbs3)
      clear HT3 HB3 hbs3 ht4 hb4
      go_wp2
      go_roundw
      case rel => exact ⟨3, by omega, by simp, HT4.out, HB4.out⟩
      case measure => simp [intOf]
    · go_wp2_with fail
      refine (dir_any _ b 3072 3072 rfl HT.out).mono ?_
      rintro e w3 ⟨rfl, hb3, ht3⟩
      rw [d6]
      have HT3 := hide ht3
      have HB3 : Hid (Below b w w3) := HB.out.trans (hb3.mono hbs)
      have hbs3 : b ≤ w3.heap.size := Nat.le_trans hbs hb3.size
      clear HT HB hbs ht3 hb3
      go_wp2_with fail
      refine (dir_any _ b 3584 3584 rfl HT3.out).mono ?_
      rintro e w4 ⟨rfl, hb4, ht4⟩
      rw [d7]
      have HT4 := hide ht4
      have HB4 : Hid (Below b w w4) := HB3.out.trans (hb4.mono hbs3)
      clear HT3 HB3 hbs3 ht4 hb4
      go_wp2
      go_roundw
      case rel => exact ⟨4, by omega, by simp, HT4.out, HB4.out⟩
      case measure => simp [intOf]
    · clear d0 d1 d2 d3 d4 d5 d6 d7
      rw [show ((4 : Nat) : Int) = 4 from rfl]
      go_wp2
      go_loopw [10, 11, 12] (fun l m s wr => ∃ (k : Nat) (lo hi : Int), k ≤ 4096 ∧ ((k = 0 ∧ lo = 9223372036854775807 ∧ hi = -9223372036854775808) ∨ (1768557843034429 ≤ lo ∧ lo ≤ 1768559844314527 ∧ 1768557843034429 ≤ hi ∧ hi ≤ 1768559844314527)) ∧ l = .int .i64 lo ∧ m = .int .i64 hi ∧ s = .int .i64 k ∧ Tabs wr b ∧ Below b w wr) (fun _ _ s _ => 4096 - (intOf s).toNat)
      case atStart => exact ⟨0, _, _, by omega, .inl ⟨rfl, rfl, rfl⟩, rfl, rfl, rfl, HT.out, HB.out⟩
      case round =>
        clear HT HB
        obtain ⟨k, lo, hi, hk, hlh, rfl, rfl, rfl, ht, hb⟩ := hrel
        have HT := hide ht
        have HB := hide hb
        have hbs := hb.size
        rw [hbb] at hbs
        clear ht hb
        by_cases hk1 : k < 4096
        · have hl := allB_at lawAll k hk1
          unfold lawB at hl
          simp only [decide_eq_true_eq] at hl
          obtain ⟨o1, o2, c1, c2, x1, x2, y1, y2⟩ := hl
          obtain ⟨k1, hk1'⟩ : ∃ k1, k1 = (k + 1) % 4096 := ⟨_, rfl⟩
          have hl2 := allB_at lawAll k1 (by omega)
          unfold lawB at hl2
          simp only [decide_eq_true_eq] at hl2
          obtain ⟨-, -, -, -, nx1, nx2, ny1, ny2⟩ := hl2
          rw [← hk1'] at c1 c2
          go_wp2_with fail
          refine (dir_any _ b k k (by omega) HT.out).mono ?_
          rintro e w3 ⟨rfl, hb3, ht3⟩
          have HT3 := hide ht3
          have HB3 : Hid (Below b w w3) := HB.out.trans (hb3.mono hbs)
          have hbs3 : b ≤ w3.heap.size := Nat.le_trans hbs hb3.size
          clear HT HB hbs ht3 hb3
          obtain ⟨kk, hkk⟩ : ∃ kk, kk = k + 1 := ⟨_, rfl⟩
          have e1 : (k : Int) + 1 = (kk : Int) := by omega
          have HKK := hide hkk
          have hkk4 : (kk : Int) ≤ 4096 := by omega
          clear hkk
          have HK1 := hide hk1'
          clear hk1'
          obtain ⟨x, hx⟩ : ∃ x, (dirP k).1 = x := ⟨_, rfl⟩
          obtain ⟨y, hy⟩ : ∃ y, (dirP k).2 = y := ⟨_, rfl⟩
          obtain ⟨nx, hnx⟩ : ∃ x, (dirP k1).1 = x := ⟨_, rfl⟩
          obtain ⟨ny, hny⟩ : ∃ y, (dirP k1).2 = y := ⟨_, rfl⟩
          rw [hx] at o1 o2 c1 c2 x1 x2 ⊢
          rw [hy] at o1 o2 c1 c2 y1 y2 ⊢
          rw [hnx] at c1 c2 nx1 nx2
          rw [hny] at c1 c2 ny1 ny2
          have m1 : -1152921504606846976 ≤ x * x ∧ x * x ≤ 1152921504606846976 := by have := absmul (B := 1073741824) x1 x2 x1 x2; omega
          have m2 : -1152921504606846976 ≤ y * y ∧ y * y ≤ 1152921504606846976 := by have := absmul (B := 1073741824) y1 y2 y1 y2; omega
          have m3 : -1152921504606846976 ≤ nx * y ∧ nx * y ≤ 1152921504606846976 := by have := absmul (B := 1073741824) nx1 nx2 y1 y2; omega
          have m4 : -1152921504606846976 ≤ ny * x ∧ ny * x ≤ 1152921504606846976 := by have := absmul (B := 1073741824) ny1 ny2 x1 x2; omega
          have HN := hide (And.intro hnx hny)
          clear hx hy hnx hny x1 x2 y1 y2 nx1 nx2 ny1 ny2
          obtain ⟨xx, hxx⟩ : ∃ z, x * x = z := ⟨_, rfl⟩
          obtain ⟨yy, hyy⟩ : ∃ z, y * y = z := ⟨_, rfl⟩
          obtain ⟨za, hza⟩ : ∃ z, nx * y = z := ⟨_, rfl⟩
          obtain ⟨zb, hzb⟩ : ∃ z, ny * x = z := ⟨_, rfl⟩
          rw [hxx] at o1 o2 m1
          rw [hyy] at o1 o2 m2
          rw [hza] at c1 c2 m3
          rw [hzb] at c1 c2 m4
          have HC := hide (And.intro c1 c2)
          go_wp2_with fail
          refine (dir_any _ b kk k1 (by rw [HKK.out]; exact HK1.out) HT3.out).mono ?_
          rintro e w4 ⟨rfl, hb4, ht4⟩
          rw [HN.out.1, HN.out.2]
          have HT4 := hide ht4
          have HB4 : Hid (Below b w w4) := HB3.out.trans (hb4.mono hbs3)
          clear HT3 HB3 hbs3 ht4 hb4
          have f1 : xx + yy - 1152921504606846976 ≤ 2147483648 := o2
          have f2 : -2147483648 ≤ xx + yy - 1152921504606846976 := o1
          obtain ⟨off, hoff⟩ : ∃ z, xx + yy - 1152921504606846976 = z := ⟨_, rfl⟩
          obtain ⟨cr, hcr⟩ : ∃ z, za - zb = z := ⟨_, rfl⟩
          rw [hoff] at o1 o2
          rw [hcr] at c1 c2
          by_cases kc1 : cr < lo
          · by_cases kc2 : hi < cr
            · go_wp2
              go_roundw
              case rel => exact ⟨kk, cr, cr, by omega, .inr (by omega), rfl, rfl, rfl, HT4.out, HB4.out⟩
              case measure => simp [intOf]; omega
            · go_wp2
              go_roundw
              case rel => exact ⟨kk, cr, hi, by omega, .inr (by omega), rfl, rfl, rfl, HT4.out, HB4.out⟩
              case measure => simp [intOf]; omega
          · by_cases kc2 : hi < cr
            · go_wp2
              go_roundw
              case rel => exact ⟨kk, lo, cr, by omega, .inr (by omega), rfl, rfl, rfl, HT4.out, HB4.out⟩
              case measure => simp [intOf]; omega
            · go_wp2
              go_roundw
              case rel => exact ⟨kk, lo, hi, by omega, .inr (by omega), rfl, rfl, rfl, HT4.out, HB4.out⟩
              case measure => simp [intOf]; omega
        · have hke : k = 4096 := by omega
          subst hke
          have hd : hi - lo ≤ 4294967296 := by omega
          have h1 : -4294967296 ≤ hi - lo := by omega
          go_wp2
          go_ret
          exact ⟨rfl, by rw [hbb]; exact HB.out⟩
end Go.Proofs.Qxb6500775a
