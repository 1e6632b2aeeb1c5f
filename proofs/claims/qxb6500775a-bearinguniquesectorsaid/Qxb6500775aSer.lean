import Derived.Test.Qxb6500775aRat2
namespace Go.Proofs.Qxb6500775a
open Go.RowKit

theorem or_hi (x y : Int) (hx0 : 0 ≤ x) (hx : x < 4294967296) (hy0 : 0 ≤ y) (hy : y < 4294967296) : bits BinOp.or .u64 (y * 4294967296) x = y * 4294967296 + x := by
  have h := or_parts x y hx0 hx hy0 hy
  obtain ⟨a, rfl⟩ := Int.eq_ofNat_of_zero_le hx0
  obtain ⟨b, rfl⟩ := Int.eq_ofNat_of_zero_le hy0
  have e2 : ((b * 4294967296 : Nat) : Int) = (b : Int) * 4294967296 := by omega
  have h1 := bits_or_u64_nat a (b * 4294967296) (by omega) (by omega)
  have h2 := bits_or_u64_nat (b * 4294967296) a (by omega) (by omega)
  rw [e2] at h1 h2
  rw [h2, Nat.or_comm, ← h1, h, Int.add_comm]
/-- Digits of a number that is not negative. -/
theorem IsI.pos {N : Nat} {w : World} {neg : Bool} {a : Option Addr} {n cap : Nat} {z : Int} (h : IsI N w neg a n cap z) (hz : 0 ≤ z) : ∃ D, Mag w a n D ∧ z = Sm D n := by
  obtain ⟨D, h1, h2, h3⟩ := h.digits
  refine ⟨D, h1, ?_⟩
  have h0 := Sm_nonneg h1.dig
  cases neg
  · simpa [sg] using h3
  · by_cases hn : n = 0
    · exact absurd (h.sign hn) (by simp)
    · have := (h.neg_iff hn).2 rfl
      omega
/-- divDigit: the digits from j on are done. -/
def DvRel (wc : World) (n : Nat) (D : Nat → Int) (d : Int) (j : Nat) (rem : Int) (F : Nat → Int) (wr : World) : Prop :=
  wr.rowIs wc.heap.size 73 n (fun i => .int .u32 (F i)) ∧ Dig F n ∧ (∀ i, i < j → F i = 0) ∧ Sm D n = Sm F n * d + rem * 4294967296 ^ j + Sm D j ∧ Below wc.heap.size wc wr
theorem DvRel.step {wc wr : World} {n j : Nat} {D F : Nat → Int} {d rem : Int} (h : DvRel wc n D d (j + 1) rem F wr) (hj : j < n) (hd : 0 < d) (hq : (rem * 4294967296 + D j) / d < 4294967296) (h0 : 0 ≤ rem * 4294967296 + D j) :
    DvRel wc n D d j ((rem * 4294967296 + D j) % d) (upd F j ((rem * 4294967296 + D j) / d)) (wr.setCell ⟨wc.heap.size, j, none⟩ (.int .u32 ((rem * 4294967296 + D j) / d))) := by
  obtain ⟨g1, g2, g3, g4, g5⟩ := h
  refine ⟨row_upd g1, Dig_upd g2 (Int.ediv_nonneg h0 (by omega)) hq, ?_, ?_, g5.setCell (Nat.le_refl _) _⟩
  · intro i hi
    rw [upd_other _ _ (by omega)]
    exact g3 i (by omega)
  · rw [Sm_upd hj, g3 j (by omega), g4, Sm_succ]
    have e := Int.mul_ediv_add_emod (rem * 4294967296 + D j) d
    generalize (rem * 4294967296 + D j) / d = q at *
    generalize (rem * 4294967296 + D j) % d = r at *
    rw [Int.pow_succ]
    generalize (4294967296 : Int) ^ j = P at *
    have : D j = d * q + r - rem * 4294967296 := by omega
    rw [this]
    grind
set_option maxHeartbeats 2000000 in
/-- fixmathm.divDigit. -/
theorem divDigit_any (w : World) (s : Bool) (a : Option Addr) (n c N : Nat) (z d : Int) (hN : N ≤ 1099511627775) (hz : 0 ≤ z) (hd : 1 ≤ d) (hd2 : d < 4294967296) (hi : IsI N w s a n c z) :
    Calls Try.prog 107 #[.agg #[.bool s, .slice a n c], .int .u32 d] w (RetI N w (z / d)) := by
  obtain ⟨D, hm, hzD⟩ := hi.pos hz
  have hlen := hi.len
  have hW0 : Below w.heap.size w ((w.alloc (.cells #[.bool s, .slice a n c] 26)).alloc (.cells #[.bool false, .slice none 0 0] 26)) := ((Below.refl _ _).alloc (Nat.le_refl _) _).alloc (by simp) _
  have HM := hide (hm.below hW0)
  have HZ := hide hzD
  have HW0 := hide hW0
  have hmk := run_make_row' (P := Try.prog) 24 73 (.int .u32 0) 4 Try.underlying24 Try.info73 rfl .i64 .i64 n (by omega) (by omega)
  clear hi hm hzD hW0
  have hdz : ¬ d = 0 := by omega
  go_enter Try.func107, Try.ntmps107
  go_upto_region 1 with fail
  have a0 : ((w.alloc (.cells #[.bool s, .slice a n c] 26)).alloc (.cells #[.bool false, .slice none 0 0] 26)).cell? ⟨w.heap.size, 1, none⟩ = some (.slice a n c) := by simp [go_sem]
  have r0 : ((w.alloc (.cells #[.bool s, .slice a n c] 26)).alloc (.cells #[.bool false, .slice none 0 0] 26)).cell? ⟨w.heap.size + 1, 0, none⟩ = some (.bool false) := by simp [go_sem]
  have r1 : ((w.alloc (.cells #[.bool s, .slice a n c] 26)).alloc (.cells #[.bool false, .slice none 0 0] 26)).cell? ⟨w.heap.size + 1, 1, none⟩ = some (.slice none 0 0) := by simp [go_sem]
  have rf0 : ((w.alloc (.cells #[.bool s, .slice a n c] 26)).alloc (.cells #[.bool false, .slice none 0 0] 26)).frozen? ⟨w.heap.size + 1, 0, none⟩ = false := by simp [go_sem]
  have rf1 : ((w.alloc (.cells #[.bool s, .slice a n c] 26)).alloc (.cells #[.bool false, .slice none 0 0] 26)).frozen? ⟨w.heap.size + 1, 1, none⟩ = false := by simp [go_sem]
  have hpr : w.heap.size + 1 < ((w.alloc (.cells #[.bool s, .slice a n c] 26)).alloc (.cells #[.bool false, .slice none 0 0] 26)).heap.size := by simp
  have hpr2 : Hid (w.heap.size ≤ w.heap.size + 1) := hide (by omega)
  generalize (w.alloc (.cells #[.bool s, .slice a n c] 26)).alloc (.cells #[.bool false, .slice none 0 0] 26) = W at *
  obtain ⟨pr, hpre⟩ : ∃ p, w.heap.size + 1 = p := ⟨_, rfl⟩
  rw [hpre] at r0 r1 rf0 rf1 hpr hpr2 ⊢
  clear hpre
  obtain ⟨pa, hpae⟩ : ∃ p, w.heap.size = p := ⟨_, rfl⟩
  rw [hpae] at a0 ⊢
  clear hpae
  have a0m := cellAl (.cells (madeCells #[.int .u32 0] n) 73) a0
  go_wp2
  clear hmk a0m
  go_loopw [6, 7] (fun rr i wr => ∃ (j : Nat) (x rem : Int) (F : Nat → Int), j ≤ n ∧ rr = .int .u64 rem ∧ i = .int .i64 x ∧ x + 1 = (j : Int) ∧ 0 ≤ rem ∧ rem < d ∧ DvRel W n D d j rem F wr) (fun _ i _ => (intOf i + 1).toNat)
  case atStart =>
    refine ⟨n, (n : Int) - 1, 0, fun _ => 0, Nat.le_refl _, rfl, rfl, by omega, by omega, by omega, World.rowIs_made _ _ _ _, fun i hi => by simp, fun _ _ => rfl, ?_, (Below.refl _ _).alloc (Nat.le_refl _) _⟩
    rw [Sm_zero (fun _ _ => rfl)]; simp
  case round =>
    obtain ⟨j, x, rem, F, hj, rfl, rfl, hx, h0, h1, HR⟩ := hrel
    have hbel := HR.2.2.2.2
    have a0' := (hbel.cell (p := ⟨pa, 1, none⟩) (World.block_lt_of_cell? _ _ a0)).trans a0
    by_cases hj0 : j = 0
    · subst hj0
      obtain rfl : x = -1 := by omega
      have r0' := (hbel.cell (p := ⟨pr, 0, none⟩) hpr).trans r0
      have r1' := (hbel.cell (p := ⟨pr, 1, none⟩) hpr).trans r1
      have HR' := hide HR
      clear hbel HR
      go_wp2_with fail
      refine (trim_any _ _ n n F (by omega) (by omega) (row_mag HR'.out.1 HR'.out.2.1 (by omega))).mono ?_
      rintro e w1 ⟨rfl, q, hq, hzz, ht, a', cap', rfl, hcap', hmag⟩
      have hfin : Sm F q = z / d := by
        have h1' := HR'.out.2.2.2.1
        rw [mag_trim hq hzz, HZ.out, h1']
        simp only [Int.pow_zero, Int.mul_one, show Sm D 0 = 0 from rfl, Int.add_zero]
        rw [Int.add_comm, Int.add_mul_ediv_right _ _ hdz, Int.ediv_eq_zero_of_lt h0 h1]; omega
      have HF := hide hfin
      have HT := hide ht
      have HMg := hide hmag
      clear hfin ht hzz hmag
      go_wp2_with fail
      refine (make1_any _ false a' q cap' F N (by omega) hcap' HMg.out HT.out).mono ?_
      rintro e w2 ⟨s2, a2, n2, c2, rfl, i2, b2⟩
      have hbw : Below W.heap.size W w2 := HR'.out.2.2.2.2.trans (b2.mono HR'.out.2.2.2.2.size)
      obtain ⟨x0, x1, xf0, xf1⟩ := box2 (rb := pr) (.bool false) (.slice none 0 0) hbw hpr r0 r1 rf0 rf1
      have I2 := hide i2
      have HBW := hide hbw
      clear i2 b2 hbw
      go_wp2
      refine bodyPost_ret (v := .agg #[.bool s2, .slice a2 n2 c2]) (by simp [results, Try.results107, go_sem, x0, x1]) rfl ?_
      have hval : sg false (Sm F q) = z / d := by rw [HF.out]; rfl
      rw [← hval]
      exact fin_I I2.out HBW.out HW0.out hpr2.out hpr r0 r1
    · obtain ⟨i, rfl⟩ : ∃ i, j = i + 1 := ⟨j - 1, by omega⟩
      obtain rfl : x = (i : Int) := by omega
      have hin : i < n := by omega
      have hin' : (i : Int) < (n : Int) := by omega
      obtain ⟨ba, oa, rfl, hca, hd0, hd1⟩ := HM.out i hin
      have hca' := (hbel.cell (p := ⟨ba, oa + i, none⟩) (World.block_lt_of_cell? _ _ hca)).trans hca
      have hck := HR.1.cell (i := i) hin
      have hfk := HR.1.frozen i
      have hc0 : 0 ≤ rem * 4294967296 + D i := by omega
      have hq1 : (rem * 4294967296 + D i) / d < 4294967296 := by
        apply Int.ediv_lt_of_lt_mul (by omega)
        have : (rem + 1) * 4294967296 ≤ d * 4294967296 := by omega
        rw [Int.mul_comm 4294967296]; omega
      have hq0 : 0 ≤ (rem * 4294967296 + D i) / d := Int.ediv_nonneg hc0 (by omega)
      have hr0 : 0 ≤ (rem * 4294967296 + D i) % d := Int.emod_nonneg _ hdz
      have hr1 : (rem * 4294967296 + D i) % d < d := Int.emod_lt_of_pos _ (by omega)
      have hor := or_hi (D i) rem hd0 hd1 h0 (by omega)
      have HS := hide (HR.step hin (by omega) hq1 hc0)
      generalize D i = Di at *
      obtain ⟨cur, hcur⟩ : ∃ cur, rem * 4294967296 + Di = cur := ⟨_, rfl⟩
      rw [hcur] at HS hor hc0 hq1 hq0 hr0 hr1
      have hcb : cur < 18446744073709551616 := by omega
      obtain ⟨qq, hqq⟩ : ∃ q, cur / d = q := ⟨_, rfl⟩
      obtain ⟨rr, hrr⟩ : ∃ q, cur % d = q := ⟨_, rfl⟩
      rw [hqq] at HS hq1 hq0
      rw [hrr] at HS hr0 hr1
      have hqt : cur.tdiv d = qq := by rw [Int.tdiv_eq_ediv_of_nonneg hc0]; exact hqq
      have hrt : cur.tmod d = rr := by rw [Int.tmod_eq_emod_of_nonneg hc0]; exact hrr
      have hW32 : IntKind.u32.wrap qq = qq := by rw [IntKind.wrap_u32]; omega
      clear HR hbel hca hcur
      go_wp2
      go_roundw
      case rel => exact ⟨i, (i : Int) - 1, rr, _, by omega, rfl, rfl, by omega, hr0, hr1, HS.out⟩
      case measure => simp [intOf]
end Go.Proofs.Qxb6500775a
