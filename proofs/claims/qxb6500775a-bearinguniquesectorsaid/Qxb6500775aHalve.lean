import Derived.Test.Qxb6500775aSer
namespace Go.Proofs.Qxb6500775a
open Go.RowKit

/-- halve: k digits are done. -/
def HvRel (wc : World) (m : Nat) (E : Nat → Int) (P : Int) (k : Nat) (F : Nat → Int) (wr : World) : Prop :=
  wr.rowIs wc.heap.size 73 m (fun i => .int .u32 (F i)) ∧ Dig F m ∧ Sm F k * P = Sm E k - E 0 % P + (E k % P) * 4294967296 ^ k ∧ Below wc.heap.size wc wr
theorem halve_digit {x y P : Int} (hP : P = 1 ∨ P = 4) (x0 : 0 ≤ x) (x1 : x < 4294967296) : ((x + y * 4294967296) / P % 4294967296) * P = x - x % P + (y % P) * 4294967296 := by
  rcases hP with rfl | rfl <;> omega
theorem HvRel.step {wc wr : World} {m k : Nat} {E F : Nat → Int} {P v : Int} (h : HvRel wc m E P k F wr) (hv : v * P = E k - E k % P + (E (k + 1) % P) * 4294967296) (v0 : 0 ≤ v) (v1 : v < 4294967296) :
    HvRel wc m E P (k + 1) (upd F k v) (wr.setCell ⟨wc.heap.size, k, none⟩ (.int .u32 v)) := by
  obtain ⟨g1, g2, g3, g4⟩ := h
  refine ⟨row_upd g1, Dig_upd g2 v0 v1, ?_, g4.setCell (Nat.le_refl _) _⟩
  rw [Sm_succ, Sm_upd_ge (Nat.le_refl _), upd_same, Sm_succ, Int.pow_succ]
  generalize (4294967296 : Int) ^ k = B at *
  generalize E (k + 1) % P = u at *
  generalize E k % P = t at *
  have e : (Sm F k + v * B) * P = Sm F k * P + v * P * B := by grind
  rw [e, g3, hv]
  grind
theorem Sm_shift (D : Nat → Int) (q : Nat) : ∀ m, Sm D (q + m) = Sm D q + 4294967296 ^ q * Sm (fun i => D (i + q)) m
  | 0 => by simp [Sm]
  | m + 1 => by
    rw [show q + (m + 1) = (q + m) + 1 by omega, Sm_succ, Sm_shift D q m, Sm_succ, Int.pow_add, show m + q = q + m by omega]
    grind
theorem halve_fin {D E F : Nat → Int} {q m : Nat} {P : Int} (hP : P = 1 ∨ P = 4) (hD : Dig D (q + m)) (hE : ∀ i, i < m → E i = D (i + q)) (hEm : E m = 0) (h : Sm F m * P = Sm E m - E 0 % P + (E m % P) * 4294967296 ^ m) : Sm D (q + m) / (4294967296 ^ q * P) = Sm F m := by
  have hq : Dig D q := fun i hi => hD i (by omega)
  have e1 := Sm_shift D q m
  have e2 : Sm E m = Sm (fun i => D (i + q)) m := Sm_congr hE
  have l0 := Sm_nonneg hq
  have l1 := Sm_lt hq
  have hB := Bpow_pos q
  have e3 : Sm D (q + m) / 4294967296 ^ q = Sm E m := by
    rw [e1, ← e2, Int.add_mul_ediv_left _ _ (by omega), Int.ediv_eq_zero_of_lt l0 l1]; omega
  rw [← Int.ediv_ediv_of_nonneg (by omega), e3]
  rw [hEm] at h
  rcases hP with rfl | rfl
  · omega
  · omega

set_option maxHeartbeats 2000000 in
/-- fixmathm.halve by 64. -/
theorem halve64 (w : World) (s : Bool) (a : Option Addr) (n c N : Nat) (z : Int) (hN : N ≤ 1099511627775) (hz : 0 ≤ z) (hi : IsI N w s a n c z) :
    Calls Try.prog 106 #[.agg #[.bool s, .slice a n c], .int .i64 64] w (RetI N w (z / 18446744073709551616)) := by
  obtain ⟨D, hm, hzD⟩ := hi.pos hz
  have hlen := hi.len
  have hdig := hm.dig
  have hW0 : Below w.heap.size w ((w.alloc (.cells #[.bool s, .slice a n c] 26)).alloc (.cells #[.bool false, .slice none 0 0] 26)) := ((Below.refl _ _).alloc (Nat.le_refl _) _).alloc (by simp) _
  have HM := hide (hm.below hW0)
  have HW0 := hide hW0
  clear hi hm hW0
  by_cases hbig : n ≤ 2
  · have hv : z / 18446744073709551616 = 0 := by
      have h1 := Sm_lt hdig
      have h2 := Bpow_mono (m := n) (n := 2) (by omega)
      have h3 : (4294967296 : Int) ^ 2 ≤ 18446744073709551616 := by decide
      exact Int.ediv_eq_zero_of_lt hz (by omega)
    rw [hv]
    have hbig' : (n : Int) ≤ 2 := by omega
    clear hv hdig hzD HM
    go_enter Try.func106, Try.ntmps106
    go_wp2
    refine bodyPost_ret (v := .agg #[.bool false, .slice none 0 0]) (by simp [results, Try.results106, go_sem]) rfl ?_
    exact ⟨false, none, 0, 0, rfl, ⟨Nat.le_refl _, Nat.zero_le _, fun _ => rfl, fun _ => 0, fun i hi => by omega, Or.inl rfl, rfl⟩, HW0.out⟩
  · obtain ⟨m, rfl⟩ : ∃ m, n = 2 + m := ⟨n - 2, by omega⟩
    obtain ⟨n, hnm⟩ : ∃ n, 2 + m = n := ⟨_, rfl⟩
    rw [hnm] at hlen hdig hzD HM HW0 ⊢
    have hmm : 1 ≤ m := by omega
    have hsub : (n : Int) - 2 = (m : Int) := by omega
    have hbig' : ¬ (n : Int) ≤ 2 := by omega
    obtain ⟨E, hE⟩ : ∃ E : Nat → Int, E = fun i => ext D n (i + 2) := ⟨_, rfl⟩
    have hE1 : ∀ i, i < m → E i = D (i + 2) := fun i hi => by rw [hE]; exact ext_lt (by omega)
    have hE2 : E m = 0 := by rw [hE]; exact ext_ge (by omega)
    have HE := hide (And.intro hE1 hE2)
    have HZ := hide hzD
    have hmk := run_make_row' (P := Try.prog) 24 73 (.int .u32 0) 4 Try.underlying24 Try.info73 rfl .i64 .i64 m (by omega) (by omega)
    clear hE hE1 hE2 hzD hbig
    have HNM := hide hnm
    have hnm1 : m < n := by omega
    clear hnm
    go_enter Try.func106, Try.ntmps106
    go_upto_region 1 with fail
    have a0 : ((w.alloc (.cells #[.bool s, .slice a n c] 26)).alloc (.cells #[.bool false, .slice none 0 0] 26)).cell? ⟨w.heap.size, 1, none⟩ = some (.slice a n c) := by simp [go_sem]
    have r0 : ((w.alloc (.cells #[.bool s, .slice a n c] 26)).alloc (.cells #[.bool false, .slice none 0 0] 26)).cell? ⟨w.heap.size + 1, 0, none⟩ = some (.bool false) := by simp [go_sem]
    have r1 : ((w.alloc (.cells #[.bool s, .slice a n c] 26)).alloc (.cells #[.bool false, .slice none 0 0] 26)).cell? ⟨w.heap.size + 1, 1, none⟩ = some (.slice none 0 0) := by simp [go_sem]
    have rf0 : ((w.alloc (.cells #[.bool s, .slice a n c] 26)).alloc (.cells #[.bool false, .slice none 0 0] 26)).frozen? ⟨w.heap.size + 1, 0, none⟩ = false := by simp [go_sem]
    have rf1 : ((w.alloc (.cells #[.bool s, .slice a n c] 26)).alloc (.cells #[.bool false, .slice none 0 0] 26)).frozen? ⟨w.heap.size + 1, 1, none⟩ = false := by simp [go_sem]
    have hpr : w.heap.size + 1 < ((w.alloc (.cells #[.bool s, .slice a n c] 26)).alloc (.cells #[.bool false, .slice none 0 0] 26)).heap.size := by simp
    have hpr2 : Hid (w.heap.size ≤ w.heap.size + 1) := hide (by omega)
    generalize (w.alloc (.cells #[.bool s, .slice a n c] 26)).alloc (.cells #[.bool false, .slice none 0 0] 26) = W at *
    obtain ⟨pr, hpre⟩ : ∃ p, w.heap.size + 1 = p := ⟨_, rfl⟩
    rw [hpre] at r0 r1 rf0 rf1 hpr hpr2 ⊢
    clear hpre
    obtain ⟨pa, hpae⟩ : ∃ p, w.heap.size = p := ⟨_, rfl⟩
    rw [hpae] at a0 ⊢
    clear hpae
    have a0m := cellAl (.cells (madeCells #[.int .u32 0] m) 73) a0
    go_wp2
    clear hmk a0m
    go_loopw [8, 9] (fun i _ wr => ∃ (k : Nat) (F : Nat → Int), k ≤ m ∧ i = .int .i64 k ∧ HvRel W m E 1 k F wr) (fun i _ _ => m - (intOf i).toNat)
    case atStart =>
      refine ⟨0, fun _ => 0, Nat.zero_le _, rfl, World.rowIs_made _ _ _ _, fun i hi => by simp, ?_, (Below.refl _ _).alloc (Nat.le_refl _) _⟩
      simp [Sm]
    case round =>
      obtain ⟨k, F, hk, rfl, HR⟩ := hrel
      have hbel := HR.2.2.2
      have a0' := (hbel.cell (p := ⟨pa, 1, none⟩) (World.block_lt_of_cell? _ _ a0)).trans a0
      by_cases hkm : k < m
      · obtain ⟨kk, hkk⟩ : ∃ kk, k + 2 = kk := ⟨_, rfl⟩
        have hkkn : kk < n := by have := HNM.out; omega
        have hkki : (k : Int) + 2 = (kk : Int) := by omega
        have hkkn' : (kk : Int) < (n : Int) := by omega
        obtain ⟨kk1, hkk1⟩ : ∃ kk1, kk + 1 = kk1 := ⟨_, rfl⟩
        have hkk1i : (kk : Int) + 1 = (kk1 : Int) := by omega
        obtain ⟨ba, oa, rfl, hca, hd0, hd1⟩ := HM.out kk hkkn
        have hca' := (hbel.cell (p := ⟨ba, oa + kk, none⟩) (World.block_lt_of_cell? _ _ hca)).trans hca
        have hck := HR.1.cell (i := k) hkm
        have hfk := HR.1.frozen k
        have eE : E k = D kk := by rw [HE.out.1 k hkm, hkk]
        by_cases hnx : kk1 < n
        · have hnx' : (kk1 : Int) < (n : Int) := by omega
          obtain ⟨ba2, oa2, hab, hcb, he0, he1⟩ := HM.out kk1 hnx
          simp only [Option.some.injEq, Addr.mk.injEq, and_true] at hab
          obtain ⟨rfl, rfl⟩ := hab
          have hcb' := (hbel.cell (p := ⟨ba, oa + kk1, none⟩) (World.block_lt_of_cell? _ _ hcb)).trans hcb
          have eE1 : E (k + 1) = D kk1 := by rw [HE.out.1 (k + 1) (by have := HNM.out; omega), show k + 1 + 2 = kk1 by omega]
          have hor := or_parts (D kk) (D kk1) hd0 hd1 he0 he1
          have hvd := halve_digit (P := 1) (y := D kk1) (by simp) hd0 hd1
          rw [← eE, ← eE1] at hvd
          have hdw : 0 ≤ D kk + D kk1 * 4294967296 ∧ D kk + D kk1 * 4294967296 < 18446744073709551616 := by omega
          have HS := hide (HR.step hvd (by omega) (by omega))
          rw [eE, eE1] at HS
          generalize D kk = x at *
          generalize D kk1 = y at *
          have hmask := and_mask32 ((x + y * 4294967296) / 1) (by omega) (by omega)
          rw [Int.ediv_one] at hmask HS
          rw [show (x + y * 4294967296) % 4294967296 = x % 4294967296 by omega] at HS
          clear HR hbel hca hcb eE eE1 hvd hkk hkk1
          go_wp2
          go_roundw
          case rel => exact ⟨k + 1, _, by omega, by go_num, HS.out⟩
          case measure => simp [intOf]; omega
        · have hnx' : ¬ (kk1 : Int) < (n : Int) := by omega
          have eE1 : E (k + 1) = 0 := by rw [show k + 1 = m by have := HNM.out; omega]; exact HE.out.2
          have hvd := halve_digit (P := 1) (y := 0) (by simp) hd0 hd1
          rw [← eE] at hvd
          have HS := hide (HR.step (by rw [eE1]; exact hvd) (by omega) (by omega))
          rw [eE] at HS
          generalize D kk = x at *
          have hmask := and_mask32 (x / 1) (by omega) (by omega)
          rw [show x + 0 * 4294967296 = x by omega] at HS
          rw [Int.ediv_one] at hmask HS
          clear HR hbel hca eE eE1 hvd hkk hkk1
          go_wp2
          go_roundw
          case rel => exact ⟨k + 1, _, by omega, by go_num, HS.out⟩
          case measure => simp [intOf]; omega
      · obtain rfl : k = m := by omega
        have r0' := (hbel.cell (p := ⟨pr, 0, none⟩) hpr).trans r0
        have r1' := (hbel.cell (p := ⟨pr, 1, none⟩) hpr).trans r1
        have HR' := hide HR
        have hfin := halve_fin (q := 2) (m := k) (P := 1) (by simp) (by rw [HNM.out]; exact hdig) HE.out.1 HE.out.2 HR.2.2.1
        rw [HNM.out, ← HZ.out] at hfin
        have HF := hide hfin
        clear hbel HR hfin
        go_wp2_with fail
        refine (trim_any _ _ k k F (by omega) (by omega) (row_mag HR'.out.1 HR'.out.2.1 (by omega))).mono ?_
        rintro e w1 ⟨rfl, q, hq, hzz, ht, a', cap', rfl, hcap', hmag⟩
        have hfin : Sm F q = z / 18446744073709551616 := by
          rw [mag_trim hq hzz, ← HF.out]
          congr 1
        have HF2 := hide hfin
        have HT := hide ht
        have HMg := hide hmag
        clear hfin ht hzz hmag
        go_wp2_with fail
        refine (make1_any _ false a' q cap' F N (by omega) hcap' HMg.out HT.out).mono ?_
        rintro e w2 ⟨s2, a2, n2, c2, rfl, i2, b2⟩
        have hbw : Below W.heap.size W w2 := HR'.out.2.2.2.trans (b2.mono HR'.out.2.2.2.size)
        obtain ⟨x0, x1, xf0, xf1⟩ := box2 (rb := pr) (.bool false) (.slice none 0 0) hbw hpr r0 r1 rf0 rf1
        have I2 := hide i2
        have HBW := hide hbw
        clear i2 b2 hbw
        go_wp2
        refine bodyPost_ret (v := .agg #[.bool s2, .slice a2 n2 c2]) (by simp [results, Try.results106, go_sem, x0, x1]) rfl ?_
        have hval : sg false (Sm F q) = z / 18446744073709551616 := by rw [HF2.out]; rfl
        rw [← hval]
        exact fin_I I2.out HBW.out HW0.out hpr2.out hpr r0 r1

set_option maxHeartbeats 2000000 in
/-- fixmathm.halve by 34. -/
theorem halve34 (w : World) (s : Bool) (a : Option Addr) (n c N : Nat) (z : Int) (hN : N ≤ 1099511627775) (hz : 0 ≤ z) (hi : IsI N w s a n c z) :
    Calls Try.prog 106 #[.agg #[.bool s, .slice a n c], .int .i64 34] w (RetI N w (z / 17179869184)) := by
  obtain ⟨D, hm, hzD⟩ := hi.pos hz
  have hlen := hi.len
  have hdig := hm.dig
  have hW0 : Below w.heap.size w ((w.alloc (.cells #[.bool s, .slice a n c] 26)).alloc (.cells #[.bool false, .slice none 0 0] 26)) := ((Below.refl _ _).alloc (Nat.le_refl _) _).alloc (by simp) _
  have HM := hide (hm.below hW0)
  have HW0 := hide hW0
  clear hi hm hW0
  by_cases hbig : n ≤ 1
  · have hv : z / 17179869184 = 0 := by
      have h1 := Sm_lt hdig
      have h2 := Bpow_mono (m := n) (n := 1) (by omega)
      have h3 : (4294967296 : Int) ^ 1 ≤ 17179869184 := by decide
      exact Int.ediv_eq_zero_of_lt hz (by omega)
    rw [hv]
    have hbig' : (n : Int) ≤ 1 := by omega
    clear hv hdig hzD HM
    go_enter Try.func106, Try.ntmps106
    go_wp2
    refine bodyPost_ret (v := .agg #[.bool false, .slice none 0 0]) (by simp [results, Try.results106, go_sem]) rfl ?_
    exact ⟨false, none, 0, 0, rfl, ⟨Nat.le_refl _, Nat.zero_le _, fun _ => rfl, fun _ => 0, fun i hi => by omega, Or.inl rfl, rfl⟩, HW0.out⟩
  · obtain ⟨m, rfl⟩ : ∃ m, n = 1 + m := ⟨n - 1, by omega⟩
    obtain ⟨n, hnm⟩ : ∃ n, 1 + m = n := ⟨_, rfl⟩
    rw [hnm] at hlen hdig hzD HM HW0 ⊢
    have hmm : 1 ≤ m := by omega
    have hsub : (n : Int) - 1 = (m : Int) := by omega
    have hbig' : ¬ (n : Int) ≤ 1 := by omega
    obtain ⟨E, hE⟩ : ∃ E : Nat → Int, E = fun i => ext D n (i + 1) := ⟨_, rfl⟩
    have hE1 : ∀ i, i < m → E i = D (i + 1) := fun i hi => by rw [hE]; exact ext_lt (by omega)
    have hE2 : E m = 0 := by rw [hE]; exact ext_ge (by omega)
    have HE := hide (And.intro hE1 hE2)
    have HZ := hide hzD
    have hmk := run_make_row' (P := Try.prog) 24 73 (.int .u32 0) 4 Try.underlying24 Try.info73 rfl .i64 .i64 m (by omega) (by omega)
    clear hE hE1 hE2 hzD hbig
    have HNM := hide hnm
    have hnm1 : m < n := by omega
    clear hnm
    go_enter Try.func106, Try.ntmps106
    go_upto_region 1 with fail
    have a0 : ((w.alloc (.cells #[.bool s, .slice a n c] 26)).alloc (.cells #[.bool false, .slice none 0 0] 26)).cell? ⟨w.heap.size, 1, none⟩ = some (.slice a n c) := by simp [go_sem]
    have r0 : ((w.alloc (.cells #[.bool s, .slice a n c] 26)).alloc (.cells #[.bool false, .slice none 0 0] 26)).cell? ⟨w.heap.size + 1, 0, none⟩ = some (.bool false) := by simp [go_sem]
    have r1 : ((w.alloc (.cells #[.bool s, .slice a n c] 26)).alloc (.cells #[.bool false, .slice none 0 0] 26)).cell? ⟨w.heap.size + 1, 1, none⟩ = some (.slice none 0 0) := by simp [go_sem]
    have rf0 : ((w.alloc (.cells #[.bool s, .slice a n c] 26)).alloc (.cells #[.bool false, .slice none 0 0] 26)).frozen? ⟨w.heap.size + 1, 0, none⟩ = false := by simp [go_sem]
    have rf1 : ((w.alloc (.cells #[.bool s, .slice a n c] 26)).alloc (.cells #[.bool false, .slice none 0 0] 26)).frozen? ⟨w.heap.size + 1, 1, none⟩ = false := by simp [go_sem]
    have hpr : w.heap.size + 1 < ((w.alloc (.cells #[.bool s, .slice a n c] 26)).alloc (.cells #[.bool false, .slice none 0 0] 26)).heap.size := by simp
    have hpr2 : Hid (w.heap.size ≤ w.heap.size + 1) := hide (by omega)
    generalize (w.alloc (.cells #[.bool s, .slice a n c] 26)).alloc (.cells #[.bool false, .slice none 0 0] 26) = W at *
    obtain ⟨pr, hpre⟩ : ∃ p, w.heap.size + 1 = p := ⟨_, rfl⟩
    rw [hpre] at r0 r1 rf0 rf1 hpr hpr2 ⊢
    clear hpre
    obtain ⟨pa, hpae⟩ : ∃ p, w.heap.size = p := ⟨_, rfl⟩
    rw [hpae] at a0 ⊢
    clear hpae
    have a0m := cellAl (.cells (madeCells #[.int .u32 0] m) 73) a0
    go_wp2
    clear hmk a0m
    go_loopw [8, 9] (fun i _ wr => ∃ (k : Nat) (F : Nat → Int), k ≤ m ∧ i = .int .i64 k ∧ HvRel W m E 4 k F wr) (fun i _ _ => m - (intOf i).toNat)
    case atStart =>
      refine ⟨0, fun _ => 0, Nat.zero_le _, rfl, World.rowIs_made _ _ _ _, fun i hi => by simp, ?_, (Below.refl _ _).alloc (Nat.le_refl _) _⟩
      simp [Sm]; omega
    case round =>
      obtain ⟨k, F, hk, rfl, HR⟩ := hrel
      have hbel := HR.2.2.2
      have a0' := (hbel.cell (p := ⟨pa, 1, none⟩) (World.block_lt_of_cell? _ _ a0)).trans a0
      by_cases hkm : k < m
      · obtain ⟨kk, hkk⟩ : ∃ kk, k + 1 = kk := ⟨_, rfl⟩
        have hkkn : kk < n := by have := HNM.out; omega
        have hkki : (k : Int) + 1 = (kk : Int) := by omega
        have hkkn' : (kk : Int) < (n : Int) := by omega
        obtain ⟨kk1, hkk1⟩ : ∃ kk1, kk + 1 = kk1 := ⟨_, rfl⟩
        have hkk1i : (kk : Int) + 1 = (kk1 : Int) := by omega
        obtain ⟨ba, oa, rfl, hca, hd0, hd1⟩ := HM.out kk hkkn
        have hca' := (hbel.cell (p := ⟨ba, oa + kk, none⟩) (World.block_lt_of_cell? _ _ hca)).trans hca
        have hck := HR.1.cell (i := k) hkm
        have hfk := HR.1.frozen k
        have eE : E k = D kk := by rw [HE.out.1 k hkm, hkk]
        by_cases hnx : kk1 < n
        · have hnx' : (kk1 : Int) < (n : Int) := by omega
          obtain ⟨ba2, oa2, hab, hcb, he0, he1⟩ := HM.out kk1 hnx
          simp only [Option.some.injEq, Addr.mk.injEq, and_true] at hab
          obtain ⟨rfl, rfl⟩ := hab
          have hcb' := (hbel.cell (p := ⟨ba, oa + kk1, none⟩) (World.block_lt_of_cell? _ _ hcb)).trans hcb
          have eE1 : E (k + 1) = D kk1 := by rw [HE.out.1 (k + 1) (by have := HNM.out; omega), show k + 1 + 1 = kk1 by omega]
          have hor := or_parts (D kk) (D kk1) hd0 hd1 he0 he1
          have hvd := halve_digit (P := 4) (y := D kk1) (by simp) hd0 hd1
          rw [← eE, ← eE1] at hvd
          have hdw : 0 ≤ D kk + D kk1 * 4294967296 ∧ D kk + D kk1 * 4294967296 < 18446744073709551616 := by omega
          have HS := hide (HR.step hvd (by omega) (by omega))
          rw [eE, eE1] at HS
          generalize D kk = x at *
          generalize D kk1 = y at *
          have hmask := and_mask32 ((x + y * 4294967296) / 4) (by omega) (by omega)
          
          clear HR hbel hca hcb eE eE1 hvd hkk hkk1
          go_wp2
          go_roundw
          case rel => exact ⟨k + 1, _, by omega, by go_num, HS.out⟩
          case measure => simp [intOf]; omega
        · have hnx' : ¬ (kk1 : Int) < (n : Int) := by omega
          have eE1 : E (k + 1) = 0 := by rw [show k + 1 = m by have := HNM.out; omega]; exact HE.out.2
          have hvd := halve_digit (P := 4) (y := 0) (by simp) hd0 hd1
          rw [← eE] at hvd
          have HS := hide (HR.step (by rw [eE1]; exact hvd) (by omega) (by omega))
          rw [eE] at HS
          generalize D kk = x at *
          have hmask := and_mask32 (x / 4) (by omega) (by omega)
          rw [show x + 0 * 4294967296 = x by omega] at HS
          
          clear HR hbel hca eE eE1 hvd hkk hkk1
          go_wp2
          go_roundw
          case rel => exact ⟨k + 1, _, by omega, by go_num, HS.out⟩
          case measure => simp [intOf]; omega
      · obtain rfl : k = m := by omega
        have r0' := (hbel.cell (p := ⟨pr, 0, none⟩) hpr).trans r0
        have r1' := (hbel.cell (p := ⟨pr, 1, none⟩) hpr).trans r1
        have HR' := hide HR
        have hfin := halve_fin (q := 1) (m := k) (P := 4) (by simp) (by rw [HNM.out]; exact hdig) HE.out.1 HE.out.2 HR.2.2.1
        rw [HNM.out, ← HZ.out] at hfin
        have HF := hide hfin
        clear hbel HR hfin
        go_wp2_with fail
        refine (trim_any _ _ k k F (by omega) (by omega) (row_mag HR'.out.1 HR'.out.2.1 (by omega))).mono ?_
        rintro e w1 ⟨rfl, q, hq, hzz, ht, a', cap', rfl, hcap', hmag⟩
        have hfin : Sm F q = z / 17179869184 := by
          rw [mag_trim hq hzz, ← HF.out]
          congr 1
        have HF2 := hide hfin
        have HT := hide ht
        have HMg := hide hmag
        clear hfin ht hzz hmag
        go_wp2_with fail
        refine (make1_any _ false a' q cap' F N (by omega) hcap' HMg.out HT.out).mono ?_
        rintro e w2 ⟨s2, a2, n2, c2, rfl, i2, b2⟩
        have hbw : Below W.heap.size W w2 := HR'.out.2.2.2.trans (b2.mono HR'.out.2.2.2.size)
        obtain ⟨x0, x1, xf0, xf1⟩ := box2 (rb := pr) (.bool false) (.slice none 0 0) hbw hpr r0 r1 rf0 rf1
        have I2 := hide i2
        have HBW := hide hbw
        clear i2 b2 hbw
        go_wp2
        refine bodyPost_ret (v := .agg #[.bool s2, .slice a2 n2 c2]) (by simp [results, Try.results106, go_sem, x0, x1]) rfl ?_
        have hval : sg false (Sm F q) = z / 17179869184 := by rw [HF2.out]; rfl
        rw [← hval]
        exact fin_I I2.out HBW.out HW0.out hpr2.out hpr r0 r1
end Go.Proofs.Qxb6500775a
