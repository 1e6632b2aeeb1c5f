import Derived.Test.Qxb6500777aNm1
import Derived.Deep.RegionLaw
namespace Go.Proofs.Qxb6500777a.Nm
open Go.RowKit

theorem lec {a b c : World} (h : Below a.heap.size a b) (k : Below b.heap.size b c) : Below a.heap.size a c := h.trans (k.mono h.size)
theorem cellKeep {w w' : World} (hb : Below w.heap.size w w') {p : Addr} {v : Value} (h : w.cell? p = some v) : w'.cell? p = some v := (hb.cell (World.block_lt_of_cell? _ _ h)).trans h

theorem IsI.al {N : Nat} {w : World} {neg : Bool} {a : Option Addr} {n cap : Nat} {z : Int} (h : IsI N w neg a n cap z) (o : Obj) : IsI N (w.alloc o) neg a n cap z := h.below ((Below.refl _ _).alloc (Nat.le_refl _) o)
theorem IsI.dr {N : Nat} {w : World} {neg : Bool} {a : Option Addr} {n cap : Nat} {z : Int} (h : IsI N w neg a n cap z) : IsI N w.drew neg a n cap z := h.below (Below.refl _ _).drew
theorem cellAl {w : World} {p : Addr} {v : Value} (o : Obj) (h : w.cell? p = some v) : (w.alloc o).cell? p = some v := cellKeep ((Below.refl _ _).alloc (Nat.le_refl _) o) h
theorem lecB {a b c : World} (h : Below a.heap.size a b) (k : Below b.heap.size b c) : Below a.heap.size a c := h.trans (k.mono h.size)
theorem belAl {a b : World} (h : Below a.heap.size a b) (o : Obj) : Below a.heap.size a (b.alloc o) := h.alloc h.size o
theorem cellNew0 (w : World) : (w.alloc (.cells #[.bool false, .slice none 0 0] 83)).cell? ⟨w.heap.size, 0, none⟩ = some (.bool false) := by simp [go_sem]
theorem cellNew1 (w : World) : (w.alloc (.cells #[.bool false, .slice none 0 0] 83)).cell? ⟨w.heap.size, 1, none⟩ = some (.slice none 0 0) := by simp [go_sem]
theorem frozNew (w : World) (i : Nat) : (w.alloc (.cells #[.bool false, .slice none 0 0] 83)).frozen? ⟨w.heap.size, i, none⟩ = false := by simp [go_sem]
theorem blkNe {w : World} {p : Addr} {v : Value} (h : w.cell? p = some v) : ¬ w.heap.size = p.block := fun e => by have := World.block_lt_of_cell? _ _ h; omega

/-- A variable that holds the number z. -/
def VarI (N : Nat) (w : World) (p : Nat) (z : Int) : Prop :=
  ∃ s a n c, w.cell? ⟨p, 0, none⟩ = some (.bool s) ∧ w.cell? ⟨p, 1, none⟩ = some (.slice a n c) ∧ IsI N w s a n c z
theorem VarI.below {N : Nat} {w w' : World} {p : Nat} {z : Int} (h : VarI N w p z) (hb : Below w.heap.size w w') : VarI N w' p z := by
  obtain ⟨s, a, n, c, h0, h1, h2⟩ := h
  exact ⟨s, a, n, c, cellKeep hb h0, cellKeep hb h1, h2.below hb⟩
theorem varNew {N : Nat} {w : World} {s : Bool} {a : Option Addr} {n c : Nat} {z : Int} (h : IsI N w s a n c z) : VarI N (w.alloc (.cells #[.bool s, .slice a n c] 83)) w.heap.size z :=
  ⟨s, a, n, c, by simp [go_sem], by simp [go_sem], h.al _⟩
theorem varSet {N : Nat} {w : World} {p : Nat} {s : Bool} {a : Option Addr} {n c : Nat} {z : Int} (h : IsI N w s a n c z) (h0 : w.cell? ⟨p, 0, none⟩ = some (.bool false)) (h1 : w.cell? ⟨p, 1, none⟩ = some (.slice none 0 0)) :
    VarI N ((w.setCell ⟨p, 0, none⟩ (.bool s)).setCell ⟨p, 1, none⟩ (.slice a n c)) p z := by
  have e1 : (w.setCell ⟨p, 0, none⟩ (.bool s)).cell? ⟨p, 1, none⟩ = some (.slice none 0 0) := by rw [World.cell?_setCell_other]; exact h1; simp
  refine ⟨s, a, n, c, ?_, World.cell?_setCell_same _ _ _ e1, (h.setCell _ _ _ h0 (by simp)).setCell _ _ _ e1 (by simp)⟩
  rw [World.cell?_setCell_other]
  · exact World.cell?_setCell_same _ _ _ h0
  · simp
theorem belSet2 {a b : World} {p : Nat} {u v : Value} (h : Below a.heap.size a b) (hp : a.heap.size ≤ p) : Below a.heap.size a ((b.setCell ⟨p, 0, none⟩ u).setCell ⟨p, 1, none⟩ v) := (h.setCell hp _).setCell hp _


theorem or_parts (x y : Int) (hx0 : 0 ≤ x) (hx : x < 4294967296) (hy0 : 0 ≤ y) (hy : y < 4294967296) : bits BinOp.or .u64 x (y * 4294967296) = x + y * 4294967296 := by
  obtain ⟨a, rfl⟩ := Int.eq_ofNat_of_zero_le hx0
  obtain ⟨b, rfl⟩ := Int.eq_ofNat_of_zero_le hy0
  have e2 : ((b * 4294967296 : Nat) : Int) = (b : Int) * 4294967296 := by omega
  have e3 : ((b * 4294967296 + a : Nat) : Int) = (a : Int) + (b : Int) * 4294967296 := by rw [Int.natCast_add, e2, Int.add_comm]
  have h := bits_or_u64_nat a (b * 4294967296) (by omega) (by omega)
  have e : a ||| b * 4294967296 = b * 4294967296 + a := by
    rw [Nat.or_comm]
    have := Nat.two_pow_add_eq_or_of_lt (i := 32) (b := a) (by omega) b
    rw [Nat.mul_comm] at this
    exact this.symm
  rw [e, e2, e3] at h
  exact h
theorem varSet' {N : Nat} {w : World} {p : Nat} {s s0 : Bool} {a a0 : Option Addr} {n c n0 c0 : Nat} {z : Int} (h : IsI N w s a n c z) (h0 : w.cell? ⟨p, 0, none⟩ = some (.bool s0)) (h1 : w.cell? ⟨p, 1, none⟩ = some (.slice a0 n0 c0)) :
    VarI N ((w.setCell ⟨p, 0, none⟩ (.bool s)).setCell ⟨p, 1, none⟩ (.slice a n c)) p z := by
  have e1 : (w.setCell ⟨p, 0, none⟩ (.bool s)).cell? ⟨p, 1, none⟩ = some (.slice a0 n0 c0) := by rw [World.cell?_setCell_other]; exact h1; simp
  refine ⟨s, a, n, c, ?_, World.cell?_setCell_same _ _ _ e1, (h.setCell _ _ _ h0 (by simp)).setCell _ _ _ e1 (by simp)⟩
  rw [World.cell?_setCell_other]
  · exact World.cell?_setCell_same _ _ _ h0
  · simp
theorem isi_set2 {N : Nat} {w : World} {p : Nat} {s s0 : Bool} {a a0 : Option Addr} {n c n0 c0 : Nat} {z : Int} {u v : Value} (h : IsI N w s a n c z) (h0 : w.cell? ⟨p, 0, none⟩ = some (.bool s0)) (h1 : w.cell? ⟨p, 1, none⟩ = some (.slice a0 n0 c0)) :
    IsI N ((w.setCell ⟨p, 0, none⟩ u).setCell ⟨p, 1, none⟩ v) s a n c z := by
  have e1 : (w.setCell ⟨p, 0, none⟩ u).cell? ⟨p, 1, none⟩ = some (.slice a0 n0 c0) := by rw [World.cell?_setCell_other]; exact h1; simp
  exact (h.setCell _ _ _ h0 (by simp)).setCell _ _ _ e1 (by simp)
theorem cell_set2 {w : World} {p q j : Nat} {u v x : Value} (hne : q ≠ p) (h : w.cell? ⟨q, j, none⟩ = some x) : ((w.setCell ⟨p, 0, none⟩ u).setCell ⟨p, 1, none⟩ v).cell? ⟨q, j, none⟩ = some x := by
  rw [World.cell?_setCell_other _ _ _ _ (by simp <;> omega), World.cell?_setCell_other _ _ _ _ (by simp <;> omega)]
  exact h
theorem VarI.lt {N : Nat} {w : World} {p : Nat} {z : Int} (h : VarI N w p z) : p < w.heap.size := by
  obtain ⟨s, a, n, c, h0, -⟩ := h
  exact World.block_lt_of_cell? _ _ h0
theorem VarI.other {N : Nat} {w : World} {p q : Nat} {z : Int} {u v : Value} {s0 : Bool} {a0 : Option Addr} {n0 c0 : Nat} (h : VarI N w p z) (hne : p ≠ q) (h0 : w.cell? ⟨q, 0, none⟩ = some (.bool s0)) (h1 : w.cell? ⟨q, 1, none⟩ = some (.slice a0 n0 c0)) :
    VarI N ((w.setCell ⟨q, 0, none⟩ u).setCell ⟨q, 1, none⟩ v) p z := by
  obtain ⟨s, a, n, c, x0, x1, i⟩ := h
  exact ⟨s, a, n, c, cell_set2 hne x0, cell_set2 hne x1, isi_set2 i h0 h1⟩
theorem step_call {P : Program} {w : World} {ops : Array Oper} {o : Oper} {a : Act} {K : Act → World → Prop} {Q : Exit → Act → World → Prop} {E : Prop} (hg : o.guard = none)
    (f : FuncId) (args : Array Value) (hrun : (execOp a.eval o).run P w = .ok (.enter f args) w) {Post : Ending → World → Prop} (hc : Calls P f args w Post)
    (h : ∀ e w', Post e w' → ∃ v, e = .returned v ∧ K (a.put o.dst v) w') :
    if Region.wanted o (yielded ops a.tmps) = true then Oper.wp P o a w K Q else E := by
  rw [if_pos (by simp [Region.wanted, hg])]
  unfold Oper.wp
  rw [hrun, Oper.upon_enter]
  refine hc.mono fun e w' hh => ?_
  obtain ⟨v, rfl, hK⟩ := h e w' hh
  exact hK

theorem or_hi (x y : Int) (hx0 : 0 ≤ x) (hx : x < 4294967296) (hy0 : 0 ≤ y) (hy : y < 4294967296) : bits BinOp.or .u64 (y * 4294967296) x = y * 4294967296 + x := by
  have h := or_parts x y hx0 hx hy0 hy
  obtain ⟨a, rfl⟩ := Int.eq_ofNat_of_zero_le hx0
  obtain ⟨b, rfl⟩ := Int.eq_ofNat_of_zero_le hy0
  have e2 : ((b * 4294967296 : Nat) : Int) = (b : Int) * 4294967296 := by omega
  have h1 := bits_or_u64_nat a (b * 4294967296) (by omega) (by omega)
  have h2 := bits_or_u64_nat (b * 4294967296) a (by omega) (by omega)
  rw [e2] at h1 h2
  rw [h2, Nat.or_comm, ← h1, h, Int.add_comm]
/-- Digits of a number that is not negative. -/
theorem IsI.pos {N : Nat} {w : World} {neg : Bool} {a : Option Addr} {n cap : Nat} {z : Int} (h : IsI N w neg a n cap z) (hz : 0 ≤ z) : ∃ D, Mag w a n D ∧ z = Sm D n := by
  obtain ⟨D, h1, h2, h3⟩ := h.digits
  refine ⟨D, h1, ?_⟩
  have h0 := Sm_nonneg h1.dig
  cases neg
  · simpa [sg] using h3
  · by_cases hn : n = 0
    · exact absurd (h.sign hn) (by simp)
    · have := (h.neg_iff hn).2 rfl
      omega
/-- divDigit: the digits from j on are done. -/
def DvRel (wc : World) (n : Nat) (D : Nat → Int) (d : Int) (j : Nat) (rem : Int) (F : Nat → Int) (wr : World) : Prop :=
  wr.rowIs wc.heap.size 80 n (fun i => .int .u32 (F i)) ∧ Dig F n ∧ (∀ i, i < j → F i = 0) ∧ Sm D n = Sm F n * d + rem * 4294967296 ^ j + Sm D j ∧ Below wc.heap.size wc wr
theorem DvRel.step {wc wr : World} {n j : Nat} {D F : Nat → Int} {d rem : Int} (h : DvRel wc n D d (j + 1) rem F wr) (hj : j < n) (hd : 0 < d) (hq : (rem * 4294967296 + D j) / d < 4294967296) (h0 : 0 ≤ rem * 4294967296 + D j) :
    DvRel wc n D d j ((rem * 4294967296 + D j) % d) (upd F j ((rem * 4294967296 + D j) / d)) (wr.setCell ⟨wc.heap.size, j, none⟩ (.int .u32 ((rem * 4294967296 + D j) / d))) := by
  obtain ⟨g1, g2, g3, g4, g5⟩ := h
  refine ⟨row_upd g1, Dig_upd g2 (Int.ediv_nonneg h0 (by omega)) hq, ?_, ?_, g5.setCell (Nat.le_refl _) _⟩
  · intro i hi
    rw [upd_other _ _ (by omega)]
    exact g3 i (by omega)
  · rw [Sm_upd hj, g3 j (by omega), g4, Sm_succ]
    have e := Int.mul_ediv_add_emod (rem * 4294967296 + D j) d
    generalize (rem * 4294967296 + D j) / d = q at *
    generalize (rem * 4294967296 + D j) % d = r at *
    rw [Int.pow_succ]
    generalize (4294967296 : Int) ^ j = P at *
    have : D j = d * q + r - rem * 4294967296 := by omega
    rw [this]
    grind
set_option maxHeartbeats 2000000 in
/-- fixmathm.divDigit. -/
theorem divDigit_any (w : World) (s : Bool) (a : Option Addr) (n c N : Nat) (z d : Int) (hN : N ≤ 1099511627775) (hz : 0 ≤ z) (hd : 1 ≤ d) (hd2 : d < 4294967296) (hi : IsI N w s a n c z) :
    Calls Try.prog 54 #[.agg #[.bool s, .slice a n c], .int .u32 d] w (RetI N w (z / d)) := by
  obtain ⟨D, hm, hzD⟩ := hi.pos hz
  have hlen := hi.len
  have hW0 : Below w.heap.size w ((w.alloc (.cells #[.bool s, .slice a n c] 83)).alloc (.cells #[.bool false, .slice none 0 0] 83)) := ((Below.refl _ _).alloc (Nat.le_refl _) _).alloc (by simp) _
  have HM := hide (hm.below hW0)
  have HZ := hide hzD
  have HW0 := hide hW0
  have hmk := run_make_row' (P := Try.prog) 81 80 (.int .u32 0) 4 Try.underlying81 Try.info80 rfl .i64 .i64 n (by omega) (by omega)
  clear hi hm hzD hW0
  have hdz : ¬ d = 0 := by omega
  go_enter Try.func54, Try.ntmps54
  go_upto_region 1 with fail
  have a0 : ((w.alloc (.cells #[.bool s, .slice a n c] 83)).alloc (.cells #[.bool false, .slice none 0 0] 83)).cell? ⟨w.heap.size, 1, none⟩ = some (.slice a n c) := by simp [go_sem]
  have r0 : ((w.alloc (.cells #[.bool s, .slice a n c] 83)).alloc (.cells #[.bool false, .slice none 0 0] 83)).cell? ⟨w.heap.size + 1, 0, none⟩ = some (.bool false) := by simp [go_sem]
  have r1 : ((w.alloc (.cells #[.bool s, .slice a n c] 83)).alloc (.cells #[.bool false, .slice none 0 0] 83)).cell? ⟨w.heap.size + 1, 1, none⟩ = some (.slice none 0 0) := by simp [go_sem]
  have rf0 : ((w.alloc (.cells #[.bool s, .slice a n c] 83)).alloc (.cells #[.bool false, .slice none 0 0] 83)).frozen? ⟨w.heap.size + 1, 0, none⟩ = false := by simp [go_sem]
  have rf1 : ((w.alloc (.cells #[.bool s, .slice a n c] 83)).alloc (.cells #[.bool false, .slice none 0 0] 83)).frozen? ⟨w.heap.size + 1, 1, none⟩ = false := by simp [go_sem]
  have hpr : w.heap.size + 1 < ((w.alloc (.cells #[.bool s, .slice a n c] 83)).alloc (.cells #[.bool false, .slice none 0 0] 83)).heap.size := by simp
  have hpr2 : Hid (w.heap.size ≤ w.heap.size + 1) := hide (by omega)
  generalize (w.alloc (.cells #[.bool s, .slice a n c] 83)).alloc (.cells #[.bool false, .slice none 0 0] 83) = W at *
  obtain ⟨pr, hpre⟩ : ∃ p, w.heap.size + 1 = p := ⟨_, rfl⟩
  rw [hpre] at r0 r1 rf0 rf1 hpr hpr2 ⊢
  clear hpre
  obtain ⟨pa, hpae⟩ : ∃ p, w.heap.size = p := ⟨_, rfl⟩
  rw [hpae] at a0 ⊢
  clear hpae
  have a0m := cellAl (.cells (madeCells #[.int .u32 0] n) 80) a0
  go_wp2
  clear hmk a0m
  go_loopw [6, 7] (fun rr i wr => ∃ (j : Nat) (x rem : Int) (F : Nat → Int), j ≤ n ∧ rr = .int .u64 rem ∧ i = .int .i64 x ∧ x + 1 = (j : Int) ∧ 0 ≤ rem ∧ rem < d ∧ DvRel W n D d j rem F wr) (fun _ i _ => (intOf i + 1).toNat)
  case atStart =>
    refine ⟨n, (n : Int) - 1, 0, fun _ => 0, Nat.le_refl _, rfl, rfl, by omega, by omega, by omega, World.rowIs_made _ _ _ _, fun i hi => by simp, fun _ _ => rfl, ?_, (Below.refl _ _).alloc (Nat.le_refl _) _⟩
    rw [Sm_zero (fun _ _ => rfl)]; simp
  case round =>
    obtain ⟨j, x, rem, F, hj, rfl, rfl, hx, h0, h1, HR⟩ := hrel
    have hbel := HR.2.2.2.2
    have a0' := (hbel.cell (p := ⟨pa, 1, none⟩) (World.block_lt_of_cell? _ _ a0)).trans a0
    by_cases hj0 : j = 0
    · subst hj0
      obtain rfl : x = -1 := by omega
      have r0' := (hbel.cell (p := ⟨pr, 0, none⟩) hpr).trans r0
      have r1' := (hbel.cell (p := ⟨pr, 1, none⟩) hpr).trans r1
      have HR' := hide HR
      clear hbel HR
      go_wp2_with fail
      refine (trim_any _ _ n n F (by omega) (by omega) (row_mag HR'.out.1 HR'.out.2.1 (by omega))).mono ?_
      rintro e w1 ⟨rfl, q, hq, hzz, ht, a', cap', rfl, hcap', hmag⟩
      have hfin : Sm F q = z / d := by
        have h1' := HR'.out.2.2.2.1
        rw [mag_trim hq hzz, HZ.out, h1']
        simp only [Int.pow_zero, Int.mul_one, show Sm D 0 = 0 from rfl, Int.add_zero]
        rw [Int.add_comm, Int.add_mul_ediv_right _ _ hdz, Int.ediv_eq_zero_of_lt h0 h1]; omega
      have HF := hide hfin
      have HT := hide ht
      have HMg := hide hmag
      clear hfin ht hzz hmag
      go_wp2_with fail
      refine (make1_any _ false a' q cap' F N (by omega) hcap' HMg.out HT.out).mono ?_
      rintro e w2 ⟨s2, a2, n2, c2, rfl, i2, b2⟩
      have hbw : Below W.heap.size W w2 := HR'.out.2.2.2.2.trans (b2.mono HR'.out.2.2.2.2.size)
      obtain ⟨x0, x1, xf0, xf1⟩ := box2 (rb := pr) (.bool false) (.slice none 0 0) hbw hpr r0 r1 rf0 rf1
      have I2 := hide i2
      have HBW := hide hbw
      clear i2 b2 hbw
      go_wp2
      refine bodyPost_ret (v := .agg #[.bool s2, .slice a2 n2 c2]) (by simp [results, Try.results54, go_sem, x0, x1]) rfl ?_
      have hval : sg false (Sm F q) = z / d := by rw [HF.out]; rfl
      rw [← hval]
      exact fin_I I2.out HBW.out HW0.out hpr2.out hpr r0 r1
    · obtain ⟨i, rfl⟩ : ∃ i, j = i + 1 := ⟨j - 1, by omega⟩
      obtain rfl : x = (i : Int) := by omega
      have hin : i < n := by omega
      have hin' : (i : Int) < (n : Int) := by omega
      obtain ⟨ba, oa, rfl, hca, hd0, hd1⟩ := HM.out i hin
      have hca' := (hbel.cell (p := ⟨ba, oa + i, none⟩) (World.block_lt_of_cell? _ _ hca)).trans hca
      have hck := HR.1.cell (i := i) hin
      have hfk := HR.1.frozen i
      have hc0 : 0 ≤ rem * 4294967296 + D i := by omega
      have hq1 : (rem * 4294967296 + D i) / d < 4294967296 := by
        apply Int.ediv_lt_of_lt_mul (by omega)
        have : (rem + 1) * 4294967296 ≤ d * 4294967296 := by omega
        rw [Int.mul_comm 4294967296]; omega
      have hq0 : 0 ≤ (rem * 4294967296 + D i) / d := Int.ediv_nonneg hc0 (by omega)
      have hr0 : 0 ≤ (rem * 4294967296 + D i) % d := Int.emod_nonneg _ hdz
      have hr1 : (rem * 4294967296 + D i) % d < d := Int.emod_lt_of_pos _ (by omega)
      have hor := or_hi (D i) rem hd0 hd1 h0 (by omega)
      have HS := hide (HR.step hin (by omega) hq1 hc0)
      generalize D i = Di at *
      obtain ⟨cur, hcur⟩ : ∃ cur, rem * 4294967296 + Di = cur := ⟨_, rfl⟩
      rw [hcur] at HS hor hc0 hq1 hq0 hr0 hr1
      have hcb : cur < 18446744073709551616 := by omega
      obtain ⟨qq, hqq⟩ : ∃ q, cur / d = q := ⟨_, rfl⟩
      obtain ⟨rr, hrr⟩ : ∃ q, cur % d = q := ⟨_, rfl⟩
      rw [hqq] at HS hq1 hq0
      rw [hrr] at HS hr0 hr1
      have hqt : cur.tdiv d = qq := by rw [Int.tdiv_eq_ediv_of_nonneg hc0]; exact hqq
      have hrt : cur.tmod d = rr := by rw [Int.tmod_eq_emod_of_nonneg hc0]; exact hrr
      have hW32 : IntKind.u32.wrap qq = qq := by rw [IntKind.wrap_u32]; omega
      clear HR hbel hca hcur
      go_wp2
      go_roundw
      case rel => exact ⟨i, (i : Int) - 1, rr, _, by omega, rfl, rfl, by omega, hr0, hr1, HS.out⟩
      case measure => simp [intOf]


/-- halve: k digits are done. -/
def HvRel (wc : World) (m : Nat) (E : Nat → Int) (P : Int) (k : Nat) (F : Nat → Int) (wr : World) : Prop :=
  wr.rowIs wc.heap.size 80 m (fun i => .int .u32 (F i)) ∧ Dig F m ∧ Sm F k * P = Sm E k - E 0 % P + (E k % P) * 4294967296 ^ k ∧ Below wc.heap.size wc wr
theorem halve_digit {x y P : Int} (hP : P = 1 ∨ P = 4) (x0 : 0 ≤ x) (x1 : x < 4294967296) : ((x + y * 4294967296) / P % 4294967296) * P = x - x % P + (y % P) * 4294967296 := by
  rcases hP with rfl | rfl <;> omega
theorem HvRel.step {wc wr : World} {m k : Nat} {E F : Nat → Int} {P v : Int} (h : HvRel wc m E P k F wr) (hv : v * P = E k - E k % P + (E (k + 1) % P) * 4294967296) (v0 : 0 ≤ v) (v1 : v < 4294967296) :
    HvRel wc m E P (k + 1) (upd F k v) (wr.setCell ⟨wc.heap.size, k, none⟩ (.int .u32 v)) := by
  obtain ⟨g1, g2, g3, g4⟩ := h
  refine ⟨row_upd g1, Dig_upd g2 v0 v1, ?_, g4.setCell (Nat.le_refl _) _⟩
  rw [Sm_succ, Sm_upd_ge (Nat.le_refl _), upd_same, Sm_succ, Int.pow_succ]
  generalize (4294967296 : Int) ^ k = B at *
  generalize E (k + 1) % P = u at *
  generalize E k % P = t at *
  have e : (Sm F k + v * B) * P = Sm F k * P + v * P * B := by grind
  rw [e, g3, hv]
  grind
theorem Sm_shift (D : Nat → Int) (q : Nat) : ∀ m, Sm D (q + m) = Sm D q + 4294967296 ^ q * Sm (fun i => D (i + q)) m
  | 0 => by simp [Sm]
  | m + 1 => by
    rw [show q + (m + 1) = (q + m) + 1 by omega, Sm_succ, Sm_shift D q m, Sm_succ, Int.pow_add, show m + q = q + m by omega]
    grind
theorem halve_fin {D E F : Nat → Int} {q m : Nat} {P : Int} (hP : P = 1 ∨ P = 4) (hD : Dig D (q + m)) (hE : ∀ i, i < m → E i = D (i + q)) (hEm : E m = 0) (h : Sm F m * P = Sm E m - E 0 % P + (E m % P) * 4294967296 ^ m) : Sm D (q + m) / (4294967296 ^ q * P) = Sm F m := by
  have hq : Dig D q := fun i hi => hD i (by omega)
  have e1 := Sm_shift D q m
  have e2 : Sm E m = Sm (fun i => D (i + q)) m := Sm_congr hE
  have l0 := Sm_nonneg hq
  have l1 := Sm_lt hq
  have hB := Bpow_pos q
  have e3 : Sm D (q + m) / 4294967296 ^ q = Sm E m := by
    rw [e1, ← e2, Int.add_mul_ediv_left _ _ (by omega), Int.ediv_eq_zero_of_lt l0 l1]; omega
  rw [← Int.ediv_ediv_of_nonneg (by omega), e3]
  rw [hEm] at h
  rcases hP with rfl | rfl
  · omega
  · omega

set_option maxHeartbeats 2000000 in
/-- fixmathm.halve by 64. -/
theorem halve64 (w : World) (s : Bool) (a : Option Addr) (n c N : Nat) (z : Int) (hN : N ≤ 1099511627775) (hz : 0 ≤ z) (hi : IsI N w s a n c z) :
    Calls Try.prog 50 #[.agg #[.bool s, .slice a n c], .int .i64 64] w (RetI N w (z / 18446744073709551616)) := by
  obtain ⟨D, hm, hzD⟩ := hi.pos hz
  have hlen := hi.len
  have hdig := hm.dig
  have hW0 : Below w.heap.size w ((w.alloc (.cells #[.bool s, .slice a n c] 83)).alloc (.cells #[.bool false, .slice none 0 0] 83)) := ((Below.refl _ _).alloc (Nat.le_refl _) _).alloc (by simp) _
  have HM := hide (hm.below hW0)
  have HW0 := hide hW0
  clear hi hm hW0
  by_cases hbig : n ≤ 2
  · have hv : z / 18446744073709551616 = 0 := by
      have h1 := Sm_lt hdig
      have h2 := Bpow_mono (m := n) (n := 2) (by omega)
      have h3 : (4294967296 : Int) ^ 2 ≤ 18446744073709551616 := by decide
      exact Int.ediv_eq_zero_of_lt hz (by omega)
    rw [hv]
    have hbig' : (n : Int) ≤ 2 := by omega
    clear hv hdig hzD HM
    go_enter Try.func50, Try.ntmps50
    go_wp2
    refine bodyPost_ret (v := .agg #[.bool false, .slice none 0 0]) (by simp [results, Try.results50, go_sem]) rfl ?_
    exact ⟨false, none, 0, 0, rfl, ⟨Nat.le_refl _, Nat.zero_le _, fun _ => rfl, fun _ => 0, fun i hi => by omega, Or.inl rfl, rfl⟩, HW0.out⟩
  · obtain ⟨m, rfl⟩ : ∃ m, n = 2 + m := ⟨n - 2, by omega⟩
    obtain ⟨n, hnm⟩ : ∃ n, 2 + m = n := ⟨_, rfl⟩
    rw [hnm] at hlen hdig hzD HM HW0 ⊢
    have hmm : 1 ≤ m := by omega
    have hsub : (n : Int) - 2 = (m : Int) := by omega
    have hbig' : ¬ (n : Int) ≤ 2 := by omega
    obtain ⟨E, hE⟩ : ∃ E : Nat → Int, E = fun i => ext D n (i + 2) := ⟨_, rfl⟩
    have hE1 : ∀ i, i < m → E i = D (i + 2) := fun i hi => by rw [hE]; exact ext_lt (by omega)
    have hE2 : E m = 0 := by rw [hE]; exact ext_ge (by omega)
    have HE := hide (And.intro hE1 hE2)
    have HZ := hide hzD
    have hmk := run_make_row' (P := Try.prog) 81 80 (.int .u32 0) 4 Try.underlying81 Try.info80 rfl .i64 .i64 m (by omega) (by omega)
    clear hE hE1 hE2 hzD hbig
    have HNM := hide hnm
    have hnm1 : m < n := by omega
    clear hnm
    go_enter Try.func50, Try.ntmps50
    go_upto_region 1 with fail
    have a0 : ((w.alloc (.cells #[.bool s, .slice a n c] 83)).alloc (.cells #[.bool false, .slice none 0 0] 83)).cell? ⟨w.heap.size, 1, none⟩ = some (.slice a n c) := by simp [go_sem]
    have r0 : ((w.alloc (.cells #[.bool s, .slice a n c] 83)).alloc (.cells #[.bool false, .slice none 0 0] 83)).cell? ⟨w.heap.size + 1, 0, none⟩ = some (.bool false) := by simp [go_sem]
    have r1 : ((w.alloc (.cells #[.bool s, .slice a n c] 83)).alloc (.cells #[.bool false, .slice none 0 0] 83)).cell? ⟨w.heap.size + 1, 1, none⟩ = some (.slice none 0 0) := by simp [go_sem]
    have rf0 : ((w.alloc (.cells #[.bool s, .slice a n c] 83)).alloc (.cells #[.bool false, .slice none 0 0] 83)).frozen? ⟨w.heap.size + 1, 0, none⟩ = false := by simp [go_sem]
    have rf1 : ((w.alloc (.cells #[.bool s, .slice a n c] 83)).alloc (.cells #[.bool false, .slice none 0 0] 83)).frozen? ⟨w.heap.size + 1, 1, none⟩ = false := by simp [go_sem]
    have hpr : w.heap.size + 1 < ((w.alloc (.cells #[.bool s, .slice a n c] 83)).alloc (.cells #[.bool false, .slice none 0 0] 83)).heap.size := by simp
    have hpr2 : Hid (w.heap.size ≤ w.heap.size + 1) := hide (by omega)
    generalize (w.alloc (.cells #[.bool s, .slice a n c] 83)).alloc (.cells #[.bool false, .slice none 0 0] 83) = W at *
    obtain ⟨pr, hpre⟩ : ∃ p, w.heap.size + 1 = p := ⟨_, rfl⟩
    rw [hpre] at r0 r1 rf0 rf1 hpr hpr2 ⊢
    clear hpre
    obtain ⟨pa, hpae⟩ : ∃ p, w.heap.size = p := ⟨_, rfl⟩
    rw [hpae] at a0 ⊢
    clear hpae
    have a0m := cellAl (.cells (madeCells #[.int .u32 0] m) 80) a0
    go_wp2
    clear hmk a0m
    go_loopw [8, 9] (fun i _ wr => ∃ (k : Nat) (F : Nat → Int), k ≤ m ∧ i = .int .i64 k ∧ HvRel W m E 1 k F wr) (fun i _ _ => m - (intOf i).toNat)
    case atStart =>
      refine ⟨0, fun _ => 0, Nat.zero_le _, rfl, World.rowIs_made _ _ _ _, fun i hi => by simp, ?_, (Below.refl _ _).alloc (Nat.le_refl _) _⟩
      simp [Sm]
    case round =>
      obtain ⟨k, F, hk, rfl, HR⟩ := hrel
      have hbel := HR.2.2.2
      have a0' := (hbel.cell (p := ⟨pa, 1, none⟩) (World.block_lt_of_cell? _ _ a0)).trans a0
      by_cases hkm : k < m
      · obtain ⟨kk, hkk⟩ : ∃ kk, k + 2 = kk := ⟨_, rfl⟩
        have hkkn : kk < n := by have := HNM.out; omega
        have hkki : (k : Int) + 2 = (kk : Int) := by omega
        have hkkn' : (kk : Int) < (n : Int) := by omega
        obtain ⟨kk1, hkk1⟩ : ∃ kk1, kk + 1 = kk1 := ⟨_, rfl⟩
        have hkk1i : (kk : Int) + 1 = (kk1 : Int) := by omega
        obtain ⟨ba, oa, rfl, hca, hd0, hd1⟩ := HM.out kk hkkn
        have hca' := (hbel.cell (p := ⟨ba, oa + kk, none⟩) (World.block_lt_of_cell? _ _ hca)).trans hca
        have hck := HR.1.cell (i := k) hkm
        have hfk := HR.1.frozen k
        have eE : E k = D kk := by rw [HE.out.1 k hkm, hkk]
        by_cases hnx : kk1 < n
        · have hnx' : (kk1 : Int) < (n : Int) := by omega
          obtain ⟨ba2, oa2, hab, hcb, he0, he1⟩ := HM.out kk1 hnx
          simp only [Option.some.injEq, Addr.mk.injEq, and_true] at hab
          obtain ⟨rfl, rfl⟩ := hab
          have hcb' := (hbel.cell (p := ⟨ba, oa + kk1, none⟩) (World.block_lt_of_cell? _ _ hcb)).trans hcb
          have eE1 : E (k + 1) = D kk1 := by rw [HE.out.1 (k + 1) (by have := HNM.out; omega), show k + 1 + 2 = kk1 by omega]
          have hor := or_parts (D kk) (D kk1) hd0 hd1 he0 he1
          have hvd := halve_digit (P := 1) (y := D kk1) (by simp) hd0 hd1
          rw [← eE, ← eE1] at hvd
          have hdw : 0 ≤ D kk + D kk1 * 4294967296 ∧ D kk + D kk1 * 4294967296 < 18446744073709551616 := by omega
          have HS := hide (HR.step hvd (by omega) (by omega))
          rw [eE, eE1] at HS
          generalize D kk = x at *
          generalize D kk1 = y at *
          have hmask := and_mask32 ((x + y * 4294967296) / 1) (by omega) (by omega)
          rw [Int.ediv_one] at hmask HS
          rw [show (x + y * 4294967296) % 4294967296 = x % 4294967296 by omega] at HS
          clear HR hbel hca hcb eE eE1 hvd hkk hkk1
          go_wp2
          go_roundw
          case rel => exact ⟨k + 1, _, by omega, by go_num, HS.out⟩
          case measure => simp [intOf]; omega
        · have hnx' : ¬ (kk1 : Int) < (n : Int) := by omega
          have eE1 : E (k + 1) = 0 := by rw [show k + 1 = m by have := HNM.out; omega]; exact HE.out.2
          have hvd := halve_digit (P := 1) (y := 0) (by simp) hd0 hd1
          rw [← eE] at hvd
          have HS := hide (HR.step (by rw [eE1]; exact hvd) (by omega) (by omega))
          rw [eE] at HS
          generalize D kk = x at *
          have hmask := and_mask32 (x / 1) (by omega) (by omega)
          rw [show x + 0 * 4294967296 = x by omega] at HS
          rw [Int.ediv_one] at hmask HS
          clear HR hbel hca eE eE1 hvd hkk hkk1
          go_wp2
          go_roundw
          case rel => exact ⟨k + 1, _, by omega, by go_num, HS.out⟩
          case measure => simp [intOf]; omega
      · obtain rfl : k = m := by omega
        have r0' := (hbel.cell (p := ⟨pr, 0, none⟩) hpr).trans r0
        have r1' := (hbel.cell (p := ⟨pr, 1, none⟩) hpr).trans r1
        have HR' := hide HR
        have hfin := halve_fin (q := 2) (m := k) (P := 1) (by simp) (by rw [HNM.out]; exact hdig) HE.out.1 HE.out.2 HR.2.2.1
        rw [HNM.out, ← HZ.out] at hfin
        have HF := hide hfin
        clear hbel HR hfin
        go_wp2_with fail
        refine (trim_any _ _ k k F (by omega) (by omega) (row_mag HR'.out.1 HR'.out.2.1 (by omega))).mono ?_
        rintro e w1 ⟨rfl, q, hq, hzz, ht, a', cap', rfl, hcap', hmag⟩
        have hfin : Sm F q = z / 18446744073709551616 := by
          rw [mag_trim hq hzz, ← HF.out]
          congr 1
        have HF2 := hide hfin
        have HT := hide ht
        have HMg := hide hmag
        clear hfin ht hzz hmag
        go_wp2_with fail
        refine (make1_any _ false a' q cap' F N (by omega) hcap' HMg.out HT.out).mono ?_
        rintro e w2 ⟨s2, a2, n2, c2, rfl, i2, b2⟩
        have hbw : Below W.heap.size W w2 := HR'.out.2.2.2.trans (b2.mono HR'.out.2.2.2.size)
        obtain ⟨x0, x1, xf0, xf1⟩ := box2 (rb := pr) (.bool false) (.slice none 0 0) hbw hpr r0 r1 rf0 rf1
        have I2 := hide i2
        have HBW := hide hbw
        clear i2 b2 hbw
        go_wp2
        refine bodyPost_ret (v := .agg #[.bool s2, .slice a2 n2 c2]) (by simp [results, Try.results50, go_sem, x0, x1]) rfl ?_
        have hval : sg false (Sm F q) = z / 18446744073709551616 := by rw [HF2.out]; rfl
        rw [← hval]
        exact fin_I I2.out HBW.out HW0.out hpr2.out hpr r0 r1

set_option maxHeartbeats 2000000 in
/-- fixmathm.halve by 34. -/
theorem halve34 (w : World) (s : Bool) (a : Option Addr) (n c N : Nat) (z : Int) (hN : N ≤ 1099511627775) (hz : 0 ≤ z) (hi : IsI N w s a n c z) :
    Calls Try.prog 50 #[.agg #[.bool s, .slice a n c], .int .i64 34] w (RetI N w (z / 17179869184)) := by
  obtain ⟨D, hm, hzD⟩ := hi.pos hz
  have hlen := hi.len
  have hdig := hm.dig
  have hW0 : Below w.heap.size w ((w.alloc (.cells #[.bool s, .slice a n c] 83)).alloc (.cells #[.bool false, .slice none 0 0] 83)) := ((Below.refl _ _).alloc (Nat.le_refl _) _).alloc (by simp) _
  have HM := hide (hm.below hW0)
  have HW0 := hide hW0
  clear hi hm hW0
  by_cases hbig : n ≤ 1
  · have hv : z / 17179869184 = 0 := by
      have h1 := Sm_lt hdig
      have h2 := Bpow_mono (m := n) (n := 1) (by omega)
      have h3 : (4294967296 : Int) ^ 1 ≤ 17179869184 := by decide
      exact Int.ediv_eq_zero_of_lt hz (by omega)
    rw [hv]
    have hbig' : (n : Int) ≤ 1 := by omega
    clear hv hdig hzD HM
    go_enter Try.func50, Try.ntmps50
    go_wp2
    refine bodyPost_ret (v := .agg #[.bool false, .slice none 0 0]) (by simp [results, Try.results50, go_sem]) rfl ?_
    exact ⟨false, none, 0, 0, rfl, ⟨Nat.le_refl _, Nat.zero_le _, fun _ => rfl, fun _ => 0, fun i hi => by omega, Or.inl rfl, rfl⟩, HW0.out⟩
  · obtain ⟨m, rfl⟩ : ∃ m, n = 1 + m := ⟨n - 1, by omega⟩
    obtain ⟨n, hnm⟩ : ∃ n, 1 + m = n := ⟨_, rfl⟩
    rw [hnm] at hlen hdig hzD HM HW0 ⊢
    have hmm : 1 ≤ m := by omega
    have hsub : (n : Int) - 1 = (m : Int) := by omega
    have hbig' : ¬ (n : Int) ≤ 1 := by omega
    obtain ⟨E, hE⟩ : ∃ E : Nat → Int, E = fun i => ext D n (i + 1) := ⟨_, rfl⟩
    have hE1 : ∀ i, i < m → E i = D (i + 1) := fun i hi => by rw [hE]; exact ext_lt (by omega)
    have hE2 : E m = 0 := by rw [hE]; exact ext_ge (by omega)
    have HE := hide (And.intro hE1 hE2)
    have HZ := hide hzD
    have hmk := run_make_row' (P := Try.prog) 81 80 (.int .u32 0) 4 Try.underlying81 Try.info80 rfl .i64 .i64 m (by omega) (by omega)
    clear hE hE1 hE2 hzD hbig
    have HNM := hide hnm
    have hnm1 : m < n := by omega
    clear hnm
    go_enter Try.func50, Try.ntmps50
    go_upto_region 1 with fail
    have a0 : ((w.alloc (.cells #[.bool s, .slice a n c] 83)).alloc (.cells #[.bool false, .slice none 0 0] 83)).cell? ⟨w.heap.size, 1, none⟩ = some (.slice a n c) := by simp [go_sem]
    have r0 : ((w.alloc (.cells #[.bool s, .slice a n c] 83)).alloc (.cells #[.bool false, .slice none 0 0] 83)).cell? ⟨w.heap.size + 1, 0, none⟩ = some (.bool false) := by simp [go_sem]
    have r1 : ((w.alloc (.cells #[.bool s, .slice a n c] 83)).alloc (.cells #[.bool false, .slice none 0 0] 83)).cell? ⟨w.heap.size + 1, 1, none⟩ = some (.slice none 0 0) := by simp [go_sem]
    have rf0 : ((w.alloc (.cells #[.bool s, .slice a n c] 83)).alloc (.cells #[.bool false, .slice none 0 0] 83)).frozen? ⟨w.heap.size + 1, 0, none⟩ = false := by simp [go_sem]
    have rf1 : ((w.alloc (.cells #[.bool s, .slice a n c] 83)).alloc (.cells #[.bool false, .slice none 0 0] 83)).frozen? ⟨w.heap.size + 1, 1, none⟩ = false := by simp [go_sem]
    have hpr : w.heap.size + 1 < ((w.alloc (.cells #[.bool s, .slice a n c] 83)).alloc (.cells #[.bool false, .slice none 0 0] 83)).heap.size := by simp
    have hpr2 : Hid (w.heap.size ≤ w.heap.size + 1) := hide (by omega)
    generalize (w.alloc (.cells #[.bool s, .slice a n c] 83)).alloc (.cells #[.bool false, .slice none 0 0] 83) = W at *
    obtain ⟨pr, hpre⟩ : ∃ p, w.heap.size + 1 = p := ⟨_, rfl⟩
    rw [hpre] at r0 r1 rf0 rf1 hpr hpr2 ⊢
    clear hpre
    obtain ⟨pa, hpae⟩ : ∃ p, w.heap.size = p := ⟨_, rfl⟩
    rw [hpae] at a0 ⊢
    clear hpae
    have a0m := cellAl (.cells (madeCells #[.int .u32 0] m) 80) a0
    go_wp2
    clear hmk a0m
    go_loopw [8, 9] (fun i _ wr => ∃ (k : Nat) (F : Nat → Int), k ≤ m ∧ i = .int .i64 k ∧ HvRel W m E 4 k F wr) (fun i _ _ => m - (intOf i).toNat)
    case atStart =>
      refine ⟨0, fun _ => 0, Nat.zero_le _, rfl, World.rowIs_made _ _ _ _, fun i hi => by simp, ?_, (Below.refl _ _).alloc (Nat.le_refl _) _⟩
      simp [Sm]; omega
    case round =>
      obtain ⟨k, F, hk, rfl, HR⟩ := hrel
      have hbel := HR.2.2.2
      have a0' := (hbel.cell (p := ⟨pa, 1, none⟩) (World.block_lt_of_cell? _ _ a0)).trans a0
      by_cases hkm : k < m
      · obtain ⟨kk, hkk⟩ : ∃ kk, k + 1 = kk := ⟨_, rfl⟩
        have hkkn : kk < n := by have := HNM.out; omega
        have hkki : (k : Int) + 1 = (kk : Int) := by omega
        have hkkn' : (kk : Int) < (n : Int) := by omega
        obtain ⟨kk1, hkk1⟩ : ∃ kk1, kk + 1 = kk1 := ⟨_, rfl⟩
        have hkk1i : (kk : Int) + 1 = (kk1 : Int) := by omega
        obtain ⟨ba, oa, rfl, hca, hd0, hd1⟩ := HM.out kk hkkn
        have hca' := (hbel.cell (p := ⟨ba, oa + kk, none⟩) (World.block_lt_of_cell? _ _ hca)).trans hca
        have hck := HR.1.cell (i := k) hkm
        have hfk := HR.1.frozen k
        have eE : E k = D kk := by rw [HE.out.1 k hkm, hkk]
        by_cases hnx : kk1 < n
        · have hnx' : (kk1 : Int) < (n : Int) := by omega
          obtain ⟨ba2, oa2, hab, hcb, he0, he1⟩ := HM.out kk1 hnx
          simp only [Option.some.injEq, Addr.mk.injEq, and_true] at hab
          obtain ⟨rfl, rfl⟩ := hab
          have hcb' := (hbel.cell (p := ⟨ba, oa + kk1, none⟩) (World.block_lt_of_cell? _ _ hcb)).trans hcb
          have eE1 : E (k + 1) = D kk1 := by rw [HE.out.1 (k + 1) (by have := HNM.out; omega), show k + 1 + 1 = kk1 by omega]
          have hor := or_parts (D kk) (D kk1) hd0 hd1 he0 he1
          have hvd := halve_digit (P := 4) (y := D kk1) (by simp) hd0 hd1
          rw [← eE, ← eE1] at hvd
          have hdw : 0 ≤ D kk + D kk1 * 4294967296 ∧ D kk + D kk1 * 4294967296 < 18446744073709551616 := by omega
          have HS := hide (HR.step hvd (by omega) (by omega))
          rw [eE, eE1] at HS
          generalize D kk = x at *
          generalize D kk1 = y at *
          have hmask := and_mask32 ((x + y * 4294967296) / 4) (by omega) (by omega)
          
          clear HR hbel hca hcb eE eE1 hvd hkk hkk1
          go_wp2
          go_roundw
          case rel => exact ⟨k + 1, _, by omega, by go_num, HS.out⟩
          case measure => simp [intOf]; omega
        · have hnx' : ¬ (kk1 : Int) < (n : Int) := by omega
          have eE1 : E (k + 1) = 0 := by rw [show k + 1 = m by have := HNM.out; omega]; exact HE.out.2
          have hvd := halve_digit (P := 4) (y := 0) (by simp) hd0 hd1
          rw [← eE] at hvd
          have HS := hide (HR.step (by rw [eE1]; exact hvd) (by omega) (by omega))
          rw [eE] at HS
          generalize D kk = x at *
          have hmask := and_mask32 (x / 4) (by omega) (by omega)
          rw [show x + 0 * 4294967296 = x by omega] at HS
          
          clear HR hbel hca eE eE1 hvd hkk hkk1
          go_wp2
          go_roundw
          case rel => exact ⟨k + 1, _, by omega, by go_num, HS.out⟩
          case measure => simp [intOf]; omega
      · obtain rfl : k = m := by omega
        have r0' := (hbel.cell (p := ⟨pr, 0, none⟩) hpr).trans r0
        have r1' := (hbel.cell (p := ⟨pr, 1, none⟩) hpr).trans r1
        have HR' := hide HR
        have hfin := halve_fin (q := 1) (m := k) (P := 4) (by simp) (by rw [HNM.out]; exact hdig) HE.out.1 HE.out.2 HR.2.2.1
        rw [HNM.out, ← HZ.out] at hfin
        have HF := hide hfin
        clear hbel HR hfin
        go_wp2_with fail
        refine (trim_any _ _ k k F (by omega) (by omega) (row_mag HR'.out.1 HR'.out.2.1 (by omega))).mono ?_
        rintro e w1 ⟨rfl, q, hq, hzz, ht, a', cap', rfl, hcap', hmag⟩
        have hfin : Sm F q = z / 17179869184 := by
          rw [mag_trim hq hzz, ← HF.out]
          congr 1
        have HF2 := hide hfin
        have HT := hide ht
        have HMg := hide hmag
        clear hfin ht hzz hmag
        go_wp2_with fail
        refine (make1_any _ false a' q cap' F N (by omega) hcap' HMg.out HT.out).mono ?_
        rintro e w2 ⟨s2, a2, n2, c2, rfl, i2, b2⟩
        have hbw : Below W.heap.size W w2 := HR'.out.2.2.2.trans (b2.mono HR'.out.2.2.2.size)
        obtain ⟨x0, x1, xf0, xf1⟩ := box2 (rb := pr) (.bool false) (.slice none 0 0) hbw hpr r0 r1 rf0 rf1
        have I2 := hide i2
        have HBW := hide hbw
        clear i2 b2 hbw
        go_wp2
        refine bodyPost_ret (v := .agg #[.bool s2, .slice a2 n2 c2]) (by simp [results, Try.results50, go_sem, x0, x1]) rfl ?_
        have hval : sg false (Sm F q) = z / 17179869184 := by rw [HF2.out]; rfl
        rw [← hval]
        exact fin_I I2.out HBW.out HW0.out hpr2.out hpr r0 r1


def piD : Nat → Int := fun i => if i = 0 then 2242054355 else if i = 1 then 608135816 else 3
theorem pi_val : Sm piD 3 = 57952155664616982739 := by decide
/-- angle -/
def angP (r : Nat) : Int := 57952155664616982739 * (r : Int) / 2048
set_option linter.unusedSimpArgs false in
set_option maxRecDepth 100000 in
set_option maxHeartbeats 4000000 in
/-- fixmathm.angle -/
theorem angle_any (w : World) (r : Nat) (hr : r ≤ 4096) : Calls Try.prog 41 #[.int .i64 r] w (RetI 5 w (angP r)) := by
  have hz : 0 ≤ 57952155664616982739 * (r : Int) := by omega
  unfold angP
  obtain ⟨X, hX⟩ : ∃ X, 57952155664616982739 * (r : Int) = X := ⟨_, rfl⟩
  rw [hX] at hz ⊢
  have HX := hide hX
  clear hX
  go_enter Try.func41, Try.ntmps41
  go_upto_region 2 with fail
  have I1 : Hid (IsI 3 (((w.alloc (.cells #[.bool false, .slice none 0 0] 83)).alloc (.cells #[.int .u32 2242054355, .int .u32 608135816, .int .u32 3] 80)).alloc (.cells #[.bool false, .slice (some ⟨w.heap.size + 1, 0, none⟩) 3 3] 83)) false (some ⟨w.heap.size + 1, 0, none⟩) 3 3 57952155664616982739) := by
    refine hide ⟨Nat.le_refl _, Nat.le_refl _, by omega, piD, ?_, Or.inr (by decide), by rw [pi_val]; rfl⟩
    intro i hi
    match i, hi with
    | 0, _ => exact ⟨w.heap.size + 1, 0, rfl, by simp [piD, go_sem], by decide, by decide⟩
    | 1, _ => exact ⟨w.heap.size + 1, 0, rfl, by simp [piD, go_sem], by decide, by decide⟩
    | 2, _ => exact ⟨w.heap.size + 1, 0, rfl, by simp [piD, go_sem], by decide, by decide⟩
  have HB := hide (show Below w.heap.size w (((w.alloc (.cells #[.bool false, .slice none 0 0] 83)).alloc (.cells #[.int .u32 2242054355, .int .u32 608135816, .int .u32 3] 80)).alloc (.cells #[.bool false, .slice (some ⟨w.heap.size + 1, 0, none⟩) 3 3] 83)) from (((Below.refl _ _).alloc (Nat.le_refl _) _).alloc (by simp) _).alloc (by simp; omega) _)
  have r0 : (((w.alloc (.cells #[.bool false, .slice none 0 0] 83)).alloc (.cells #[.int .u32 2242054355, .int .u32 608135816, .int .u32 3] 80)).alloc (.cells #[.bool false, .slice (some ⟨w.heap.size + 1, 0, none⟩) 3 3] 83)).cell? ⟨w.heap.size, 0, none⟩ = some (.bool false) := by simp [go_sem]
  have r1 : (((w.alloc (.cells #[.bool false, .slice none 0 0] 83)).alloc (.cells #[.int .u32 2242054355, .int .u32 608135816, .int .u32 3] 80)).alloc (.cells #[.bool false, .slice (some ⟨w.heap.size + 1, 0, none⟩) 3 3] 83)).cell? ⟨w.heap.size, 1, none⟩ = some (.slice none 0 0) := by simp [go_sem]
  have rf0 : (((w.alloc (.cells #[.bool false, .slice none 0 0] 83)).alloc (.cells #[.int .u32 2242054355, .int .u32 608135816, .int .u32 3] 80)).alloc (.cells #[.bool false, .slice (some ⟨w.heap.size + 1, 0, none⟩) 3 3] 83)).frozen? ⟨w.heap.size, 0, none⟩ = false := by simp [go_sem]
  have rf1 : (((w.alloc (.cells #[.bool false, .slice none 0 0] 83)).alloc (.cells #[.int .u32 2242054355, .int .u32 608135816, .int .u32 3] 80)).alloc (.cells #[.bool false, .slice (some ⟨w.heap.size + 1, 0, none⟩) 3 3] 83)).frozen? ⟨w.heap.size, 1, none⟩ = false := by simp [go_sem]
  have zS : (((w.alloc (.cells #[.bool false, .slice none 0 0] 83)).alloc (.cells #[.int .u32 2242054355, .int .u32 608135816, .int .u32 3] 80)).alloc (.cells #[.bool false, .slice (some ⟨w.heap.size + 1, 0, none⟩) 3 3] 83)).cell? ⟨w.heap.size + 1 + 1, 0, none⟩ = some (.bool false) ∧ (((w.alloc (.cells #[.bool false, .slice none 0 0] 83)).alloc (.cells #[.int .u32 2242054355, .int .u32 608135816, .int .u32 3] 80)).alloc (.cells #[.bool false, .slice (some ⟨w.heap.size + 1, 0, none⟩) 3 3] 83)).cell? ⟨w.heap.size + 1 + 1, 1, none⟩ = some (.slice (some ⟨w.heap.size + 1, 0, none⟩) 3 3) := ⟨by simp [go_sem], by simp [go_sem]⟩
  have hxl : w.heap.size < (((w.alloc (.cells #[.bool false, .slice none 0 0] 83)).alloc (.cells #[.int .u32 2242054355, .int .u32 608135816, .int .u32 3] 80)).alloc (.cells #[.bool false, .slice (some ⟨w.heap.size + 1, 0, none⟩) 3 3] 83)).heap.size := by simp; omega
  have hxx : w.heap.size ≤ w.heap.size := Nat.le_refl _
  generalize (((w.alloc (.cells #[.bool false, .slice none 0 0] 83)).alloc (.cells #[.int .u32 2242054355, .int .u32 608135816, .int .u32 3] 80)).alloc (.cells #[.bool false, .slice (some ⟨w.heap.size + 1, 0, none⟩) 3 3] 83)) = w1 at *
  obtain ⟨p, hp⟩ : ∃ p, w.heap.size + 1 + 1 = p := ⟨_, rfl⟩
  have hpx : w.heap.size ≠ p := by omega
  rw [hp] at zS ⊢
  clear hp
  obtain ⟨q, hq⟩ : ∃ p, w.heap.size + 1 = p := ⟨_, rfl⟩
  rw [hq] at zS I1 ⊢
  clear hq
  obtain ⟨x, hx⟩ : ∃ x, w.heap.size = x := ⟨_, rfl⟩
  have hxx' : w.heap.size ≤ x := by omega
  rw [hx] at r0 r1 rf0 rf1 hxl hpx ⊢
  clear hx hxx
  have hxx := hxx'
  clear hxx'
  refine wp_region_held_drew (S := fun w' => w'.cell? ⟨p, 0, none⟩ = some (.bool false) ∧ w'.cell? ⟨p, 1, none⟩ = some (.slice (some ⟨q, 0, none⟩) 3 3)) (by kernel_rfl) zS (fun hHeld => ?_)
  refine wpAnyH_take (i := 0) (v := ?_) rfl (by kernel_rfl) (by kernel_rfl) (by kernel_rfl) (fun _ _ _ h => h) (Or.inl ⟨by rfl, ?_⟩) (by assumption) ?_
  rotate_left
  · (intro w hSw; (try dsimp only at hSw); go_simp; try (with_reducible rfl))
  try simp only [Act.put, List.getElem_toArray, List.getElem_cons_zero, List.getElem_cons_succ, List.setIfInBounds_toArray, List.set_cons_zero, List.set_cons_succ]
  refine wpAnyH_take (i := 1) (v := ?_) rfl (by kernel_rfl) (by kernel_rfl) (by kernel_rfl) (fun _ _ _ h => h) (Or.inl ⟨by rfl, ?_⟩) (by assumption) ?_
  rotate_left
  · (intro w hSw; (try dsimp only at hSw); go_simp; try (with_reducible rfl))
  try simp only [Act.put, List.getElem_toArray, List.getElem_cons_zero, List.getElem_cons_succ, List.setIfInBounds_toArray, List.set_cons_zero, List.set_cons_succ]
  refine wpAnyH_ready (rs := [2]) (by kernel_rfl) (by simp) ?_
  refine (AllReadyH.cons rfl (fun K hK => ?_) AllReadyH.nil)
  · refine step_call rfl 52 #[.int .i64 r] (by simp [go_sem]) (Of_any _ (r : Int) (by omega) (by omega)) ?_
    rintro e w2 ⟨s2, a2, n2, c2, rfl, i2, b2⟩
    have I2 := hide i2
    have L2 := hide (of_drew b2)
    have I1' := hide (I1.out.below (of_drew b2))
    have z2 := And.intro (cellKeep (of_drew b2) zS.1) (cellKeep (of_drew b2) zS.2)
    clear i2 b2 I1
    refine ⟨_, rfl, ?_⟩
    refine hK.out _ _ ?_ (fun hHeld => ?_)
    · (first | with_reducible exact zS | with_reducible exact z2 | with_reducible exact z3 | with_reducible exact z4 | (simp [z4, hpx, Ne.symm hpx, go_sem]; done))
    clear hK K
    try simp only [Act.put, List.getElem_toArray, List.getElem_cons_zero, List.getElem_cons_succ, List.setIfInBounds_toArray, List.set_cons_zero, List.set_cons_succ]
    refine wpAnyH_ready (rs := [3]) (by kernel_rfl) (by simp) ?_
    refine (AllReadyH.cons rfl (fun K hK => ?_) AllReadyH.nil)
    · refine step_call rfl 53 #[.agg #[.bool false, .slice (some ⟨q, 0, none⟩) 3 3], .agg #[.bool s2, .slice a2 n2 c2]] (by simp [go_sem]) (Mul_any _ false s2 (some ⟨q, 0, none⟩) a2 3 n2 3 c2 3 2 57952155664616982739 r (by omega) I1'.out I2.out) ?_
      rintro e w3 ⟨s3, a3, n3, c3, rfl, i3, b3⟩
      rw [HX.out] at i3
      have I3 := hide i3
      have L3 := hide (L2.out.trans (b3.mono L2.out.size))
      have z3 := And.intro (cellKeep b3 z2.1) (cellKeep b3 z2.2)
      clear i3 b3 I1' I2 L2
      refine ⟨_, rfl, ?_⟩
      refine hK.out _ _ ?_ (fun hHeld => ?_)
      · (first | with_reducible exact zS | with_reducible exact z2 | with_reducible exact z3 | with_reducible exact z4 | (simp [z4, hpx, Ne.symm hpx, go_sem]; done))
      clear hK K
      try simp only [Act.put, List.getElem_toArray, List.getElem_cons_zero, List.getElem_cons_succ, List.setIfInBounds_toArray, List.set_cons_zero, List.set_cons_succ]
      refine wpAnyH_ready (rs := [4]) (by kernel_rfl) (by simp) ?_
      refine (AllReadyH.cons rfl (fun K hK => ?_) AllReadyH.nil)
      · refine step_call rfl 54 #[.agg #[.bool s3, .slice a3 n3 c3], .int .u32 2048] (by simp [go_sem]) (divDigit_any _ s3 a3 n3 c3 (3 + 2) X 2048 (by omega) hz (by omega) (by omega) I3.out) ?_
        rintro e w4 ⟨s4, a4, n4, c4, rfl, i4, b4⟩
        have L4 := hide (L3.out.trans (b4.mono L3.out.size))
        have I4 := hide i4
        have z4 := And.intro (cellKeep b4 z3.1) (cellKeep b4 z3.2)
        obtain ⟨c0, c1', f0, f1⟩ := box2 (rb := x) (.bool false) (.slice none 0 0) L4.out hxl r0 r1 rf0 rf1
        clear i4 b4 I3 L3
        refine ⟨_, rfl, ?_⟩
        refine hK.out _ _ ?_ (fun hHeld => ?_)
        · (first | with_reducible exact zS | with_reducible exact z2 | with_reducible exact z3 | with_reducible exact z4 | (simp [z4, hpx, Ne.symm hpx, go_sem]; done))
        clear hK K
        try simp only [Act.put, List.getElem_toArray, List.getElem_cons_zero, List.getElem_cons_succ, List.setIfInBounds_toArray, List.set_cons_zero, List.set_cons_succ]
        refine wpAnyH_ready (rs := [5]) (by kernel_rfl) (by simp) ?_
        refine (AllReadyH.cons rfl (fun K hK => ?_) AllReadyH.nil)
        · go_simp
          refine hK.out _ _ ?_ (fun hHeld => ?_)
          · (first | with_reducible exact zS | with_reducible exact z2 | with_reducible exact z3 | with_reducible exact z4 | (simp [z4, hpx, Ne.symm hpx, go_sem]; done))
          clear hK K
          try simp only [Act.put, List.getElem_toArray, List.getElem_cons_zero, List.getElem_cons_succ, List.setIfInBounds_toArray, List.set_cons_zero, List.set_cons_succ]
          refine wpAnyH_done (by kernel_rfl) ?_ _
          have HFI := hide (fin_I I4.out L4.out HB.out hxx hxl r0 r1)
          go_wp2
          exact bodyPost_ret (v := .agg #[.bool s4, .slice a4 n4 c4]) (by simp [results, Try.results41, go_sem, c0, c1']) rfl HFI.out

/-! ### series -/
def serP : Nat → Int → Int → Int → Bool → Int → Option Int
  | 0, _, _, _, _, _ => none
  | f + 1, sq, sum, term, m, a => if term = 0 then some sum else
      serP f sq (if m then sum - term * sq / 18446744073709551616 / (a * (a + 1)) else sum + term * sq / 18446744073709551616 / (a * (a + 1))) (term * sq / 18446744073709551616 / (a * (a + 1))) (!m) (a + 2)
/-- What series has at hand. -/
structure SR (w wx : World) (pr pq ps pt NQ NS NT : Nat) (sq sum term : Int) : Prop where
  r0 : wx.cell? ⟨pr, 0, none⟩ = some (.bool false)
  r1 : wx.cell? ⟨pr, 1, none⟩ = some (.slice none 0 0)
  rf : ∀ j, wx.frozen? ⟨pr, j, none⟩ = false
  q : VarI NQ wx pq sq
  s : VarI NS wx ps sum
  sf : ∀ j, wx.frozen? ⟨ps, j, none⟩ = false
  t : VarI NT wx pt term
  tf : ∀ j, wx.frozen? ⟨pt, j, none⟩ = false
  bel : Below w.heap.size w wx
  hr : w.heap.size ≤ pr
  hs : w.heap.size ≤ ps
  ht : w.heap.size ≤ pt
  n1 : pr ≠ ps
  n2 : pr ≠ pt
  n3 : pq ≠ ps
  n4 : pq ≠ pt
  n5 : ps ≠ pt
theorem SR.below {w wx wy : World} {pr pq ps pt NQ NS NT : Nat} {sq sum term : Int} (h : SR w wx pr pq ps pt NQ NS NT sq sum term) (hb : Below wx.heap.size wx wy) : SR w wy pr pq ps pt NQ NS NT sq sum term :=
  ⟨cellKeep hb h.r0, cellKeep hb h.r1, fun j => (hb.frozen (p := ⟨pr, j, none⟩) (World.block_lt_of_cell? _ _ h.r0 : pr < _)).trans (h.rf j), h.q.below hb, h.s.below hb, fun j => (hb.frozen (p := ⟨ps, j, none⟩) h.s.lt).trans (h.sf j), h.t.below hb, fun j => (hb.frozen (p := ⟨pt, j, none⟩) h.t.lt).trans (h.tf j), lec h.bel hb, h.hr, h.hs, h.ht, h.n1, h.n2, h.n3, h.n4, h.n5⟩
theorem SR.setT {w wx : World} {pr pq ps pt NQ NS NT N : Nat} {sq sum term z : Int} (h : SR w wx pr pq ps pt NQ NS NT sq sum term) {s : Bool} {a : Option Addr} {n c : Nat} (hi : IsI N wx s a n c z) :
    SR w ((wx.setCell ⟨pt, 0, none⟩ (.bool s)).setCell ⟨pt, 1, none⟩ (.slice a n c)) pr pq ps pt NQ NS N sq sum z := by
  obtain ⟨s', a', n', c', x0, x1, i⟩ := h.t
  exact ⟨cell_set2 h.n2 h.r0, cell_set2 h.n2 h.r1, fun j => by simpa [go_sem] using h.rf j, h.q.other h.n4 x0 x1, h.s.other h.n5 x0 x1, fun j => by simpa [go_sem] using h.sf j, varSet' hi x0 x1, fun j => by simpa [go_sem] using h.tf j, belSet2 h.bel h.ht, h.hr, h.hs, h.ht, h.n1, h.n2, h.n3, h.n4, h.n5⟩
theorem SR.setS {w wx : World} {pr pq ps pt NQ NS NT N : Nat} {sq sum term z : Int} (h : SR w wx pr pq ps pt NQ NS NT sq sum term) {s : Bool} {a : Option Addr} {n c : Nat} (hi : IsI N wx s a n c z) :
    SR w ((wx.setCell ⟨ps, 0, none⟩ (.bool s)).setCell ⟨ps, 1, none⟩ (.slice a n c)) pr pq ps pt NQ N NT sq z term := by
  obtain ⟨s', a', n', c', x0, x1, i⟩ := h.s
  exact ⟨cell_set2 h.n1 h.r0, cell_set2 h.n1 h.r1, fun j => by simpa [go_sem] using h.rf j, h.q.other h.n3 x0 x1, varSet' hi x0 x1, fun j => by simpa [go_sem] using h.sf j, h.t.other (Ne.symm h.n5) x0 x1, fun j => by simpa [go_sem] using h.tf j, belSet2 h.bel h.hs, h.hr, h.hs, h.ht, h.n1, h.n2, h.n3, h.n4, h.n5⟩
theorem VarI.mono {N M : Nat} {w : World} {p : Nat} {z : Int} (h : VarI N w p z) (hm : N ≤ M) : VarI M w p z := by
  obtain ⟨s, a, n, c, h0, h1, i⟩ := h
  exact ⟨s, a, n, c, h0, h1, i.mono hm⟩
theorem SR.mono {w wx : World} {pr pq ps pt NQ NS NT NS' NT' : Nat} {sq sum term : Int} (h : SR w wx pr pq ps pt NQ NS NT sq sum term) (h1 : NS ≤ NS') (h2 : NT ≤ NT') : SR w wx pr pq ps pt NQ NS' NT' sq sum term :=
  ⟨h.r0, h.r1, h.rf, h.q, h.s.mono h1, h.sf, h.t.mono h2, h.tf, h.bel, h.hr, h.hs, h.ht, h.n1, h.n2, h.n3, h.n4, h.n5⟩


theorem sgn_posS {z : Int} (h : 0 < z) : sgn z = 1 := by unfold sgn; rw [if_neg (by omega)]; split <;> omega
theorem VarI.alS {N : Nat} {w : World} {p : Nat} {z : Int} (h : VarI N w p z) (o : Obj) : VarI N (w.alloc o) p z := h.below ((Below.refl _ _).alloc (Nat.le_refl _) o)
theorem SR.fresh {w w3 : World} {NF NQ : Nat} {F sq : Int} {sF sT s3 : Bool} {aF aT a3 : Option Addr} {nF cF nT cT n3 c3 : Nat} (iF : IsI NF w sF aF nF cF F)
    (hb : Below (((w.alloc (.cells #[.bool sF, .slice aF nF cF] 83)).alloc (.cells #[.bool sT, .slice aT nT cT] 83)).alloc (.cells #[.bool false, .slice none 0 0] 83)).heap.size (((w.alloc (.cells #[.bool sF, .slice aF nF cF] 83)).alloc (.cells #[.bool sT, .slice aT nT cT] 83)).alloc (.cells #[.bool false, .slice none 0 0] 83)) w3) (iq : IsI NQ w3 s3 a3 n3 c3 sq) :
    SR w (((w3.alloc (.cells #[.bool s3, .slice a3 n3 c3] 83)).alloc (.cells #[.bool sF, .slice aF nF cF] 83)).alloc (.cells #[.bool sF, .slice aF nF cF] 83)) (w.heap.size + 1 + 1) w3.heap.size (w3.heap.size + 1) (w3.heap.size + 1 + 1) NQ NF NF sq F F := by
  have hb0 : Below w.heap.size w (((w.alloc (.cells #[.bool sF, .slice aF nF cF] 83)).alloc (.cells #[.bool sT, .slice aT nT cT] 83)).alloc (.cells #[.bool false, .slice none 0 0] 83)) := (((Below.refl _ _).alloc (Nat.le_refl _) _).alloc (by simp) _).alloc (by simp; omega) _
  have hs := hb.size
  simp at hs
  have hq3 : Below w3.heap.size w3 (((w3.alloc (.cells #[.bool s3, .slice a3 n3 c3] 83)).alloc (.cells #[.bool sF, .slice aF nF cF] 83)).alloc (.cells #[.bool sF, .slice aF nF cF] 83)) := (((Below.refl _ _).alloc (Nat.le_refl _) _).alloc (by simp) _).alloc (by simp; omega) _
  have iF3 := (iF.below hb0).below hb
  have v1 := varNew iq
  have v2 := varNew (iF3.al (.cells #[.bool s3, .slice a3 n3 c3] 83))
  have v3 := varNew ((iF3.al (.cells #[.bool s3, .slice a3 n3 c3] 83)).al (.cells #[.bool sF, .slice aF nF cF] 83))
  refine ⟨cellKeep hq3 (cellKeep hb (by simp [go_sem])), cellKeep hq3 (cellKeep hb (by simp [go_sem])), fun j => ?_, VarI.alS (VarI.alS v1 _) _, by simpa using VarI.alS v2 _, fun j => by simp [go_sem], by simpa using v3, fun j => by simp [go_sem], lec (lec hb0 hb) hq3, by omega, by omega, by omega, by omega, by omega, by omega, by omega, by omega⟩
  have e1 := batf hb (b := w.heap.size + 1 + 1) j (by simp)
  have e2 : (((w.alloc (.cells #[.bool sF, .slice aF nF cF] 83)).alloc (.cells #[.bool sT, .slice aT nT cT] 83)).alloc (.cells #[.bool false, .slice none 0 0] 83)).frozen? ⟨w.heap.size + 1 + 1, j, none⟩ = false := by simp [go_sem]
  rw [e2] at e1
  exact (hq3.frozen (p := ⟨w.heap.size + 1 + 1, j, none⟩) (by show w.heap.size + 1 + 1 < w3.heap.size; omega)).trans e1
set_option maxRecDepth 100000 in
set_option maxHeartbeats 4000000 in
/-- fixmathm.series. -/
theorem series_any (w : World) (sF sT : Bool) (aF aT : Option Addr) (nF cF nT cT : Nat) (F T a0 S : Int) (hT : 0 ≤ T) (hF : 0 ≤ F) (iF : IsI 130 w sF aF nF cF F) (iT : IsI 5 w sT aT nT cT T)
    (ha : 1 ≤ a0 ∧ a0 ≤ 2) (hS : serP 60 (T * T / 18446744073709551616) F F true a0 = some S) :
    Calls Try.prog 40 #[.agg #[.bool sF, .slice aF nF cF], .agg #[.bool sT, .slice aT nT cT], .int .u32 a0] w (RetI 2000 w S) := by
  have IT := hide (iT.below ((((Below.refl w.heap.size w).alloc (Nat.le_refl _) (.cells #[.bool sF, .slice aF nF cF] 83)).alloc (by simp) (.cells #[.bool sT, .slice aT nT cT] 83)).alloc (by simp; omega) (.cells #[.bool false, .slice none 0 0] 83)))
  have IF := hide iF
  have hTT : 0 ≤ T * T := Int.mul_nonneg hT hT
  obtain ⟨TT, hTTe⟩ : ∃ x, T * T = x := ⟨_, rfl⟩
  obtain ⟨sq, hsq⟩ : ∃ x, TT / 18446744073709551616 = x := ⟨_, rfl⟩
  rw [hTTe] at hTT hS
  rw [hsq] at hS
  have hsq0 : 0 ≤ sq := by omega
  have HS := hide hS
  have HTT := hide (And.intro hTTe hsq)
  clear hS hTTe hsq iF iT
  go_enter Try.func40, Try.ntmps40
  go_wp2_with fail
  refine (Mul_any _ sT sT aT aT nT nT cT cT 5 5 T T (by omega) IT.out IT.out).mono ?_
  rintro e w2 ⟨s2, a2, n2, c2, rfl, i2, b2⟩
  rw [HTT.out.1] at i2
  have I2 := hide i2
  have B2 := hide b2
  clear i2 b2
  go_wp2_with fail
  refine (halve64 _ s2 a2 n2 c2 (5 + 5) TT (by omega) hTT I2.out).mono ?_
  rintro e w3 ⟨s3, a3, n3, c3, rfl, i3, b3⟩
  rw [HTT.out.2] at i3
  have HR := hide (SR.fresh IF.out (lec B2.out b3) i3)
  have hb3 := lec B2.out b3
  have y0 : (w3.alloc (.cells #[.bool s3, .slice a3 n3 c3] 83)).cell? ⟨w.heap.size, 0, none⟩ = some (.bool sF) := cellAl _ (cellKeep hb3 (by simp [go_sem]))
  have y1 : (w3.alloc (.cells #[.bool s3, .slice a3 n3 c3] 83)).cell? ⟨w.heap.size, 1, none⟩ = some (.slice aF nF cF) := cellAl _ (cellKeep hb3 (by simp [go_sem]))
  have z0 := cellAl (.cells #[.bool sF, .slice aF nF cF] 83) y0
  have z1 := cellAl (.cells #[.bool sF, .slice aF nF cF] 83) y1
  clear i3 b3 hb3 I2 B2 IT IF
  go_upto_region 4 with fail
  generalize ((w3.alloc (.cells #[.bool s3, .slice a3 n3 c3] 83)).alloc (.cells #[.bool sF, .slice aF nF cF] 83)).alloc (.cells #[.bool sF, .slice aF nF cF] 83) = W at *
  clear y0 y1 z0 z1
  obtain ⟨pt, hpt⟩ : ∃ p, w3.heap.size + 1 + 1 = p := ⟨_, rfl⟩
  rw [hpt] at HR ⊢
  clear hpt
  obtain ⟨ps, hps⟩ : ∃ p, w3.heap.size + 1 = p := ⟨_, rfl⟩
  rw [hps] at HR ⊢
  clear hps
  generalize w3.heap.size = pq at *
  obtain ⟨pr, hpr⟩ : ∃ p, w.heap.size + 1 + 1 = p := ⟨_, rfl⟩
  rw [hpr] at HR ⊢
  clear hpr
  go_wp2
  go_loopw [2, 10] (fun av mv wr => ∃ (k f : Nat) (sum term a : Int) (m : Bool), k + f = 60 ∧ av = .int .u32 a ∧ mv = .bool m ∧ a = a0 + 2 * (k : Int) ∧ 0 ≤ term ∧ Hid (serP f sq sum term m a = some S) ∧ SR w wr pr pq ps pt 10 (130 + 20 * k) (130 + 20 * k) sq sum term) (fun av _ _ => (200 - intOf av).toNat)
  case atStart => exact ⟨0, 60, F, F, a0, true, by omega, rfl, rfl, by omega, hF, HS, HR.out⟩
  case round =>
    clear HS HR HTT
    obtain ⟨k, f, sum, term, a, m, hkf, rfl, rfl, hak, hterm, HS, hsr⟩ := hrel
    have HR := hide hsr
    clear hsr
    obtain ⟨st, at', nt, ct, t0, t1, it⟩ := HR.out.t
    have IT := hide it
    clear it
    have hzi := IT.out.zero_iff
    by_cases hz : term = 0
    · subst hz
      obtain rfl : nt = 0 := hzi.1 rfl
      have hS : sum = S := by
        have := HS.out
        cases f with
        | zero => simp [serP] at this
        | succ f => simpa [serP] using this
      subst hS
      have HR2 := HR
      clear HR IT HS hzi
      obtain ⟨ss, as', ns, cs, s0, s1, is'⟩ := HR2.out.s
      have r0 := HR2.out.r0
      have r1 := HR2.out.r1
      have rf := HR2.out.rf
      have HV := hide (isi_set2 (u := .bool ss) (v := .slice as' ns cs) is' r0 r1)
      clear is'
      go_wp2
      exact bodyPost_ret (v := .agg #[.bool ss, .slice as' ns cs]) (by simp [results, Try.results40, go_sem, r0, r1]) rfl ⟨ss, as', ns, cs, rfl, HV.out.mono (by omega), belSet2 HR2.out.bel HR2.out.hr⟩
    · obtain ⟨f, rfl⟩ : ∃ f', f = f' + 1 := by
        have := HS.out
        cases f with
        | zero => simp [serP] at this
        | succ f => exact ⟨f, rfl⟩
      have hS := HS.out
      rw [serP, if_neg hz] at hS
      have hnn : ¬ nt = 0 := fun e => hz (hzi.2 e)
      have hsne : ((nt : Int) != 0) = true := by simp; exact hnn
      have hm0 : 0 ≤ term * sq := Int.mul_nonneg hterm hsq0
      obtain ⟨x1, hx1⟩ : ∃ x, term * sq = x := ⟨_, rfl⟩
      obtain ⟨x2, hx2⟩ : ∃ x, x1 / 18446744073709551616 = x := ⟨_, rfl⟩
      have ha1 : 1 ≤ a ∧ a ≤ 122 := by omega
      obtain ⟨d, hd⟩ : ∃ d, a * (a + 1) = d := ⟨_, rfl⟩
      have hd1 : 1 ≤ d ∧ d ≤ 15006 := by
        have h1 := Int.mul_le_mul (show (1 : Int) ≤ a by omega) (show (1 : Int) ≤ a + 1 by omega) (by omega) (by omega)
        have h2 := Int.mul_le_mul (show a ≤ 122 by omega) (show a + 1 ≤ 123 by omega) (by omega) (by omega)
        omega
      obtain ⟨x3, hx3⟩ : ∃ x, x2 / d = x := ⟨_, rfl⟩
      rw [hx1, hx2, hd, hx3] at hS
      rw [hx1] at hm0
      have h20 : 0 ≤ x2 := by omega
      have h30 : 0 ≤ x3 := by rw [← hx3]; exact Int.ediv_nonneg h20 (by omega)
      have HS2 := hide hS
      have HX := hide (And.intro hx1 (And.intro hx2 hx3))
      have haw : IntKind.u32.wrap (a + 1) = a + 1 := by rw [IntKind.wrap_u32]; omega
      have hdw : IntKind.u32.wrap d = d := by rw [IntKind.wrap_u32]; omega
      have haw2 : IntKind.u32.wrap (a + 2) = a + 2 := by rw [IntKind.wrap_u32]; omega
      have ham : (a + 1) % 4294967296 = a + 1 := by omega
      have hdm : d % 4294967296 = d := by omega
      have ham2 : (a + 2) % 4294967296 = a + 2 := by omega
      have HAK := hide hak
      clear hak
      clear hS HS hx1 hx2 hx3
      obtain ⟨sq', aq, nq, cq, q0, q1, iq⟩ := HR.out.q
      have IQ := hide iq
      clear iq
      have HR2 := HR
      have IT2 := IT
      have IQ2 := IQ
      have t0' := t0
      have t1' := t1
      have q0' := q0
      have q1' := q1
      clear HR IT IQ t0 t1 q0 q1 hzi
      go_wp2_with fail
      refine (Mul_any _ st sq' at' aq nt nq ct cq (130 + 20 * k) 10 term sq (by omega) IT2.out IQ2.out).mono ?_
      rintro e w3 ⟨s3, a3, n3, c3, rfl, i3, b3⟩
      rw [HX.out.1] at i3
      have I3 := hide i3
      have HR3 := hide (HR2.out.below b3)
      clear i3 b3 HR2 IT2 IQ2 t0' t1' q0' q1'
      go_wp2_with fail
      refine (halve64 _ s3 a3 n3 c3 (130 + 20 * k + 10) x1 (by omega) hm0 I3.out).mono ?_
      rintro e w4 ⟨s4, a4, n4, c4, rfl, i4, b4⟩
      rw [HX.out.2.1] at i4
      have I4 := hide i4
      have HR4 := hide (HR3.out.below b4)
      clear i4 b4 HR3 I3
      go_wp2_with fail
      refine (divDigit_any _ s4 a4 n4 c4 (130 + 20 * k + 10) x2 d (by omega) h20 hd1.1 (by omega) I4.out).mono ?_
      rintro e w5 ⟨s5, a5, n5, c5, rfl, i5, b5⟩
      rw [HX.out.2.2] at i5
      have HR5' := hide (HR4.out.below b5)
      have HR5 := hide (HR5'.out.setT i5)
      obtain ⟨_, _, _, _, u0, u1, _⟩ := HR5'.out.t
      have uf := HR5'.out.tf
      clear i5 b5 HR4 I4 HX HR5'
      go_upto_region 7 with fail
      generalize (w5.setCell ⟨pt, 0, none⟩ (.bool s5)).setCell ⟨pt, 1, none⟩ (.slice a5 n5 c5) = W5 at *
      clear u0 u1 uf
      obtain ⟨st, at', nt, ct, t0, t1, it⟩ := HR5.out.t
      obtain ⟨ss, as', ns, cs, s0, s1, is'⟩ := HR5.out.s
      have IT := hide it
      have IS := hide is'
      clear it is'
      cases m
      · go_wp2_with fail
        refine (Add_any _ ss st as' at' ns nt cs ct (130 + 20 * k) (130 + 20 * k + 10) (130 + 20 * k + 10) sum x3 (by omega) (by omega) (by omega) IS.out IT.out).mono ?_
        rintro e w6 ⟨s6, a6, n6, c6, rfl, i6, b6⟩
        have HR6' := hide (HR5.out.below b6)
        have HR6 := hide ((HR6'.out.setS i6).mono (NS' := 130 + 20 * (k + 1)) (NT' := 130 + 20 * (k + 1)) (by omega) (by omega))
        obtain ⟨_, _, _, _, u0, u1, _⟩ := HR6'.out.s
        have uf := HR6'.out.sf
        clear i6 b6 HR5 IT IS t0 t1 s0 s1 HR6'
        go_wp2
        go_roundw
        case rel => exact ⟨k + 1, f, _, _, _, true, by omega, rfl, rfl, by have := HAK.out; omega, h30, by simpa using HS2, HR6.out⟩
        case measure => simp [intOf]; omega
      · go_wp2_with fail
        refine (Sub_any _ ss st as' at' ns nt cs ct (130 + 20 * k) (130 + 20 * k + 10) (130 + 20 * k + 10) sum x3 (by omega) (by omega) (by omega) IS.out IT.out).mono ?_
        rintro e w6 ⟨s6, a6, n6, c6, rfl, i6, b6⟩
        have HR6' := hide (HR5.out.below b6)
        have HR6 := hide ((HR6'.out.setS i6).mono (NS' := 130 + 20 * (k + 1)) (NT' := 130 + 20 * (k + 1)) (by omega) (by omega))
        obtain ⟨_, _, _, _, u0, u1, _⟩ := HR6'.out.s
        have uf := HR6'.out.sf
        clear i6 b6 HR5 IT IS t0 t1 s0 s1 HR6'
        go_wp2
        go_roundw
        case rel => exact ⟨k + 1, f, _, _, _, false, by omega, rfl, rfl, by have := HAK.out; omega, h30, by simpa using HS2, HR6.out⟩
        case measure => simp [intOf]; omega

end Go.Proofs.Qxb6500777a.Nm
