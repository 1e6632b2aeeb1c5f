import Derived.Test.Qxb6500775aBig2
namespace Go.Proofs.Qxb6500775a
open Go.RowKit

/-- mulMag: k digits of the first number are done. -/
def MulRel (wc : World) (n m : Nat) (D E : Nat → Int) (k : Nat) (F : Nat → Int) (wr : World) : Prop :=
  wr.rowIs wc.heap.size 73 (n + m) (fun j => .int .u32 (F j)) ∧ Dig F (n + m) ∧ (∀ j, k + m ≤ j → F j = 0) ∧ Sm F (n + m) = Sm D k * Sm E m ∧ Below wc.heap.size wc wr
/-- .. and j digits of the second, with the carry cy. -/
def MulIn (wc : World) (n m : Nat) (D E : Nat → Int) (k j : Nat) (cy : Int) (F : Nat → Int) (wr : World) : Prop :=
  wr.rowIs wc.heap.size 73 (n + m) (fun j => .int .u32 (F j)) ∧ Dig F (n + m) ∧ (∀ t, k + m ≤ t → F t = 0) ∧ Sm F (n + m) + cy * 4294967296 ^ (k + j) = Sm D k * Sm E m + D k * Sm E j * 4294967296 ^ k ∧ Below wc.heap.size wc wr
theorem MulRel.enter {wc wr : World} {n m k : Nat} {D E F : Nat → Int} (h : MulRel wc n m D E k F wr) : MulIn wc n m D E k 0 0 F wr := by
  obtain ⟨h1, h2, h3, h4, h5⟩ := h
  refine ⟨h1, h2, h3, ?_, h5⟩
  rw [h4]; simp [Sm]
theorem MulIn.step {wc wr : World} {n m k j : Nat} {D E F : Nat → Int} {cy t : Int} (h : MulIn wc n m D E k j cy F wr) (hj : j < m) (hk : k < n) (ht : t = D k * E j + F (k + j) + cy) :
    MulIn wc n m D E k (j + 1) (t / 4294967296) (upd F (k + j) (t % 4294967296)) (wr.setCell ⟨wc.heap.size, k + j, none⟩ (.int .u32 (t % 4294967296))) := by
  obtain ⟨h1, h2, h3, h4, h5⟩ := h
  refine ⟨row_upd h1, Dig_upd h2 (by omega) (by omega), ?_, ?_, h5.setCell (Nat.le_refl _) _⟩
  · intro q hq
    rw [upd_other _ _ (by omega)]
    exact h3 q hq
  · have e1 := Sm_upd (D := F) (i := k + j) (v := t % 4294967296) (n := n + m) (by omega)
    rw [Sm_succ]
    exact mul_step e1 h4 (by rw [← ht]; omega)
theorem MulIn.leave {wc wr : World} {n m k : Nat} {D E F : Nat → Int} {cy : Int} (h : MulIn wc n m D E k m cy F wr) (hk : k < n) (h0 : 0 ≤ cy) (h1 : cy < 4294967296) :
    MulRel wc n m D E (k + 1) (upd F (k + m) cy) (wr.setCell ⟨wc.heap.size, k + m, none⟩ (.int .u32 cy)) := by
  obtain ⟨g1, g2, g3, g4, g5⟩ := h
  refine ⟨row_upd g1, Dig_upd g2 h0 h1, ?_, ?_, g5.setCell (Nat.le_refl _) _⟩
  · intro q hq
    rw [upd_other _ _ (by omega)]
    exact g3 q (by omega)
  · rw [Sm_upd (by omega), g3 (k + m) (Nat.le_refl _), Sm_succ, Int.add_mul]
    have : D k * 4294967296 ^ k * Sm E m = D k * Sm E m * 4294967296 ^ k := by grind
    rw [this, ← g4]
    simp

theorem MulIn.drawn {wc wr : World} {n m k j : Nat} {D E F : Nat → Int} {cy : Int} {p : Addr} {v : Value} (h : MulIn wc n m D E k j cy F (wr.setCell p v)) (q : Nat) : MulIn wc n m D E k j cy F ((wr.drewN q).setCell p v) := by
  obtain ⟨h1, h2, h3, h4, h5⟩ := h
  exact ⟨h1, h2, h3, h4, h5.trans (below_drewN (wr.setCell p v) q _)⟩
theorem mul_dig {x y : Int} (hx0 : 0 ≤ x) (hx : x < 4294967296) (hy0 : 0 ≤ y) (hy : y < 4294967296) :
    0 ≤ x * y ∧ x * y ≤ 18446744065119617025 := by
  refine ⟨Int.mul_nonneg hx0 hy0, ?_⟩
  have := Int.mul_le_mul (show x ≤ 4294967295 by omega) (show y ≤ 4294967295 by omega) hy0 (by omega)
  omega

set_option maxHeartbeats 2000000 in
theorem mulMag_any (w : World) (a b : Option Addr) (n m ca cb N : Nat) (D E : Nat → Int) (hN : N < 1099511627776) (hn : n + m ≤ N) (ha : Mag w a n D) (hb : Mag w b m E) :
    Calls Try.prog 52 #[.slice a n ca, .slice b m cb] w (RetM N w (Sm D n * Sm E m)) := by
  have HA : Hid (Mag w a n D) := ha
  have HB : Hid (Mag w b m E) := hb
  clear ha hb
  have hmk := run_make_row' (P := Try.prog) 24 73 (.int .u32 0) 4 Try.underlying24 Try.info73 rfl .i64 .i64 (n + m) (by omega) (by omega)
  have ec : ((n + m : Nat) : Int) = (n : Int) + (m : Int) := by omega
  rw [ec] at hmk
  clear ec
  go_enter Try.func52, Try.ntmps52
  go_wp2
  clear hmk
  go_loopw [6] (fun i wr => ∃ (k : Nat) (F : Nat → Int), k ≤ n ∧ i = .int .i64 k ∧ MulRel w n m D E k F wr) (fun i _ => n - (intOf i).toNat)
  case atStart =>
    exact ⟨0, fun _ => 0, Nat.zero_le _, rfl, World.rowIs_made _ _ _ _, fun i hi => by simp, fun _ _ => rfl, by rw [Sm_zero (fun _ _ => rfl)]; simp [Sm], (Below.refl _ _).alloc (Nat.le_refl _) _⟩
  case round =>
    obtain ⟨k, F, hk, rfl, HR⟩ := hrel
    by_cases hlt : k < n
    · obtain ⟨ba, oa, rfl, hca, hda0, hda1⟩ := HA.out k hlt
      have HI := HR.enter
      clear HR
      obtain ⟨wo, rfl⟩ : ∃ wo : World, wo = wr := ⟨_, rfl⟩
      go_wp2
      go_loopw [7, 8] (fun c j wr => ∃ (q : Nat) (cy : Int) (F : Nat → Int), q ≤ m ∧ j = .int .i64 q ∧ c = .int .u64 cy ∧ 0 ≤ cy ∧ cy < 4294967296 ∧ MulIn w n m D E k q cy F wr) (fun _ j _ => m - (intOf j).toNat)
      case atStart => exact ⟨0, 0, F, Nat.zero_le _, rfl, rfl, by omega, by omega, HI⟩
      case round =>
        clear HI
        obtain ⟨q, cy, F, hq, rfl, rfl, hcy0, hcy1, HI⟩ := hrel
        by_cases hlq : q < m
        · obtain ⟨bb, ob, rfl, hcb, hdb0, hdb1⟩ := HB.out q hlq
          have hbel := HI.2.2.2.2
          have hca' : wr.cell? ⟨ba, oa + k, none⟩ = some (.int .u32 (D k)) := (hbel.cell (World.block_lt_of_cell? _ _ hca)).trans hca
          have hcb' : wr.cell? ⟨bb, ob + q, none⟩ = some (.int .u32 (E q)) := (hbel.cell (World.block_lt_of_cell? _ _ hcb)).trans hcb
          have hck := HI.1.cell (i := k + q) (by omega)
          have hfk := HI.1.frozen (k + q)
          have hdk := HI.2.1 (k + q) (by omega)
          have hmd := mul_dig hda0 hda1 hdb0 hdb1
          have HS : Hid (MulIn _ _ _ _ _ _ _ _ _ _) := HI.step (t := D k * E q + F (k + q) + cy) hlq hlt rfl
          have hmask := and_mask32 (D k * E q + F (k + q) + cy) (by omega) (by omega)
          clear hbel hcb HI
          have i0 : (k : Int) < (n : Int) := by omega
          have i1 : (q : Int) < (m : Int) := by omega
          have i2 : (k : Int) + (q : Int) < ((n + m : Nat) : Int) := by omega
          go_wp2
          go_quiet (fail)
          go_wp2
          exact ⟨⟨q + 1, _, _, by omega, by go_num, rfl, by omega, by omega, HS.out.drawn nq⟩, by simp [intOf]; omega⟩
        · obtain rfl : q = m := by omega
          have hck := HI.1.cell (i := k + q) (by omega)
          have hfk := HI.1.frozen (k + q)
          have HL := HI.leave hlt hcy0 hcy1
          clear HI
          go_wp2
          go_roundw
          case rel => exact ⟨k + 1, _, by omega, by go_num, HL⟩
          case measure => simp [intOf]; omega
    · obtain rfl : k = n := by omega
      go_wp2_with fail
      refine (trim_any _ _ (k + m) (k + m) F (by omega) (by omega) (row_mag HR.1 HR.2.1 (by omega))).mono ?_
      rintro e w1 ⟨rfl, q, hq, hz, ht, a', cap', rfl, hcap', hmag⟩
      have HF : Hid (Sm F q = Sm D k * Sm E m) := by
        show _ = _
        rw [mag_trim hq hz]; exact HR.2.2.2.1
      have HT : Hid (q = 0 ∨ F (q - 1) ≠ 0) := ht
      clear ht hz
      go_wp2
      go_ret
      exact ⟨a', q, cap', F, rfl, hcap', by omega, hmag, HT.out, HF.out, HR.2.2.2.2⟩
end Go.Proofs.Qxb6500775a
