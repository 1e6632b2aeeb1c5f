import Derived.Test.Qxb6500775aRoot2
namespace Go.Proofs.Qxb6500775a
open Go.RowKit

theorem toTable_any (w : World) (c : Int) (h0 : 0 ≤ c) (h1 : c ≤ 4611686018427387904) : Calls Try.prog 101 #[.int .u64 c] w fun e w' => e = .returned (.int .i64 ((c + 2147483648) / 4294967296)) ∧ w' = w := by
  go_enter Try.func101, Try.ntmps101
  go_wp2
  go_ret
  exact ⟨by first | rfl | (congr 2; simp <;> omega), rfl⟩
theorem scale_any (w : World) (c d : Int) (h0 : 0 ≤ c) (h1 : c ≤ d) (h2 : 1 ≤ d) (h3 : d < 18446744073709551616) : Calls Try.prog 123 #[.int .u64 c, .int .u64 d] w fun e w' => e = .returned (.int .u64 (c * 4611686018427387904 / d)) ∧ w' = w := by
  obtain ⟨lo, hlo⟩ : ∃ lo, lo = IntKind.u64.wrap (c * 4611686018427387904) := ⟨_, rfl⟩
  have elo : lo = c % 4 * 4611686018427387904 := by rw [hlo]; simp only [IntKind.wrap_u64]; omega
  have HLo := hide hlo
  clear hlo
  go_enter Try.func123, Try.ntmps123
  go_wp2_with fail
  rw [← HLo.out]
  refine (div2by1_any _ (c / 4) lo d (by omega) (by omega) (by omega) (by omega) h3).mono ?_
  rintro e w' ⟨rfl, q, r, rfl, hqr, hr0, hr1, hq0, hq1⟩
  have hq : q = c * 4611686018427387904 / d := by
    have e1 : c * 4611686018427387904 = q * d + r := by omega
    rw [e1, Int.add_comm, Int.add_mul_ediv_right _ _ (by omega), Int.ediv_eq_zero_of_lt hr0 hr1, Int.zero_add]
  have HQ := hide hq
  clear hq hqr
  go_wp2
  go_ret
  exact ⟨by rw [← HQ.out]; rfl, rfl⟩
def BisPost (w : World) (sx sy : Int) (e : Ending) (w' : World) : Prop :=
  ∃ r : Int, (0 ≤ r ∧ r * r ≤ sx * sx + sy * sy ∧ sx * sx + sy * sy < (r + 1) * (r + 1)) ∧ e = .returned (.agg #[.int .u64 (sx * 4611686018427387904 / r), .int .u64 (sy * 4611686018427387904 / r)]) ∧ Below w.heap.size w w'
theorem sq_le {a b : Int} (ha : 0 ≤ a) (hb : a ≤ b) : a * a ≤ b * b := Int.mul_le_mul hb hb ha (by omega)
theorem root_ge {s t r : Int} (hr : 0 ≤ r) (h : s * s + t < (r + 1) * (r + 1)) (ht : 0 ≤ t) : s ≤ r := by
  rcases Int.lt_or_le r s with hlt | hle
  · have := sq_le (a := r + 1) (b := s) (by omega) (by omega)
    omega
  · exact hle
/-- A result's box of two words. -/
structure RB (w : World) (R : Nat) : Prop where
  c0 : w.cell? ⟨R, 0, none⟩ = some (.int .u64 0)
  c1 : w.cell? ⟨R, 1, none⟩ = some (.int .u64 0)
  fr : ∀ j, w.frozen? ⟨R, j, none⟩ = false
theorem RB.below {w w' : World} {R : Nat} (h : RB w R) (hb : Below w.heap.size w w') : RB w' R :=
  ⟨cellKeep hb h.c0, cellKeep hb h.c1, fun j => (hb.frozen (p := ⟨R, j, none⟩) (show R < w.heap.size from World.block_lt_of_cell? _ _ h.c0)).trans (h.fr j)⟩
theorem belA (w : World) (o : Obj) : Below w.heap.size w (w.alloc o) := (Below.refl _ _).alloc (Nat.le_refl _) o
set_option maxHeartbeats 4000000 in
theorem bisect_any (w : World) (ax ay bx by_ : Int) (h1 : 0 ≤ ax ∧ ax ≤ 4611686018427387904) (h2 : 0 ≤ ay ∧ ay ≤ 4611686018427387904) (h3 : 0 ≤ bx ∧ bx ≤ 4611686018427387904) (h4 : 0 ≤ by_ ∧ by_ ≤ 4611686018427387904) (hy : 1 ≤ ay + by_) :
    Calls Try.prog 99 #[.agg #[.int .u64 ax, .int .u64 ay], .agg #[.int .u64 bx, .int .u64 by_]] w (BisPost w (ax + bx) (ay + by_)) := by
  obtain ⟨a0, a1⟩ := h1
  obtain ⟨a2, a3⟩ := h2
  obtain ⟨b0, b1⟩ := h3
  obtain ⟨b2, b3⟩ := h4
  obtain ⟨W, hW⟩ : ∃ W, W = ((w.alloc (.cells #[.int .u64 ax, .int .u64 ay] 127)).alloc (.cells #[.int .u64 bx, .int .u64 by_] 127)).alloc (.cells #[.int .u64 0, .int .u64 0] 127) := ⟨_, rfl⟩
  have HB : Hid (Below w.heap.size w W) := by rw [hW]; exact (((Below.refl _ _).alloc (Nat.le_refl _) _).alloc (by simp) _).alloc (by simp; omega) _
  go_enter Try.func99, Try.ntmps99
  go_upto_region 3 with fail
  have HR : Hid (RB W (w.heap.size + 1 + 1)) := by
    rw [hW]; exact ⟨by simp [go_sem], by simp [go_sem], fun j => by simp [go_sem]⟩
  have hR : w.heap.size ≤ w.heap.size + 1 + 1 := by omega
  rw [← hW]
  clear hW
  generalize w.heap.size + 1 + 1 = R at *
  obtain ⟨sx, hsx⟩ : ∃ x, x = ax + bx := ⟨_, rfl⟩
  obtain ⟨sy, hsy⟩ : ∃ x, x = ay + by_ := ⟨_, rfl⟩
  rw [← hsx, ← hsy]
  have x0 : 0 ≤ sx := by omega
  have x1 : sx ≤ 9223372036854775808 := by omega
  have y0 : 1 ≤ sy := by omega
  have y1 : sy ≤ 9223372036854775808 := by omega
  have HSX := hide hsx
  have HSY := hide hsy
  clear hsx hsy hy a0 a1 a2 a3 b0 b1 b2 b3
  go_wp2_with fail
  refine (squareU64_any _ sx ⟨x0, by omega⟩).mono ?_
  rintro e w1 ⟨rfl, hb1⟩
  replace HB := hide (HB.out.trans (hb1.mono HB.out.size))
  replace HR := hide (HR.out.below hb1)
  clear hb1
  go_wp2_with fail
  refine (squareU64_any _ sy ⟨by omega, by omega⟩).mono ?_
  rintro e w2 ⟨rfl, hb2⟩
  replace HB := hide (HB.out.trans (hb2.mono HB.out.size))
  replace HR := hide (HR.out.below hb2)
  clear hb2
  have qx0 : 0 ≤ sx * sx := Int.mul_nonneg x0 x0
  have qx1 : sx * sx ≤ 9223372036854775808 * 9223372036854775808 := sq_le x0 x1
  have qy0 : 1 * 1 ≤ sy * sy := sq_le (by decide) y0
  have qy1 : sy * sy ≤ 9223372036854775808 * 9223372036854775808 := sq_le (by omega) y1
  go_wp2_with fail
  refine (addU128_any _ _ _ _ _ ⟨by omega, by omega⟩ ⟨by omega, by omega⟩ ⟨by omega, by omega⟩ ⟨by omega, by omega⟩).mono ?_
  rintro e w3 ⟨h, l, o, rfl, hv, hh, hl, hb3⟩
  have hN : v128 h l = sx * sx + sy * sy := by
    obtain ⟨a0, a1⟩ := hh
    obtain ⟨a2, a3⟩ := hl
    cases o
    · simp [v128] at hv ⊢
      omega
    · simp [v128] at hv
      omega
  replace HB := hide (HB.out.trans (hb3.mono HB.out.size))
  replace HR := hide (HR.out.below hb3)
  have HN := hide hN
  clear hb3 hv hN
  go_upto_region 4 with fail
  replace HB := hide (HB.out.trans ((belA w3 (.cells #[.int .u64 h, .int .u64 l] 108)).mono HB.out.size))
  replace HR := hide (HR.out.below (belA w3 (.cells #[.int .u64 h, .int .u64 l] 108)))
  go_wp2_with fail
  refine (isqrtU128_any _ h l hh hl).mono ?_
  rintro e w4 ⟨r, rfl, ⟨hr0, hr1⟩, hr2, hr3, hb4⟩
  rw [HN.out] at hr2 hr3
  replace HB := hide (HB.out.trans (hb4.mono HB.out.size))
  replace HR := hide (HR.out.below hb4)
  have hxr : sx ≤ r := root_ge hr0 hr3 (by omega)
  have hyr : sy ≤ r := root_ge (s := sy) (t := sx * sx) hr0 (by rw [Int.add_comm]; exact hr3) qx0
  have H1 := hide hr2
  have H2 := hide hr3
  clear hb4 hr2 hr3 qx0 qx1 qy0 qy1
  go_wp2_with fail
  refine (scale_any _ sx r x0 hxr (by omega) hr1).mono ?_
  rintro e w5 ⟨rfl, rfl⟩
  go_wp2_with fail
  refine (scale_any _ sy r (by omega) hyr (by omega) hr1).mono ?_
  rintro e w6 ⟨rfl, rfl⟩
  have c0 := HR.out.c0
  have c1 := HR.out.c1
  have fr := HR.out.fr
  obtain ⟨X, hX⟩ : ∃ X, X = sx * 4611686018427387904 / r := ⟨_, rfl⟩
  obtain ⟨Y, hY⟩ : ∃ Y, Y = sy * 4611686018427387904 / r := ⟨_, rfl⟩
  rw [← hX, ← hY]
  have HX := hide hX
  have HY := hide hY
  clear hX hY
  go_wp2
  exact bodyPost_ret (v := .agg #[.int .u64 X, .int .u64 Y]) (by simp [results, Try.results99, go_sem, c0, c1]) rfl ⟨r, by rw [← HSX.out, ← HSY.out]; exact ⟨hr0, H1.out, H2.out⟩, by rw [← HSX.out, ← HSY.out, HX.out, HY.out], (HB.out.setCell (by simpa using hR) _).setCell (by simpa using hR) _⟩
end Go.Proofs.Qxb6500775a
