import Derived.Test.Qxb6500775aDiv2
namespace Go.Proofs.Qxb6500775a
open Go.RowKit

theorem bitLenU128_any (w : World) (h l : Int) (hh : Word h) (hl : Word l) (hp : 1 ≤ h) :
    Calls Try.prog 121 #[.agg #[.int .u64 h, .int .u64 l]] w fun e w' => Below w.heap.size w w' ∧ ∃ bl : Nat, 65 ≤ bl ∧ bl ≤ 128 ∧ e = .returned (.int .u64 bl) ∧ v128 h l < 2 ^ bl := by
  obtain ⟨h0, h1⟩ := hh
  obtain ⟨l0, l1⟩ := hl
  have hne : (h != 0) = true := by simp; omega
  have HB : Hid (Below w.heap.size w (w.alloc (.cells #[.int .u64 h, .int .u64 l] 108))) := (Below.refl _ _).alloc (Nat.le_refl _) _
  go_enter Try.func121, Try.ntmps121
  go_wp2_with fail
  refine (bitLen_any h _ hp h1).mono ?_
  rintro e w' ⟨rfl, bl, hb1, hb2, rfl, hhi, hlo⟩
  have HH := hide hhi
  clear hhi hlo
  go_wp2
  go_ret
  refine ⟨HB.out, 64 + bl, by omega, by omega, ?_, ?_⟩
  · simp
  · have := HH.out
    rw [Int.pow_add]
    unfold v128
    have e64 : (2 : Int) ^ 64 = 18446744073709551616 := by decide
    rw [e64]
    generalize (2 : Int) ^ bl = B at *
    omega
theorem or_comm64 (x y : Int) (hx0 : 0 ≤ x) (hx : x < 18446744073709551616) (hy0 : 0 ≤ y) (hy : y < 18446744073709551616) : bits BinOp.or .u64 x y = bits BinOp.or .u64 y x := by
  obtain ⟨a, rfl⟩ := Int.eq_ofNat_of_zero_le hx0
  obtain ⟨b, rfl⟩ := Int.eq_ofNat_of_zero_le hy0
  rw [bits_or_u64_nat _ _ (by omega) (by omega), bits_or_u64_nat _ _ (by omega) (by omega), Nat.or_comm]
theorem shr1_low (h l : Int) (l0 : 0 ≤ l) (l1 : l < 18446744073709551616) : bits BinOp.or .u64 (l / 2) (IntKind.u64.wrap (h * 9223372036854775808)) = h % 2 * 9223372036854775808 + l / 2 := by
  have e : IntKind.u64.wrap (h * 9223372036854775808) = h % 2 * 2 ^ 63 := by
    simp only [IntKind.wrap_u64]
    omega
  rw [e, or_comm64 _ _ (by omega) (by omega) (by omega) (by omega), or_high (h % 2) (l / 2) 63 (by omega) (by omega) (by omega) (by omega)]
  rfl
/-- shrU128 by one. -/
theorem shr1_any (w : World) (h l : Int) (hh : Word h) (hl : Word l) :
    Calls Try.prog 122 #[.agg #[.int .u64 h, .int .u64 l], .int .u64 1] w fun e w' => Below w.heap.size w w' ∧ ∃ qh ql : Int, e = .returned (.agg #[.int .u64 qh, .int .u64 ql]) ∧ v128 qh ql = v128 h l / 2 ∧ Word qh ∧ Word ql := by
  obtain ⟨h0, h1⟩ := hh
  obtain ⟨l0, l1⟩ := hl
  go_enter Try.func122, Try.ntmps122
  go_wp2
  rw [shr1_low h l l0 l1]
  refine bodyPost_ret (v := .agg #[.int .u64 (h / 2), .int .u64 (h % 2 * 9223372036854775808 + l / 2)]) (by simp [results, Try.results122, go_sem]) rfl ⟨((Below.refl _ _).alloc (Nat.le_refl _) _).alloc (by simp) _, _, _, rfl, ?_, ⟨by omega, by omega⟩, ⟨by omega, by omega⟩⟩
  unfold v128
  omega
def IsqPost (w : World) (N : Int) (e : Ending) (w' : World) : Prop := ∃ r : Int, e = .returned (.int .u64 r) ∧ Word r ∧ r * r ≤ N ∧ N < (r + 1) * (r + 1) ∧ Below w.heap.size w w'
set_option maxHeartbeats 4000000 in
theorem isqrtU128_any (w : World) (h l : Int) (hh : Word h) (hl : Word l) : Calls Try.prog 98 #[.agg #[.int .u64 h, .int .u64 l]] w (IsqPost w (v128 h l)) := by
  obtain ⟨W, hW⟩ : ∃ W, W = w.alloc (.cells #[.int .u64 h, .int .u64 l] 108) := ⟨_, rfl⟩
  have HB : Hid (Below w.heap.size w W) := by rw [hW]; exact (Below.refl _ _).alloc (Nat.le_refl _) _
  have c0 : W.cell? ⟨w.heap.size, 0, none⟩ = some (.int .u64 h) := by rw [hW]; simp [go_sem]
  have c1 : W.cell? ⟨w.heap.size, 1, none⟩ = some (.int .u64 l) := by rw [hW]; simp [go_sem]
  have HWh := hide hh
  have HWl := hide hl
  obtain ⟨h0, h1⟩ := hh
  obtain ⟨l0, l1⟩ := hl
  go_enter Try.func98, Try.ntmps98
  go_upto_region 1 with fail
  rw [← hW]
  clear hW
  by_cases hz : h = 0
  · subst hz
    go_wp2_with fail
    refine (isqrt64_any l _ l0 l1).mono ?_
    rintro e w' ⟨rfl, r, hr0, hr1, rfl, hr2, hr3⟩
    have HR := hide hr2
    have HR2 := hide hr3
    clear hr2 hr3
    go_wp2
    go_ret
    refine ⟨r, rfl, ⟨hr0, by omega⟩, ?_, ?_, HB.out⟩
    · have := HR.out; unfold v128; omega
    · have := HR2.out; unfold v128; omega
  · have hzb : (h == 0) = false := by simp [hz]
    obtain ⟨N, hN⟩ : ∃ N, N = v128 h l := ⟨_, rfl⟩
    have hN0 : 18446744073709551616 ≤ N := by rw [hN]; unfold v128; omega
    have hN1 : N < 340282366920938463463374607431768211456 := by rw [hN]; unfold v128; omega
    have HN := hide hN
    rw [← hN]
    clear hN
    go_wp2_with fail
    refine (bitLenU128_any _ h l HWh.out HWl.out (by omega)).mono ?_
    rintro e w1 ⟨hb1, bl, hbl0, hbl1, rfl, hbl2⟩
    have HB1 : Hid (Below w.heap.size w w1) := HB.out.trans (hb1.mono HB.out.size)
    replace c0 := cellKeep hb1 c0
    replace c1 := cellKeep hb1 c1
    rw [← HN.out] at hbl2
    have HBL := hide hbl2
    clear hb1 hbl2 HB
    go_upto_if 21 with fail
    go_cut [3] (fun s wx => wx = w1 ∧ ∃ x : Int, s = .int .u64 x ∧ 1 ≤ x ∧ x < 18446744073709551616 ∧ N < (x + 1) * (x + 1))
    case first =>
      by_cases hhf : (bl + 1) / 2 < 64
      · have e1 : (2 : Int) ^ bl ≤ 2 ^ ((bl + 1) / 2 + (bl + 1) / 2) := two_pow_mono (by omega)
        rw [Int.pow_add] at e1
        have e2 : (2 : Int) ^ ((bl + 1) / 2) ≤ 2 ^ 63 := two_pow_mono (by omega)
        have e3 : 0 < (2 : Int) ^ ((bl + 1) / 2) := Int.pow_pos (by decide)
        have e4 := HBL.out
        obtain ⟨x0, hx0⟩ : ∃ x0 : Int, x0 = IntKind.u64.wrap (2 ^ ((bl + 1) / 2)) := ⟨_, rfl⟩
        have hx1 : x0 = 2 ^ ((bl + 1) / 2) := by rw [hx0]; exact IntWalk.u64_in _ ⟨by omega, by omega⟩
        rw [← hx1] at e1 e2 e3
        have hx4 : N < (x0 + 1) * (x0 + 1) := by
          have : (x0 + 1) * (x0 + 1) = x0 * x0 + 2 * x0 + 1 := by grind
          omega
        have HX4 := hide hx4
        have HX0 := hide hx0
        clear e1 e4 hx1 hx4 hx0
        go_wp2
        rw [← HX0.out]
        go_meet
        case rel => exact ⟨rfl, x0, rfl, by omega, by omega, HX4.out⟩
      · go_wp2
        go_meet
        case rel => exact ⟨rfl, 18446744073709551615, rfl, by decide, by decide, by omega⟩
    obtain ⟨rfl, x0, rfl, hx0, hx1, hx2⟩ := hcut
    have HX := hide hx2
    clear hx2
    go_wp2
    have HC0 := hide c0
    have HC1 := hide c1
    clear c0 c1 HBL
    go_loopw [3] (fun s wx => ∃ x : Int, s = .int .u64 x ∧ (1 ≤ x ∧ x < 18446744073709551616) ∧ N < (x + 1) * (x + 1) ∧ Below w.heap.size w wx ∧ wx.cell? ⟨w.heap.size, 0, none⟩ = some (.int .u64 h) ∧ wx.cell? ⟨w.heap.size, 1, none⟩ = some (.int .u64 l)) (fun s _ => (intOf s).toNat)
    case atStart => exact ⟨x0, rfl, ⟨hx0, hx1⟩, HX.out, HB1.out, HC0.out, HC1.out⟩
    case round =>
      clear HX HC0 HC1 HB1 hx0 hx1 x0
      obtain ⟨x, rfl, ⟨hx0, hx1⟩, hx2, hbel, c0, c1⟩ := hrel
      have HX := hide hx2
      have HBw := hide hbel
      have hq := newton_div hx0 hx2
      have hq0 : 0 ≤ N / x := Int.ediv_nonneg (by omega) (by omega)
      have HNw := hide (newton_high (n := N) hx0)
      have HLo := hide (newton_low (n := N) hx0)
      clear hx2 hbel
      go_wp2_with fail
      refine (divU128_any _ h l x HWh.out HWl.out hx0 hx1).mono ?_
      rintro e w2 ⟨hb2, qh, ql, r, rfl, hqv, -, hqh, hql⟩
      rw [← HN.out] at hqv
      have HB2 : Hid (Below w.heap.size w w2) := HBw.out.trans (hb2.mono HBw.out.size)
      have HC0 := hide (cellKeep hb2 c0)
      have HC1 := hide (cellKeep hb2 c1)
      have HQV := hide hqv
      clear hb2 hqv c0 c1
      have HB3 : Hid (Below w.heap.size w (w2.alloc (.cells #[.int .u64 qh, .int .u64 ql] 108))) := HB2.out.alloc HB2.out.size _
      have hbq : Below w2.heap.size w2 (w2.alloc (.cells #[.int .u64 qh, .int .u64 ql] 108)) := (Below.refl _ _).alloc (Nat.le_refl _) _
      replace HC0 := hide (cellKeep hbq HC0.out)
      replace HC1 := hide (cellKeep hbq HC1.out)
      clear hbq
      go_wp2_with fail
      refine (addU128_any _ qh ql 0 x hqh hql ⟨by decide, by decide⟩ ⟨by omega, hx1⟩).mono ?_
      rintro e w3 ⟨sh, sl, o, rfl, hsv, hsh, hsl, hb3⟩
      have hsv2 : v128 sh sl = N / x + x := by
        have e0 : v128 0 x = x := by unfold v128; omega
        rw [HQV.out, e0] at hsv
        cases o
        · simpa using hsv
        · obtain ⟨a0, a1⟩ := hsh
          obtain ⟨a2, a3⟩ := hsl
          simp [v128] at hsv
          omega
      have HSV := hide hsv2
      have HB4 : Hid (Below w.heap.size w w3) := HB3.out.trans (hb3.mono HB3.out.size)
      replace HC0 := hide (cellKeep hb3 HC0.out)
      replace HC1 := hide (cellKeep hb3 HC1.out)
      clear hb3 hsv hsv2 HB3 HB2
      have HB5 : Hid (Below w.heap.size w (w3.alloc (.cells #[.int .u64 sh, .int .u64 sl] 108))) := HB4.out.alloc HB4.out.size _
      have hbq : Below w3.heap.size w3 (w3.alloc (.cells #[.int .u64 sh, .int .u64 sl] 108)) := (Below.refl _ _).alloc (Nat.le_refl _) _
      replace HC0 := hide (cellKeep hbq HC0.out)
      replace HC1 := hide (cellKeep hbq HC1.out)
      clear hbq
      go_wp2_with fail
      refine (shr1_any _ sh sl hsh hsl).mono ?_
      rintro e w4 ⟨hb4, yh, yl, rfl, hyv, hyh, hyl⟩
      rw [HSV.out] at hyv
      have HB6 : Hid (Below w.heap.size w w4) := HB5.out.trans (hb4.mono HB5.out.size)
      replace HC0 := hide (cellKeep hb4 HC0.out)
      replace HC1 := hide (cellKeep hb4 HC1.out)
      have HB7 : Hid (Below w.heap.size w (w4.alloc (.cells #[.int .u64 yh, .int .u64 yl] 108))) := HB6.out.alloc HB6.out.size _
      have hbq : Below w4.heap.size w4 (w4.alloc (.cells #[.int .u64 yh, .int .u64 yl] 108)) := (Below.refl _ _).alloc (Nat.le_refl _) _
      replace HC0 := hide (cellKeep hbq HC0.out)
      replace HC1 := hide (cellKeep hbq HC1.out)
      clear hbq hb4
      obtain ⟨y0, y1⟩ := hyh
      obtain ⟨y2, y3⟩ := hyl
      have hY : yh * 18446744073709551616 + yl = (x + N / x) / 2 := by
        have := hyv
        unfold v128 at this
        rw [this, Int.add_comm]
      clear hyv
      generalize hQ : N / x = Q at *
      by_cases hge : x ≤ (x + Q) / 2
      · have HLe := hide (HLo.out hge)
        by_cases hyz : yh = 0
        · have hyb : (yh != 0) = false := by simp [hyz]
          have hg : x ≤ yl := by omega
          clear HNw HLo hyz hY hge
          go_wp2
          go_ret
          exact ⟨x, rfl, ⟨by omega, hx1⟩, by rw [← HN.out]; exact HLe.out, by rw [← HN.out]; exact HX.out, HB7.out⟩
        · have hyb : (yh != 0) = true := by simp [hyz]
          clear HNw HLo
          go_wp2
          go_ret
          exact ⟨x, rfl, ⟨by omega, hx1⟩, by rw [← HN.out]; exact HLe.out, by rw [← HN.out]; exact HX.out, HB7.out⟩
      · have hyz : yh = 0 := by omega
        have hyb : (yh != 0) = false := by simp [hyz]
        have hyl : yl = (x + Q) / 2 := by omega
        have hlx : ¬ x ≤ yl := by omega
        have HYl := hide hyl
        clear hyl hY hge hyz
        go_wp2
        go_roundw
        case rel =>
          have hn := HNw.out
          rw [← HYl.out] at hn
          refine ⟨yl, rfl, ⟨?_, y3⟩, hn, HB7.out, HC0.out, HC1.out⟩
          rcases (by omega : yl = 0 ∨ 1 ≤ yl) with z | z
          · rw [z] at hn; omega
          · exact z
        case measure => simp [intOf]; omega
end Go.Proofs.Qxb6500775a
