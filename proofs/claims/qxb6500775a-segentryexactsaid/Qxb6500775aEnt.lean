import Derived.Test.Qxb6500775aSgn4
namespace Go.Proofs.Qxb6500775a
open Go.RowKit

set_option maxHeartbeats 1000000 in
/-- subU128 of the greater by the less. -/
theorem subU128_any (w : World) (ah al bh bl : Int) (h1 : Word ah) (h2 : Word al) (h3 : Word bh) (h4 : Word bl) (hle : v128 bh bl ≤ v128 ah al) :
    Calls Try.prog 84 #[.agg #[.int .u64 ah, .int .u64 al], .agg #[.int .u64 bh, .int .u64 bl]] w fun e w' => e = .returned (.tuple #[.agg #[.int .u64 ((v128 ah al - v128 bh bl) / 18446744073709551616), .int .u64 ((v128 ah al - v128 bh bl) % 18446744073709551616)], .bool false]) ∧ Below w.heap.size w w' := by
  obtain ⟨a0, a1⟩ := h1; obtain ⟨b0, b1⟩ := h2; obtain ⟨c0, c1⟩ := h3; obtain ⟨d0, d1⟩ := h4
  unfold v128 at *
  have hbel : Below w.heap.size w (((w.alloc (.cells #[.int .u64 ah, .int .u64 al] 108)).alloc (.cells #[.int .u64 bh, .int .u64 bl] 108)).alloc (.cells #[.int .u64 0, .int .u64 0] 108)) := (((Below.refl _ _).alloc (Nat.le_refl _) _).alloc (by simp) _).alloc (by simp; omega) _
  by_cases hc : al < bl
  · have e1 : IntKind.u64.wrap (al - bl) = al - bl + 18446744073709551616 := by rw [IntKind.wrap_u64]; omega
    have e2 : IntKind.u64.wrap (ah - bh) = ah - bh := by rw [IntKind.wrap_u64]; omega
    have e3 : IntKind.u64.wrap (ah - bh - 1) = ah - bh - 1 := by rw [IntKind.wrap_u64]; omega
    have g1 : ¬ ah < bh := by omega
    have g2 : ¬ ah - bh < 1 := by omega
    have f1 : (ah * 18446744073709551616 + al - (bh * 18446744073709551616 + bl)) / 18446744073709551616 = ah - bh - 1 := by omega
    have f2 : (ah * 18446744073709551616 + al - (bh * 18446744073709551616 + bl)) % 18446744073709551616 = al - bl + 18446744073709551616 := by omega
    rw [f1, f2]
    clear f1 f2 hle hbel
    go_enter Try.func84, Try.ntmps84
    go_wp2
    exact bodyPost_ret (v := .tuple #[.agg #[.int .u64 (ah - bh - 1), .int .u64 (al - bl + 18446744073709551616)], .bool false]) (by simp [results, Try.results84, go_sem]) rfl ⟨rfl, (((Below.refl _ _).alloc (Nat.le_refl _) _).alloc (by simp) _).alloc (by simp; omega) _⟩
  · have e1 : IntKind.u64.wrap (al - bl) = al - bl := by rw [IntKind.wrap_u64]; omega
    have e2 : IntKind.u64.wrap (ah - bh) = ah - bh := by rw [IntKind.wrap_u64]; omega
    have g1 : ¬ ah < bh := by omega
    have f1 : (ah * 18446744073709551616 + al - (bh * 18446744073709551616 + bl)) / 18446744073709551616 = ah - bh := by omega
    have f2 : (ah * 18446744073709551616 + al - (bh * 18446744073709551616 + bl)) % 18446744073709551616 = al - bl := by omega
    rw [f1, f2]
    clear f1 f2 hle hbel
    go_enter Try.func84, Try.ntmps84
    go_wp2
    exact bodyPost_ret (v := .tuple #[.agg #[.int .u64 (ah - bh), .int .u64 (al - bl)], .bool false]) (by simp [results, Try.results84, go_sem]) rfl ⟨rfl, (((Below.refl _ _).alloc (Nat.le_refl _) _).alloc (by simp) _).alloc (by simp; omega) _⟩
theorem or_hi32 (x y : Int) (hx0 : 0 ≤ x) (hx : x < 4294967296) (hy0 : 0 ≤ y) (hy : y < 4294967296) : bits BinOp.or .u64 (y * 4294967296) x = y * 4294967296 + x := by
  have h := or_parts x y hx0 hx hy0 hy
  obtain ⟨a, rfl⟩ := Int.eq_ofNat_of_zero_le hx0
  obtain ⟨b, rfl⟩ := Int.eq_ofNat_of_zero_le hy0
  have e2 : ((b * 4294967296 : Nat) : Int) = (b : Int) * 4294967296 := by omega
  have h1 := bits_or_u64_nat a (b * 4294967296) (by omega) (by omega)
  have h2 := bits_or_u64_nat (b * 4294967296) a (by omega) (by omega)
  rw [e2] at h1 h2
  rw [h2, Nat.or_comm, ← h1, h, Int.add_comm]
set_option maxHeartbeats 1000000 in
/-- shlU128 by 32. -/
theorem shl32_any (w : World) (h l : Int) (hh : 0 ≤ h ∧ h < 4294967296) (hl : Word l) :
    Calls Try.prog 87 #[.agg #[.int .u64 h, .int .u64 l], .int .u64 32] w fun e w' => e = .returned (.agg #[.int .u64 (v128 h l * 4294967296 / 18446744073709551616), .int .u64 (v128 h l * 4294967296 % 18446744073709551616)]) ∧ Below w.heap.size w w' := by
  obtain ⟨l0, l1⟩ := hl
  obtain ⟨h0, h1⟩ := hh
  go_enter Try.func87, Try.ntmps87
  go_wp2
  refine bodyPost_ret (v := .agg #[.int .u64 _, .int .u64 _]) (by simp [results, Try.results87, go_sem]; exact ⟨rfl, rfl⟩) rfl ⟨ret_agg2 ?_ ?_, ((Below.refl _ _).alloc (Nat.le_refl _) _).alloc (by simp) _⟩
  · rw [or_hi32 _ _ (by omega) (by omega) h0 h1]; unfold v128; omega
  · rw [IntKind.wrap_u64]; unfold v128; omega
/-- The ceiling of the root. -/
def CeilRt (n r : Int) : Prop := 0 ≤ r ∧ n ≤ r * r ∧ (r = 0 ∨ (r - 1) * (r - 1) < n)
set_option maxRecDepth 100000 in
set_option maxHeartbeats 1000000 in
theorem isqrtCeil_any (w : World) (h l : Int) (hh : Word h) (hl : Word l) (hn : v128 h l ≤ 85070591730234615865843651857942052864) :
    Calls Try.prog 86 #[.agg #[.int .u64 h, .int .u64 l]] w fun e w' => ∃ r : Int, e = .returned (.int .u64 r) ∧ CeilRt (v128 h l) r ∧ r ≤ 9223372036854775808 ∧ Below w.heap.size w w' := by
  have HW := hide (And.intro hh hl)
  have HB0 : Hid (UB (w.alloc (.cells #[.int .u64 h, .int .u64 l] 108)) w.heap.size h l) := hide (UB.new w h l)
  have HBel := hide ((Below.refl w.heap.size w).alloc (Nat.le_refl _) (.cells #[.int .u64 h, .int .u64 l] 108))
  obtain ⟨n, hnn⟩ : ∃ n, v128 h l = n := ⟨_, rfl⟩
  rw [hnn] at hn ⊢
  have HN := hide hnn
  clear hnn
  go_enter Try.func86, Try.ntmps86
  go_upto_region 1 with fail
  generalize w.alloc (.cells #[.int .u64 h, .int .u64 l] 108) = W at *
  generalize hp : w.heap.size = p at *
  have c0 := HB0.out.c0
  have c1 := HB0.out.c1
  go_wp2_with fail
  refine (isqrtU128_any _ h l HW.out.1 HW.out.2).mono ?_
  rintro e w1 ⟨r, rfl, hr, h1, h2, b1⟩
  have HB1 := hide (HB0.out.below b1)
  have HBe1 : Hid (Below p w w1) := by have := lec (by rw [hp]; exact HBel.out) b1; rw [hp] at this; exact hide this
  rw [HN.out] at h1 h2
  have hr0 := hr.1
  have hrb : r ≤ 9223372036854775808 := by
    rcases (by omega : r ≤ 9223372036854775808 ∨ 9223372036854775809 ≤ r) with z | z
    · exact z
    · have := Int.mul_le_mul z z (by omega) (by omega)
      omega
  have hsq := fun w => hide (squareU64_any w r hr)
  have wq1 : Word (r * r / 18446744073709551616) := word_div (Int.mul_nonneg hr0 hr0) (by omega)
  have wq2 : Word (r * r % 18446744073709551616) := word_mod _
  have hcm := fun w => hide (cmpU128_any w (r * r / 18446744073709551616) (r * r % 18446744073709551616) h l wq1 wq2 HW.out.1 HW.out.2)
  rw [v128_parts, HN.out] at hcm
  have HF : Hid (r * r = n ∧ CeilRt n r ∨ r * r < n ∧ CeilRt n (r + 1) ∧ r + 1 ≤ 9223372036854775808) := by
    rcases (by omega : r * r = n ∨ r * r < n) with z | z
    · left
      refine ⟨z, hr0, by omega, ?_⟩
      rcases (by omega : r = 0 ∨ 1 ≤ r) with y | y
      · exact .inl y
      · right
        have : (r - 1) * (r - 1) = r * r - 2 * r + 1 := by grind
        omega
    · right
      refine ⟨z, ⟨by omega, by omega, .inr ?_⟩, ?_⟩
      · rw [show r + 1 - 1 = r by omega]; exact z
      · rcases (by omega : r = 9223372036854775808 ∨ r + 1 ≤ 9223372036854775808) with y | y
        · subst y; omega
        · exact y
  clear h1 h2 b1 hr HB0 HBel wq1 wq2 c0 c1
  generalize r * r / 18446744073709551616 = qh at *
  generalize r * r % 18446744073709551616 = ql at *
  generalize r * r = rr at *
  have c0 := HB1.out.drew.c0
  have c1 := HB1.out.drew.c1
  go_upto_region 2 with fail
  rcases HF.out with ⟨hz, hcr⟩ | ⟨hz, hcr, hr1⟩
  · rw [cmp3_eq hz] at hcm
    have HCR := hide hcr
    clear hcr hz HF
    go_region_law (first
      | (refine step_call rfl 117 #[.int .u64 r] ?_ (hsq _).out ?_; (focus (simp [go_sem]; done)); rintro e w6 ⟨rfl, b6⟩; refine ⟨_, rfl, ?_⟩; have HB6 := hide (HB1.out.drew.below b6); have HBe6 : Hid (Below p w w6) := hide (HBe1.out.trans ((of_drew b6).mono (by have := HBe1.out.size; rw [hp] at this; exact this))); have y0 := HB6.out.c0; have y1 := HB6.out.c1; clear b6)
      | (refine step_call rfl 113 #[.agg #[.int .u64 qh, .int .u64 ql], .agg #[.int .u64 h, .int .u64 l]] ?_ (hcm _).out ?_; (focus (simp [go_sem]; done)); rintro e w7 ⟨rfl, b7⟩; refine ⟨_, rfl, ?_⟩; have HBe7 : Hid (Below p w w7) := hide (HBe6.out.trans (b7.mono (by have := HBe6.out.size; rw [hp] at this; exact this))); clear b7))
    all_goals
      go_wp2
      go_ret
      exact ⟨r, rfl, HCR.out, hrb, by rw [hp]; exact HBe7.out⟩
  · rw [cmp3_lt hz] at hcm
    have HCR := hide hcr
    clear hcr hz HF
    go_region_law (first
      | (refine step_call rfl 117 #[.int .u64 r] ?_ (hsq _).out ?_; (focus (simp [go_sem]; done)); rintro e w6 ⟨rfl, b6⟩; refine ⟨_, rfl, ?_⟩; have HB6 := hide (HB1.out.drew.below b6); have HBe6 : Hid (Below p w w6) := hide (HBe1.out.trans ((of_drew b6).mono (by have := HBe1.out.size; rw [hp] at this; exact this))); have y0 := HB6.out.c0; have y1 := HB6.out.c1; clear b6)
      | (refine step_call rfl 113 #[.agg #[.int .u64 qh, .int .u64 ql], .agg #[.int .u64 h, .int .u64 l]] ?_ (hcm _).out ?_; (focus (simp [go_sem]; done)); rintro e w7 ⟨rfl, b7⟩; refine ⟨_, rfl, ?_⟩; have HBe7 : Hid (Below p w w7) := hide (HBe6.out.trans (b7.mono (by have := HBe6.out.size; rw [hp] at this; exact this))); clear b7))
    all_goals
      go_wp2
      go_ret
      exact ⟨r + 1, rfl, HCR.out, hr1, by rw [hp]; exact HBe7.out⟩
end Go.Proofs.Qxb6500775a
