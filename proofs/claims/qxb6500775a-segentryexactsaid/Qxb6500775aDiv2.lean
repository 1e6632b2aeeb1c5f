import Derived.Test.Qxb6500775aDiv
import Derived.Test.Qxb6500775aKeep
namespace Go.Proofs.Qxb6500775a
open Go.RowKit

theorem hi_lo_div {h l d q r : Int} (hd : 0 < d) (e : (h % d) * 18446744073709551616 + l = q * d + r) (r0 : 0 ≤ r) (r1 : r < d) : (h * 18446744073709551616 + l) / d = (h / d) * 18446744073709551616 + q ∧ (h * 18446744073709551616 + l) % d = r := by
  have dm := Int.mul_ediv_add_emod h d
  have e2 : h * 18446744073709551616 + l = r + d * ((h / d) * 18446744073709551616 + q) := by
    generalize h / d = x at *
    generalize h % d = y at *
    subst dm
    grind
  rw [e2]
  constructor
  · rw [Int.add_mul_ediv_left _ _ (by omega), Int.ediv_eq_zero_of_lt r0 r1]; omega
  · rw [Int.add_mul_emod_self_left, Int.emod_eq_of_lt r0 r1]

set_option maxHeartbeats 2000000 in
theorem divU128_hi (w : World) (h l d : Int) (h0 : 1 ≤ h) (h1 : h < 18446744073709551616) (h2 : 0 ≤ l) (h3 : l < 18446744073709551616) (h4 : 1 ≤ d) (h5 : d < 18446744073709551616) :
    Calls Try.prog 93 #[.agg #[.int .u64 h, .int .u64 l], .int .u64 d] w fun e w' => Below w.heap.size w w' ∧ ∃ qh ql r : Int, e = .returned (.tuple #[.agg #[.int .u64 qh, .int .u64 ql], .int .u64 r]) ∧ v128 qh ql = v128 h l / d ∧ r = v128 h l % d ∧ Word qh ∧ Word ql := by
  have m0 : 0 ≤ h % d := Int.emod_nonneg _ (by omega)
  have m1 : h % d < d := Int.emod_lt_of_pos _ (by omega)
  have q0 : 0 ≤ h / d := Int.ediv_nonneg (by omega) (by omega)
  have q1 : h / d ≤ h := Int.ediv_le_self _ (by omega)
  go_enter Try.func93, Try.ntmps93
  go_wp2_with fail
  refine (div2by1_any _ (h % d) l d m0 m1 h2 h3 h5).mono ?_
  rintro e w1 ⟨rfl, q, r, rfl, hq, hr0, hr1, hq0, hq1⟩
  have HQ := hide (hi_lo_div (h := h) (by omega) hq hr0 hr1)
  clear hq
  go_wp2
  refine bodyPost_ret (v := .tuple #[.agg #[.int .u64 (h / d), .int .u64 q], .int .u64 r]) (by simp [results, Try.results93, go_sem]) rfl ⟨((Below.refl _ _).alloc (Nat.le_refl _) _).alloc (by simp) _, h / d, q, r, rfl, HQ.out.1.symm, HQ.out.2.symm, ⟨q0, by omega⟩, ⟨hq0, hq1⟩⟩

set_option maxHeartbeats 2000000 in
theorem divU128_lo (w : World) (l d : Int) (h2 : 0 ≤ l) (h3 : l < 18446744073709551616) (h4 : 1 ≤ d) (h5 : d < 18446744073709551616) :
    Calls Try.prog 93 #[.agg #[.int .u64 0, .int .u64 l], .int .u64 d] w fun e w' => Below w.heap.size w w' ∧ ∃ qh ql r : Int, e = .returned (.tuple #[.agg #[.int .u64 qh, .int .u64 ql], .int .u64 r]) ∧ v128 qh ql = v128 0 l / d ∧ r = v128 0 l % d ∧ Word qh ∧ Word ql := by
  have q0 : 0 ≤ l / d := Int.ediv_nonneg (by omega) (by omega)
  have q1 : l / d ≤ l := Int.ediv_le_self _ (by omega)
  have m0 : 0 ≤ l % d := Int.emod_nonneg _ (by omega)
  have m1 : l % d < d := Int.emod_lt_of_pos _ (by omega)
  have hd0 : ¬ d = 0 := by omega
  have hdb : (d == 0) = false := by simp [hd0]
  have wt : IntKind.u64.wrap (l.tdiv d) = l / d := by rw [Int.tdiv_eq_ediv_of_nonneg h2]; exact IntWalk.u64_in _ ⟨by omega, by omega⟩
  have wm : IntKind.u64.wrap (l.tmod d) = l % d := by rw [Int.tmod_eq_emod_of_nonneg h2]; exact IntWalk.u64_in _ ⟨by omega, by omega⟩
  go_enter Try.func93, Try.ntmps93
  go_upto_region 2 with fail
  have c0 : ((w.alloc (.cells #[.int .u64 0, .int .u64 l] 108)).alloc (.cells #[.int .u64 0, .int .u64 0] 108)).cell? ⟨w.heap.size, 1, none⟩ = some (.int .u64 l) := by simp [go_sem]
  go_region_held3 (fun w' => w'.cell? ⟨w.heap.size, 1, none⟩ = some (.int .u64 l)) (simp [*, go_sem]) (fail)
  go_wp2
  refine bodyPost_ret (v := .tuple #[.agg #[.int .u64 0, .int .u64 (l / d)], .int .u64 (l.tmod d)]) (by simp [results, Try.results93, go_sem]) rfl ⟨(((Below.refl _ _).alloc (Nat.le_refl _) _).alloc (by simp) _).drew, 0, l / d, l.tmod d, rfl, ?_, ?_, ⟨by omega, by omega⟩, ⟨q0, by omega⟩⟩
  · unfold v128; simp
  · rw [Int.tmod_eq_emod_of_nonneg h2]; unfold v128; simp
/-- fixmath.divU128. -/
theorem divU128_any (w : World) (h l d : Int) (h0 : Word h) (h2 : Word l) (h4 : 1 ≤ d) (h5 : d < 18446744073709551616) :
    Calls Try.prog 93 #[.agg #[.int .u64 h, .int .u64 l], .int .u64 d] w fun e w' => Below w.heap.size w w' ∧ ∃ qh ql r : Int, e = .returned (.tuple #[.agg #[.int .u64 qh, .int .u64 ql], .int .u64 r]) ∧ v128 qh ql = v128 h l / d ∧ r = v128 h l % d ∧ Word qh ∧ Word ql := by
  by_cases hz : h = 0
  · subst hz; exact divU128_lo w l d h2.1 h2.2 h4 h5
  · exact divU128_hi w h l d (by have := h0.1; omega) h0.2 h2.1 h2.2 h4 h5

/-- What a sum of two-word numbers returns. -/
def RetAdd (w : World) (x y : Int) (e : Ending) (w' : World) : Prop :=
  ∃ h l o, e = .returned (.tuple #[.agg #[.int .u64 h, .int .u64 l], .bool o]) ∧ v128 h l + (if o then 340282366920938463463374607431768211456 else 0) = x + y ∧ Word h ∧ Word l ∧ Below w.heap.size w w'
set_option maxHeartbeats 2000000 in
theorem addU128_any (w : World) (ah al bh bl : Int) (h1 : Word ah) (h2 : Word al) (h3 : Word bh) (h4 : Word bl) :
    Calls Try.prog 95 #[.agg #[.int .u64 ah, .int .u64 al], .agg #[.int .u64 bh, .int .u64 bl]] w (RetAdd w (v128 ah al) (v128 bh bl)) := by
  obtain ⟨a0, a1⟩ := h1; obtain ⟨b0, b1⟩ := h2; obtain ⟨c0, c1⟩ := h3; obtain ⟨d0, d1⟩ := h4
  obtain ⟨lo, elo⟩ : ∃ x, IntKind.u64.wrap (al + bl) = x := ⟨_, rfl⟩
  obtain ⟨pt, ept⟩ : ∃ x, IntKind.u64.wrap (ah + bh) = x := ⟨_, rfl⟩
  have flo : lo = (al + bl) % 18446744073709551616 := by rw [← elo, IntKind.wrap_u64]
  have fpt : pt = (ah + bh) % 18446744073709551616 := by rw [← ept, IntKind.wrap_u64]
  have blo : 0 ≤ lo ∧ lo < 18446744073709551616 := by omega
  have bpt : 0 ≤ pt ∧ pt < 18446744073709551616 := by omega
  have HL := hide (And.intro flo fpt)
  clear flo fpt
  by_cases k1 : lo < al
  · by_cases k2 : pt + 1 < 18446744073709551616
    · go_enter Try.func95, Try.ntmps95
      go_wp2
      exact bodyPost_ret (v := .tuple #[.agg #[.int .u64 (pt + 1), .int .u64 lo], .bool (decide (pt < ah))]) (by simp [results, Try.results95, go_sem]) rfl ⟨pt + 1, lo, _, rfl, by have := HL.out; unfold v128; by_cases hc : pt < ah <;> simp [hc] <;> omega, ⟨by omega, by omega⟩, ⟨by omega, by omega⟩, (((Below.refl _ _).alloc (Nat.le_refl _) _).alloc (by simp) _).alloc (by simp <;> omega) _⟩
    · have ew : IntKind.u64.wrap (pt + 1) = 0 := by rw [IntKind.wrap_u64]; omega
      have kp : 0 < pt := by omega
      go_enter Try.func95, Try.ntmps95
      go_wp2
      exact bodyPost_ret (v := .tuple #[.agg #[.int .u64 (0), .int .u64 lo], .bool true]) (by simp [results, Try.results95, go_sem]) rfl ⟨0, lo, _, rfl, by have := HL.out; unfold v128; simp; omega, ⟨by omega, by omega⟩, ⟨by omega, by omega⟩, (((Below.refl _ _).alloc (Nat.le_refl _) _).alloc (by simp) _).alloc (by simp <;> omega) _⟩
  · go_enter Try.func95, Try.ntmps95
    go_wp2
    exact bodyPost_ret (v := .tuple #[.agg #[.int .u64 (pt), .int .u64 lo], .bool (decide (pt < ah))]) (by simp [results, Try.results95, go_sem]) rfl ⟨pt, lo, _, rfl, by have := HL.out; unfold v128; by_cases hc : pt < ah <;> simp [hc] <;> omega, ⟨by omega, by omega⟩, ⟨by omega, by omega⟩, (((Below.refl _ _).alloc (Nat.le_refl _) _).alloc (by simp) _).alloc (by simp <;> omega) _⟩
end Go.Proofs.Qxb6500775a
