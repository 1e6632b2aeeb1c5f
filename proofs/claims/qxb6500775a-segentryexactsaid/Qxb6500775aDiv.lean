import Derived.Test.Qxb6500775aWide2
import Derived.Test.Qxb6500775aRoot
import Derived.Test.Qxb6500775aDivP
import Derived.Deep.CutBlock
namespace Go.Proofs.Qxb6500775a
open Go.RowKit

theorem or_high (x y : Int) (n : Nat) (hx : 0 ≤ x) (hy0 : 0 ≤ y) (hy : y < 2 ^ n) (hs : x * 2 ^ n + y < 18446744073709551616) : bits BinOp.or .u64 (x * 2 ^ n) y = x * 2 ^ n + y := by
  obtain ⟨a, rfl⟩ := Int.eq_ofNat_of_zero_le hx
  obtain ⟨b, rfl⟩ := Int.eq_ofNat_of_zero_le hy0
  have e1 : ((a * 2 ^ n : Nat) : Int) = (a : Int) * 2 ^ n := by rw [Int.natCast_mul, Int.natCast_pow]; rfl
  have e0 : ((2 ^ n : Nat) : Int) = (2 : Int) ^ n := by rw [Int.natCast_pow]; rfl
  have hb : b < 2 ^ n := by
    have : (b : Int) < ((2 ^ n : Nat) : Int) := by rw [e0]; exact hy
    exact Int.ofNat_lt.1 this
  have h1 : a * 2 ^ n + b < 18446744073709551616 := by
    have : ((a * 2 ^ n + b : Nat) : Int) < 18446744073709551616 := by rw [Int.natCast_add, e1]; exact hs
    omega
  have h := bits_or_u64_nat (a * 2 ^ n) b (by omega) (by omega)
  rw [or_high_nat a b n hb, Int.natCast_add, e1] at h
  exact h

theorem wrap3 (a b c m : Int) (e : a + b - c = m) (h0 : 0 ≤ m) (h1 : m < 18446744073709551616) : IntKind.u64.wrap (IntKind.u64.wrap (IntKind.u64.wrap a + b) - IntKind.u64.wrap c) = m := by
  simp only [IntKind.wrap_u64]
  omega
theorem div_fin {x d dn top low l1 l0 Q1 Q0 mid rm P : Int} (hP : 0 < P) (h1 : x * P = top * 18446744073709551616 + low) (h2 : d * P = dn) (h3 : low = l1 * 4294967296 + l0) (h4 : top * 4294967296 + l1 - Q1 * dn = mid) (h5 : mid * 4294967296 + l0 - Q0 * dn = rm) (h6 : 0 ≤ rm) (h7 : rm < dn) :
    x = (Q1 * 4294967296 + Q0) * d + rm / P ∧ 0 ≤ rm / P ∧ rm / P < d := by
  have e : rm = (x - (Q1 * 4294967296 + Q0) * d) * P := by
    subst h2 h3 h4 h5
    grind
  have e2 : rm / P = x - (Q1 * 4294967296 + Q0) * d := by rw [e]; exact Int.mul_ediv_cancel _ (by omega)
  refine ⟨by omega, Int.ediv_nonneg h6 (by omega), Int.ediv_lt_of_lt_mul hP (by omega)⟩
theorem or_hl (r l : Int) (h0 : 0 ≤ r) (h1 : r < 4294967296) (h2 : 0 ≤ l) (h3 : l < 4294967296) : bits BinOp.or .u64 (r * 4294967296) l = r * 4294967296 + l :=
  or_high r l 32 h0 h2 h3 (show r * 4294967296 + l < _ by omega)
theorem top_eq (hi lo : Int) (n : Nat) (hn : n ≤ 64) : (hi * 18446744073709551616 + lo) * 2 ^ n = (hi * 2 ^ n + lo / 2 ^ (64 - n)) * 18446744073709551616 + (lo * 2 ^ n) % 18446744073709551616 := by
  have e : (18446744073709551616 : Int) = 2 ^ (64 - n) * 2 ^ n := by rw [← Int.pow_add, show 64 - n + n = 64 by omega]; decide
  have p1 : 0 < (2 : Int) ^ (64 - n) := Int.pow_pos (by decide)
  have p2 : 0 < (2 : Int) ^ n := Int.pow_pos (by decide)
  have m := Int.mul_emod_mul_of_pos lo (2 ^ (64 - n)) p2
  rw [Int.mul_comm (2 ^ n) lo, Int.mul_comm (2 ^ n) (2 ^ (64 - n)), ← e] at m
  rw [m]
  have dm := Int.mul_ediv_add_emod lo (2 ^ (64 - n))
  generalize lo / 2 ^ (64 - n) = x at *
  generalize lo % 2 ^ (64 - n) = y at *
  generalize (2 : Int) ^ (64 - n) = P at *
  generalize (2 : Int) ^ n = R at *
  rw [← dm]
  rw [e]
  grind
theorem shr_lt (lo : Int) (n : Nat) (hn : n ≤ 64) (h2 : 0 ≤ lo) (h3 : lo < 18446744073709551616) : 0 ≤ lo / 2 ^ (64 - n) ∧ lo / 2 ^ (64 - n) < 2 ^ n := by
  have e : (18446744073709551616 : Int) = 2 ^ n * 2 ^ (64 - n) := by rw [← Int.pow_add, show n + (64 - n) = 64 by omega]; decide
  have p1 : 0 < (2 : Int) ^ (64 - n) := Int.pow_pos (by decide)
  exact ⟨Int.ediv_nonneg h2 (Int.le_of_lt p1), Int.ediv_lt_of_lt_mul p1 (by rw [← e]; exact h3)⟩

set_option maxRecDepth 100000 in
set_option maxHeartbeats 4000000 in
theorem div2by1_any (w : World) (hi lo d : Int) (h0 : 0 ≤ hi) (h1 : hi < d) (h2 : 0 ≤ lo) (h3 : lo < 18446744073709551616) (h4 : d < 18446744073709551616) :
    Calls Try.prog 119 #[.int .u64 hi, .int .u64 lo, .int .u64 d] w fun e w' => w' = w ∧ ∃ q r : Int, e = .returned (.tuple #[.int .u64 q, .int .u64 r]) ∧ hi * 18446744073709551616 + lo = q * d + r ∧ 0 ≤ r ∧ r < d ∧ 0 ≤ q ∧ q < 18446744073709551616 := by
  go_enter Try.func119, Try.ntmps119
  go_wp2_with fail
  refine (lz_any d _ (by omega) h4).mono ?_
  rintro e w' ⟨rfl, n, hn, rfl, hlo, hhi⟩
  have p0 : 0 < (2 : Int) ^ n := Int.pow_pos (by decide)
  have hh := Int.mul_le_mul_of_nonneg_right (show hi ≤ d - 1 by omega) (Int.le_of_lt p0)
  rw [Int.sub_mul] at hh
  have hh0 := Int.mul_nonneg h0 (Int.le_of_lt p0)
  have sh := shr_lt lo n (by omega) h2 h3
  obtain ⟨dn, edn⟩ : ∃ x, d * 2 ^ n = x := ⟨_, rfl⟩
  obtain ⟨top, etop⟩ : ∃ x, hi * 2 ^ n + lo / 2 ^ (64 - n) = x := ⟨_, rfl⟩
  obtain ⟨low, elow⟩ : ∃ x, IntKind.u64.wrap (lo * 2 ^ n) = x := ⟨_, rfl⟩
  obtain ⟨dh, edh⟩ : ∃ x, dn / 4294967296 = x := ⟨_, rfl⟩
  obtain ⟨dl, edl⟩ : ∃ x, dn % 4294967296 = x := ⟨_, rfl⟩
  obtain ⟨l1, el1⟩ : ∃ x, low / 4294967296 = x := ⟨_, rfl⟩
  obtain ⟨l0, el0⟩ : ∃ x, low % 4294967296 = x := ⟨_, rfl⟩
  have hN := top_eq hi lo n (by omega)
  have elow' : lo * 2 ^ n % 18446744073709551616 = low := by rw [← elow, IntKind.wrap_u64]
  rw [etop, elow'] at hN
  rw [edn] at hlo hhi hh
  have blow : 0 ≤ low ∧ low < 18446744073709551616 := by omega
  have hor : bits BinOp.or .u64 (hi * 2 ^ n) (lo / 2 ^ (64 - n)) = top := by rw [or_high hi _ n h0 sh.1 sh.2 (by omega)]; exact etop
  have htop : 0 ≤ top ∧ top < dn := by omega
  have ez : n = 0 → hi * 2 ^ n = top := by
    intro e0
    subst e0
    rw [← etop]
    have : lo / 2 ^ (64 - 0) = 0 := Int.ediv_eq_zero_of_lt h2 (by simpa using h3)
    omega
  have hm1 : bits BinOp.and .u64 dn 4294967295 = dl := by rw [and_mask32 dn (by omega) (by omega)]; exact edl
  have hm2 : bits BinOp.and .u64 low 4294967295 = l0 := by rw [and_mask32 low blow.1 blow.2]; exact el0
  have HN := hide (And.intro hN (And.intro edn p0))
  have HT := hide (And.intro etop ez)
  have HD : Hid (dn = dh * 4294967296 + dl ∧ low = l1 * 4294967296 + l0) := ⟨by omega, by omega⟩
  have bdh : 2147483648 ≤ dh ∧ dh < 4294967296 := by omega
  have bdl : 0 ≤ dl ∧ dl < 4294967296 := by omega
  have bl1 : 0 ≤ l1 ∧ l1 < 4294967296 := by omega
  have bl0 : 0 ≤ l0 ∧ l0 < 4294967296 := by omega
  clear hN etop ez elow' edl el0
  go_upto_if 33 with fail
  go_cut [11] (fun s11 wx => wx = w' ∧ s11 = .int .u64 top)
  case first =>
    by_cases hz : n = 0
    · have hzz : ((n : Int) != 0) = false := by simp [hz]
      have ez := HT.out.2 hz
      go_wp2
      go_meet
      case rel => exact ⟨rfl, by rw [ez]⟩
    · have hzz : ((n : Int) != 0) = true := by simp; omega
      go_wp2
      go_meet
      case rel => exact ⟨rfl, rfl⟩
  obtain ⟨rfl, rfl⟩ := hcut
  clear hh hh0 sh hor HT
  have D1 := Dgt.mk' bdh.1 bdh.2 bdl.1 bdl.2 htop.1 (by rw [← HD.out.1]; exact htop.2) bl1.1 bl1.2
  obtain ⟨Q1, eQ1⟩ : ∃ x, (top * 4294967296 + l1) / (dh * 4294967296 + dl) = x := ⟨_, rfl⟩
  rw [eQ1] at D1
  clear eQ1
  obtain ⟨g1, g2, g3, g4⟩ := D1.guess
  have gq : 0 ≤ top / dh := Int.ediv_nonneg htop.1 (by omega)
  have gm : 0 ≤ top / dh * dh := Int.mul_nonneg gq (by omega)
  have HD1 := hide D1
  clear D1
  go_upto_block 0 with fail
  go_cut [15, 16] (fun sq sr wx => wx = wc ∧ sq = .int .u64 Q1 ∧ ∃ r : Int, sr = .int .u64 r)
  case first =>
    go_wp2
    go_loop [15, 16] (fun sq sr => ∃ q r : Int, sq = .int .u64 q ∧ sr = .int .u64 r ∧ q * dh + r = top ∧ Q1 ≤ q ∧ q ≤ 4294967297 ∧ 0 ≤ r ∧ r < 4294967296) (fun sq _ => (intOf sq).toNat)
    case atStart => exact ⟨top / dh, top - top / dh * dh, rfl, rfl, by omega, g1, g2, g3, by omega⟩
    case round =>
      clear g1 g2 g3 g4 gq gm
      obtain ⟨q, r, rfl, rfl, hqr, hQ, hq1, hr0, hr1⟩ := hrel
      have q0 := HD1.out.Q0
      have hgt := HD1.out.gt_iff hqr
      have hor := or_hl r l1 hr0 hr1 (by omega) (by omega)
      have HQR := hide hqr
      have HGT := hide hgt
      have hstep : (q - 1) * dh + (r + dh) = top := by rw [Int.sub_mul]; omega
      have HST := hide hstep
      clear hqr hgt hstep
      by_cases hbig : 4294967296 ≤ q
      · have hlt : Q1 < q := by have := HD1.out.Q1; omega
        by_cases hbr : 4294967296 ≤ r + dh
        · go_wp2
          go_meet
          case rel =>
            have e := HD1.out.brk HST.out (by omega) hbr (by omega)
            exact ⟨rfl, by rw [e], _, rfl⟩
        · go_wp2
          go_round
          case rel => exact ⟨q - 1, r + dh, rfl, rfl, HST.out, by omega, by omega, by omega, by omega⟩
          case measure => simp [intOf]; omega
      · have hm := half_mul (x := q) (y := dl) (by omega) (by omega) bdl.1 bdl.2
        by_cases hc : r * 4294967296 + l1 < q * dl
        · have hlt : Q1 < q := HGT.out.2 hc
          by_cases hbr : 4294967296 ≤ r + dh
          · go_wp2
            go_meet
            case rel =>
              have e := HD1.out.brk HST.out (by omega) hbr (by omega)
              exact ⟨rfl, by rw [e], _, rfl⟩
          · go_wp2
            go_round
            case rel => exact ⟨q - 1, r + dh, rfl, rfl, HST.out, by omega, by omega, by omega, by omega⟩
            case measure => simp [intOf]; omega
        · have hle : q ≤ Q1 := by have := HGT.out; omega
          obtain rfl : q = Q1 := by omega
          go_wp2
          go_meet
          case rel => exact ⟨rfl, rfl, _, rfl⟩
  obtain ⟨rfl, rfl, r1, rfl⟩ := hcut
  go_upto_region 18 with fail
  obtain ⟨mid, emid⟩ : ∃ x, top * 4294967296 + l1 - Q1 * dn = x := ⟨_, rfl⟩
  have bmid : 0 ≤ mid ∧ mid < dn := by
    have a1 := HD1.out.lo
    have a2 := HD1.out.hi
    rw [← HD.out.1] at a1 a2
    rw [Int.add_mul] at a2
    omega
  rw [wrap3 (top * 4294967296) l1 (Q1 * dn) mid emid bmid.1 (by omega)]
  have HE1 := hide emid
  clear g1 g2 g3 g4 gq gm emid
  have bQ1 : 0 ≤ Q1 ∧ Q1 < 4294967296 := ⟨HD1.out.Q0, HD1.out.Q1⟩
  have D2 := Dgt.mk' bdh.1 bdh.2 bdl.1 bdl.2 bmid.1 (by rw [← HD.out.1]; exact bmid.2) bl0.1 bl0.2
  obtain ⟨Q0, eQ0⟩ : ∃ x, (mid * 4294967296 + l0) / (dh * 4294967296 + dl) = x := ⟨_, rfl⟩
  rw [eQ0] at D2
  clear eQ0
  obtain ⟨g1, g2, g3, g4⟩ := D2.guess
  have gq : 0 ≤ mid / dh := Int.ediv_nonneg bmid.1 (by omega)
  have gm : 0 ≤ mid / dh * dh := Int.mul_nonneg gq (by omega)
  have HD2 := hide D2
  clear D2
  go_upto_block 2 with fail
  go_cut [18, 16] (fun sq sr wx => wx = wc ∧ sq = .int .u64 Q0 ∧ ∃ r : Int, sr = .int .u64 r)
  case first =>
    go_wp2
    go_loop [18, 16] (fun sq sr => ∃ q r : Int, sq = .int .u64 q ∧ sr = .int .u64 r ∧ q * dh + r = mid ∧ Q0 ≤ q ∧ q ≤ 4294967297 ∧ 0 ≤ r ∧ r < 4294967296) (fun sq _ => (intOf sq).toNat)
    case atStart => exact ⟨mid / dh, mid - mid / dh * dh, rfl, rfl, by omega, g1, g2, g3, by omega⟩
    case round =>
      clear g1 g2 g3 g4 gq gm
      obtain ⟨q, r, rfl, rfl, hqr, hQ, hq1, hr0, hr1⟩ := hrel
      have q0 := HD2.out.Q0
      have hgt := HD2.out.gt_iff hqr
      have hor := or_hl r l0 hr0 hr1 (by omega) (by omega)
      have HQR := hide hqr
      have HGT := hide hgt
      have hstep : (q - 1) * dh + (r + dh) = mid := by rw [Int.sub_mul]; omega
      have HST := hide hstep
      clear hqr hgt hstep
      by_cases hbig : 4294967296 ≤ q
      · have hlt : Q0 < q := by have := HD2.out.Q1; omega
        by_cases hbr : 4294967296 ≤ r + dh
        · go_wp2
          go_meet
          case rel =>
            have e := HD2.out.brk HST.out (by omega) hbr (by omega)
            exact ⟨rfl, by rw [e], _, rfl⟩
        · go_wp2
          go_round
          case rel => exact ⟨q - 1, r + dh, rfl, rfl, HST.out, by omega, by omega, by omega, by omega⟩
          case measure => simp [intOf]; omega
      · have hm := half_mul (x := q) (y := dl) (by omega) (by omega) bdl.1 bdl.2
        by_cases hc : r * 4294967296 + l0 < q * dl
        · have hlt : Q0 < q := HGT.out.2 hc
          by_cases hbr : 4294967296 ≤ r + dh
          · go_wp2
            go_meet
            case rel =>
              have e := HD2.out.brk HST.out (by omega) hbr (by omega)
              exact ⟨rfl, by rw [e], _, rfl⟩
          · go_wp2
            go_round
            case rel => exact ⟨q - 1, r + dh, rfl, rfl, HST.out, by omega, by omega, by omega, by omega⟩
            case measure => simp [intOf]; omega
        · have hle : q ≤ Q0 := by have := HGT.out; omega
          obtain rfl : q = Q0 := by omega
          go_wp2
          go_meet
          case rel => exact ⟨rfl, rfl, _, rfl⟩
  obtain ⟨rfl, rfl, r0, rfl⟩ := hcut
  clear g1 g2 g3 g4 gq gm
  obtain ⟨rm, erm⟩ : ∃ x, mid * 4294967296 + l0 - Q0 * dn = x := ⟨_, rfl⟩
  have brm : 0 ≤ rm ∧ rm < dn := by
    have a1 := HD2.out.lo
    have a2 := HD2.out.hi
    rw [← HD.out.1] at a1 a2
    rw [Int.add_mul] at a2
    omega
  have HE0 := hide erm
  clear erm
  have bQ0 : 0 ≤ Q0 ∧ Q0 < 4294967296 := ⟨HD2.out.Q0, HD2.out.Q1⟩
  go_wp2
  rw [wrap3 (mid * 4294967296) l0 (Q0 * dn) rm HE0.out brm.1 (by omega)]
  go_ret2
  have F := div_fin HN.out.2.2 HN.out.1 HN.out.2.1 HD.out.2 HE1.out HE0.out brm.1 brm.2
  exact ⟨rfl, _, _, rfl, F.1, F.2.1, F.2.2, by omega, by omega⟩
end Go.Proofs.Qxb6500775a
