import Derived.Test.Qxb6500775aEntP
import Derived.Test.Qxb6500775aSegD
namespace Go.Proofs.Qxb6500775a
open Go.RowKit

/-- The view of the segment in its box. -/
structure EV (w wx : World) (ps : Nat) (dx dy ux uy al len : Int) : Prop where
  c0 : wx.cell? ⟨ps, 0, none⟩ = some (.int .i64 dx)
  c1 : wx.cell? ⟨ps, 1, none⟩ = some (.int .i64 dy)
  c2 : wx.cell? ⟨ps, 2, none⟩ = some (.int .i64 ux)
  c3 : wx.cell? ⟨ps, 3, none⟩ = some (.int .i64 uy)
  c4 : wx.cell? ⟨ps, 4, none⟩ = some (.int .i64 al)
  c5 : wx.cell? ⟨ps, 5, none⟩ = some (.int .i64 len)
  bel : Below w.heap.size w wx
theorem EV.below {w wx wy : World} {ps : Nat} {dx dy ux uy al len : Int} (h : EV w wx ps dx dy ux uy al len) (hb : Below wx.heap.size wx wy) : EV w wy ps dx dy ux uy al len :=
  ⟨cellKeep hb h.c0, cellKeep hb h.c1, cellKeep hb h.c2, cellKeep hb h.c3, cellKeep hb h.c4, cellKeep hb h.c5, lec h.bel hb⟩
theorem EV.drew {w wx : World} {ps : Nat} {dx dy ux uy al len : Int} (h : EV w wx ps dx dy ux uy al len) : EV w wx.drew ps dx dy ux uy al len := h.below (Below.refl _ _).drew
theorem EV.al {w wx : World} {ps : Nat} {dx dy ux uy al len : Int} (h : EV w wx ps dx dy ux uy al len) (o : Obj) : EV w (wx.alloc o) ps dx dy ux uy al len := h.below ((Below.refl _ _).alloc (Nat.le_refl _) o)
theorem EV.lt {w wx : World} {ps : Nat} {dx dy ux uy al len : Int} (h : EV w wx ps dx dy ux uy al len) : ps < wx.heap.size := World.block_lt_of_cell? _ _ h.c0
theorem EV.set2 {w wx : World} {ps pu : Nat} {dx dy ux uy al len a b : Int} (h : EV w wx ps dx dy ux uy al len) (hne : ps ≠ pu) (hw : w.heap.size ≤ pu) : EV w ((wx.setCell ⟨pu, 0, none⟩ (.int .u64 a)).setCell ⟨pu, 1, none⟩ (.int .u64 b)) ps dx dy ux uy al len :=
  ⟨cell_set2' hne h.c0, cell_set2' hne h.c1, cell_set2' hne h.c2, cell_set2' hne h.c3, cell_set2' hne h.c4, cell_set2' hne h.c5, belSet2 h.bel hw⟩
theorem fq_posE {n d : Int} (h : 0 < d) : fq n d = n / d := if_pos h
def EntRes (al len cr st r q : Int) (hit : Bool) : Prop := (hit = false → q = 0) ∧ (hit = true → (st ≤ r * r → q = 0) ∧ (r * r < st → Ent al len cr r q))
theorem segEntry_out (w : World) (a b c d e f r : Int) (h : inB6 a b c d e f = false) :
    Calls Try.prog 35 #[.int .i64 a, .int .i64 b, .int .i64 c, .int .i64 d, .int .i64 e, .int .i64 f, .int .i64 r] w fun x w' => x = .returned (.tuple #[.int .i64 0, .bool false, .int .i64 4]) ∧ w' = w := by
  go_enter Try.func35, Try.ntmps35
  go_wp2_with fail
  refine (SegDisc_out _ a b c d e f r h).mono ?_
  rintro x w' ⟨rfl, rfl⟩
  go_wp2
  exact bodyPost_ret (v := .tuple #[.int .i64 0, .bool false, .int .i64 4]) (by simp [results, Try.results35, go_sem]) rfl ⟨rfl, rfl⟩
set_option maxRecDepth 100000 in
set_option maxHeartbeats 4000000 in
theorem segEntry_in (w : World) (a b c d e f r : Int) (h : inB6 a b c d e f = true) :
    Calls Try.prog 35 #[.int .i64 a, .int .i64 b, .int .i64 c, .int .i64 d, .int .i64 e, .int .i64 f, .int .i64 r] w fun x w' => ∃ q : Int, x = .returned (.tuple #[.int .i64 q, .bool (hitB a b c d e f r), .int .i64 0]) ∧ EntRes ((e - a) * (c - a) + (f - b) * (d - b)) ((c - a) * (c - a) + (d - b) * (d - b)) ((c - a) * (f - b) - (d - b) * (e - a)) ((e - a) * (e - a) + (f - b) * (f - b)) r q (hitB a b c d e f r) ∧ Below w.heap.size w w' := by
  obtain ⟨ha, hb, hc, hd, he, hf⟩ := inB6_true h
  have HS := fun w => hide (SegDisc_in w a b c d e f r h)
  cases hhit : hitB a b c d e f r
  · rw [hhit] at HS
    clear hhit
    go_enter Try.func35, Try.ntmps35
    go_wp2_with fail
    refine (HS _).out.mono ?_
    rintro x w1 ⟨rfl, b1⟩
    have B1 := hide b1
    clear b1 HS
    go_wp2
    exact bodyPost_ret (v := .tuple #[.int .i64 0, .bool false, .int .i64 0]) (by simp [results, Try.results35, go_sem]) rfl ⟨0, rfl, ⟨fun _ => rfl, nofun⟩, B1.out⟩
  · rw [hhit] at HS
    have hr0 : 0 ≤ r := by
      rcases (by omega : r < 0 ∨ 0 ≤ r) with z | z
      · rw [hit_neg z] at hhit; cases hhit
      · exact z
    have hmeet : meetsB ((e - a) * (c - a) + (f - b) * (d - b)) ((c - a) * (c - a) + (d - b) * (d - b)) ((c - a) * (f - b) - (d - b) * (e - a)) ((e - a) * (e - a) + (f - b) * (f - b)) ((e - a - (c - a)) * (e - a - (c - a)) + (f - b - (d - b)) * (f - b - (d - b))) r = true := by
      unfold hitB at hhit
      rw [decide_eq_true hr0, Bool.true_and] at hhit
      exact hhit
    clear hhit
    have HV := fun w => hide (view_any w a b c d e f (by omega) (by omega) (by omega) (by omega))
    obtain ⟨dx, hdx⟩ : ∃ x, c - a = x := ⟨_, rfl⟩
    obtain ⟨dy, hdy⟩ : ∃ x, d - b = x := ⟨_, rfl⟩
    obtain ⟨ux, hux⟩ : ∃ x, e - a = x := ⟨_, rfl⟩
    obtain ⟨uy, huy⟩ : ∃ x, f - b = x := ⟨_, rfl⟩
    have bdx : -4194304 ≤ dx ∧ dx ≤ 4194304 := by omega
    have bdy : -4194304 ≤ dy ∧ dy ≤ 4194304 := by omega
    have bux : -4194304 ≤ ux ∧ ux ≤ 4194304 := by omega
    have buy : -4194304 ≤ uy ∧ uy ≤ 4194304 := by omega
    have s1 := sq_bd (x := ux) (by omega) (by omega)
    have s2 := sq_bd (x := uy) (by omega) (by omega)
    have s3 := sq_bd (x := dx) (by omega) (by omega)
    have s4 := sq_bd (x := dy) (by omega) (by omega)
    have m1 := mul_bd (x := ux) (y := dx) (by omega) (by omega) (by omega) (by omega)
    have m2 := mul_bd (x := uy) (y := dy) (by omega) (by omega) (by omega) (by omega)
    have st43 : ux * ux + uy * uy ≤ 17592186044416 := by
      have t1 := sq_mono (a := if 0 ≤ ux then ux else -ux) (b := 2097152) (by split <;> omega) (by split <;> omega)
      have t2 := sq_mono (a := if 0 ≤ uy then uy else -uy) (b := 2097152) (by split <;> omega) (by split <;> omega)
      have e1 : (if 0 ≤ ux then ux else -ux) * (if 0 ≤ ux then ux else -ux) = ux * ux := by split; rfl; exact Int.neg_mul_neg ux ux
      have e2 : (if 0 ≤ uy then uy else -uy) * (if 0 ≤ uy then uy else -uy) = uy * uy := by split; rfl; exact Int.neg_mul_neg uy uy
      omega
    have HST := fun w al len => hide (startSq_any w dx dy ux uy al len bux buy)
    have HCR := fun w al len => hide (crossSq_any w dx dy ux uy al len bdx bdy bux buy)
    rw [hdx, hdy, hux, huy] at HV hmeet ⊢
    clear hdx hdy hux huy ha hb hc hd he hf h
    have lg1 := lagrange dx dy ux uy
    have lg2 : (dx * uy - dy * ux) * (dx * uy - dy * ux) + ((ux * dx + uy * dy) - (dx * dx + dy * dy)) * ((ux * dx + uy * dy) - (dx * dx + dy * dy)) = (dx * dx + dy * dy) * ((ux - dx) * (ux - dx) + (uy - dy) * (uy - dy)) := by grind
    have hL0 : 0 ≤ dx * dx + dy * dy := by omega
    obtain ⟨al, hal⟩ : ∃ x, ux * dx + uy * dy = x := ⟨_, rfl⟩
    obtain ⟨L, hLe⟩ : ∃ x, dx * dx + dy * dy = x := ⟨_, rfl⟩
    obtain ⟨cr', hcr⟩ : ∃ x, dx * uy - dy * ux = x := ⟨_, rfl⟩
    obtain ⟨st, hst⟩ : ∃ x, ux * ux + uy * uy = x := ⟨_, rfl⟩
    obtain ⟨en, hen⟩ : ∃ x, (ux - dx) * (ux - dx) + (uy - dy) * (uy - dy) = x := ⟨_, rfl⟩
    have alb : -35184372088832 ≤ al ∧ al ≤ 35184372088832 := by omega
    have Lb : L ≤ 35184372088832 := by omega
    rw [hal, hLe] at HV hmeet lg1 lg2 ⊢
    rw [hLe] at hL0
    rw [hcr] at hmeet lg1 lg2 HCR ⊢
    rw [hst] at hmeet lg1 st43 HST ⊢
    rw [hen] at hmeet lg2
    clear hal hLe hcr hst hen s1 s2 s3 s4 m1 m2
    by_cases hbig : 4194304 ≤ r
    · have hrr := sq_mono (a := 4194304) (b := r) (by omega) hbig
      clear HV HST HCR lg1 lg2 hmeet
      go_enter Try.func35, Try.ntmps35
      go_wp2_with fail
      refine (HS _).out.mono ?_
      rintro x w1 ⟨rfl, b1⟩
      have B1 := hide b1
      have HR := hide hrr
      clear b1 HS hrr
      go_wp2
      exact bodyPost_ret (v := .tuple #[.int .i64 0, .bool true, .int .i64 0]) (by simp [results, Try.results35, go_sem]) rfl ⟨0, rfl, ⟨nofun, fun _ => ⟨fun _ => rfl, fun h => by have := HR.out; omega⟩⟩, B1.out⟩
    · have hrr := sq_mono (a := r) (b := 4194304) hr0 (by omega)
      have hrr0 : 0 ≤ r * r := Int.mul_nonneg hr0 hr0
      obtain ⟨rr, hrre⟩ : ∃ x, r * r = x := ⟨_, rfl⟩
      have HRR := hide hrre
      rw [hrre] at hrr hrr0
      have hrw : IntKind.i64.wrap rr = rr := by rw [IntKind.wrap_i64]; omega
      by_cases hin : st ≤ rr
      · clear HCR lg1 lg2 hmeet
        go_enter Try.func35, Try.ntmps35
        go_wp2_with fail
        refine (HS _).out.mono ?_
        rintro x w1 ⟨rfl, b1⟩
        have B1 := hide b1
        clear b1 HS
        go_wp2_with fail
        refine (HV _).out.mono ?_
        rintro x w2 ⟨rfl, b2⟩
        have B2 := hide (belAl (lec B1.out b2) (.cells #[.int .i64 dx, .int .i64 dy, .int .i64 ux, .int .i64 uy, .int .i64 al, .int .i64 L] 102))
        clear b2 B1 HV
        go_wp2_with fail
        refine (HST _ al L).out.mono ?_
        rintro x w3 ⟨rfl, b3⟩
        have B3 := hide (lec B2.out b3)
        clear b3 B2 HST
        go_wp2
        exact bodyPost_ret (v := .tuple #[.int .i64 0, .bool true, .int .i64 0]) (by simp [results, Try.results35, go_sem]) rfl ⟨0, rfl, ⟨nofun, fun _ => ⟨fun _ => rfl, fun h => by rw [HRR.out] at h; omega⟩⟩, B3.out⟩
      · have hlaw := fun back hb => hide (ent_law (back := back) lg1 lg2 hL0 hmeet (by rw [hrre]; omega) hb)
        obtain ⟨hl, hap, d0, d1, -⟩ := ent_pre lg1 lg2 hL0 hmeet (by rw [hrre]; omega)
        rw [hrre] at d0 d1
        simp only [hrre] at hlaw
        have hcc : 0 ≤ cr' * cr' := by
          rcases (by omega : 0 ≤ cr' ∨ cr' ≤ 0) with z | z
          · exact Int.mul_nonneg z z
          · have := Int.mul_nonneg (show 0 ≤ -cr' by omega) (show 0 ≤ -cr' by omega); rw [Int.neg_mul_neg] at this; exact this
        have hrl : rr * L ≤ 17592186044416 * 35184372088832 := Int.mul_le_mul hrr Lb (by omega) (by omega)
        have hrl0 : 0 ≤ rr * L := Int.mul_nonneg hrr0 (by omega)
        have hmul := fun w => hide (mulU64_any w rr L ⟨by omega, by omega⟩ ⟨by omega, by omega⟩)
        obtain ⟨P, hP⟩ : ∃ P, rr * L = P := ⟨_, rfl⟩
        obtain ⟨CC, hCC⟩ : ∃ P, cr' * cr' = P := ⟨_, rfl⟩
        rw [hP] at hmul d0 d1 hrl hrl0
        rw [hCC] at hcc d0 d1 HCR
        simp only [hP, hCC] at hlaw
        have hsub := fun w => hide (subU128_any w (P / 18446744073709551616) (P % 18446744073709551616) (CC / 18446744073709551616) (CC % 18446744073709551616) ⟨by omega, by omega⟩ ⟨by omega, by omega⟩ ⟨by omega, by omega⟩ ⟨by omega, by omega⟩ (by rw [v128_parts, v128_parts]; omega))
        rw [v128_parts, v128_parts] at hsub
        obtain ⟨D, hD⟩ : ∃ D, P - CC = D := ⟨_, rfl⟩
        rw [hD] at hsub d0 d1
        simp only [hD] at hlaw
        have hDb : D ≤ 17592186044416 * 35184372088832 := by omega
        have hshl := fun w => hide (shl32_any w (D / 18446744073709551616) (D % 18446744073709551616) ⟨by omega, by omega⟩ ⟨by omega, by omega⟩)
        rw [v128_parts] at hshl
        have hceil := fun w => hide (isqrtCeil_any w (D * 4294967296 / 18446744073709551616) (D * 4294967296 % 18446744073709551616) ⟨by omega, by omega⟩ ⟨by omega, by omega⟩ (by rw [v128_parts]; omega))
        rw [v128_parts] at hceil
        clear hP hCC hD lg1 lg2 hmeet hrl hrl0 hcc d1 st43
        generalize D * 4294967296 / 18446744073709551616 = sh at *
        generalize D * 4294967296 % 18446744073709551616 = sl at *
        generalize D / 18446744073709551616 = Dh at *
        generalize D % 18446744073709551616 = Dl at *
        generalize P / 18446744073709551616 = Ph at *
        generalize P % 18446744073709551616 = Pl at *
        generalize CC / 18446744073709551616 = Ch at *
        generalize CC % 18446744073709551616 = Cl at *
        have hLw : IntKind.u64.wrap L = L := by rw [IntKind.wrap_u64]; omega
        have hrrw : IntKind.u64.wrap rr = rr := by rw [IntKind.wrap_u64]; omega
        go_enter Try.func35, Try.ntmps35
        go_wp2_with fail
        refine (HS _).out.mono ?_
        rintro x w1 ⟨rfl, b1⟩
        have B1 := hide b1
        clear b1 HS
        go_wp2_with fail
        refine (HV _).out.mono ?_
        rintro x w2 ⟨rfl, b2⟩
        have HE : Hid (EV w (w2.alloc (.cells #[.int .i64 dx, .int .i64 dy, .int .i64 ux, .int .i64 uy, .int .i64 al, .int .i64 L] 102)) w2.heap.size dx dy ux uy al L) :=
          ⟨by simp [go_sem], by simp [go_sem], by simp [go_sem], by simp [go_sem], by simp [go_sem], by simp [go_sem], belAl (lec B1.out b2) _⟩
        have hps : w.heap.size ≤ w2.heap.size := (lec B1.out b2).size
        clear b2 B1 HV
        go_upto_region 7 with fail
        generalize w2.alloc (.cells #[.int .i64 dx, .int .i64 dy, .int .i64 ux, .int .i64 uy, .int .i64 al, .int .i64 L] 102) = W at *
        generalize w2.heap.size = ps at *
        have k0 := HE.out.c0
        have k1 := HE.out.c1
        have k2 := HE.out.c2
        have k3 := HE.out.c3
        have k4 := HE.out.c4
        have k5 := HE.out.c5
        go_wp2_with fail
        refine (HST _ al L).out.mono ?_
        rintro x w3 ⟨rfl, b3⟩
        have HE3 := hide (HE.out.below b3)
        clear b3 HST HE k0 k1 k2 k3 k4 k5
        go_upto_region 9 with fail
        go_cut [20] (fun x wx => ∃ pu, x = .pointer (some ⟨pu, 0, none⟩) ∧ UB wx pu Dh Dl ∧ EV w wx ps dx dy ux uy al L)
        case first =>
          have k0 := HE3.out.drew.c0
          have k1 := HE3.out.drew.c1
          have k2 := HE3.out.drew.c2
          have k3 := HE3.out.drew.c3
          have k4 := HE3.out.drew.c4
          have k5 := HE3.out.drew.c5
          have j0 := (HE3.out.al (.cells #[.int .u64 0, .int .u64 0] 108)).drew.c0
          have j1 := (HE3.out.al (.cells #[.int .u64 0, .int .u64 0] 108)).drew.c1
          have j2 := (HE3.out.al (.cells #[.int .u64 0, .int .u64 0] 108)).drew.c2
          have j3 := (HE3.out.al (.cells #[.int .u64 0, .int .u64 0] 108)).drew.c3
          have j4 := (HE3.out.al (.cells #[.int .u64 0, .int .u64 0] 108)).drew.c4
          have j5 := (HE3.out.al (.cells #[.int .u64 0, .int .u64 0] 108)).drew.c5
          go_region_law (first
            | (refine step_call rfl 85 #[.int .u64 rr, .int .u64 L] ?_ (hmul _).out ?_; (focus (simp [go_sem]; done)); rintro x w4 ⟨rfl, b4⟩; refine ⟨_, rfl, ?_⟩; (first | (have HE4 := hide (HE3.out.drew.below b4)) | (have HE4 := hide ((HE3.out.al _).drew.below b4); have HU4 := hide ((UB.new _ 0 0).drew.below b4))); clear b4; have p0 := HE4.out.c0; have p1 := HE4.out.c1; have p2 := HE4.out.c2; have p3 := HE4.out.c3; have p4 := HE4.out.c4; have p5 := HE4.out.c5; have r0 := (HE4.out.al (.cells #[.int .u64 0, .int .u64 0] 108)).c0; have r1 := (HE4.out.al (.cells #[.int .u64 0, .int .u64 0] 108)).c1; have r2 := (HE4.out.al (.cells #[.int .u64 0, .int .u64 0] 108)).c2; have r3 := (HE4.out.al (.cells #[.int .u64 0, .int .u64 0] 108)).c3; have r4 := (HE4.out.al (.cells #[.int .u64 0, .int .u64 0] 108)).c4; have r5 := (HE4.out.al (.cells #[.int .u64 0, .int .u64 0] 108)).c5)
            | (refine step_call rfl 83 #[.agg #[.int .i64 dx, .int .i64 dy, .int .i64 ux, .int .i64 uy, .int .i64 al, .int .i64 L]] ?_ (HCR _ al L).out ?_; (focus (simp [go_sem]; done)); rintro x w5 ⟨rfl, b5⟩; refine ⟨_, rfl, ?_⟩; (first | (have HU5 := hide (HU4.out.below b5); have HE5 := hide (HE4.out.below b5)) | (have HE5 := hide (HE4.out.below b5)) | (have HE5 := hide ((HE4.out.al _).below b5); have HU5 := hide ((UB.new _ 0 0).below b5))); clear b5)
            | (refine step_call rfl 84 #[.agg #[.int .u64 Ph, .int .u64 Pl], .agg #[.int .u64 Ch, .int .u64 Cl]] ?_ (hsub _).out ?_; (focus (simp [go_sem]; done)); rintro x w6 ⟨rfl, b6⟩; refine ⟨_, rfl, ?_⟩; (first | (have HU6 := hide (HU5.out.below b6); have HE6 := hide (HE5.out.below b6)) | (have HE6 := hide (HE5.out.below b6)) | (have HE6 := hide ((HE5.out.al _).below b6); have HU6 := hide ((UB.new _ 0 0).below b6))); (try (have y0 := HU6.out.c0; have y1 := HU6.out.c1; have yf := HU6.out.fr)); clear b6))
          all_goals
            go_wp2_with fail
            go_meet
            case rel => first
              | exact ⟨_, rfl, UB.new _ Dh Dl, HE6.out.al _⟩
              | exact ⟨_, rfl, HU6.out.set, HE6.out.set2 (by have := HE3.out.lt; omega) HE3.out.bel.size⟩
              | exact ⟨_, rfl, HU6.out.set, HE6.out.set2 (by have := HE4.out.lt; omega) HE4.out.bel.size⟩
              | exact ⟨_, rfl, HU6.out.set, HE6.out.set2 (by have := HE5.out.lt; omega) HE5.out.bel.size⟩
        obtain ⟨pu, rfl, hub, hev⟩ := hcut
        have HE := hide hev
        have y0 := hub.c0
        have y1 := hub.c1
        clear hub hev HE3 hmul hsub HCR
        go_wp2_with fail
        refine (hshl _).out.mono ?_
        rintro x w7 ⟨rfl, b7⟩
        have HE7 := hide (HE.out.below b7)
        clear b7 HE y0 y1 hshl
        go_wp2_with fail
        refine (hceil _).out.mono ?_
        rintro x w8 ⟨back, rfl, hbk, hbk2, b8⟩
        have HE8 := hide (HE7.out.below b8)
        have HF := hlaw back hbk
        have hb0 := hbk.1
        have hb1 := HF.out.bk
        have HFE := hide HF.out.ent
        have hfd := fun w => hide (floorDiv64_any w (al * 65536 - back) L (by omega) (by omega) (by omega) (by omega) (by omega))
        rw [fq_posE (by omega)] at hfd
        obtain ⟨q, hq⟩ : ∃ q, (al * 65536 - back) / L = q := ⟨_, rfl⟩
        rw [hq] at hfd HFE
        clear hq hbk hbk2 b8 HE7 hceil hlaw HF
        have hbw : IntKind.i64.wrap back = back := by rw [IntKind.wrap_i64]; omega
        have haw : IntKind.i64.wrap (al * 65536) = al * 65536 := by rw [IntKind.wrap_i64]; omega
        have hsw : IntKind.i64.wrap (al * 65536 - back) = al * 65536 - back := by rw [IntKind.wrap_i64]; omega
        have z4 := HE8.out.c4
        have z5 := HE8.out.c5
        go_wp2_with fail
        refine (hfd _).out.mono ?_
        rintro x w9 ⟨rfl, rfl⟩
        go_wp2
        exact bodyPost_ret (v := .tuple #[.int .i64 q, .bool true, .int .i64 0]) (by simp [results, Try.results35, go_sem]) rfl ⟨q, rfl, ⟨nofun, fun _ => ⟨fun h => by rw [HRR.out] at h; omega, fun _ => HFE.out⟩⟩, HE8.out.bel⟩
end Go.Proofs.Qxb6500775a
