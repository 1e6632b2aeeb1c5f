import Derived.Test.Qxb6500775aInSec
import Derived.Test.Qxb6500775aSecP
import Derived.Test.Qxb6500775aOps
namespace Go.Proofs.Qxb6500775a
open Go.RowKit

theorem crs_cr (dx dy : Int) (s : Nat) : crs dx dy s = cr (dx, dy) (dirP s) := rfl
/-- The bearing is the one step whose sector holds the vector. -/
theorem bear_sector {dx dy s0 : Int} (x0 : -9223372036854775808 ≤ dx) (x1 : dx < 9223372036854775808) (y0 : -9223372036854775808 ≤ dy) (y1 : dy < 9223372036854775808) (hz : ¬ (dx = 0 ∧ dy = 0)) (h : BearS dx dy s0) :
    ∃ S0 : Nat, s0 = S0 ∧ S0 < 4096 ∧ ∀ s, s < 4096 → inSec dx dy s = decide (s = S0) := by
  have hz' : ¬ (abs' dx = 0 ∧ abs' dy = 0) := fun h => hz ⟨abs_zero.1 h.1, abs_zero.1 h.2⟩
  rcases h with ⟨a, b, -⟩ | ⟨-, h⟩
  · exact absurd ⟨a, b⟩ hz'
  obtain ⟨-, -, wu, wv, v0⟩ := fold_ok (abs_word x0 x1) (abs_word y0 y1) abs_sign abs_sign hz'
  obtain ⟨q, hq, hq3, hrot⟩ := fold_rot hz
  rw [hq] at h
  generalize (foldP (decide (dx < 0)) (abs' dx) (decide (dy < 0)) (abs' dy)).2.1 = u at *
  generalize (foldP (decide (dx < 0)) (abs' dx) (decide (dy < 0)) (abs' dy)).2.2 = v at *
  obtain ⟨j0, hj0, rfl, c0, c1⟩ := bear_j wu.1 v0 h
  refine ⟨q * 1024 + j0, by omega, by omega, fun s hs => ?_⟩
  obtain ⟨j, hj⟩ : ∃ j, j = (s + 4096 - q * 1024) % 4096 := ⟨_, rfl⟩
  have hj4 : j < 4096 := by omega
  have e1 : s = (q * 1024 + j) % 4096 := by omega
  have e2 : (s + 1) % 4096 = (q * 1024 + (j + 1) % 4096) % 4096 := by omega
  have f1 : crs dx dy s = cr (u, v) (dirP j) := by rw [crs_cr, ← hrot, e1, rot_dir q j hj4, cr_rot]
  have f2 : crs dx dy ((s + 1) % 4096) = cr (u, v) (dirP ((j + 1) % 4096)) := by rw [crs_cr, ← hrot, e2, rot_dir q _ (by omega), cr_rot]
  unfold inSec
  rw [f1, f2]
  have key := c_at wu.1 v0 hj0 c0 c1 hj4
  rw [decide_eq_decide, key]
  constructor <;> intro hh <;> omega
/-- What the law on sectors has at hand in a round. -/
structure BI (w wx : World) (b bm po : Nat) (kd A B : Int) : Prop where
  tab : Tabs wx b
  mt : MTabs wx bm
  o0 : wx.cell? ⟨po, 0, none⟩ = some (.int .i64 kd)
  o1 : wx.cell? ⟨po, 1, none⟩ = some (.int .i64 A)
  o2 : wx.cell? ⟨po, 2, none⟩ = some (.int .i64 B)
  bel : Below b w wx
  sz : b ≤ wx.heap.size
theorem BI.below {w wx wy : World} {b bm po : Nat} {kd A B : Int} (h : BI w wx b bm po kd A B) (hb : Below wx.heap.size wx wy) : BI w wy b bm po kd A B :=
  ⟨h.tab.below hb, h.mt.below hb, cellKeep hb h.o0, cellKeep hb h.o1, cellKeep hb h.o2, h.bel.trans (hb.mono h.sz), Nat.le_trans h.sz hb.size⟩
theorem BI.drew {w wx : World} {b bm po : Nat} {kd A B : Int} (h : BI w wx b bm po kd A B) : BI w wx.drew b bm po kd A B := h.below (Below.refl _ _).drew
set_option maxRecDepth 100000 in
set_option maxHeartbeats 8000000 in
theorem sector_walk (w : World) (a : Option Addr) (n cap : Nat) (f : Nat → Nat → Int) (hn : n ≤ 9223372036854775807) (ho : OpsAt w a n f) :
    Calls Try.prog 5 #[.slice a n cap] w fun e w' => e = .returned (.bool true) ∧ Below w.heap.size w w' := by
  have HO := hide ho
  clear ho
  by_cases hsm : n ≤ 65536
  · go_enter Try.func5, Try.ntmps5
    go_wp2_with fail
    refine (small_any _ a n cap hn).mono ?_
    rintro e w' ⟨rfl, rfl⟩
    have hd : decide (n ≤ 65536) = true := by simpa using hsm
    rw [hd]
    clear hd
    go_wp2_with fail
    refine (new_any _).mono ?_
    rintro e w1 ⟨rfl, ht, hb⟩
    have HT := hide ht
    have HB := hide hb
    clear ht hb
    generalize hbb : w'.heap.size = b at *
    go_wp2_with fail
    refine (newTable_any _).mono ?_
    rintro e w2 ⟨rfl, hm, hb2⟩
    have HM := hide hm
    have HT2 := hide (HT.out.below hb2)
    have hb1 : b ≤ w1.heap.size := by have := HB.out.size; rw [hbb] at this; exact this
    have HB2 : Hid (Below b w' w2) := HB.out.trans (hb2.mono hb1)
    clear HT HB hm hb2 hb1
    generalize w1.heap.size = bm at *
    go_wp2
    go_loopw [5] (fun i wr => ∃ k : Nat, k ≤ n ∧ i = .int .i64 k ∧ Below b w' wr ∧ Tabs wr b ∧ MTabs wr bm) (fun i _ => n - (intOf i).toNat)
    case atStart => exact ⟨0, Nat.zero_le _, rfl, HB2.out, HT2.out, HM.out⟩
    case round =>
      clear HT2 HB2 HM
      obtain ⟨k, hk, rfl, hbel, htab, hmt⟩ := hrel
      by_cases hlt : k < n
      · obtain ⟨bo, off, rfl, hf⟩ := HO.out k hlt
        have hc : ∀ j, j < 8 → wr.cell? ⟨bo, off + k * 8 + j, none⟩ = some (.int .i64 (f k j)) := fun j hj => (hbel.cell (by rw [← hbb]; exact World.block_lt_of_cell? _ _ (hf j hj).1)).trans (hf j hj).1
        have o0 : wr.cell? ⟨bo, off + k * 8, none⟩ = some (.int .i64 (f k 0)) := by simpa using hc 0 (by omega)
        have o1 := hc 1 (by omega)
        have o2 := hc 2 (by omega)
        have o3 := hc 3 (by omega)
        have o4 := hc 4 (by omega)
        have o5 := hc 5 (by omega)
        have o6 := hc 6 (by omega)
        have o7 := hc 7 (by omega)
        have q1 := (hf 1 (by omega)).2
        have q2 := (hf 2 (by omega)).2
        have HBel := hide hbel
        have HTab := hide htab
        have HMt := hide hmt
        clear hc hf hbel htab hmt
        generalize f k 0 = kd at *
        generalize f k 1 = A at *
        generalize f k 2 = B at *
        generalize f k 3 = C at *
        generalize f k 4 = D at *
        generalize f k 5 = E at *
        generalize f k 6 = F at *
        generalize f k 7 = Gg at *
        go_upto_region 9 with fail
        have BB := hide ((Below.refl wr.heap.size wr).alloc (Nat.le_refl _) (.cells #[.int .i64 kd, .int .i64 A, .int .i64 B, .int .i64 C, .int .i64 D, .int .i64 E, .int .i64 F, .int .i64 Gg] 30))
        have hsz : b ≤ wr.heap.size := by have := HBel.out.size; rw [hbb] at this; exact this
        have HD : Hid (BI w' (wr.alloc (.cells #[.int .i64 kd, .int .i64 A, .int .i64 B, .int .i64 C, .int .i64 D, .int .i64 E, .int .i64 F, .int .i64 Gg] 30)) b bm wr.heap.size kd A B) :=
          ⟨HTab.out.below BB.out, HMt.out.below BB.out, by simp [go_sem], by simp [go_sem], by simp [go_sem], HBel.out.trans (BB.out.mono hsz), Nat.le_trans hsz BB.out.size⟩
        clear o0 o1 o2 o3 o4 o5 o6 o7 HTab HMt HBel BB hsz
        generalize wr.alloc (.cells #[.int .i64 kd, .int .i64 A, .int .i64 B, .int .i64 C, .int .i64 D, .int .i64 E, .int .i64 F, .int .i64 Gg] 30) = W at *
        generalize wr.heap.size = po at *
        have t0 := HD.out.o0
        have t1 := HD.out.o1
        have t2 := HD.out.o2
        by_cases h35 : kd = 35
        · subst h35
          go_wp2_with fail
          refine (bearing_any _ b A B q1.1 q1.2 q2.1 q2.2 HD.out.tab).mono ?_
          rintro e w3 ⟨s0, rfl, hs0, hb3, ht3⟩
          have HD3 := hide (HD.out.below hb3)
          clear hb3 ht3 HD t0 t1 t2
          have t1 := HD3.out.o1
          have t2 := HD3.out.o2
          by_cases hz : A = 0 ∧ B = 0
          · obtain ⟨rfl, rfl⟩ := hz
            have h00 : s0 = 0 := by
              rcases hs0 with ⟨-, -, z⟩ | ⟨z, -⟩
              · exact z
              · exact absurd ⟨rfl, rfl⟩ z
            subst h00
            have HD := HD3
            clear HD3 hs0
            go_wp2
            go_roundw
            case rel => exact ⟨k + 1, by omega, by go_num, HD.out.bel, HD.out.tab, HD.out.mt⟩
            case measure => simp [intOf]; omega
          · obtain ⟨S0, rfl, hS0, hsec⟩ := bear_sector q1.1 q1.2 q2.1 q2.2 hz hs0
            have HSec := hide hsec
            clear hsec hs0
            have nz : A = 0 ∧ (B == 0) = false ∨ (A == 0) = false := by
              rcases Classical.em (A = 0) with z | z
              · left; exact ⟨z, by simp; exact fun e => hz ⟨z, e⟩⟩
              · right; simpa using z
            clear hz
            have hS0i : (S0 : Int) < 4096 := by omega
            go_upto_region 11 with fail
            go_cut [40] (fun x wx => x = .bool false ∧ wx = w3)
            case first =>
              rcases nz with ⟨rfl, nz⟩ | nz
              all_goals
                go_wp2_with fail
                go_meet
                case rel => exact ⟨rfl, rfl⟩
            obtain ⟨rfl, rfl⟩ := hcut
            clear nz t1 t2
            go_wp2
            go_loopw [8] (fun sv wr => ∃ k2 : Nat, k2 ≤ 4096 ∧ sv = .int .i64 k2 ∧ BI w' wr b bm po 35 A B) (fun sv _ => 4096 - (intOf sv).toNat)
            case atStart => exact ⟨0, by omega, rfl, HD3.out⟩
            case round =>
              clear HD3
              obtain ⟨k2, hk2, rfl, hdi⟩ := hrel
              have HD := hide hdi
              clear hdi
              by_cases hlt2 : k2 < 4096
              · have hlt2i : (k2 : Int) < 4096 := by omega
                have hin := HSec.out k2 hlt2
                have heq : ((k2 : Int) == (S0 : Int)) = decide (k2 = S0) := by
                  by_cases e : k2 = S0
                  · subst e; simp
                  · have : (k2 : Int) ≠ (S0 : Int) := by omega
                    simp [e, this]
                have hcall := fun w sx sy ax ay lx cx ly cy h1 h2 h3 => hide (inSector_any w bm k2 sx sy ax ay lx cx ly cy A B hlt2 h1 h2 h3)
                rw [hin] at hcall
                clear hin
                go_upto_region 19 with fail
                go_cut [65] (fun x wx => x = .bool false ∧ BI w' wx b bm po 35 A B)
                case first =>
                  have u1 := HD.out.drew.o1
                  have u2 := HD.out.drew.o2
                  have tok1 : True := trivial
                  generalize decide (k2 = S0) = dd at *
                  go_region_law (first
                    | (refine step_call rfl 15 #[.int .i64 A] ?_ (Of_any _ A q1.1 q1.2) ?_; (focus (simp [go_sem]; done)); have _t := tok1; clear tok1; rintro e w6 ⟨s6, a6, n6, c6, rfl, i6, b6⟩; refine ⟨_, rfl, ?_⟩; have I6 := hide i6; have HD6 := hide (HD.out.drew.below b6); have y1 := HD6.out.o1; have y2 := HD6.out.o2; clear b6 i6)
                    | (refine step_call rfl 15 #[.int .i64 B] ?_ (Of_any _ B q2.1 q2.2) ?_; (focus (simp [go_sem]; done)); rintro e w7 ⟨s7, a7, n7, c7, rfl, i7, b7⟩; refine ⟨_, rfl, ?_⟩; have I7 := hide i7; have I6' := hide (I6.out.below b7); have HD7 := hide (HD6.out.below b7); clear b7 i7)
                    | (refine step_call rfl 28 #[.pointer (some ⟨bm, 0, none⟩), .int .i64 k2, .agg #[.bool s6, .slice a6 n6 c6], .agg #[.bool s7, .slice a7 n7 c7]] ?_ (hcall _ s6 s7 a6 a7 n6 c6 n7 c7 HD7.out.mt I6'.out I7.out).out ?_; (focus (simp [go_sem]; done)); rintro e w8 ⟨rfl, b8⟩; refine ⟨_, rfl, ?_⟩; have HD8 := hide (HD7.out.below b8); clear b8))
                  all_goals
                    go_wp2_with fail
                    go_meet
                    case rel => exact ⟨by simp, HD8.out⟩
                obtain ⟨rfl, hd8⟩ := hcut
                have HD8 := hide hd8
                clear hd8 HD hcall heq
                go_wp2
                go_roundw
                case rel => exact ⟨k2 + 1, by omega, by go_num, HD8.out⟩
                case measure => simp [intOf]; omega
              · obtain rfl : k2 = 4096 := by omega
                rw [show ((4096 : Nat) : Int) = 4096 from rfl]
                go_wp2
                go_roundw
                case rel => exact ⟨k + 1, by omega, by go_num, HD.out.bel, HD.out.tab, HD.out.mt⟩
                case measure => simp [intOf]; omega
        · have n35 : (kd != 35) = true := by simpa using h35
          clear h35
          go_wp2
          go_roundw
          case rel => exact ⟨k + 1, by omega, by go_num, HD.out.bel, HD.out.tab, HD.out.mt⟩
          case measure => simp [intOf]; omega
      · go_wp2
        go_ret
        exact ⟨rfl, by rw [hbb]; exact hbel⟩
  · go_enter Try.func5, Try.ntmps5
    go_wp2_with fail
    refine (small_any _ a n cap hn).mono ?_
    rintro e w' ⟨rfl, rfl⟩
    have hd : decide (n ≤ 65536) = false := by simpa using hsm
    rw [hd]
    clear hd
    go_wp2
    go_ret
    exact ⟨rfl, Below.refl _ _⟩
end Go.Proofs.Qxb6500775a
