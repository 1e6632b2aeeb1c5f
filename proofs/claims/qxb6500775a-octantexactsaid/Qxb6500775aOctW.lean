import Derived.Test.Qxb6500775aBear3
import Derived.Test.Qxb6500775aOps
namespace Go.Proofs.Qxb6500775a
open Go.RowKit

theorem bear_lit {dx dy lit : Int} (hl : ∀ s, BearS dx dy s → s = lit) (w : World) (b : Nat) (x0 : -9223372036854775808 ≤ dx) (x1 : dx < 9223372036854775808) (y0 : -9223372036854775808 ≤ dy) (y1 : dy < 9223372036854775808) (h : Tabs w b) :
    Calls Try.prog 27 #[.pointer (some ⟨b, 0, none⟩), .int .i64 dx, .int .i64 dy] w fun e w' => e = .returned (.int .i64 lit) ∧ Below w.heap.size w w' ∧ Tabs w' b := by
  refine (bearing_any w b dx dy x0 x1 y0 y1 h).mono ?_
  rintro e w' ⟨s, rfl, hs, hb, ht⟩
  exact ⟨by rw [hl s hs], hb, ht⟩
theorem bear_div {dx dy o : Int} (ho : octP dx dy = o) (w : World) (b : Nat) (x0 : -9223372036854775808 ≤ dx) (x1 : dx < 9223372036854775808) (y0 : -9223372036854775808 ≤ dy) (y1 : dy < 9223372036854775808) (h : Tabs w b) :
    Calls Try.prog 27 #[.pointer (some ⟨b, 0, none⟩), .int .i64 dx, .int .i64 dy] w fun e w' => ∃ s : Int, e = .returned (.int .i64 s) ∧ (0 ≤ s ∧ s < 4096 ∧ s / 512 = o ∧ s.tdiv 512 = o ∧ IntKind.i64.wrap o = o) ∧ Below w.heap.size w w' ∧ Tabs w' b := by
  refine (bearing_any w b dx dy x0 x1 y0 y1 h).mono ?_
  rintro e w' ⟨s, rfl, hs, hb, ht⟩
  obtain ⟨s0, s1, s2⟩ := bear_oct x0 x1 y0 y1 hs
  rw [ho] at s2
  exact ⟨s, rfl, ⟨s0, s1, s2, by rw [Int.tdiv_eq_ediv_of_nonneg s0]; exact s2, by rw [IntKind.wrap_i64]; omega⟩, hb, ht⟩
set_option maxRecDepth 100000 in
set_option maxHeartbeats 8000000 in
theorem octantExact_walk (w : World) (a : Option Addr) (n cap : Nat) (f : Nat → Nat → Int) (hn : n ≤ 9223372036854775807) (ho : OpsAt w a n f) :
    Calls Try.prog 6 #[.slice a n cap] w fun e w' => e = .returned (.bool true) ∧ Below w.heap.size w w' := by
  have HO := hide ho
  clear ho
  by_cases hsm : n ≤ 65536
  · go_enter Try.func6, Try.ntmps6
    go_wp2_with fail
    refine (small_any _ a n cap hn).mono ?_
    rintro e w' ⟨rfl, rfl⟩
    have hd : decide (n ≤ 65536) = true := by simpa using hsm
    rw [hd]
    clear hd
    go_wp2_with fail
    refine (new_any _).mono ?_
    rintro e w1 ⟨rfl, ht, hb⟩
    have HT := hide ht
    have HB := hide hb
    clear ht hb
    generalize hbb : w'.heap.size = b at *
    go_wp2
    go_loopw [4] (fun i wr => ∃ k : Nat, k ≤ n ∧ i = .int .i64 k ∧ Below b w' wr ∧ Tabs wr b) (fun i _ => n - (intOf i).toNat)
    case atStart => exact ⟨0, Nat.zero_le _, rfl, HB.out, HT.out⟩
    case round =>
      clear HT HB
      obtain ⟨k, hk, rfl, hbel, htab⟩ := hrel
      by_cases hlt : k < n
      · obtain ⟨bo, off, rfl, hf⟩ := HO.out k hlt
        have hc : ∀ j, j < 8 → wr.cell? ⟨bo, off + k * 8 + j, none⟩ = some (.int .i64 (f k j)) := fun j hj => (hbel.cell (by rw [← hbb]; exact World.block_lt_of_cell? _ _ (hf j hj).1)).trans (hf j hj).1
        have o0 : wr.cell? ⟨bo, off + k * 8, none⟩ = some (.int .i64 (f k 0)) := by simpa using hc 0 (by omega)
        have o1 := hc 1 (by omega)
        have o2 := hc 2 (by omega)
        have o3 := hc 3 (by omega)
        have o4 := hc 4 (by omega)
        have o5 := hc 5 (by omega)
        have o6 := hc 6 (by omega)
        have o7 := hc 7 (by omega)
        have q1 := (hf 1 (by omega)).2
        have q2 := (hf 2 (by omega)).2
        have HBel := hide hbel
        have HTab := hide htab
        clear hc hf hbel htab
        generalize f k 0 = kd at *
        generalize f k 1 = A at *
        generalize f k 2 = B at *
        generalize f k 3 = C at *
        generalize f k 4 = D at *
        generalize f k 5 = E at *
        generalize f k 6 = F at *
        generalize f k 7 = Gg at *
        have BB := hide ((Below.refl wr.heap.size wr).alloc (Nat.le_refl _) (.cells #[.int .i64 kd, .int .i64 A, .int .i64 B, .int .i64 C, .int .i64 D, .int .i64 E, .int .i64 F, .int .i64 Gg] 30))
        by_cases hkd : kd = 35 ∨ kd = 37
        · have rest : ∀ (hk' : (kd != 35) = false ∨ ((kd != 35) = true ∧ (kd != 37) = false)), True := fun _ => trivial
          have hk' : (kd != 35) = false ∨ ((kd != 35) = true ∧ (kd != 37) = false) := by
            rcases hkd with z | z
            · left; simp [z]
            · right; simp [z]
          clear hkd rest
          have hcall29 := fun w => hide (octantOf_any w A B q1.1 q1.2 q2.1 q2.2)
          obtain ⟨o, hoct⟩ : ∃ o, octP A B = o := ⟨_, rfl⟩
          rw [hoct] at hcall29
          have hcall27 := fun w h => hide (bear_div hoct w b q1.1 q1.2 q2.1 q2.2 h)
          clear hoct
          go_upto_region 8 with fail
          generalize hW : wr.alloc (.cells #[.int .i64 kd, .int .i64 A, .int .i64 B, .int .i64 C, .int .i64 D, .int .i64 E, .int .i64 F, .int .i64 Gg] 30) = W at *
          have t0 : W.cell? ⟨wr.heap.size, 0, none⟩ = some (.int .i64 kd) := by rw [← hW]; simp [go_sem]
          have t1 : W.cell? ⟨wr.heap.size, 1, none⟩ = some (.int .i64 A) := by rw [← hW]; simp [go_sem]
          have t2 : W.cell? ⟨wr.heap.size, 2, none⟩ = some (.int .i64 B) := by rw [← hW]; simp [go_sem]
          have HTW := hide (HTab.out.below BB.out)
          have HBW : Hid (Below b w' W) := HBel.out.trans (BB.out.mono (by have := HBel.out.size; rw [hbb] at this; exact this))
          have hbW : Hid (b ≤ W.heap.size) := hide (by have := HBW.out.size; rw [hbb] at this; exact this)
          clear hW o0 o1 o2 o3 o4 o5 o6 o7 HTab HBel BB
          generalize wr.heap.size = p at *
          go_cut [28] (fun s wx => s = .bool false ∧ wx = W)
          case first =>
            rcases hk' with z1 | ⟨z1, z2⟩
            all_goals
              go_wp2_with fail
              go_meet
              case rel => exact ⟨rfl, rfl⟩
          obtain ⟨rfl, rfl⟩ := hcut
          clear hk' t0
          go_upto_region 9 with fail
          go_cut [41] (fun s wx => s = .bool false ∧ wx.cell? ⟨p, 1, none⟩ = some (.int .i64 A) ∧ Below b w' wx ∧ Tabs wx b)
          case first =>
            replace t1 : wc.drew.cell? ⟨p, 1, none⟩ = some (.int .i64 A) := t1
            replace t2 : wc.drew.cell? ⟨p, 2, none⟩ = some (.int .i64 B) := t2
            replace HTW := hide HTW.out.drew
            go_region_law (first
              | (refine step_call rfl 27 #[.pointer (some ⟨b, 0, none⟩), .int .i64 A, .int .i64 B] ?_ (hcall27 _ HTW.out).out ?_; (focus (simp [go_sem]; done)); rintro e w3 ⟨s, rfl, ⟨s0, s1, s2, s3, s4⟩, hb3, ht3⟩; refine ⟨_, rfl, ?_⟩; have HT3 := hide ht3; have HB3 : Hid (Below b w' w3) := HBW.out.trans ((of_drew hb3).mono hbW.out); have u1 := cellKeep hb3 t1; have u2 := cellKeep hb3 t2; clear hb3 ht3)
              | (refine step_call rfl 29 #[.int .i64 A, .int .i64 B] ?_ (hcall29 _).out ?_; (focus (simp [go_sem]; done)); rintro e w4 ⟨rfl, rfl⟩; refine ⟨_, rfl, ?_⟩))
            all_goals
              go_wp2_with fail
              go_meet
              case rel => exact ⟨by simp, u1, HB3.out, HT3.out⟩
          obtain ⟨rfl, t1', hB3, hT3⟩ := hcut
          have HB3 := hide hB3
          have HT3 := hide hT3
          clear t1 t2 hcall27 hcall29 HTW HBW hbW hB3 hT3
          have hb3 := HB3.out.size
          rw [hbb] at hb3
          by_cases hA : A ≤ 0
          · go_wp2
            go_roundw
            case rel => exact ⟨k + 1, by omega, by go_num, HB3.out, HT3.out⟩
            case measure => simp [intOf]; omega
          · obtain ⟨r0, r1, r2, r3, r4, r5, r6, r7⟩ := bear_rays (k := A) (by omega)
            have c0 := fun w h => hide (bear_lit r0 w b (by omega) (by omega) (by omega) (by omega) h)
            have c1 := fun w h => hide (bear_lit r1 w b (by omega) (by omega) (by omega) (by omega) h)
            have c2 := fun w h => hide (bear_lit r2 w b (by omega) (by omega) (by omega) (by omega) h)
            have c3 := fun w h => hide (bear_lit r3 w b (by omega) (by omega) (by omega) (by omega) h)
            have c4 := fun w h => hide (bear_lit r4 w b (by omega) (by omega) (by omega) (by omega) h)
            have c5 := fun w h => hide (bear_lit r5 w b (by omega) (by omega) (by omega) (by omega) h)
            have c6 := fun w h => hide (bear_lit r6 w b (by omega) (by omega) (by omega) (by omega) h)
            have c7 := fun w h => hide (bear_lit r7 w b (by omega) (by omega) (by omega) (by omega) h)
            clear r0 r1 r2 r3 r4 r5 r6 r7
            go_wp2_with fail
            refine (c0 _ HT3.out).out.mono ?_
            rintro e w3 ⟨rfl, hb4, ht4⟩
            have HB4 := hide (HB3.out.trans (hb4.mono hb3))
            clear HT3 HB3 hb3 c0
            have HT3 := hide ht4
            have HB3 := HB4
            have hb3 := HB3.out.size
            rw [hbb] at hb3
            clear HB4 hb4 ht4
            go_wp2_with fail
            refine (c1 _ HT3.out).out.mono ?_
            rintro e w3 ⟨rfl, hb4, ht4⟩
            have HB4 := hide (HB3.out.trans (hb4.mono hb3))
            clear HT3 HB3 hb3 c1
            have HT3 := hide ht4
            have HB3 := HB4
            have hb3 := HB3.out.size
            rw [hbb] at hb3
            clear HB4 hb4 ht4
            go_wp2_with fail
            refine (c2 _ HT3.out).out.mono ?_
            rintro e w3 ⟨rfl, hb4, ht4⟩
            have HB4 := hide (HB3.out.trans (hb4.mono hb3))
            clear HT3 HB3 hb3 c2
            have HT3 := hide ht4
            have HB3 := HB4
            have hb3 := HB3.out.size
            rw [hbb] at hb3
            clear HB4 hb4 ht4
            go_wp2_with fail
            refine (c3 _ HT3.out).out.mono ?_
            rintro e w3 ⟨rfl, hb4, ht4⟩
            have HB4 := hide (HB3.out.trans (hb4.mono hb3))
            clear HT3 HB3 hb3 c3
            have HT3 := hide ht4
            have HB3 := HB4
            have hb3 := HB3.out.size
            rw [hbb] at hb3
            clear HB4 hb4 ht4
            go_wp2_with fail
            refine (c4 _ HT3.out).out.mono ?_
            rintro e w3 ⟨rfl, hb4, ht4⟩
            have HB4 := hide (HB3.out.trans (hb4.mono hb3))
            clear HT3 HB3 hb3 c4
            have HT3 := hide ht4
            have HB3 := HB4
            have hb3 := HB3.out.size
            rw [hbb] at hb3
            clear HB4 hb4 ht4
            go_wp2_with fail
            refine (c5 _ HT3.out).out.mono ?_
            rintro e w3 ⟨rfl, hb4, ht4⟩
            have HB4 := hide (HB3.out.trans (hb4.mono hb3))
            clear HT3 HB3 hb3 c5
            have HT3 := hide ht4
            have HB3 := HB4
            have hb3 := HB3.out.size
            rw [hbb] at hb3
            clear HB4 hb4 ht4
            go_wp2_with fail
            refine (c6 _ HT3.out).out.mono ?_
            rintro e w3 ⟨rfl, hb4, ht4⟩
            have HB4 := hide (HB3.out.trans (hb4.mono hb3))
            clear HT3 HB3 hb3 c6
            have HT3 := hide ht4
            have HB3 := HB4
            have hb3 := HB3.out.size
            rw [hbb] at hb3
            clear HB4 hb4 ht4
            go_wp2_with fail
            refine (c7 _ HT3.out).out.mono ?_
            rintro e w3 ⟨rfl, hb4, ht4⟩
            have HB4 := hide (HB3.out.trans (hb4.mono hb3))
            clear HT3 HB3 hb3 c7
            have HT3 := hide ht4
            have HB3 := HB4
            have hb3 := HB3.out.size
            rw [hbb] at hb3
            clear HB4 hb4 ht4
            go_wp2
            go_roundw
            case rel => exact ⟨k + 1, by omega, by go_num, HB3.out, HT3.out⟩
            case measure => simp [intOf]; omega
        · have n1 : (kd != 35) = true := by simp; omega
          have n2 : (kd != 37) = true := by simp; omega
          clear hkd
          go_wp2
          go_roundw
          case rel => exact ⟨k + 1, by omega, by go_num, HBel.out.trans (BB.out.mono (by have := HBel.out.size; rw [hbb] at this; exact this)), HTab.out.below BB.out⟩
          case measure => simp [intOf]; omega
      · go_wp2
        go_ret
        exact ⟨rfl, by rw [hbb]; exact hbel⟩
  · go_enter Try.func6, Try.ntmps6
    go_wp2_with fail
    refine (small_any _ a n cap hn).mono ?_
    rintro e w' ⟨rfl, rfl⟩
    have hd : decide (n ≤ 65536) = false := by simpa using hsm
    rw [hd]
    clear hd
    go_wp2
    go_ret
    exact ⟨rfl, Below.refl _ _⟩
end Go.Proofs.Qxb6500775a
