import Derived.Test.Qxb6500775aMeets
namespace Go.Proofs.Qxb6500775a
open Go.RowKit

theorem hit_model (a b c d e f r : Int) : hitB a b c d e f r = (decide (0 ≤ r) && meetsB ((e - a) * (c - a) + (f - b) * (d - b)) ((c - a) * (c - a) + (d - b) * (d - b)) ((c - a) * (f - b) - (d - b) * (e - a)) ((a - e) * (a - e) + (b - f) * (b - f)) ((c - e) * (c - e) + (d - f) * (d - f)) r) := by
  unfold hitB
  rw [show (e - a) * (e - a) + (f - b) * (f - b) = (a - e) * (a - e) + (b - f) * (b - f) by grind, show (e - a - (c - a)) * (e - a - (c - a)) + (f - b - (d - b)) * (f - b - (d - b)) = (c - e) * (c - e) + (d - f) * (d - f) by grind]
theorem op8 {w w1 : World} {v0 v1 v2 v3 v4 v5 v6 v7 : Value} (b : Below (w.alloc (.cells #[v0, v1, v2, v3, v4, v5, v6, v7] 30)).heap.size (w.alloc (.cells #[v0, v1, v2, v3, v4, v5, v6, v7] 30)) w1) :
    w1.cell? ⟨w.heap.size, 0, none⟩ = some v0 ∧ w1.cell? ⟨w.heap.size, 1, none⟩ = some v1 ∧ w1.cell? ⟨w.heap.size, 2, none⟩ = some v2 ∧ w1.cell? ⟨w.heap.size, 3, none⟩ = some v3 ∧ w1.cell? ⟨w.heap.size, 4, none⟩ = some v4 ∧ w1.cell? ⟨w.heap.size, 5, none⟩ = some v5 ∧ w1.cell? ⟨w.heap.size, 6, none⟩ = some v6 ∧ w1.cell? ⟨w.heap.size, 7, none⟩ = some v7 := by
  refine ⟨?_, ?_, ?_, ?_, ?_, ?_, ?_, ?_⟩ <;> (rw [bat b _ (by simp)]; simp [go_sem])

set_option maxHeartbeats 4000000 in
theorem segDiscExact_walk (w : World) (a : Option Addr) (n cap : Nat) (f : Nat → Nat → Int) (hn : n ≤ 9223372036854775807) (ho : OpsAt w a n f) :
    Calls Try.prog 7 #[.slice a n cap] w fun e w' => e = .returned (.bool true) ∧ Below w.heap.size w w' := by
  have HO := hide ho
  clear ho
  by_cases hsm : n ≤ 65536
  · go_enter Try.func7, Try.ntmps7
    go_wp2_with fail
    refine (small_any _ a n cap hn).mono ?_
    rintro e w' ⟨rfl, rfl⟩
    have hd : decide (n ≤ 65536) = true := by simpa using hsm
    rw [hd]
    clear hd
    go_wp2
    go_loopw [3] (fun i wr => ∃ k : Nat, k ≤ n ∧ i = .int .i64 k ∧ Below w'.heap.size w' wr) (fun i _ => n - (intOf i).toNat)
    case atStart => exact ⟨0, Nat.zero_le _, rfl, Below.refl _ _⟩
    case round =>
      obtain ⟨k, hk, rfl, hbel⟩ := hrel
      by_cases hlt : k < n
      · obtain ⟨b, off, rfl, hf⟩ := HO.out k hlt
        have hc : ∀ j, j < 8 → wr.cell? ⟨b, off + k * 8 + j, none⟩ = some (.int .i64 (f k j)) := fun j hj => (hbel.cell (World.block_lt_of_cell? _ _ (hf j hj).1)).trans (hf j hj).1
        have o0 : wr.cell? ⟨b, off + k * 8, none⟩ = some (.int .i64 (f k 0)) := by simpa using hc 0 (by omega)
        have o1 := hc 1 (by omega)
        have o2 := hc 2 (by omega)
        have o3 := hc 3 (by omega)
        have o4 := hc 4 (by omega)
        have o5 := hc 5 (by omega)
        have o6 := hc 6 (by omega)
        have o7 := hc 7 (by omega)
        have q1 := (hf 1 (by omega)).2
        have q2 := (hf 2 (by omega)).2
        have q3 := (hf 3 (by omega)).2
        have q4 := (hf 4 (by omega)).2
        have q5 := (hf 5 (by omega)).2
        have q6 := (hf 6 (by omega)).2
        have q7 := (hf 7 (by omega)).2
        have HBel := hide hbel
        clear hc hf hbel
        generalize f k 0 = kd at *
        generalize f k 1 = A at *
        generalize f k 2 = B at *
        generalize f k 3 = C at *
        generalize f k 4 = D at *
        generalize f k 5 = E at *
        generalize f k 6 = F at *
        generalize f k 7 = Gg at *
        have BB := hide ((Below.refl wr.heap.size wr).alloc (Nat.le_refl _) (.cells #[.int .i64 kd, .int .i64 A, .int .i64 B, .int .i64 C, .int .i64 D, .int .i64 E, .int .i64 F, .int .i64 Gg] 30))
        by_cases h57 : kd = 57
        · subst h57
          cases hin : inB6 A B C D E F
          · go_wp2_with fail
            refine (SegDisc_out _ A B C D E F Gg hin).mono ?_
            rintro e w1 ⟨rfl, rfl⟩
            go_wp2_with fail
            refine (onMap_any _ 57 A B C D E F Gg).mono ?_
            rintro e w2 ⟨rfl, b2⟩
            rw [hin]
            have B2 := hide (lec BB.out b2)
            clear b2
            go_wp2
            go_roundw
            case rel => exact ⟨k + 1, by omega, by go_num, HBel.out.trans (B2.out.mono HBel.out.size)⟩
            case measure => simp [intOf]; omega
          · go_wp2_with fail
            refine (SegDisc_in _ A B C D E F Gg hin).mono ?_
            rintro e w1 ⟨rfl, b1⟩
            obtain ⟨t0, t1, t2, t3, t4, t5, t6, t7⟩ := op8 b1
            have B1 := hide (lec BB.out b1)
            clear b1
            go_wp2_with fail
            refine (onMap_any _ 57 A B C D E F Gg).mono ?_
            rintro e w2 ⟨rfl, b2⟩
            rw [hin]
            replace t0 := cellKeep b2 t0
            replace t1 := cellKeep b2 t1
            replace t2 := cellKeep b2 t2
            replace t3 := cellKeep b2 t3
            replace t4 := cellKeep b2 t4
            replace t5 := cellKeep b2 t5
            replace t6 := cellKeep b2 t6
            replace t7 := cellKeep b2 t7
            have B2 := hide (lec B1.out b2)
            clear b2 B1 o0 o1 o2 o3 o4 o5 o6 o7
            by_cases hG : 0 ≤ Gg
            · have HH := hide (hit_model A B C D E F Gg)
              go_upto_region 12 with fail
              have zS := And.intro t0 (And.intro t1 (And.intro t2 (And.intro t3 (And.intro t4 (And.intro t5 (And.intro t6 t7))))))
              clear t0 t1 t2 t3 t4 t5 t6 t7
              have ztok1 : True := trivial
              have ztok2 : True := trivial
              go_region_held3 (fun w' => w'.cell? ⟨wr.heap.size, 0, none⟩ = some (.int .i64 57) ∧ w'.cell? ⟨wr.heap.size, 1, none⟩ = some (.int .i64 A) ∧ w'.cell? ⟨wr.heap.size, 2, none⟩ = some (.int .i64 B) ∧ w'.cell? ⟨wr.heap.size, 3, none⟩ = some (.int .i64 C) ∧ w'.cell? ⟨wr.heap.size, 4, none⟩ = some (.int .i64 D) ∧ w'.cell? ⟨wr.heap.size, 5, none⟩ = some (.int .i64 E) ∧ w'.cell? ⟨wr.heap.size, 6, none⟩ = some (.int .i64 F) ∧ w'.cell? ⟨wr.heap.size, 7, none⟩ = some (.int .i64 Gg)) (first | (with_reducible exact zS) | (with_reducible exact (by simpa only [World.cell?_drew] using zS)) | (simp [*, go_sem, World.cell?_alloc_some]; done))
                (first
                  | (go_at_call 32; have _t := ztok1; clear ztok1; refine (SegOf_any _ 57 A B C D E F Gg q1 q2 q3 q4 q5 q6).mono ?_; rintro e zw1 ⟨v, rfl, hseg, zb1⟩; (try replace zb1 := of_drew zb1); have zS := (And.intro (cellKeep zb1 zS.1) (And.intro (cellKeep zb1 zS.2.1) (And.intro (cellKeep zb1 zS.2.2.1) (And.intro (cellKeep zb1 zS.2.2.2.1) (And.intro (cellKeep zb1 zS.2.2.2.2.1) (And.intro (cellKeep zb1 zS.2.2.2.2.2.1) (And.intro (cellKeep zb1 zS.2.2.2.2.2.2.1) (cellKeep zb1 zS.2.2.2.2.2.2.2)))))))); have B2 := hide (lecB B2.out zb1); clear zb1; obtain ⟨s1, a1, n1, c1, s2, a2, n2, c2, s3, a3, n3, c3, s4, a4, n4, c4, s5, a5, n5, c5, rfl, i1, i2, i3, i4, i5⟩ := hseg; have J1 := hide i1; have J2 := hide i2; have J3 := hide i3; have J4 := hide i4; have J5 := hide i5; clear i1 i2 i3 i4 i5)
                  | (go_at_call 33; have _t := ztok2; clear ztok2; refine (Meets_any _ s1 a1 n1 c1 s2 a2 n2 c2 s3 a3 n3 c3 s4 a4 n4 c4 s5 a5 n5 c5 _ _ _ _ _ Gg q7 J1.out J2.out J3.out J4.out J5.out).mono ?_; rintro e zw2 ⟨rfl, zb2⟩; (try replace zb2 := of_drew zb2); have zS := (And.intro (cellKeep zb2 zS.1) (And.intro (cellKeep zb2 zS.2.1) (And.intro (cellKeep zb2 zS.2.2.1) (And.intro (cellKeep zb2 zS.2.2.2.1) (And.intro (cellKeep zb2 zS.2.2.2.2.1) (And.intro (cellKeep zb2 zS.2.2.2.2.2.1) (And.intro (cellKeep zb2 zS.2.2.2.2.2.2.1) (cellKeep zb2 zS.2.2.2.2.2.2.2)))))))); have B2 := hide (lecB B2.out zb2); clear zb2; have hE := HH.out; rw [decide_eq_true hG, Bool.true_and] at hE; rw [← hE]; clear hE))
              go_wp2
              go_roundw
              case rel => exact ⟨k + 1, by omega, by go_num, HBel.out.trans (B2.out.mono HBel.out.size)⟩
              case measure => simp [intOf]; omega
            · have hg : decide (0 ≤ Gg) = false := decide_eq_false hG
              have hh := hit_neg (a := A) (b := B) (c := C) (d := D) (e := E) (f := F) (r := Gg) (by omega)
              rw [hh]
              clear hh
              go_upto_region 12 with fail
              go_quiet (fail)
              go_wp2
              go_roundw
              case rel => exact ⟨k + 1, by omega, by go_num, HBel.out.trans ((B2.out.trans (below_drewN _ _ _)).mono HBel.out.size)⟩
              case measure => simp [intOf]; omega
        · have hne : (kd != 57) = true := by simp [h57]
          clear h57
          go_wp2
          go_roundw
          case rel => exact ⟨k + 1, by omega, by go_num, HBel.out.trans (BB.out.mono HBel.out.size)⟩
          case measure => simp [intOf]; omega
      · go_wp2
        go_ret
        exact ⟨rfl, hbel⟩
  · go_enter Try.func7, Try.ntmps7
    go_wp2_with fail
    refine (small_any _ a n cap hn).mono ?_
    rintro e w' ⟨rfl, rfl⟩
    have hd : decide (n ≤ 65536) = false := by simpa using hsm
    rw [hd]
    clear hd
    go_wp2
    go_ret
    exact ⟨rfl, Below.refl _ _⟩
end Go.Proofs.Qxb6500775a
