import Derived.Test.Qxb6500778aParse
namespace Go.Proofs.Qxb6500778a
open Go.RowKit

set_option maxRecDepth 100000 in
set_option maxHeartbeats 4000000 in
theorem parser_walk (w : World) (a : Option Addr) (n cap : Nat) (T : Nat → Txt) (hn : n ≤ 9223372036854775807) (ho : OpsAt w a n T) :
    Calls Try.prog 5 #[.slice a n cap] w fun e w' => e = .returned (.bool true) ∧ Below w.heap.size w w' := by
  have HO := hide ho
  clear ho
  go_enter Try.func5, Try.ntmps5
  go_wp2_with fail
  refine (small_any _ a n cap T hn HO.out).mono ?_
  rintro e w' ⟨bb, rfl, rfl⟩
  cases bb
  · go_wp2
    go_ret
    exact ⟨rfl, Below.refl _ _⟩
  go_wp2
  go_loopw [3] (fun i wr => ∃ k : Nat, k ≤ n ∧ i = .int .i64 k ∧ Below w'.heap.size w' wr) (fun i _ => n - (intOf i).toNat)
  case atStart => exact ⟨0, Nat.zero_le _, rfl, Below.refl _ _⟩
  case round =>
    obtain ⟨k, hk, rfl, hbel⟩ := hrel
    have HBw := hide hbel
    clear hbel
    by_cases hlt : k < n
    · obtain ⟨b, off, rfl, hc, h1, h2, h3⟩ := (HO.out.below HBw.out) k hlt
      have HBy := hide h3
      clear h3
      generalize (T k).a = ta at *
      generalize (T k).n = tn at *
      generalize (T k).c = tc at *
      go_wp2_with fail
      refine (parse_any _ ta tn tc h1 h2 HBy.out).mono ?_
      rintro e w1 ⟨id, v, er, at_, rfl, hb1, hok, hbad⟩
      have HB1 : Hid (Below w'.heap.size w' w1) := HBw.out.trans (hb1.mono HBw.out.size)
      have hc1 := cellKeep hb1 hc
      clear hb1 hc
      by_cases hz : er = 0
      · subst hz
        obtain ⟨hid, sa, sl, sc, rfl, hsl, hch⟩ := hok rfl
        have HCh := hide hch
        clear hok hbad hch
        go_upto_region 7 with fail
        obtain ⟨W, hW⟩ : ∃ W, W = w1.alloc (.cells #[.int .i64 id, .slice sa sl sc] 52) := ⟨_, rfl⟩
        have hbw : Below w1.heap.size w1 W := by rw [hW]; exact (Below.refl _ _).alloc (Nat.le_refl _) _
        have d0 : W.cell? ⟨w1.heap.size, 0, none⟩ = some (.int .i64 id) := by rw [hW]; simp [go_sem]
        have d1 : W.cell? ⟨w1.heap.size, 1, none⟩ = some (.slice sa sl sc) := by rw [hW]; simp [go_sem]
        have HCh2 := hide (HCh.out.below hbw)
        have HB2 : Hid (Below w'.heap.size w' W) := HB1.out.trans (hbw.mono HB1.out.size)
        rw [← hW]
        clear hW hbw hc1
        go_wp2_with fail
        refine (check_any _ id sa sl sc hid hsl HCh2.out).mono ?_
        rintro e w2 ⟨rfl, hb2⟩
        have HB3 : Hid (Below w'.heap.size w' w2) := HB2.out.trans (hb2.mono HB2.out.size)
        clear hb2 d0 d1
        go_wp2
        go_roundw
        case rel => exact ⟨k + 1, by omega, by go_num, HB3.out⟩
        case measure => simp [intOf]; omega
      · obtain ⟨rfl, rfl, ha0, ha1⟩ := hbad hz
        have hzb : (er == 0) = false := by simp [hz]
        have g1 : decide (at_ < 0) = false := decide_eq_false (by omega)
        have g2 : decide ((tn : Int) < at_) = false := decide_eq_false (by omega)
        clear hok hbad
        go_upto_region 7 with fail
        obtain ⟨W, hW⟩ : ∃ W, W = w1.alloc (.cells #[.int .i64 0, .slice none 0 0] 52) := ⟨_, rfl⟩
        have hbw : Below w1.heap.size w1 W := by rw [hW]; exact (Below.refl _ _).alloc (Nat.le_refl _) _
        have d0 : W.cell? ⟨w1.heap.size, 0, none⟩ = some (.int .i64 0) := by rw [hW]; simp [go_sem]
        have d1 : W.cell? ⟨w1.heap.size, 1, none⟩ = some (.slice none 0 0) := by rw [hW]; simp [go_sem]
        have hc2 := cellKeep hbw hc1
        have HB2 : Hid (Below w'.heap.size w' W) := HB1.out.trans (hbw.mono HB1.out.size)
        rw [← hW]
        clear hW hbw hc1
        go_wp2
        go_roundw
        case rel => exact ⟨k + 1, by omega, by go_num, HB2.out⟩
        case measure => simp [intOf]; omega
    · go_wp2
      go_ret
      exact ⟨rfl, HBw.out⟩
end Go.Proofs.Qxb6500778a
