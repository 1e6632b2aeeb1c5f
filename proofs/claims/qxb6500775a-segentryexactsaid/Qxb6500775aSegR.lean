import Derived.Test.Qxb6500775aView
import Derived.Test.Qxb6500775aSegP
import Derived.Test.Qxb6500775aModel
import Derived.Test.Qxb6500775aKeep
namespace Go.Proofs.Qxb6500775a
open Go.RowKit

theorem minMax_le (w : World) (a b : Int) (h : a ≤ b) : Calls Try.prog 112 #[.int .i64 a, .int .i64 b] w fun e w' => e = .returned (.tuple #[.int .i64 a, .int .i64 b]) ∧ w' = w := by
  go_enter Try.func112, Try.ntmps112
  go_wp2
  go_ret2
  exact ⟨rfl, rfl⟩
theorem minMax_gt (w : World) (a b : Int) (h : b < a) : Calls Try.prog 112 #[.int .i64 a, .int .i64 b] w fun e w' => e = .returned (.tuple #[.int .i64 b, .int .i64 a]) ∧ w' = w := by
  go_enter Try.func112, Try.ntmps112
  go_wp2
  go_ret2
  exact ⟨rfl, rfl⟩
def lo2 (a b : Int) : Int := if a ≤ b then a else b
def hi2 (a b : Int) : Int := if a ≤ b then b else a
theorem lo2_le {a b : Int} : lo2 a b ≤ a ∧ lo2 a b ≤ b ∧ a ≤ hi2 a b ∧ b ≤ hi2 a b ∧ (lo2 a b = a ∨ lo2 a b = b) ∧ (hi2 a b = a ∨ hi2 a b = b) := by unfold lo2 hi2; split <;> omega
theorem minMax_any (w : World) (a b : Int) : Calls Try.prog 112 #[.int .i64 a, .int .i64 b] w fun e w' => e = .returned (.tuple #[.int .i64 (lo2 a b), .int .i64 (hi2 a b)]) ∧ w' = w := by
  unfold lo2 hi2
  by_cases h : a ≤ b
  · simp only [if_pos h]; exact minMax_le w a b h
  · simp only [if_neg h]; exact minMax_gt w a b (by omega)

/-- The disc lies wholly to one side of the box. -/
def outB (ax ay bx by' cx cy r : Int) : Bool := decide (cx + r < lo2 ax bx) || decide (hi2 ax bx < cx - r) || decide (cy + r < lo2 ay by') || decide (hi2 ay by' < cy - r)
set_option maxHeartbeats 1000000 in
theorem outside_any (w : World) (ax ay bx by' cx cy r : Int) (hcx : -1048576 ≤ cx ∧ cx ≤ 1048576) (hcy : -1048576 ≤ cy ∧ cy ≤ 1048576) (hr : 0 ≤ r ∧ r < 4194304) :
    Calls Try.prog 72 #[.int .i64 ax, .int .i64 ay, .int .i64 bx, .int .i64 by', .int .i64 cx, .int .i64 cy, .int .i64 r] w fun e w' => e = .returned (.bool (outB ax ay bx by' cx cy r)) ∧ w' = w := by
  have hO : ∀ x, outB ax ay bx by' cx cy r = x ↔ (decide (cx + r < lo2 ax bx) || decide (hi2 ax bx < cx - r) || decide (cy + r < lo2 ay by') || decide (hi2 ay by' < cy - r)) = x := fun x => Iff.rfl
  have HO := hide hO
  clear hO
  have e1 := minMax_any w ax bx
  have e2 := minMax_any w ay by'
  have E1 := hide e1
  have E2 := hide e2
  clear e1 e2
  generalize lo2 ax bx = lx at *
  generalize hi2 ax bx = hx at *
  generalize lo2 ay by' = ly at *
  generalize hi2 ay by' = hy at *
  by_cases c1 : cx + r < lx
  · go_enter Try.func72, Try.ntmps72
    go_wp2_with fail
    refine E1.out.mono ?_
    rintro e w' ⟨rfl, rfl⟩
    go_wp2
    go_ret
    exact ⟨ret_bool ((HO.out true).2 (by simp [c1])).symm, rfl⟩
  by_cases c2 : hx < cx - r
  · go_enter Try.func72, Try.ntmps72
    go_wp2_with fail
    refine E1.out.mono ?_
    rintro e w' ⟨rfl, rfl⟩
    go_wp2
    go_ret
    exact ⟨ret_bool ((HO.out true).2 (by simp [c2])).symm, rfl⟩
  by_cases c3 : cy + r < ly
  · go_enter Try.func72, Try.ntmps72
    go_wp2_with fail
    refine E1.out.mono ?_
    rintro e w' ⟨rfl, rfl⟩
    go_wp2_with fail
    refine E2.out.mono ?_
    rintro e w' ⟨rfl, rfl⟩
    go_wp2
    go_ret
    exact ⟨ret_bool ((HO.out true).2 (by simp [c3])).symm, rfl⟩
  · go_enter Try.func72, Try.ntmps72
    go_wp2_with fail
    refine E1.out.mono ?_
    rintro e w' ⟨rfl, rfl⟩
    go_wp2_with fail
    refine E2.out.mono ?_
    rintro e w' ⟨rfl, rfl⟩
    go_wp2
    go_ret
    exact ⟨ret_bool ((HO.out _).2 (by rw [Bool.eq_iff_iff]; simp <;> omega)).symm, rfl⟩

theorem view6 {w w1 : World} {c0 c1 c2 c3 c4 c5 : Value} (b : Below (w.alloc (.cells #[c0, c1, c2, c3, c4, c5] 102)).heap.size (w.alloc (.cells #[c0, c1, c2, c3, c4, c5] 102)) w1) :
    w1.cell? ⟨w.heap.size, 0, none⟩ = some c0 ∧ w1.cell? ⟨w.heap.size, 1, none⟩ = some c1 ∧ w1.cell? ⟨w.heap.size, 2, none⟩ = some c2 ∧ w1.cell? ⟨w.heap.size, 3, none⟩ = some c3 ∧ w1.cell? ⟨w.heap.size, 4, none⟩ = some c4 ∧ w1.cell? ⟨w.heap.size, 5, none⟩ = some c5 := by
  refine ⟨?_, ?_, ?_, ?_, ?_, ?_⟩ <;> (rw [bat b _ (by simp)]; simp [go_sem])
/-- The two words of a number. -/
def hi64 (x : Int) : Int := x / 18446744073709551616
def lo64 (x : Int) : Int := x % 18446744073709551616
theorem v128_hilo (x : Int) : v128 (hi64 x) (lo64 x) = x := by unfold v128 hi64 lo64; omega
theorem words_parts {x : Int} (h0 : 0 ≤ x) (h1 : x < 340282366920938463463374607431768211456) : Word (hi64 x) ∧ Word (lo64 x) := ⟨word_div h0 h1, word_mod x⟩
theorem mulU64_w (w : World) (a b : Int) (ha : Word a) (hb : Word b) : Calls Try.prog 85 #[.int .u64 a, .int .u64 b] w fun e w' => e = .returned (.agg #[.int .u64 (hi64 (a * b)), .int .u64 (lo64 (a * b))]) ∧ Below w.heap.size w w' := mulU64_any w a b ha hb
theorem crossSq_w (w : World) (dx dy wx wy al len : Int) (h1 : -4194304 ≤ dx ∧ dx ≤ 4194304) (h2 : -4194304 ≤ dy ∧ dy ≤ 4194304) (h3 : -4194304 ≤ wx ∧ wx ≤ 4194304) (h4 : -4194304 ≤ wy ∧ wy ≤ 4194304) : Calls Try.prog 83 #[.agg #[.int .i64 dx, .int .i64 dy, .int .i64 wx, .int .i64 wy, .int .i64 al, .int .i64 len]] w fun e w' =>
    e = .returned (.agg #[.int .u64 (hi64 ((dx * wy - dy * wx) * (dx * wy - dy * wx))), .int .u64 (lo64 ((dx * wy - dy * wx) * (dx * wy - dy * wx)))]) ∧ Below w.heap.size w w' := crossSq_any w dx dy wx wy al len h1 h2 h3 h4
theorem cmp3_le {x y : Int} : (cmp3 x y ≤ 0) ↔ x ≤ y := by unfold cmp3; split <;> (try split) <;> omega
set_option maxHeartbeats 2000000 in
/-- segView.meets. -/
theorem meets_any (w : World) (dx dy wx wy r : Int) (h1 : -4194304 ≤ dx ∧ dx ≤ 4194304) (h2 : -4194304 ≤ dy ∧ dy ≤ 4194304) (h3 : -4194304 ≤ wx ∧ wx ≤ 4194304) (h4 : -4194304 ≤ wy ∧ wy ≤ 4194304) (h5 : -4194304 ≤ wx - dx ∧ wx - dx ≤ 4194304) (h6 : -4194304 ≤ wy - dy ∧ wy - dy ≤ 4194304) (hr : 0 ≤ r ∧ r < 4194304) :
    Calls Try.prog 74 #[.agg #[.int .i64 dx, .int .i64 dy, .int .i64 wx, .int .i64 wy, .int .i64 (wx * dx + wy * dy), .int .i64 (dx * dx + dy * dy)], .int .i64 r] w fun e w' =>
      e = .returned (.bool (meetsB (wx * dx + wy * dy) (dx * dx + dy * dy) (dx * wy - dy * wx) (wx * wx + wy * wy) ((wx - dx) * (wx - dx) + (wy - dy) * (wy - dy)) r)) ∧ Below w.heap.size w w' := by
  have m1 := sq_bd h1.1 h1.2
  have m2 := sq_bd h2.1 h2.2
  have mr := sq_bd (x := r) (by omega) (by omega)
  have k1 := mul_bd h1.1 h1.2 h4.1 h4.2
  have k2 := mul_bd h2.1 h2.2 h3.1 h3.2
  obtain ⟨al, hal⟩ : ∃ x, x = wx * dx + wy * dy := ⟨_, rfl⟩
  obtain ⟨len, hlen⟩ : ∃ x, x = dx * dx + dy * dy := ⟨_, rfl⟩
  obtain ⟨rr, hrr⟩ : ∃ x, x = r * r := ⟨_, rfl⟩
  have hl : 0 ≤ len ∧ len ≤ 35184372088832 := by omega
  have hq : 0 ≤ rr ∧ rr ≤ 17592186044416 := by omega
  have HM : Hid (∀ x, meetsB al len (dx * wy - dy * wx) (wx * wx + wy * wy) ((wx - dx) * (wx - dx) + (wy - dy) * (wy - dy)) r = x ↔ (if al ≤ 0 then decide (wx * wx + wy * wy ≤ rr) else if len ≤ al then decide ((wx - dx) * (wx - dx) + (wy - dy) * (wy - dy) ≤ rr) else decide ((dx * wy - dy * wx) * (dx * wy - dy * wx) ≤ rr * len)) = x) := fun x => by rw [hrr]; exact Iff.rfl
  rw [← hal, ← hlen]
  have err := hrr.symm
  clear hal hlen hrr m1 m2 mr
  have cbd : -36028797018963968 ≤ dx * wy - dy * wx ∧ dx * wy - dy * wx ≤ 36028797018963968 := by omega
  clear k1 k2
  have bw : Below w.heap.size w (w.alloc (.cells #[.int .i64 dx, .int .i64 dy, .int .i64 wx, .int .i64 wy, .int .i64 al, .int .i64 len] 102)) := (Below.refl _ _).alloc (Nat.le_refl _) _
  have BW := hide bw
  clear bw
  by_cases c1 : al ≤ 0
  · have hn : near al len = 0 := by rw [near, if_pos c1]
    go_enter Try.func74, Try.ntmps74
    go_wp2_with fail
    refine (nearest_any _ dx dy wx wy al len).mono ?_
    rintro e w1 ⟨rfl, b1⟩
    rw [hn]
    obtain ⟨e0, e1, e2, e3, e4, e5⟩ := view6 b1
    have B1 := hide (BW.out.trans (b1.mono BW.out.size))
    clear b1
    go_wp2_with fail
    refine (startSq_any _ dx dy wx wy al len h3 h4).mono ?_
    rintro e w2 ⟨rfl, b2⟩
    have B2 := hide (B1.out.trans (b2.mono B1.out.size))
    clear b2
    go_wp2
    go_ret
    exact ⟨ret_bool ((HM.out _).2 (by rw [if_pos c1])).symm, B2.out⟩
  by_cases c2 : len ≤ al
  · have hn : near al len = 1 := by rw [near, if_neg c1, if_pos c2]
    go_enter Try.func74, Try.ntmps74
    go_wp2_with fail
    refine (nearest_any _ dx dy wx wy al len).mono ?_
    rintro e w1 ⟨rfl, b1⟩
    rw [hn]
    obtain ⟨e0, e1, e2, e3, e4, e5⟩ := view6 b1
    have B1 := hide (BW.out.trans (b1.mono BW.out.size))
    clear b1
    go_wp2_with fail
    refine (endSq_any _ dx dy wx wy al len h5 h6).mono ?_
    rintro e w2 ⟨rfl, b2⟩
    have B2 := hide (B1.out.trans (b2.mono B1.out.size))
    clear b2
    go_wp2
    go_ret
    exact ⟨ret_bool ((HM.out _).2 (by rw [if_neg (by omega), if_pos c2])).symm, B2.out⟩
  · have hn : near al len = 2 := by rw [near, if_neg c1, if_neg c2]
    have cc := sq_nonneg' (dx * wy - dy * wx)
    have cw : (dx * wy - dy * wx) * (dx * wy - dy * wx) < 340282366920938463463374607431768211456 := by
      have := words_mul (abs_word (x := dx * wy - dy * wx) (by omega) (by omega)) (abs_word (x := dx * wy - dy * wx) (by omega) (by omega))
      rw [abs_sq] at this
      exact this.2
    have pw := words_mul (x := rr) (y := len) ⟨hq.1, by omega⟩ ⟨hl.1, by omega⟩
    have HC : Hid (decide (cmp3 (v128 (hi64 ((dx * wy - dy * wx) * (dx * wy - dy * wx))) (lo64 ((dx * wy - dy * wx) * (dx * wy - dy * wx)))) (v128 (hi64 (rr * len)) (lo64 (rr * len))) ≤ 0) = decide ((dx * wy - dy * wx) * (dx * wy - dy * wx) ≤ rr * len)) := by
      show _ = _
      rw [Bool.eq_iff_iff]
      simp only [decide_eq_true_eq, cmp3_le, v128_hilo]
    have W1 := hide (words_parts cc cw)
    have W2 := hide (words_parts pw.1 pw.2)
    clear cc cw pw
    go_enter Try.func74, Try.ntmps74
    go_wp2_with fail
    refine (nearest_any _ dx dy wx wy al len).mono ?_
    rintro e w1 ⟨rfl, b1⟩
    rw [hn]
    obtain ⟨e0, e1, e2, e3, e4, e5⟩ := view6 b1
    have B1 := hide (BW.out.trans (b1.mono BW.out.size))
    clear b1
    go_upto_region 6 with fail
    have WR : Hid (IntKind.i64.wrap rr = rr ∧ IntKind.u64.wrap rr = rr ∧ IntKind.u64.wrap len = len) := ⟨IntWalk.i64_in _ ⟨by omega, by omega⟩, IntWalk.u64_in _ ⟨by omega, by omega⟩, IntWalk.u64_in _ ⟨by omega, by omega⟩⟩
    have S := And.intro e0 (And.intro e1 (And.intro e2 (And.intro e3 (And.intro e4 e5))))
    clear e0 e1 e2 e3 e4 e5
    have tok1 : True := trivial
    have tok2 : True := trivial
    have tok3 : True := trivial
    go_region_held3 (fun w' => w'.cell? ⟨w.heap.size, 0, none⟩ = some (.int .i64 dx) ∧ w'.cell? ⟨w.heap.size, 1, none⟩ = some (.int .i64 dy) ∧ w'.cell? ⟨w.heap.size, 2, none⟩ = some (.int .i64 wx) ∧ w'.cell? ⟨w.heap.size, 3, none⟩ = some (.int .i64 wy) ∧ w'.cell? ⟨w.heap.size, 4, none⟩ = some (.int .i64 al) ∧ w'.cell? ⟨w.heap.size, 5, none⟩ = some (.int .i64 len)) (first | (with_reducible exact S) | (with_reducible exact (by simpa only [World.cell?_drew] using S)) | (simp [*, go_sem, World.cell?_alloc_some]; done))
      (first
        | (go_at_call 83; have _t := tok1; clear tok1; refine (crossSq_w _ dx dy wx wy al len h1 h2 h3 h4).mono ?_; rintro e w1 ⟨rfl, b1⟩; (try replace b1 := of_drew b1); have S := (And.intro (cellKeep b1 S.1) (And.intro (cellKeep b1 S.2.1) (And.intro (cellKeep b1 S.2.2.1) (And.intro (cellKeep b1 S.2.2.2.1) (And.intro (cellKeep b1 S.2.2.2.2.1) (cellKeep b1 S.2.2.2.2.2)))))); have B1 := hide (lecB B1.out b1); clear b1)
        | (go_at_call 85; have _t := tok2; clear tok2; rw [WR.out.1, WR.out.2.1, WR.out.2.2]; refine (mulU64_w _ rr len ⟨hq.1, by omega⟩ ⟨hl.1, by omega⟩).mono ?_; rintro e w2 ⟨rfl, b2⟩; (try replace b2 := of_drew b2); have S := (And.intro (cellKeep b2 S.1) (And.intro (cellKeep b2 S.2.1) (And.intro (cellKeep b2 S.2.2.1) (And.intro (cellKeep b2 S.2.2.2.1) (And.intro (cellKeep b2 S.2.2.2.2.1) (cellKeep b2 S.2.2.2.2.2)))))); have B1 := hide (lecB B1.out b2); clear b2)
        | (go_at_call 113; have _t := tok3; clear tok3; refine (cmpU128_any _ (hi64 ((dx * wy - dy * wx) * (dx * wy - dy * wx))) (lo64 ((dx * wy - dy * wx) * (dx * wy - dy * wx))) (hi64 (rr * len)) (lo64 (rr * len)) W1.out.1 W1.out.2 W2.out.1 W2.out.2).mono ?_; rintro e w3 ⟨rfl, b3⟩; (try replace b3 := of_drew b3); have S := (And.intro (cellKeep b3 S.1) (And.intro (cellKeep b3 S.2.1) (And.intro (cellKeep b3 S.2.2.1) (And.intro (cellKeep b3 S.2.2.2.1) (And.intro (cellKeep b3 S.2.2.2.2.1) (cellKeep b3 S.2.2.2.2.2)))))); have B1 := hide (lecB B1.out b3); clear b3))
    go_wp2
    go_ret
    exact ⟨ret_bool (HC.out.trans ((HM.out _).2 (by rw [if_neg (by omega), if_neg (by omega)])).symm), B1.out⟩
end Go.Proofs.Qxb6500775a
