import Derived.Test.Qxb6500775aSer3
namespace Go.Proofs.Qxb6500775a
open Go.RowKit

theorem sgnS_le {z : Int} (h : z ≤ 0) : decide (0 < sgn z) = false := by unfold sgn; split <;> (try split) <;> simp <;> omega
theorem sgnS_ge {z : Int} (h : 0 ≤ z) : decide (sgn z < 0) = false := by unfold sgn; split <;> (try split) <;> simp <;> omega
/-- A small number has at most one digit. -/
theorem IsI.small {N : Nat} {w : World} {s : Bool} {a : Option Addr} {n c : Nat} {z : Int} (h : IsI N w s a n c z) (h0 : 0 ≤ z) (h1 : z < 4294967296) : s = false ∧ ((n = 0 ∧ z = 0) ∨ (n = 1 ∧ ∃ b off, a = some ⟨b, off, none⟩ ∧ w.cell? ⟨b, off, none⟩ = some (.int .u32 z))) := by
  have hs : s = false := by
    by_cases hn : n = 0
    · exact h.sign hn
    · cases s
      · rfl
      · have := (h.neg_iff hn).2 rfl
        omega
  refine ⟨hs, ?_⟩
  obtain ⟨D, m1, m2, m3⟩ := h.digits
  subst hs
  simp only [sg, Bool.false_eq_true, if_false] at m3
  rcases (by omega : n = 0 ∨ n = 1 ∨ 2 ≤ n) with rfl | rfl | h2
  · left; exact ⟨rfl, by rw [m3]; rfl⟩
  · right
    obtain ⟨b, off, rfl, hc, -, -⟩ := m1 0 (by omega)
    refine ⟨rfl, b, off, rfl, ?_⟩
    rw [m3]
    simpa [Sm] using hc
  · exfalso
    obtain ⟨k, rfl⟩ : ∃ k, n = k + 1 := ⟨n - 1, by omega⟩
    have ht := Sm_top m1.dig (by rcases m2 with z | z; omega; simpa using z)
    have := Bpow_mono (m := 1) (n := k) (by omega)
    rw [← m3] at ht
    omega
/-- A number in its box. -/
structure HB1 (w wx : World) (p N : Nat) (s : Bool) (a : Option Addr) (n c : Nat) (z : Int) : Prop where
  c0 : wx.cell? ⟨p, 0, none⟩ = some (.bool s)
  c1 : wx.cell? ⟨p, 1, none⟩ = some (.slice a n c)
  i : IsI N wx s a n c z
  bel : Below w.heap.size w wx
theorem HB1.below {w wx wy : World} {p N : Nat} {s : Bool} {a : Option Addr} {n c : Nat} {z : Int} (h : HB1 w wx p N s a n c z) (hb : Below wx.heap.size wx wy) : HB1 w wy p N s a n c z := ⟨cellKeep hb h.c0, cellKeep hb h.c1, h.i.below hb, lec h.bel hb⟩
theorem HB1.drew {w wx : World} {p N : Nat} {s : Bool} {a : Option Addr} {n c : Nat} {z : Int} (h : HB1 w wx p N s a n c z) : HB1 w wx.drew p N s a n c z := h.below (Below.refl _ _).drew
set_option maxRecDepth 100000 in
set_option maxHeartbeats 2000000 in
/-- Hold of a number in 0..2^30. -/
theorem hold_any (w : World) (s : Bool) (a : Option Addr) (n c N : Nat) (z : Int) (hN : N ≤ 100000) (h0 : 0 ≤ z) (h1 : z ≤ 1073741824) (hi : IsI N w s a n c z) :
    Calls Try.prog 105 #[.agg #[.bool s, .slice a n c], .int .i64 0, .int .i64 1073741824] w fun e w' => e = .returned (.tuple #[.int .i64 z, .bool false]) ∧ Below w.heap.size w w' := by
  obtain ⟨rfl, hcase⟩ := hi.small h0 (by omega)
  have HC := hide hcase
  have hn1 : n ≤ 1 := by rcases hcase with ⟨h, -⟩ | ⟨h, -⟩ <;> omega
  have HH : Hid (HB1 w (w.alloc (.cells #[.bool false, .slice a n c] 26)) w.heap.size N false a n c z) := ⟨by simp [go_sem], by simp [go_sem], hi.al _, (Below.refl _ _).alloc (Nat.le_refl _) _⟩
  have g1 := hide (sgnS_le (z := z - 1073741824) (by omega))
  have g2 := hide (sgnS_ge (z := z) (by omega))
  clear hi hcase
  go_enter Try.func105, Try.ntmps105
  go_upto_region 1 with fail
  generalize w.alloc (.cells #[.bool false, .slice a n c] 26) = W at *
  generalize w.heap.size = p at HH ⊢
  go_cut [14] (fun x wx => x = .bool false ∧ HB1 w wx p N false a n c z)
  case first =>
    have c0 := HH.out.drew.c0
    have c1 := HH.out.drew.c1
    go_region_law (first
      | (refine step_call rfl 15 #[.int .i64 1073741824] ?_ (Of_any _ 1073741824 (by omega) (by omega)) ?_; (focus (simp [go_sem]; done)); rintro e w6 ⟨s6, a6, n6, c6, rfl, i6, b6⟩; refine ⟨_, rfl, ?_⟩; have I6 := hide i6; have HH6 := hide (HH.out.drew.below b6); have y0 := HH6.out.c0; have y1 := HH6.out.c1; clear b6 i6)
      | (refine step_call rfl 24 #[.agg #[.bool false, .slice a n c], .agg #[.bool s6, .slice a6 n6 c6]] ?_ (Cmp_any _ false s6 a a6 n n6 c c6 N 2 200000 z 1073741824 (by omega) (by omega) (by omega) HH6.out.i I6.out) ?_; (focus (simp [go_sem]; done)); rintro e w7 ⟨rfl, b7⟩; refine ⟨_, rfl, ?_⟩; have HH7 := hide (HH6.out.below b7); clear b7))
    all_goals
      go_wp2_with fail
      go_meet
      case rel => exact ⟨by rw [g1.out], HH7.out⟩
  obtain ⟨rfl, hh⟩ := hcut
  clear HH
  have HH := hide hh
  clear hh g1
  go_upto_region 3 with fail
  go_cut [20] (fun x wx => x = .bool false ∧ HB1 w wx p N false a n c z)
  case first =>
    have c0 := HH.out.drew.c0
    have c1 := HH.out.drew.c1
    go_region_law (first
      | (refine step_call rfl 15 #[.int .i64 0] ?_ (Of_any _ 0 (by omega) (by omega)) ?_; (focus (simp [go_sem]; done)); rintro e w6 ⟨s6, a6, n6, c6, rfl, i6, b6⟩; refine ⟨_, rfl, ?_⟩; have I6 := hide i6; have HH6 := hide (HH.out.drew.below b6); have y0 := HH6.out.c0; have y1 := HH6.out.c1; clear b6 i6)
      | (refine step_call rfl 24 #[.agg #[.bool false, .slice a n c], .agg #[.bool s6, .slice a6 n6 c6]] ?_ (Cmp_any _ false s6 a a6 n n6 c c6 N 2 200000 z 0 (by omega) (by omega) (by omega) HH6.out.i I6.out) ?_; (focus (simp [go_sem]; done)); rintro e w7 ⟨rfl, b7⟩; refine ⟨_, rfl, ?_⟩; have HH7 := hide (HH6.out.below b7); clear b7))
    all_goals
      go_wp2_with fail
      go_meet
      case rel => exact ⟨by rw [g2.out], HH7.out⟩
  obtain ⟨rfl, hh⟩ := hcut
  clear HH
  have HH := hide hh
  have c0 := hh.c0
  have c1 := hh.c1
  have hsm := hh.i.small h0 (by omega)
  have HS := hide hsm.2
  clear hh g2 hsm HC
  rcases HS.out with ⟨rfl, rfl⟩ | ⟨rfl, b, off, rfl, hcell⟩
  · go_wp2
    go_loopw [8, 9] (fun u i wr => u = .int .u64 0 ∧ i = .int .i64 (-1) ∧ wr = wc) (fun _ _ _ => 0)
    case atStart => exact ⟨rfl, rfl, rfl⟩
    case round =>
      obtain ⟨rfl, rfl, rfl⟩ := hrel
      go_wp2
      exact bodyPost_ret (v := .tuple #[.int .i64 0, .bool false]) (by simp [results, Try.results105, go_sem]) rfl ⟨rfl, HH.out.bel⟩
  · have hor := or_hi z 0 h0 (by omega) (by omega) (by omega)
    rw [show (0 : Int) * 4294967296 + z = z by omega, show (0 : Int) * 4294967296 = 0 by omega] at hor
    have hzw : IntKind.i64.wrap z = z := by rw [IntKind.wrap_i64]; omega
    go_wp2
    go_loopw [8, 9] (fun u i wr => ((u = .int .u64 0 ∧ i = .int .i64 0) ∨ (u = .int .u64 z ∧ i = .int .i64 (-1))) ∧ wr = wc) (fun _ i _ => (intOf i + 1).toNat)
    case atStart => exact ⟨.inl ⟨rfl, rfl⟩, rfl⟩
    case round =>
      obtain ⟨⟨rfl, rfl⟩ | ⟨rfl, rfl⟩, rfl⟩ := hrel
      · go_wp2
        go_roundw
        case rel => exact ⟨.inr ⟨rfl, rfl⟩, trivial⟩
        case measure => simp [intOf]
      · go_wp2
        exact bodyPost_ret (v := .tuple #[.int .i64 z, .bool false]) (by simp [results, Try.results105, go_sem]) rfl ⟨rfl, HH.out.bel⟩
set_option maxHeartbeats 1000000 in
/-- The model's toTable. -/
theorem toTab_any (w : World) (s : Bool) (a : Option Addr) (n c : Nat) (z v : Int) (h0 : 0 ≤ z) (hv : (z + 8589934592) / 17179869184 = v) (hv0 : 0 ≤ v) (hv1 : v ≤ 1073741824) (hi : IsI 2000 w s a n c z) :
    Calls Try.prog 64 #[.agg #[.bool s, .slice a n c]] w fun e w' => e = .returned (.int .i64 v) ∧ Below w.heap.size w w' := by
  have HH : Hid (HB1 w (w.alloc (.cells #[.bool s, .slice a n c] 26)) w.heap.size 2000 s a n c z) := ⟨by simp [go_sem], by simp [go_sem], hi.al _, (Below.refl _ _).alloc (Nat.le_refl _) _⟩
  have HV := hide hv
  clear hi hv
  go_enter Try.func64, Try.ntmps64
  go_upto_region 1 with fail
  generalize w.alloc (.cells #[.bool s, .slice a n c] 26) = W at *
  generalize w.heap.size = p at HH ⊢
  go_wp2_with fail
  refine (Of_any _ 2 (by omega) (by omega)).mono ?_
  rintro e w1 ⟨s1, a1, n1, c1, rfl, i1, b1⟩
  have I1 := hide i1
  have HH1 := hide (HH.out.below b1)
  clear i1 b1 HH
  go_wp2_with fail
  refine (Pow_any _ s1 a1 n1 c1 2 33 2 (by omega) (by omega) I1.out).mono ?_
  rintro e w2 ⟨s2, a2, n2, c2, rfl, i2, b2⟩
  have HV2 := hide (varNew i2)
  have HH2 := hide ((HH1.out.below b2).below ((Below.refl w2.heap.size w2).alloc (Nat.le_refl _) (.cells #[.bool s2, .slice a2 n2 c2] 26)))
  clear i2 b2 HH1 I1
  go_upto_region 2 with fail
  generalize w2.alloc (.cells #[.bool s2, .slice a2 n2 c2] 26) = W2 at *
  generalize w2.heap.size = p2 at *
  obtain ⟨sh, ah, nh, ch, x0, x1, ih⟩ := HV2.out
  have c0 := HH2.out.c0
  have c1 := HH2.out.c1
  have IH := hide ih
  clear ih HV2
  go_wp2_with fail
  refine (Add_any _ s sh a ah n nh c ch 2000 (2 + 2 * 33) 2000 z (2 ^ 33) (by omega) (by omega) (by omega) HH2.out.i IH.out).mono ?_
  rintro e w3 ⟨s3, a3, n3, c3, rfl, i3, b3⟩
  rw [show (2 : Int) ^ 33 = 8589934592 by decide] at i3
  have I3 := hide i3
  have B3 := hide (lec HH2.out.bel b3)
  clear i3 b3 HH2 c0 c1 x0 x1 IH
  go_wp2_with fail
  refine (halve34 _ s3 a3 n3 c3 (2000 + 1) (z + 8589934592) (by omega) (by omega) I3.out).mono ?_
  rintro e w4 ⟨s4, a4, n4, c4, rfl, i4, b4⟩
  rw [HV.out] at i4
  have I4 := hide i4
  have B4 := hide (lec B3.out b4)
  clear i4 b4 B3 I3
  go_wp2_with fail
  refine (hold_any _ s4 a4 n4 c4 (2000 + 1) v (by omega) hv0 hv1 I4.out).mono ?_
  rintro e w5 ⟨rfl, b5⟩
  have B5 := hide (lec B4.out b5)
  clear b5 B4 I4
  go_wp2
  go_ret
  exact ⟨rfl, B5.out⟩
end Go.Proofs.Qxb6500775a
