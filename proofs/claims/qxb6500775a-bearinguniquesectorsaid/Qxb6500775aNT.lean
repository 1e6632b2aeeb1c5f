import Derived.Test.Qxb6500775aHold
import Derived.Test.Qxb6500775aNew
import Derived.Test.Qxb6500775aSerT
namespace Go.Proofs.Qxb6500775a
open Go.RowKit

theorem z68a : goZ 67 Try.zeroCells68.toList = true := by decide +kernel
theorem z68b : goZ 67 (Try.zeroCells68.toList.drop 4087) = true := by decide +kernel
theorem z68c : goZ 1 (Try.zeroCells68.toList.drop 8131) = true := by decide +kernel
theorem z68_at (i : Nat) (hi : i < 8192) : Try.zeroCells68[i]? = some (.int .i64 0) := by
  rw [← Array.getElem?_toList]
  rcases (by omega : i < 4087 ∨ (4087 ≤ i ∧ i < 8174) ∨ 8174 ≤ i) with h | ⟨h, h'⟩ | h
  · exact goZ_at _ _ z68a i (by omega)
  · have := goZ_at _ _ z68b (i - 4087) (by omega)
    rw [List.getElem?_drop, show 4087 + (i - 4087) = i by omega] at this
    exact this
  · have := goZ_at _ _ z68c (i - 8131) (by omega)
    rw [List.getElem?_drop, show 8131 + (i - 8131) = i by omega] at this
    exact this
/-- The model's table. -/
structure TB (w : World) (b : Nat) (X Y : Nat → Int) : Prop where
  x : ∀ s, s < 4096 → w.cell? ⟨b, s, none⟩ = some (.int .i64 (X s))
  y : ∀ s, s < 4096 → w.cell? ⟨b, 4096 + s, none⟩ = some (.int .i64 (Y s))
  fr : ∀ j, w.frozen? ⟨b, j, none⟩ = false
theorem TB.below {w w' : World} {b : Nat} {X Y : Nat → Int} (h : TB w b X Y) (hb : Below w.heap.size w w') : TB w' b X Y :=
  ⟨fun s hs => cellKeep hb (h.x s hs), fun s hs => cellKeep hb (h.y s hs), fun j => (hb.frozen (p := ⟨b, j, none⟩) (show b < w.heap.size from World.block_lt_of_cell? _ _ (h.x 0 (by omega)))).trans (h.fr j)⟩
theorem TB.setX {w : World} {b t : Nat} {X Y : Nat → Int} {v : Int} (h : TB w b X Y) : TB (w.setCell ⟨b, t, none⟩ (.int .i64 v)) b (upd X t v) Y ∨ ¬ t < 4096 := by
  by_cases ht : t < 4096
  · left
    refine ⟨fun s hs => ?_, fun s hs => ?_, fun j => by simpa [go_sem] using h.fr j⟩
    · by_cases e : s = t
      · subst e
        rw [World.cell?_setCell_same _ _ _ (h.x s hs), upd_same]
      · rw [World.cell?_setCell_other _ _ _ _ (by simp <;> omega), upd_other _ _ e]; exact h.x s hs
    · rw [World.cell?_setCell_other _ _ _ _ (by simp <;> omega)]; exact h.y s hs
  · exact .inr ht
theorem TB.setY {w : World} {b t : Nat} {X Y : Nat → Int} {v : Int} (h : TB w b X Y) : TB (w.setCell ⟨b, 4096 + t, none⟩ (.int .i64 v)) b X (upd Y t v) ∨ ¬ t < 4096 := by
  by_cases ht : t < 4096
  · left
    refine ⟨fun s hs => ?_, fun s hs => ?_, fun j => by simpa [go_sem] using h.fr j⟩
    · rw [World.cell?_setCell_other _ _ _ _ (by simp <;> omega)]; exact h.x s hs
    · by_cases e : s = t
      · subst e
        rw [World.cell?_setCell_same _ _ _ (h.y s hs), upd_same]
      · rw [World.cell?_setCell_other _ _ _ _ (by simp <;> omega), upd_other _ _ e]; exact h.y s hs
  · exact .inr ht
def DoneT (r q : Nat) (X Y : Nat → Int) : Prop := ∀ s, s < 4096 → (s % 1024 < r ∨ (s % 1024 = r ∧ s / 1024 < q)) → X s = (dirP s).1 ∧ Y s = (dirP s).2
theorem DoneT.step {r q t : Nat} {X Y : Nat → Int} {x y : Int} (h : DoneT r q X Y) (ht : q * 1024 + r = t) (hx : x = (dirP t).1) (hy : y = (dirP t).2) : DoneT r (q + 1) (upd X t x) (upd Y t y) := by
  intro s hs hc
  by_cases e : s = t
  · subst e; rw [upd_same, upd_same]; exact ⟨hx, hy⟩
  · rw [upd_other _ _ e, upd_other _ _ e]
    exact h s hs (by omega)
theorem DoneT.next {r : Nat} {X Y : Nat → Int} (h : DoneT r 4 X Y) : DoneT (r + 1) 0 X Y := fun s hs hc => h s hs (by omega)
theorem dir_rot {q r t : Nat} (hr : r < 1024) (ht : q * 1024 + r = t) : dirP t = rotP q (dirP r) := by
  unfold dirP
  have h1 : t / 1024 = q := by omega
  have h2 : t % 1024 = r := by omega
  have h3 : r / 1024 = 0 := by omega
  have h4 : r % 1024 = r := by omega
  rw [h1, h2, h3, h4]
  rfl
/-- What NewTable has at hand. -/
structure NI (w wx : World) (b po : Nat) (X Y : Nat → Int) : Prop where
  tb : TB wx b X Y
  one : VarI 130 wx po 18446744073709551616
  bel : Below b w wx
  sz : b ≤ wx.heap.size
  ne : b ≠ po
theorem NI.below {w wx wy : World} {b po : Nat} {X Y : Nat → Int} (h : NI w wx b po X Y) (hb : Below wx.heap.size wx wy) : NI w wy b po X Y :=
  ⟨h.tb.below hb, h.one.below hb, h.bel.trans (hb.mono h.sz), Nat.le_trans h.sz hb.size, h.ne⟩
theorem NI.drew {w wx : World} {b po : Nat} {X Y : Nat → Int} (h : NI w wx b po X Y) : NI w wx.drew b po X Y := h.below (Below.refl _ _).drew
theorem VarI.oneCell {N : Nat} {w : World} {p b j : Nat} {z v u : Int} (h : VarI N w p z) (hne : b ≠ p) (hc : w.cell? ⟨b, j, none⟩ = some (.int .i64 u)) : VarI N (w.setCell ⟨b, j, none⟩ (.int .i64 v)) p z := by
  obtain ⟨s, a, n, c, x0, x1, i⟩ := h
  refine ⟨s, a, n, c, ?_, ?_, i.setCell _ _ _ hc (by simp)⟩
  · rw [World.cell?_setCell_other _ _ _ _ (by simp <;> omega)]; exact x0
  · rw [World.cell?_setCell_other _ _ _ _ (by simp <;> omega)]; exact x1
theorem NI.set {w wx : World} {b po t : Nat} {X Y : Nat → Int} {x y : Int} (h : NI w wx b po X Y) (ht : t < 4096) : NI w ((wx.setCell ⟨b, t, none⟩ (.int .i64 x)).setCell ⟨b, 4096 + t, none⟩ (.int .i64 y)) b po (upd X t x) (upd Y t y) := by
  have t1 := (h.tb.setX (t := t) (v := x)).resolve_right (by omega)
  have t2 := (t1.setY (t := t) (v := y)).resolve_right (by omega)
  exact ⟨t2, (h.one.oneCell h.ne (h.tb.x t ht)).oneCell h.ne (t1.y t ht), (h.bel.setCell (Nat.le_refl _) _).setCell (Nat.le_refl _) _, by simpa using h.sz, h.ne⟩
/-- The model's tables as NewTable leaves them. -/
structure MTabs (w : World) (b : Nat) : Prop where
  x : ∀ s, s < 4096 → w.cell? ⟨b, s, none⟩ = some (.int .i64 (dirP s).1)
  y : ∀ s, s < 4096 → w.cell? ⟨b, 4096 + s, none⟩ = some (.int .i64 (dirP s).2)
theorem MTabs.below {w w' : World} {b : Nat} (h : MTabs w b) (hb : Below w.heap.size w w') : MTabs w' b := ⟨fun s hs => cellKeep hb (h.x s hs), fun s hs => cellKeep hb (h.y s hs)⟩
set_option maxRecDepth 100000 in
set_option maxHeartbeats 8000000 in
theorem newTable_any (w : World) :
    Calls Try.prog 26 #[] w fun e w' => e = .returned (.pointer (some ⟨w.heap.size, 0, none⟩)) ∧ MTabs w' w.heap.size ∧ Below w.heap.size w w' := by
  go_enter Try.func26, Try.ntmps26
  go_upto_region 2 with fail
  have HTB : Hid (TB (w.alloc (.cells Try.zeroCells68 68)) w.heap.size (fun _ => 0) (fun _ => 0)) := by
    refine hide ⟨fun i hi => ?_, fun i hi => ?_, fun j => by simp [go_sem]⟩
    · have := z68_at i (by omega); simp [go_sem, this]
    · have := z68_at (4096 + i) (by omega); simp [go_sem, this]
  have HB0 := hide (belA w (.cells Try.zeroCells68 68))
  have hlt : w.heap.size < (w.alloc (.cells Try.zeroCells68 68)).heap.size := by simp
  generalize w.alloc (.cells Try.zeroCells68 68) = w1 at *
  generalize hb : w.heap.size = b at *
  go_wp2_with fail
  refine (Of_any _ 2 (by omega) (by omega)).mono ?_
  rintro e w2 ⟨s2, a2, n2, c2, rfl, i2, b2⟩
  have I2 := hide i2
  have B2 := hide b2
  clear i2 b2
  go_wp2_with fail
  refine (Pow_any _ s2 a2 n2 c2 2 64 2 (by omega) (by omega) I2.out).mono ?_
  rintro e w3 ⟨s3, a3, n3, c3, rfl, i3, b3⟩
  rw [show (2 : Int) ^ 64 = 18446744073709551616 by decide] at i3
  have hb13 := lec B2.out b3
  have hsz3 := hb13.size
  have HN : Hid (NI w (w3.alloc (.cells #[.bool s3, .slice a3 n3 c3] 26)) b w3.heap.size (fun _ => 0) (fun _ => 0)) :=
    ⟨(HTB.out.below hb13).below ((Below.refl _ _).alloc (Nat.le_refl _) _), varNew i3, (HB0.out.trans (hb13.mono (by omega))).alloc (by omega) _, by simp; omega, by omega⟩
  clear i3 b3 hb13 hsz3 I2 B2 HTB HB0 hlt
  go_upto_region 3 with fail
  generalize w3.alloc (.cells #[.bool s3, .slice a3 n3 c3] 26) = W at *
  generalize w3.heap.size = po at *
  go_wp2
  go_loopw [3, 4, 5, 6] (fun rv _ _ _ wr => ∃ (r : Nat) (X Y : Nat → Int), r ≤ 1024 ∧ rv = .int .i64 r ∧ DoneT r 0 X Y ∧ NI w wr b po X Y) (fun rv _ _ _ _ => 1024 - (intOf rv).toNat)
  case atStart => exact ⟨0, _, _, by omega, rfl, fun s hs hc => by omega, HN.out⟩
  case round =>
    clear HN
    obtain ⟨r, X, Y, hr, rfl, hdone, hni⟩ := hrel
    have HDn := hide hdone
    have HN := hide hni
    clear hdone hni
    by_cases hlt : r < 1024
    · obtain ⟨⟨S1, hS1, hS10, hS1v, hx1, hx0⟩, ⟨S2, hS2, hS20, hS2v, hy1, hy0⟩⟩ := ser_at r hlt
      have hang : 0 ≤ angP r := by unfold angP; omega
      have hA := fun w => hide (angle_any w r (by omega))
      obtain ⟨T, hT⟩ : ∃ T, angP r = T := ⟨_, rfl⟩
      rw [hT] at hS1 hS2 hang hA
      clear hT
      obtain ⟨xx, hxx⟩ : ∃ x, (dirP r).1 = x := ⟨_, rfl⟩
      obtain ⟨yy, hyy⟩ : ∃ x, (dirP r).2 = x := ⟨_, rfl⟩
      rw [hxx] at hS1v hx1 hx0
      rw [hyy] at hS2v hy1 hy0
      have HXY : Hid (dirP r = (xx, yy)) := hide (by rw [← hxx, ← hyy])
      have H1 := hide (And.intro hS1 hS1v)
      have H2 := hide (And.intro hS2 hS2v)
      clear hS1 hS1v hS2 hS2v hxx hyy
      go_wp2_with fail
      refine (hA _).out.mono ?_
      rintro e w4 ⟨s4, a4, n4, c4, rfl, i4, b4⟩
      have I4 := hide i4
      have HN4 := hide (HN.out.below b4)
      clear i4 b4 HN
      go_wp2_with fail
      refine (hA _).out.mono ?_
      rintro e w5 ⟨s5, a5, n5, c5, rfl, i5, b5⟩
      have I5 := hide i5
      have I4' := hide ((I4.out.below b5).mono (K := 130) (by omega))
      have HN5 := hide (HN4.out.below b5)
      clear i5 b5 HN4 I4
      go_wp2_with fail
      refine (series_any _ s4 s5 a4 a5 n4 c4 n5 c5 T T 2 S1 hang hang I4'.out I5.out (by omega) H1.out.1).mono ?_
      rintro e w6 ⟨s6, a6, n6, c6, rfl, i6, b6⟩
      have I6 := hide i6
      have HN6 := hide (HN5.out.below b6)
      clear i6 b6 HN5 I4' I5
      go_wp2_with fail
      refine (toTab_any _ s6 a6 n6 c6 S1 xx hS10 H1.out.2 hx0 hx1 I6.out).mono ?_
      rintro e w7 ⟨rfl, b7⟩
      have HN7 := hide (HN6.out.below b7)
      clear b7 HN6 I6 H1
      go_upto_region 7 with fail
      go_cut [5] (fun s wx => s = .int .i64 yy ∧ NI w wx b po X Y)
      case first =>
        obtain ⟨so, ao, no, co, o0, o1, io⟩ := HN7.out.drew.one
        have IO := hide io
        clear io
        go_region_law (first
          | (refine step_call rfl 66 #[.int .i64 r] ?_ (hA _).out ?_; (focus (simp [go_sem]; done)); rintro e w8 ⟨s8, a8, n8, c8, rfl, i8, b8⟩; refine ⟨_, rfl, ?_⟩; have I8 := hide i8; have HN8 := hide (HN7.out.drew.below b8); have IO8 := hide (IO.out.below b8); have y0 := cellKeep b8 o0; have y1 := cellKeep b8 o1; clear b8 i8)
          | (refine step_call rfl 65 #[.agg #[.bool so, .slice ao no co], .agg #[.bool s8, .slice a8 n8 c8], .int .u32 1] ?_ (series_any _ so s8 ao a8 no co n8 c8 18446744073709551616 T 1 S2 hang (by omega) IO8.out I8.out (by omega) H2.out.1) ?_; (focus (simp [go_sem]; done)); rintro e w9 ⟨s9, a9, n9, c9, rfl, i9, b9⟩; refine ⟨_, rfl, ?_⟩; have I9 := hide i9; have HN9 := hide (HN8.out.below b9); clear b9 i9)
          | (refine step_call rfl 64 #[.agg #[.bool s9, .slice a9 n9 c9]] ?_ (toTab_any _ s9 a9 n9 c9 S2 yy hS20 H2.out.2 hy0 hy1 I9.out) ?_; (focus (simp [go_sem]; done)); rintro e w10 ⟨rfl, b10⟩; refine ⟨_, rfl, ?_⟩; have HN10 := hide (HN9.out.below b10); clear b10))
        all_goals
          go_wp2_with fail
          go_meet
          case rel => exact ⟨rfl, HN10.out⟩
      obtain ⟨rfl, hn8⟩ := hcut
      have HN8 := hide hn8
      clear hn8 HN7 H2 hA
      go_wp2
      go_loopw [4, 5, 6] (fun xv yv qv wr => ∃ (q : Nat) (X Y : Nat → Int), q ≤ 4 ∧ xv = .int .i64 (rotP q (xx, yy)).1 ∧ yv = .int .i64 (rotP q (xx, yy)).2 ∧ qv = .int .i64 q ∧ DoneT r q X Y ∧ NI w wr b po X Y) (fun _ _ qv _ => 4 - (intOf qv).toNat)
      case atStart => exact ⟨0, X, Y, by omega, rfl, rfl, rfl, HDn.out, HN8.out⟩
      case round =>
        clear HN8 HDn
        obtain ⟨q, X, Y, hq, rfl, rfl, rfl, hdone, hni⟩ := hrel
        have HDn := hide hdone
        have HN := hide hni
        clear hdone hni
        by_cases hq4 : q < 4
        · obtain ⟨t, ht⟩ : ∃ t, q * 1024 + r = t := ⟨_, rfl⟩
          have ht4 : t < 4096 := by omega
          have hti : (q : Int) * 1024 + (r : Int) = (t : Int) := by omega
          have ht4' : (t : Int) < 4096 := by omega
          have hdr := dir_rot hlt ht
          rw [HXY.out] at hdr
          have hlb := allB_at lawAll t ht4
          unfold lawB at hlb
          simp only [decide_eq_true_eq] at hlb
          obtain ⟨-, -, -, -, bx1, bx2, by1, by2⟩ := hlb
          have hsucc := rotP_succ q (xx, yy)
          have HST := hide (HDn.out.step (x := (dirP t).1) (y := (dirP t).2) ht rfl rfl)
          rw [hdr] at bx1 bx2 by1 by2 HST
          obtain ⟨u, hu⟩ : ∃ u, (rotP q (xx, yy)).1 = u := ⟨_, rfl⟩
          obtain ⟨v, hv⟩ : ∃ u, (rotP q (xx, yy)).2 = u := ⟨_, rfl⟩
          rw [hu, hv] at hsucc HST
          rw [hu] at bx1 bx2 ⊢
          rw [hv] at by1 by2 ⊢
          have HSU := hide hsucc
          have hcx := HN.out.tb.x t ht4
          have hcf := HN.out.tb.fr
          have hcy := ((HN.out.tb.setX (t := t) (v := u)).resolve_right (by omega)).y t ht4
          have hcf2 := ((HN.out.tb.setX (t := t) (v := u)).resolve_right (by omega)).fr
          have HN2 := hide (HN.out.set (x := u) (y := v) ht4)
          have huw : IntKind.i64.wrap (-u) = -u := by rw [IntKind.wrap_i64]; omega
          clear hsucc hu hv hdr HN HDn
          go_wp2
          go_roundw
          case rel => exact ⟨q + 1, _, _, by omega, by rw [HSU.out], by rw [HSU.out], by go_num, HST.out, HN2.out⟩
          case measure => simp [intOf]; omega
        · obtain rfl : q = 4 := by omega
          rw [show ((4 : Nat) : Int) = 4 from rfl]
          go_wp2
          go_roundw
          case rel => exact ⟨r + 1, X, Y, by omega, by go_num, HDn.out.next, HN.out⟩
          case measure => simp [intOf]; omega
    · obtain rfl : r = 1024 := by omega
      rw [show ((1024 : Nat) : Int) = 1024 from rfl]
      go_wp2
      go_ret
      refine ⟨by rw [hb]; rfl, ?_, by rw [hb]; exact HN.out.bel⟩
      rw [hb]
      refine ⟨fun s hs => ?_, fun s hs => ?_⟩
      · rw [HN.out.tb.x s hs, (HDn.out s hs (by omega)).1]
      · rw [HN.out.tb.y s hs, (HDn.out s hs (by omega)).2]
end Go.Proofs.Qxb6500775a
