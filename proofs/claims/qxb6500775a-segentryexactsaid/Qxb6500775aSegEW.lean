import Derived.Test.Qxb6500775aNA
import Derived.Test.Qxb6500775aSegDW
namespace Go.Proofs.Qxb6500775a
open Go.RowKit

/-- The step's copy. -/
structure OB (w wx : World) (po : Nat) (kd A B C D E F Gg : Int) : Prop where
  o0 : wx.cell? ⟨po, 0, none⟩ = some (.int .i64 kd)
  o1 : wx.cell? ⟨po, 1, none⟩ = some (.int .i64 A)
  o2 : wx.cell? ⟨po, 2, none⟩ = some (.int .i64 B)
  o3 : wx.cell? ⟨po, 3, none⟩ = some (.int .i64 C)
  o4 : wx.cell? ⟨po, 4, none⟩ = some (.int .i64 D)
  o5 : wx.cell? ⟨po, 5, none⟩ = some (.int .i64 E)
  o6 : wx.cell? ⟨po, 6, none⟩ = some (.int .i64 F)
  o7 : wx.cell? ⟨po, 7, none⟩ = some (.int .i64 Gg)
  bel : Below w.heap.size w wx
theorem OB.below {w wx wy : World} {po : Nat} {kd A B C D E F Gg : Int} (h : OB w wx po kd A B C D E F Gg) (hb : Below wx.heap.size wx wy) : OB w wy po kd A B C D E F Gg :=
  ⟨cellKeep hb h.o0, cellKeep hb h.o1, cellKeep hb h.o2, cellKeep hb h.o3, cellKeep hb h.o4, cellKeep hb h.o5, cellKeep hb h.o6, cellKeep hb h.o7, lec h.bel hb⟩
/-- The model's segment in its box. -/
structure SB (wx : World) (pb : Nat) (s1 : Bool) (a1 : Option Addr) (n1 c1 : Nat) (s2 : Bool) (a2 : Option Addr) (n2 c2 : Nat) (s3 : Bool) (a3 : Option Addr) (n3 c3 : Nat) (s4 : Bool) (a4 : Option Addr) (n4 c4 : Nat) (s5 : Bool) (a5 : Option Addr) (n5 c5 : Nat) (al len cr st : Int) : Prop where
  f0 : wx.cell? ⟨pb, 0, none⟩ = some (.bool s1)
  f1 : wx.cell? ⟨pb, 1, none⟩ = some (.slice a1 n1 c1)
  f2 : wx.cell? ⟨pb, 2, none⟩ = some (.bool s2)
  f3 : wx.cell? ⟨pb, 3, none⟩ = some (.slice a2 n2 c2)
  f4 : wx.cell? ⟨pb, 4, none⟩ = some (.bool s3)
  f5 : wx.cell? ⟨pb, 5, none⟩ = some (.slice a3 n3 c3)
  f6 : wx.cell? ⟨pb, 6, none⟩ = some (.bool s4)
  f7 : wx.cell? ⟨pb, 7, none⟩ = some (.slice a4 n4 c4)
  f8 : wx.cell? ⟨pb, 8, none⟩ = some (.bool s5)
  f9 : wx.cell? ⟨pb, 9, none⟩ = some (.slice a5 n5 c5)
  i1 : IsI 8 wx s1 a1 n1 c1 al
  i2 : IsI 8 wx s2 a2 n2 c2 len
  i3 : IsI 8 wx s3 a3 n3 c3 cr
  i4 : IsI 8 wx s4 a4 n4 c4 st
theorem SB.below {wx wy : World} {pb : Nat} {s1 : Bool} {a1 : Option Addr} {n1 c1 : Nat} {s2 : Bool} {a2 : Option Addr} {n2 c2 : Nat} {s3 : Bool} {a3 : Option Addr} {n3 c3 : Nat} {s4 : Bool} {a4 : Option Addr} {n4 c4 : Nat} {s5 : Bool} {a5 : Option Addr} {n5 c5 : Nat} {al len cr st : Int} (h : SB wx pb s1 a1 n1 c1 s2 a2 n2 c2 s3 a3 n3 c3 s4 a4 n4 c4 s5 a5 n5 c5 al len cr st) (hb : Below wx.heap.size wx wy) : SB wy pb s1 a1 n1 c1 s2 a2 n2 c2 s3 a3 n3 c3 s4 a4 n4 c4 s5 a5 n5 c5 al len cr st :=
  ⟨cellKeep hb h.f0, cellKeep hb h.f1, cellKeep hb h.f2, cellKeep hb h.f3, cellKeep hb h.f4, cellKeep hb h.f5, cellKeep hb h.f6, cellKeep hb h.f7, cellKeep hb h.f8, cellKeep hb h.f9, h.i1.below hb, h.i2.below hb, h.i3.below hb, h.i4.below hb⟩
set_option maxRecDepth 100000 in
set_option maxHeartbeats 8000000 in
theorem segEntry_walk (w : World) (a : Option Addr) (n cap : Nat) (f : Nat → Nat → Int) (hn : n ≤ 9223372036854775807) (ho : OpsAt w a n f) :
    Calls Try.prog 9 #[.slice a n cap] w fun e w' => e = .returned (.bool true) ∧ Below w.heap.size w w' := by
  have HO := hide ho
  clear ho
  by_cases hsm : n ≤ 65536
  · go_enter Try.func9, Try.ntmps9
    go_wp2_with fail
    refine (small_any _ a n cap hn).mono ?_
    rintro e w' ⟨rfl, rfl⟩
    have hd : decide (n ≤ 65536) = true := by simpa using hsm
    rw [hd]
    clear hd
    go_wp2
    go_loopw [3] (fun i wr => ∃ k : Nat, k ≤ n ∧ i = .int .i64 k ∧ Below w'.heap.size w' wr) (fun i _ => n - (intOf i).toNat)
    case atStart => exact ⟨0, Nat.zero_le _, rfl, Below.refl _ _⟩
    case round =>
      obtain ⟨k, hk, rfl, hbel⟩ := hrel
      by_cases hlt : k < n
      · obtain ⟨bo, off, rfl, hf⟩ := HO.out k hlt
        have hc : ∀ j, j < 8 → wr.cell? ⟨bo, off + k * 8 + j, none⟩ = some (.int .i64 (f k j)) := fun j hj => (hbel.cell (World.block_lt_of_cell? _ _ (hf j hj).1)).trans (hf j hj).1
        have o0 : wr.cell? ⟨bo, off + k * 8, none⟩ = some (.int .i64 (f k 0)) := by simpa using hc 0 (by omega)
        have o1 := hc 1 (by omega)
        have o2 := hc 2 (by omega)
        have o3 := hc 3 (by omega)
        have o4 := hc 4 (by omega)
        have o5 := hc 5 (by omega)
        have o6 := hc 6 (by omega)
        have o7 := hc 7 (by omega)
        have q1 := (hf 1 (by omega)).2
        have q2 := (hf 2 (by omega)).2
        have q3 := (hf 3 (by omega)).2
        have q4 := (hf 4 (by omega)).2
        have q5 := (hf 5 (by omega)).2
        have q6 := (hf 6 (by omega)).2
        have q7 := (hf 7 (by omega)).2
        have HBel := hide hbel
        clear hc hf hbel
        generalize f k 0 = kd at *
        generalize f k 1 = A at *
        generalize f k 2 = B at *
        generalize f k 3 = C at *
        generalize f k 4 = D at *
        generalize f k 5 = E at *
        generalize f k 6 = F at *
        generalize f k 7 = Gg at *
        go_upto_region 7 with fail
        have HD : Hid (OB w' (wr.alloc (.cells #[.int .i64 kd, .int .i64 A, .int .i64 B, .int .i64 C, .int .i64 D, .int .i64 E, .int .i64 F, .int .i64 Gg] 30)) wr.heap.size kd A B C D E F Gg) :=
          ⟨by simp [go_sem], by simp [go_sem], by simp [go_sem], by simp [go_sem], by simp [go_sem], by simp [go_sem], by simp [go_sem], by simp [go_sem], belAl HBel.out _⟩
        clear o0 o1 o2 o3 o4 o5 o6 o7 HBel
        generalize wr.alloc (.cells #[.int .i64 kd, .int .i64 A, .int .i64 B, .int .i64 C, .int .i64 D, .int .i64 E, .int .i64 F, .int .i64 Gg] 30) = W at *
        generalize wr.heap.size = po at *
        have t0 := HD.out.o0
        have t1 := HD.out.o1
        have t2 := HD.out.o2
        have t3 := HD.out.o3
        have t4 := HD.out.o4
        have t5 := HD.out.o5
        have t6 := HD.out.o6
        have t7 := HD.out.o7
        by_cases h61 : kd = 61
        · subst h61
          cases hin : inB6 A B C D E F
          · go_wp2_with fail
            refine (segEntry_out _ A B C D E F Gg hin).mono ?_
            rintro e w1 ⟨rfl, rfl⟩
            go_wp2_with fail
            refine (SegDisc_out _ A B C D E F Gg hin).mono ?_
            rintro e w1 ⟨rfl, rfl⟩
            go_wp2
            go_roundw
            case rel => exact ⟨k + 1, by omega, by go_num, HD.out.bel⟩
            case measure => simp [intOf]; omega
          · have hcall := fun w => hide (segEntry_in w A B C D E F Gg hin)
            have hdisc := fun w => hide (SegDisc_in w A B C D E F Gg hin)
            have hst : (E - A) * (E - A) + (F - B) * (F - B) = (A - E) * (A - E) + (B - F) * (B - F) := by grind
            rw [hst] at hcall
            clear hst
            have hseg := fun w => hide (SegOf_any w 61 A B C D E F Gg q1 q2 q3 q4 q5 q6)
            generalize (E - A) * (C - A) + (F - B) * (D - B) = al at *
            generalize (C - A) * (C - A) + (D - B) * (D - B) = len at *
            generalize (C - A) * (F - B) - (D - B) * (E - A) = cr at *
            generalize (A - E) * (A - E) + (B - F) * (B - F) = st at *
            generalize (C - E) * (C - E) + (D - F) * (D - F) = en at *
            generalize hitB A B C D E F Gg = hit at *
            go_wp2_with fail
            refine (hcall _).out.mono ?_
            rintro e w1 ⟨q, rfl, hres, b1⟩
            have HD1 := hide (HD.out.below b1)
            have HRES := hide hres
            clear b1 hres HD hcall t0 t1 t2 t3 t4 t5 t6 t7
            have t0 := HD1.out.o0
            have t1 := HD1.out.o1
            have t2 := HD1.out.o2
            have t3 := HD1.out.o3
            have t4 := HD1.out.o4
            have t5 := HD1.out.o5
            have t6 := HD1.out.o6
            have t7 := HD1.out.o7
            go_wp2_with fail
            refine (hdisc _).out.mono ?_
            rintro e w2 ⟨rfl, b2⟩
            have HD2 := hide (HD1.out.below b2)
            clear b2 HD1 hdisc t0 t1 t2 t3 t4 t5 t6 t7
            cases hit
            · have hq0 := HRES.out.1 rfl
              subst hq0
              have HD := HD2
              clear HD2 HRES
              go_wp2
              go_roundw
              case rel => exact ⟨k + 1, by omega, by go_num, HD.out.bel⟩
              case measure => simp [intOf]; omega
            · obtain ⟨hr1, hr2⟩ := HRES.out.2 rfl
              have HR1 := hide hr1
              have HR2 := hide hr2
              clear hr1 hr2 HRES
              have t0 := HD2.out.o0
              have t1 := HD2.out.o1
              have t2 := HD2.out.o2
              have t3 := HD2.out.o3
              have t4 := HD2.out.o4
              have t5 := HD2.out.o5
              have t6 := HD2.out.o6
              have t7 := HD2.out.o7
              go_wp2_with fail
              refine (hseg _).out.mono ?_
              rintro e w3 ⟨v, rfl, hsv, b3⟩
              obtain ⟨s1, a1, n1, c1, s2, a2, n2, c2, s3, a3, n3, c3, s4, a4, n4, c4, s5, a5, n5, c5, rfl, i1, i2, i3, i4, i5⟩ := hsv
              have ba := (Below.refl w3.heap.size w3).alloc (Nat.le_refl _) (.cells #[.bool s1, .slice a1 n1 c1, .bool s2, .slice a2 n2 c2, .bool s3, .slice a3 n3 c3, .bool s4, .slice a4 n4 c4, .bool s5, .slice a5 n5 c5] 53)
              have HSB : Hid (SB (w3.alloc (.cells #[.bool s1, .slice a1 n1 c1, .bool s2, .slice a2 n2 c2, .bool s3, .slice a3 n3 c3, .bool s4, .slice a4 n4 c4, .bool s5, .slice a5 n5 c5] 53)) w3.heap.size s1 a1 n1 c1 s2 a2 n2 c2 s3 a3 n3 c3 s4 a4 n4 c4 s5 a5 n5 c5 al len cr st) :=
                ⟨by simp [go_sem], by simp [go_sem], by simp [go_sem], by simp [go_sem], by simp [go_sem], by simp [go_sem], by simp [go_sem], by simp [go_sem], by simp [go_sem], by simp [go_sem], i1.below ba, i2.below ba, i3.below ba, i4.below ba⟩
              have HD3 := hide ((HD2.out.below b3).below ba)
              clear i1 i2 i3 i4 i5 b3 ba HD2 hseg t0 t1 t2 t3 t4 t5 t6 t7
              go_upto_region 16 with fail
              generalize w3.alloc (.cells #[.bool s1, .slice a1 n1 c1, .bool s2, .slice a2 n2 c2, .bool s3, .slice a3 n3 c3, .bool s4, .slice a4 n4 c4, .bool s5, .slice a5 n5 c5] 53) = W3 at *
              generalize w3.heap.size = pb at *
              have m6 := HSB.out.f6
              have m7 := HSB.out.f7
              have m8 := HD3.out.o7
              have I4 := hide HSB.out.i4
              have hGG : Hid (sgn (st - Gg * Gg) ≤ 0 ↔ st ≤ Gg * Gg) := hide (by rw [sgnN_le]; omega)
              by_cases hin2 : st ≤ Gg * Gg
              · have hq0 := HR1.out hin2
                subst hq0
                have hdec : Hid (decide (sgn (st - Gg * Gg) ≤ 0) = true) := hide (by simpa using hGG.out.2 hin2)
                have zS := And.intro m6 (And.intro m7 m8)
                have ztok1 : True := trivial
                have ztok2 : True := trivial
                have ztok3 : True := trivial
                have ztok4 : True := trivial
                go_region_held3 (fun w' => w'.cell? ⟨pb, 6, none⟩ = some (.bool s4) ∧ w'.cell? ⟨pb, 7, none⟩ = some (.slice a4 n4 c4) ∧ w'.cell? ⟨po, 7, none⟩ = some (.int .i64 Gg)) (first | (with_reducible exact zS) | (with_reducible exact (by simpa only [World.cell?_drew] using zS)) | (simp [*, go_sem]; done))
                  (first
                    | (go_at_call 15; have _t := ztok1; clear ztok1; refine (Of_any _ (Gg) (by omega) (by omega)).mono ?_; rintro e zw1 ⟨zs1, za1, zn1, zc1, rfl, zi1, zb1⟩; (try replace zb1 := of_drew zb1); have I4 := hide (I4.out.below zb1); have HSB := hide (HSB.out.below zb1); have HD3 := hide (HD3.out.below zb1); have zS := (And.intro (cellKeep zb1 zS.1) (And.intro (cellKeep zb1 zS.2.1) (cellKeep zb1 zS.2.2))); clear zb1; have zI1 := hide zi1; clear zi1)
                    | (go_at_call 15; have _t := ztok2; clear ztok2; refine (Of_any _ (Gg) (by omega) (by omega)).mono ?_; rintro e zw2 ⟨zs2, za2, zn2, zc2, rfl, zi2, zb2⟩; (try replace zb2 := of_drew zb2); have I4 := hide (I4.out.below zb2); have HSB := hide (HSB.out.below zb2); have HD3 := hide (HD3.out.below zb2); have zI1 := hide (zI1.out.below zb2); have zS := (And.intro (cellKeep zb2 zS.1) (And.intro (cellKeep zb2 zS.2.1) (cellKeep zb2 zS.2.2))); clear zb2; have zI2 := hide zi2; clear zi2)
                    | (go_at_call 18; have _t := ztok3; clear ztok3; refine (Mul_any _ zs1 zs2 za1 za2 zn1 zn2 zc1 zc2 2 2 (Gg) (Gg) (by omega) zI1.out zI2.out).mono ?_; rintro e zw3 ⟨zs3, za3, zn3, zc3, rfl, zi3, zb3⟩; (try replace zb3 := of_drew zb3); have I4 := hide (I4.out.below zb3); have HSB := hide (HSB.out.below zb3); have HD3 := hide (HD3.out.below zb3); have zI1 := hide (zI1.out.below zb3); have zI2 := hide (zI2.out.below zb3); have zS := (And.intro (cellKeep zb3 zS.1) (And.intro (cellKeep zb3 zS.2.1) (cellKeep zb3 zS.2.2))); clear zb3; have zI3 := hide zi3; clear zi3)
                    | (go_at_call 24; have _t := ztok4; clear ztok4; refine (Cmp_any _ s4 zs3 a4 za3 n4 zn3 c4 zc3 8 4 8 (st) ((Gg) * (Gg)) (by omega) (by omega) (by omega) I4.out zI3.out).mono ?_; rintro e zw4 ⟨rfl, zb4⟩; (try replace zb4 := of_drew zb4); have I4 := hide (I4.out.below zb4); have HSB := hide (HSB.out.below zb4); have HD3 := hide (HD3.out.below zb4); have zI1 := hide (zI1.out.below zb4); have zI2 := hide (zI2.out.below zb4); have zI3 := hide (zI3.out.below zb4); have zS := (And.intro (cellKeep zb4 zS.1) (And.intro (cellKeep zb4 zS.2.1) (cellKeep zb4 zS.2.2))); clear zb4))
                rw [hdec.out]
                have HD := HD3
                clear HD3 hdec hGG
                go_wp2
                go_roundw
                case rel => exact ⟨k + 1, by omega, by go_num, HD.out.bel⟩
                case measure => simp [intOf]; omega
              · obtain ⟨e0, e1, e2, e3⟩ := HR2.out (by omega)
                rw [← naB_iff] at e2 e3
                have e3' : naB al len cr Gg (q + 1) = false := by simpa using e3
                have hdec : Hid (decide (sgn (st - Gg * Gg) ≤ 0) = false) := hide (by simp only [decide_eq_false_iff_not]; intro h; exact hin2 (hGG.out.1 h))
                clear e3 hin2
                have zS := And.intro m6 (And.intro m7 m8)
                have ztok1 : True := trivial
                have ztok2 : True := trivial
                have ztok3 : True := trivial
                have ztok4 : True := trivial
                go_region_held3 (fun w' => w'.cell? ⟨pb, 6, none⟩ = some (.bool s4) ∧ w'.cell? ⟨pb, 7, none⟩ = some (.slice a4 n4 c4) ∧ w'.cell? ⟨po, 7, none⟩ = some (.int .i64 Gg)) (first | (with_reducible exact zS) | (with_reducible exact (by simpa only [World.cell?_drew] using zS)) | (simp [*, go_sem]; done))
                  (first
                    | (go_at_call 15; have _t := ztok1; clear ztok1; refine (Of_any _ (Gg) (by omega) (by omega)).mono ?_; rintro e zw1 ⟨zs1, za1, zn1, zc1, rfl, zi1, zb1⟩; (try replace zb1 := of_drew zb1); have I4 := hide (I4.out.below zb1); have HSB := hide (HSB.out.below zb1); have HD3 := hide (HD3.out.below zb1); have zS := (And.intro (cellKeep zb1 zS.1) (And.intro (cellKeep zb1 zS.2.1) (cellKeep zb1 zS.2.2))); clear zb1; have zI1 := hide zi1; clear zi1)
                    | (go_at_call 15; have _t := ztok2; clear ztok2; refine (Of_any _ (Gg) (by omega) (by omega)).mono ?_; rintro e zw2 ⟨zs2, za2, zn2, zc2, rfl, zi2, zb2⟩; (try replace zb2 := of_drew zb2); have I4 := hide (I4.out.below zb2); have HSB := hide (HSB.out.below zb2); have HD3 := hide (HD3.out.below zb2); have zI1 := hide (zI1.out.below zb2); have zS := (And.intro (cellKeep zb2 zS.1) (And.intro (cellKeep zb2 zS.2.1) (cellKeep zb2 zS.2.2))); clear zb2; have zI2 := hide zi2; clear zi2)
                    | (go_at_call 18; have _t := ztok3; clear ztok3; refine (Mul_any _ zs1 zs2 za1 za2 zn1 zn2 zc1 zc2 2 2 (Gg) (Gg) (by omega) zI1.out zI2.out).mono ?_; rintro e zw3 ⟨zs3, za3, zn3, zc3, rfl, zi3, zb3⟩; (try replace zb3 := of_drew zb3); have I4 := hide (I4.out.below zb3); have HSB := hide (HSB.out.below zb3); have HD3 := hide (HD3.out.below zb3); have zI1 := hide (zI1.out.below zb3); have zI2 := hide (zI2.out.below zb3); have zS := (And.intro (cellKeep zb3 zS.1) (And.intro (cellKeep zb3 zS.2.1) (cellKeep zb3 zS.2.2))); clear zb3; have zI3 := hide zi3; clear zi3)
                    | (go_at_call 24; have _t := ztok4; clear ztok4; refine (Cmp_any _ s4 zs3 a4 za3 n4 zn3 c4 zc3 8 4 8 (st) ((Gg) * (Gg)) (by omega) (by omega) (by omega) I4.out zI3.out).mono ?_; rintro e zw4 ⟨rfl, zb4⟩; (try replace zb4 := of_drew zb4); have I4 := hide (I4.out.below zb4); have HSB := hide (HSB.out.below zb4); have HD3 := hide (HD3.out.below zb4); have zI1 := hide (zI1.out.below zb4); have zI2 := hide (zI2.out.below zb4); have zI3 := hide (zI3.out.below zb4); have zS := (And.intro (cellKeep zb4 zS.1) (And.intro (cellKeep zb4 zS.2.1) (cellKeep zb4 zS.2.2))); clear zb4))
                rw [hdec.out]
                clear hdec hGG zS m6 m7 m8 zI1 zI2 zI3 I4
                obtain ⟨qq, hqq⟩ : ∃ x, q + 1 = x := ⟨_, rfl⟩
                rw [hqq] at e3'
                have hqw : IntKind.i64.wrap qq = qq := by rw [IntKind.wrap_i64]; omega
                have hn1 := fun w h1 h2 h3 => hide (notAfter_any w s1 a1 n1 c1 s2 a2 n2 c2 s3 a3 n3 c3 s4 a4 n4 c4 s5 a5 n5 c5 al len cr Gg q q7 (by omega) h1 h2 h3)
                have hn2 := fun w h1 h2 h3 => hide (notAfter_any w s1 a1 n1 c1 s2 a2 n2 c2 s3 a3 n3 c3 s4 a4 n4 c4 s5 a5 n5 c5 al len cr Gg qq q7 (by omega) h1 h2 h3)
                rw [e2] at hn1
                rw [e3'] at hn2
                clear e2 e3'
                have t7 := HD3.out.o7
                have y0 := HSB.out.f0
                have y1 := HSB.out.f1
                have y2 := HSB.out.f2
                have y3 := HSB.out.f3
                have y4 := HSB.out.f4
                have y5 := HSB.out.f5
                have y6 := HSB.out.f6
                have y7 := HSB.out.f7
                have y8 := HSB.out.f8
                have y9 := HSB.out.f9
                go_wp2_with fail
                refine (hn1 _ HSB.out.i1 HSB.out.i2 HSB.out.i3).out.mono ?_
                rintro e w8 ⟨rfl, b8⟩
                have HD8 := hide (HD3.out.below b8)
                have HSB8 := hide (HSB.out.below b8)
                clear b8 HD3 HSB t7 y0 y1 y2 y3 y4 y5 y6 y7 y8 y9 hn1
                have t7 := HD8.out.o7
                have y0 := HSB8.out.f0
                have y1 := HSB8.out.f1
                have y2 := HSB8.out.f2
                have y3 := HSB8.out.f3
                have y4 := HSB8.out.f4
                have y5 := HSB8.out.f5
                have y6 := HSB8.out.f6
                have y7 := HSB8.out.f7
                have y8 := HSB8.out.f8
                have y9 := HSB8.out.f9
                go_wp2_with fail
                refine (hn2 _ HSB8.out.i1 HSB8.out.i2 HSB8.out.i3).out.mono ?_
                rintro e w9 ⟨rfl, b9⟩
                have HD := hide (HD8.out.below b9)
                clear b9 HD8 HSB8 t7 y0 y1 y2 y3 y4 y5 y6 y7 y8 y9 hn2
                go_wp2
                go_roundw
                case rel => exact ⟨k + 1, by omega, by go_num, HD.out.bel⟩
                case measure => simp [intOf]; omega
        · have n61 : (kd != 61) = true := by simpa using h61
          clear h61
          go_wp2
          go_roundw
          case rel => exact ⟨k + 1, by omega, by go_num, HD.out.bel⟩
          case measure => simp [intOf]; omega
      · go_wp2
        go_ret
        exact ⟨rfl, hbel⟩
  · go_enter Try.func9, Try.ntmps9
    go_wp2_with fail
    refine (small_any _ a n cap hn).mono ?_
    rintro e w' ⟨rfl, rfl⟩
    have hd : decide (n ≤ 65536) = false := by simpa using hsm
    rw [hd]
    clear hd
    go_wp2
    go_ret
    exact ⟨rfl, Below.refl _ _⟩
end Go.Proofs.Qxb6500775a
