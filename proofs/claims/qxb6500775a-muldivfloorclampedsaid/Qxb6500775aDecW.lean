import Derived.Test.Qxb6500775aDec
import Derived.Test.Qxb6500775aOps
namespace Go.Proofs.Qxb6500775a
open Go.RowKit

theorem sgn_le0 {z : Int} : sgn z ≤ 0 ↔ z ≤ 0 := by unfold sgn; split <;> (try split) <;> omega
theorem sgn_lt0 {z : Int} : sgn z < 0 ↔ z < 0 := by unfold sgn; split <;> (try split) <;> omega
theorem sgn_gt {z : Int} (h : z ≤ 0) : decide (0 < sgn z) = false := by have := sgn_le0 (z := z); simp; omega
theorem sgn_ge {z : Int} (h : z < 0) : decide (0 ≤ sgn z) = false := by have := sgn_lt0 (z := z); simp; omega
theorem sgn_lt' {z : Int} (h : 0 ≤ z) : decide (sgn z < 0) = false := by have := sgn_lt0 (z := z); simp; omega
/-- What the laws on decibels have at hand in a round: the tables b, ten at pt, the step at po. -/
structure DI (w wx : World) (b pt po : Nat) (kd A : Int) : Prop where
  tab : Tabs wx b
  ten : VarI 2 wx pt 10
  o0 : wx.cell? ⟨po, 0, none⟩ = some (.int .i64 kd)
  o1 : wx.cell? ⟨po, 1, none⟩ = some (.int .i64 A)
  bel : Below b w wx
  sz : b ≤ wx.heap.size
theorem DI.below {w wx wy : World} {b pt po : Nat} {kd A : Int} (h : DI w wx b pt po kd A) (hb : Below wx.heap.size wx wy) : DI w wy b pt po kd A :=
  ⟨h.tab.below hb, h.ten.below hb, cellKeep hb h.o0, cellKeep hb h.o1, h.bel.trans (hb.mono h.sz), Nat.le_trans h.sz hb.size⟩
theorem DI.drew {w wx : World} {b pt po : Nat} {kd A : Int} (h : DI w wx b pt po kd A) : DI w wx.drew b pt po kd A := h.below (Below.refl _ _).drew
theorem VarI.drew {N : Nat} {w : World} {p : Nat} {z : Int} (h : VarI N w p z) : VarI N w.drew p z := h.below (Below.refl _ _).drew
theorem VarI.al {N : Nat} {w : World} {p : Nat} {z : Int} (h : VarI N w p z) (o : Obj) : VarI N (w.alloc o) p z := h.below ((Below.refl _ _).alloc (Nat.le_refl _) o)
theorem DI.al {w wx : World} {b pt po : Nat} {kd A : Int} (h : DI w wx b pt po kd A) (o : Obj) : DI w (wx.alloc o) b pt po kd A := h.below ((Below.refl _ _).alloc (Nat.le_refl _) o)
/-- A call behind a guard that holds. -/
theorem step_call_g {P : Program} {w : World} {ops : Array Oper} {o : Oper} {a : Act} {K : Act → World → Prop} {Q : Exit → Act → World → Prop} {E : Prop} (hg : Region.wanted o (yielded ops a.tmps) = true)
    (f : FuncId) (args : Array Value) (hrun : (execOp a.eval o).run P w = .ok (.enter f args) w) {Post : Ending → World → Prop} (hc : Calls P f args w Post)
    (h : ∀ e w', Post e w' → ∃ v, e = .returned v ∧ K (a.put o.dst v) w') :
    if Region.wanted o (yielded ops a.tmps) = true then Oper.wp P o a w K Q else E := by
  rw [if_pos hg]
  unfold Oper.wp
  rw [hrun, Oper.upon_enter]
  refine hc.mono fun e w' hh => ?_
  obtain ⟨v, rfl, hK⟩ := h e w' hh
  exact hK
set_option maxRecDepth 100000 in
set_option maxHeartbeats 8000000 in
theorem decibelExact_walk (w : World) (a : Option Addr) (n cap : Nat) (f : Nat → Nat → Int) (hn : n ≤ 9223372036854775807) (ho : OpsAt w a n f) :
    Calls Try.prog 10 #[.slice a n cap] w fun e w' => e = .returned (.bool true) ∧ Below w.heap.size w w' := by
  have HO := hide ho
  clear ho
  by_cases hsm : n ≤ 65536
  · go_enter Try.func10, Try.ntmps10
    go_wp2_with fail
    refine (small_any _ a n cap hn).mono ?_
    rintro e w' ⟨rfl, rfl⟩
    have hd : decide (n ≤ 65536) = true := by simpa using hsm
    rw [hd]
    clear hd
    go_wp2_with fail
    refine (new_any _).mono ?_
    rintro e w1 ⟨rfl, ht, hb⟩
    have HT := hide ht
    have HB := hide hb
    clear ht hb
    generalize hbb : w'.heap.size = b at *
    go_wp2_with fail
    refine (Of_any _ 10 (by omega) (by omega)).mono ?_
    rintro e w2 ⟨s2, a2, n2, c2, rfl, i2, b2⟩
    go_upto_region 5 with fail
    have HV := hide (varNew i2)
    have hb1 : b ≤ w1.heap.size := by have := HB.out.size; rw [hbb] at this; exact this
    have HT2 := hide ((HT.out.below b2).below ((Below.refl w2.heap.size w2).alloc (Nat.le_refl _) (.cells #[.bool s2, .slice a2 n2 c2] 26)))
    have HB2 : Hid (Below b w' (w2.alloc (.cells #[.bool s2, .slice a2 n2 c2] 26))) := (HB.out.trans (b2.mono hb1)).alloc (Nat.le_trans hb1 b2.size) _
    clear HT HB i2 b2 hb1
    generalize w2.alloc (.cells #[.bool s2, .slice a2 n2 c2] 26) = W2 at *
    generalize w2.heap.size = pt at *
    go_wp2
    go_loopw [5] (fun i wr => ∃ k : Nat, k ≤ n ∧ i = .int .i64 k ∧ Below b w' wr ∧ Tabs wr b ∧ VarI 2 wr pt 10) (fun i _ => n - (intOf i).toNat)
    case atStart => exact ⟨0, Nat.zero_le _, rfl, HB2.out, HT2.out, HV.out⟩
    case round =>
      clear HT2 HB2 HV
      obtain ⟨k, hk, rfl, hbel, htab, hten⟩ := hrel
      by_cases hlt : k < n
      · obtain ⟨bo, off, rfl, hf⟩ := HO.out k hlt
        have hc : ∀ j, j < 8 → wr.cell? ⟨bo, off + k * 8 + j, none⟩ = some (.int .i64 (f k j)) := fun j hj => (hbel.cell (by rw [← hbb]; exact World.block_lt_of_cell? _ _ (hf j hj).1)).trans (hf j hj).1
        have o0 : wr.cell? ⟨bo, off + k * 8, none⟩ = some (.int .i64 (f k 0)) := by simpa using hc 0 (by omega)
        have o1 := hc 1 (by omega)
        have o2 := hc 2 (by omega)
        have o3 := hc 3 (by omega)
        have o4 := hc 4 (by omega)
        have o5 := hc 5 (by omega)
        have o6 := hc 6 (by omega)
        have o7 := hc 7 (by omega)
        have q1 := (hf 1 (by omega)).2
        have HBel := hide hbel
        have HTab := hide htab
        have HTen := hide hten
        clear hc hf hbel htab hten
        generalize f k 0 = kd at *
        generalize f k 1 = A at *
        generalize f k 2 = B at *
        generalize f k 3 = C at *
        generalize f k 4 = D at *
        generalize f k 5 = E at *
        generalize f k 6 = F at *
        generalize f k 7 = Gg at *
        go_upto_region 9 with fail
        have BB := hide ((Below.refl wr.heap.size wr).alloc (Nat.le_refl _) (.cells #[.int .i64 kd, .int .i64 A, .int .i64 B, .int .i64 C, .int .i64 D, .int .i64 E, .int .i64 F, .int .i64 Gg] 30))
        have hsz : b ≤ wr.heap.size := by have := HBel.out.size; rw [hbb] at this; exact this
        have HD : Hid (DI w' (wr.alloc (.cells #[.int .i64 kd, .int .i64 A, .int .i64 B, .int .i64 C, .int .i64 D, .int .i64 E, .int .i64 F, .int .i64 Gg] 30)) b pt wr.heap.size kd A) :=
          ⟨HTab.out.below BB.out, HTen.out.below BB.out, by simp [go_sem], by simp [go_sem], HBel.out.trans (BB.out.mono hsz), Nat.le_trans hsz BB.out.size⟩
        clear o0 o1 o2 o3 o4 o5 o6 o7 HTab HTen HBel BB hsz
        generalize wr.alloc (.cells #[.int .i64 kd, .int .i64 A, .int .i64 B, .int .i64 C, .int .i64 D, .int .i64 E, .int .i64 F, .int .i64 Gg] 30) = W at *
        generalize wr.heap.size = po at *
        have t0 := HD.out.o0
        have t1 := HD.out.o1
        by_cases h62 : kd = 62
        · subst h62
          by_cases hA : A < 1
          · go_wp2_with fail
            refine (decibel_low _ b A hA).mono ?_
            rintro e w3 ⟨rfl, rfl⟩
            go_wp2
            go_roundw
            case rel => exact ⟨k + 1, by omega, by go_num, HD.out.bel, HD.out.tab, HD.out.ten⟩
            case measure => simp [intOf]; omega
          · go_wp2_with fail
            refine (decibel_any _ b A (by omega) HD.out.tab).mono ?_
            rintro e w3 ⟨kk, rfl, hdec, rfl⟩
            obtain ⟨l1, l2⟩ := dec_law (by omega) hdec
            have hk130 := hdec.1
            have hk130' : (kk : Int) ≤ 130 := by omega
            have HL := hide (And.intro l1 l2)
            clear hdec l1 l2
            have g66 : Hid (decide (0 < sgn ((10 : Int) ^ kk - A ^ 10)) = false) := hide (sgn_gt (by have := HL.out.1; omega))
            go_wp2_with fail
            refine (Of_any _ A (by omega) (by omega)).mono ?_
            rintro e w4 ⟨s4, a4, n4, c4, rfl, i4, b4⟩
            have I4 := hide i4
            have HD4 := hide (HD.out.below b4)
            clear i4 b4 HD t0 t1
            go_wp2_with fail
            refine (Pow_any _ s4 a4 n4 c4 2 10 A (by omega) (by omega) I4.out).mono ?_
            rintro e w5 ⟨s5, a5, n5, c5, rfl, i5, b5⟩
            have HD5 := hide ((HD4.out.below b5).al (.cells #[.bool s5, .slice a5 n5 c5] 26))
            have HP := hide (varNew i5)
            clear i5 b5 HD4 I4
            go_upto_region 17 with fail
            generalize w5.alloc (.cells #[.bool s5, .slice a5 n5 c5] 26) = W5 at *
            generalize w5.heap.size = pp at *
            obtain ⟨P10, hP10⟩ : ∃ P, A ^ 10 = P := ⟨_, rfl⟩
            obtain ⟨T10, hT10⟩ : ∃ P, (10 : Int) ^ kk = P := ⟨_, rfl⟩
            rw [hP10] at HP HL g66
            rw [hT10] at HL g66
            have HT10 := hide hT10
            clear hP10 hT10
            go_cut [66] (fun s wx => s = .bool false ∧ DI w' wx b pt po 62 A ∧ VarI 22 wx pp P10)
            case first =>
              obtain ⟨st, at', nt, ct, v0, v1, it⟩ := HD5.out.drew.ten
              obtain ⟨sp, ap, np, cp, p0, p1, ip⟩ := HP.out.drew
              have IT := hide it
              have IP := hide ip
              clear it ip
              go_region_law (first
                | (refine step_call rfl 38 #[.agg #[.bool st, .slice at' nt ct], .int .i64 kk] ?_ (Pow_any _ st at' nt ct 2 kk 10 (by omega) (by omega) IT.out) ?_; (focus (simp [go_sem]; done)); rintro e w6 ⟨s6, a6, n6, c6, rfl, i6, b6⟩; refine ⟨_, rfl, ?_⟩; rw [HT10.out] at i6; have I6 := hide i6; have HD6 := hide (HD5.out.drew.below b6); have HP6 := hide (HP.out.drew.below b6); have IP6 := hide (IP.out.below b6); have y0 := cellKeep b6 p0; have y1 := cellKeep b6 p1; clear b6 i6)
                | (refine step_call rfl 24 #[.agg #[.bool s6, .slice a6 n6 c6], .agg #[.bool sp, .slice ap np cp]] ?_ (Cmp_any _ s6 sp a6 ap n6 np c6 cp (2 + 2 * kk) 22 1000 T10 P10 (by omega) (by omega) (by omega) I6.out IP6.out) ?_; (focus (simp [go_sem]; done)); rintro e w7 ⟨rfl, b7⟩; refine ⟨_, rfl, ?_⟩; have HD7 := hide (HD6.out.below b7); have HP7 := hide (HP6.out.below b7); clear b7))
              all_goals
                go_wp2_with fail
                go_meet
                case rel => exact ⟨by rw [g66.out], HD7.out, HP7.out⟩
            obtain ⟨rfl, hd6, hp6⟩ := hcut
            have HD6 := hide hd6
            have HP6 := hide hp6
            clear hd6 hp6 HD5 HP g66 HT10
            by_cases hk1 : kk < 130
            · have hk1' : (kk : Int) < 130 := by omega
              have hk1d : decide ((kk : Int) < 130) = true := by simpa using hk1'
              obtain ⟨k2, hk2⟩ : ∃ k2, k2 = kk + 1 := ⟨_, rfl⟩
              have hk2e : (kk : Int) + 1 = (k2 : Int) := by omega
              have hk2l : k2 ≤ 130 := by omega
              have hk2w : IntKind.i64.wrap (k2 : Int) = (k2 : Int) := by rw [IntKind.wrap_i64]; omega
              have HL2 : Hid (P10 < (10 : Int) ^ k2) := hide (by rw [hk2]; exact HL.out.2 hk1)
              have g76 : Hid (decide (0 ≤ sgn (P10 - (10 : Int) ^ k2)) = false) := hide (sgn_ge (by have := HL2.out; omega))
              clear hk2 HL2
              obtain ⟨T2, hT2⟩ : ∃ P, (10 : Int) ^ k2 = P := ⟨_, rfl⟩
              rw [hT2] at g76
              have HT2 := hide hT2
              clear hT2
              go_upto_region 19 with fail
              go_cut [77] (fun s wx => s = .bool false ∧ DI w' wx b pt po 62 A)
              case first =>
                obtain ⟨st, at', nt, ct, v0, v1, it⟩ := HD6.out.drew.ten
                obtain ⟨sp, ap, np, cp, p0, p1, ip⟩ := HP6.out.drew
                have IT := hide it
                have IP := hide ip
                clear it ip
                go_region_law (first
                  | (refine step_call_g ?_ 38 #[.agg #[.bool st, .slice at' nt ct], .int .i64 k2] ?_ (Pow_any _ st at' nt ct 2 k2 10 (by omega) (by omega) IT.out) ?_; (focus rfl); (focus (simp [go_sem]; done)); rintro e w6 ⟨s6, a6, n6, c6, rfl, i6, b6⟩; refine ⟨_, rfl, ?_⟩; rw [HT2.out] at i6; have I6 := hide i6; have HD7 := hide (HD6.out.drew.below b6); have IP6 := hide (IP.out.below b6); have y0 := cellKeep b6 p0; have y1 := cellKeep b6 p1; clear b6 i6)
                  | (refine step_call_g ?_ 24 #[.agg #[.bool sp, .slice ap np cp], .agg #[.bool s6, .slice a6 n6 c6]] ?_ (Cmp_any _ sp s6 ap a6 np n6 cp c6 22 (2 + 2 * k2) 1000 P10 T2 (by omega) (by omega) (by omega) IP6.out I6.out) ?_; (focus rfl); (focus (simp [go_sem]; done)); rintro e w7 ⟨rfl, b7⟩; refine ⟨_, rfl, ?_⟩; have HD8 := hide (HD7.out.below b7); clear b7))
                all_goals
                  go_wp2_with fail
                  go_meet
                  case rel => exact ⟨by rw [g76.out], HD8.out⟩
              obtain ⟨rfl, hd8⟩ := hcut
              have HD8 := hide hd8
              have t0 := hd8.o0
              have t1 := hd8.o1
              clear hd8 HD6 HP6 g76 HT2
              go_wp2
              go_roundw
              case rel => exact ⟨k + 1, by omega, by go_num, HD8.out.bel, HD8.out.tab, HD8.out.ten⟩
              case measure => simp [intOf]; omega
            · have hk1' : ¬ (kk : Int) < 130 := by omega
              have hk1d : decide ((kk : Int) < 130) = false := by simpa using hk1'
              have t0 := HD6.out.o0
              have t1 := HD6.out.o1
              go_upto_region 19 with fail
              go_quiet (fail)
              have HD7 := hide (HD6.out.below (below_drewN _ nq _))
              replace t0 := HD7.out.o0
              replace t1 := HD7.out.o1
              go_wp2
              go_roundw
              case rel => exact ⟨k + 1, by omega, by go_num, HD7.out.bel, HD7.out.tab, HD7.out.ten⟩
              case measure => simp [intOf]; omega
        · have n62 : (kd == 62) = false := by simpa using h62
          clear h62
          by_cases hg : kd = 63 ∧ 1 ≤ A ∧ A ≤ 130
          · obtain ⟨rfl, hA1, hA2⟩ := hg
            obtain ⟨kk, rfl⟩ : ∃ kk : Nat, A = kk := ⟨A.toNat, by omega⟩
            obtain ⟨l1, l2, l3, l4⟩ := loss_at kk (by omega)
            have hcall := fun w h => hide (lossRange_any w b kk (by omega) (by omega) h)
            obtain ⟨L, hL⟩ : ∃ L, lossP kk = L := ⟨_, rfl⟩
            rw [hL] at hcall l1 l2 l3 l4
            have HL := hide (And.intro l1 l2)
            clear hL l1 l2
            have g113 : Hid (decide (sgn (L ^ 10 - (10 : Int) ^ kk) < 0) = false) := hide (sgn_lt' (by have := HL.out.1; omega))
            have g120 : Hid (decide (0 ≤ sgn ((L - 1) ^ 10 - (10 : Int) ^ kk)) = false) := hide (sgn_ge (by have := HL.out.2; omega))
            clear HL
            obtain ⟨T10, hT10⟩ : ∃ P, (10 : Int) ^ kk = P := ⟨_, rfl⟩
            rw [hT10] at g113 g120
            have HT10 := hide hT10
            clear hT10
            have hk1 : ¬ (kk : Int) < 1 := by omega
            go_wp2_with fail
            refine (hcall _ HD.out.tab).out.mono ?_
            rintro e w3 ⟨rfl, rfl⟩
            clear hcall
            obtain ⟨st, at', nt, ct, v0, v1, it⟩ := HD.out.ten
            have IT := hide it
            clear it
            go_wp2_with fail
            refine (Pow_any _ st at' nt ct 2 kk 10 (by omega) (by omega) IT.out).mono ?_
            rintro e w5 ⟨s5, a5, n5, c5, rfl, i5, b5⟩
            rw [HT10.out] at i5
            have HD5 := hide ((HD.out.below b5).al (.cells #[.bool s5, .slice a5 n5 c5] 26))
            have HP := hide (varNew i5)
            clear i5 b5 HD IT v0 v1 HT10 t0 t1
            go_upto_region 26 with fail
            generalize w5.alloc (.cells #[.bool s5, .slice a5 n5 c5] 26) = W5 at *
            generalize w5.heap.size = pp at *
            have tok1 : True := trivial
            go_cut [113] (fun s wx => s = .bool false ∧ DI w' wx b pt po 63 kk ∧ VarI (2 + 2 * kk) wx pp T10)
            case first =>
              obtain ⟨sp, ap, np, cp, p0, p1, ip⟩ := HP.out.drew
              have IP := hide ip
              clear ip
              go_region_law (first
                | (refine step_call rfl 15 #[.int .i64 L] ?_ (Of_any _ L (by omega) (by omega)) ?_; (focus (simp [go_sem]; done)); rintro e w6 ⟨s6, a6, n6, c6, rfl, i6, b6⟩; refine ⟨_, rfl, ?_⟩; have I6 := hide i6; have HD6 := hide (HD5.out.drew.below b6); have HP6 := hide (HP.out.drew.below b6); have IP6 := hide (IP.out.below b6); have y0 := cellKeep b6 p0; have y1 := cellKeep b6 p1; clear b6 i6)
                | (refine step_call rfl 38 #[.agg #[.bool s6, .slice a6 n6 c6], .int .i64 10] ?_ (Pow_any _ s6 a6 n6 c6 2 10 L (by omega) (by omega) I6.out) ?_; (focus (simp [go_sem]; done)); rintro e w7 ⟨s7, a7, n7, c7, rfl, i7, b7⟩; refine ⟨_, rfl, ?_⟩; have I7 := hide i7; have HD7 := hide (HD6.out.below b7); have HP7 := hide (HP6.out.below b7); have IP7 := hide (IP6.out.below b7); have z0 := cellKeep b7 y0; have z1 := cellKeep b7 y1; clear b7 i7)
                | (refine step_call rfl 24 #[.agg #[.bool s7, .slice a7 n7 c7], .agg #[.bool sp, .slice ap np cp]] ?_ (Cmp_any _ s7 sp a7 ap n7 np c7 cp 22 (2 + 2 * kk) 1000 (L ^ 10) T10 (by omega) (by omega) (by omega) I7.out IP7.out) ?_; (focus (simp [go_sem]; done)); rintro e w8 ⟨rfl, b8⟩; refine ⟨_, rfl, ?_⟩; have HD8 := hide (HD7.out.below b8); have HP8 := hide (HP7.out.below b8); clear b8))
              all_goals
                go_wp2_with fail
                go_meet
                case rel => exact ⟨by rw [g113.out], HD8.out, HP8.out⟩
            obtain ⟨rfl, hd6, hp6⟩ := hcut
            have HD6 := hide hd6
            have HP6 := hide hp6
            clear hd6 hp6 HD5 HP g113
            obtain ⟨M, hM⟩ : ∃ M, L - 1 = M := ⟨_, rfl⟩
            rw [hM] at g120
            have hMw : IntKind.i64.wrap M = M := by rw [IntKind.wrap_i64]; omega
            go_upto_region 28 with fail
            go_cut [120] (fun s wx => s = .bool false ∧ DI w' wx b pt po 63 kk)
            case first =>
              obtain ⟨sp, ap, np, cp, p0, p1, ip⟩ := HP6.out.drew
              have IP := hide ip
              clear ip
              go_region_law (first
                | (refine step_call rfl 15 #[.int .i64 M] ?_ (Of_any _ M (by omega) (by omega)) ?_; (focus (simp [go_sem]; done)); rintro e w6 ⟨s6, a6, n6, c6, rfl, i6, b6⟩; refine ⟨_, rfl, ?_⟩; have I6 := hide i6; have HD7 := hide (HD6.out.drew.below b6); have HP7 := hide (HP6.out.drew.below b6); have IP6 := hide (IP.out.below b6); have y0 := cellKeep b6 p0; have y1 := cellKeep b6 p1; clear b6 i6)
                | (refine step_call rfl 38 #[.agg #[.bool s6, .slice a6 n6 c6], .int .i64 10] ?_ (Pow_any _ s6 a6 n6 c6 2 10 M (by omega) (by omega) I6.out) ?_; (focus (simp [go_sem]; done)); rintro e w7 ⟨s7, a7, n7, c7, rfl, i7, b7⟩; refine ⟨_, rfl, ?_⟩; have I7 := hide i7; have HD8 := hide (HD7.out.below b7); have IP7 := hide (IP6.out.below b7); have z0 := cellKeep b7 y0; have z1 := cellKeep b7 y1; clear b7 i7)
                | (refine step_call rfl 24 #[.agg #[.bool s7, .slice a7 n7 c7], .agg #[.bool sp, .slice ap np cp]] ?_ (Cmp_any _ s7 sp a7 ap n7 np c7 cp 22 (2 + 2 * kk) 1000 (M ^ 10) T10 (by omega) (by omega) (by omega) I7.out IP7.out) ?_; (focus (simp [go_sem]; done)); rintro e w8 ⟨rfl, b8⟩; refine ⟨_, rfl, ?_⟩; have HD9 := hide (HD8.out.below b8); clear b8))
              all_goals
                go_wp2_with fail
                go_meet
                case rel => exact ⟨by rw [g120.out], HD9.out⟩
            obtain ⟨rfl, hd9⟩ := hcut
            have HD9 := hide hd9
            clear hd9 HD6 HP6 g120
            go_wp2
            go_roundw
            case rel => exact ⟨k + 1, by omega, by go_num, HD9.out.bel, HD9.out.tab, HD9.out.ten⟩
            case measure => simp [intOf]; omega
          · rcases (by omega : kd ≠ 63 ∨ (kd = 63 ∧ A < 1) ∨ (kd = 63 ∧ 1 ≤ A ∧ 130 < A)) with z | ⟨z, z1⟩ | ⟨z, z1, z2⟩
            · have n63 : (kd == 63) = false := by simpa using z
              clear z hg
              go_wp2
              go_roundw
              case rel => exact ⟨k + 1, by omega, by go_num, HD.out.bel, HD.out.tab, HD.out.ten⟩
              case measure => simp [intOf]; omega
            · subst z
              clear hg
              go_wp2
              go_roundw
              case rel => exact ⟨k + 1, by omega, by go_num, HD.out.bel, HD.out.tab, HD.out.ten⟩
              case measure => simp [intOf]; omega
            · subst z
              clear hg
              go_wp2
              go_roundw
              case rel => exact ⟨k + 1, by omega, by go_num, HD.out.bel, HD.out.tab, HD.out.ten⟩
              case measure => simp [intOf]; omega
      · go_wp2
        go_ret
        exact ⟨rfl, by rw [hbb]; exact hbel⟩
  · go_enter Try.func10, Try.ntmps10
    go_wp2_with fail
    refine (small_any _ a n cap hn).mono ?_
    rintro e w' ⟨rfl, rfl⟩
    have hd : decide (n ≤ 65536) = false := by simpa using hsm
    rw [hd]
    clear hd
    go_wp2
    go_ret
    exact ⟨rfl, Below.refl _ _⟩
end Go.Proofs.Qxb6500775a
