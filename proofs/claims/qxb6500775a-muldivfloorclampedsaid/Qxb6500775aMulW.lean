import Derived.Test.Qxb6500775aClm2
import Derived.Test.Qxb6500775aOps
namespace Go.Proofs.Qxb6500775a
open Go.RowKit

/-- What the law on Mul and Div has at hand in a round. -/
structure MI (w wx : World) (pu po pa pb : Nat) (kd A B C : Int) : Prop where
  un : VarI 2 wx pu 65536
  va : VarI 2 wx pa A
  vb : VarI 2 wx pb B
  o0 : wx.cell? ⟨po, 0, none⟩ = some (.int .i64 kd)
  o1 : wx.cell? ⟨po, 1, none⟩ = some (.int .i64 A)
  o2 : wx.cell? ⟨po, 2, none⟩ = some (.int .i64 B)
  o3 : wx.cell? ⟨po, 3, none⟩ = some (.int .i64 C)
  bel : Below w.heap.size w wx
theorem MI.below {w wx wy : World} {pu po pa pb : Nat} {kd A B C : Int} (h : MI w wx pu po pa pb kd A B C) (hb : Below wx.heap.size wx wy) : MI w wy pu po pa pb kd A B C :=
  ⟨h.un.below hb, h.va.below hb, h.vb.below hb, cellKeep hb h.o0, cellKeep hb h.o1, cellKeep hb h.o2, cellKeep hb h.o3, lec h.bel hb⟩
theorem MI.drew {w wx : World} {pu po pa pb : Nat} {kd A B C : Int} (h : MI w wx pu po pa pb kd A B C) : MI w wx.drew pu po pa pb kd A B C := h.below (Below.refl _ _).drew
set_option maxRecDepth 100000 in
set_option maxHeartbeats 8000000 in
theorem mulDiv_walk (w : World) (a : Option Addr) (n cap : Nat) (f : Nat → Nat → Int) (hn : n ≤ 9223372036854775807) (ho : OpsAt w a n f) :
    Calls Try.prog 3 #[.slice a n cap] w fun e w' => e = .returned (.bool true) ∧ Below w.heap.size w w' := by
  have HO := hide ho
  clear ho
  by_cases hsm : n ≤ 65536
  · go_enter Try.func3, Try.ntmps3
    go_wp2_with fail
    refine (small_any _ a n cap hn).mono ?_
    rintro e w' ⟨rfl, rfl⟩
    have hd : decide (n ≤ 65536) = true := by simpa using hsm
    rw [hd]
    clear hd
    go_wp2_with fail
    refine (Of_any _ 65536 (by omega) (by omega)).mono ?_
    rintro e w2 ⟨s2, a2, n2, c2, rfl, i2, b2⟩
    go_upto_region 4 with fail
    have HV := hide (varNew i2)
    have HB2 := hide (belAl b2 (.cells #[.bool s2, .slice a2 n2 c2] 26))
    clear i2 b2
    generalize w2.alloc (.cells #[.bool s2, .slice a2 n2 c2] 26) = W2 at *
    generalize w2.heap.size = pu at *
    go_wp2
    go_loopw [4] (fun i wr => ∃ k : Nat, k ≤ n ∧ i = .int .i64 k ∧ Below w'.heap.size w' wr ∧ VarI 2 wr pu 65536) (fun i _ => n - (intOf i).toNat)
    case atStart => exact ⟨0, Nat.zero_le _, rfl, HB2.out, HV.out⟩
    case round =>
      clear HB2 HV
      obtain ⟨k, hk, rfl, hbel, hun⟩ := hrel
      by_cases hlt : k < n
      · obtain ⟨bo, off, rfl, hf⟩ := HO.out k hlt
        have hc : ∀ j, j < 8 → wr.cell? ⟨bo, off + k * 8 + j, none⟩ = some (.int .i64 (f k j)) := fun j hj => (hbel.cell (World.block_lt_of_cell? _ _ (hf j hj).1)).trans (hf j hj).1
        have o0 : wr.cell? ⟨bo, off + k * 8, none⟩ = some (.int .i64 (f k 0)) := by simpa using hc 0 (by omega)
        have o1 := hc 1 (by omega)
        have o2 := hc 2 (by omega)
        have o3 := hc 3 (by omega)
        have o4 := hc 4 (by omega)
        have o5 := hc 5 (by omega)
        have o6 := hc 6 (by omega)
        have o7 := hc 7 (by omega)
        have q1 : R64 (f k 1) := (hf 1 (by omega)).2
        have q2 : R64 (f k 2) := (hf 2 (by omega)).2
        have q3 : R64 (f k 3) := (hf 3 (by omega)).2
        have HBel := hide hbel
        have HUn := hide hun
        clear hc hf hbel hun
        generalize f k 0 = kd at *
        generalize f k 1 = A at *
        generalize f k 2 = B at *
        generalize f k 3 = C at *
        generalize f k 4 = D at *
        generalize f k 5 = E at *
        generalize f k 6 = F at *
        generalize f k 7 = Gg at *
        go_wp2_with fail
        refine (Of_any _ A q1.1 q1.2).mono ?_
        rintro e w3 ⟨s3, a3, n3, c3, rfl, i3, b3⟩
        have BB := hide (lec ((Below.refl wr.heap.size wr).alloc (Nat.le_refl _) (.cells #[.int .i64 kd, .int .i64 A, .int .i64 B, .int .i64 C, .int .i64 D, .int .i64 E, .int .i64 F, .int .i64 Gg] 30)) b3)
        have u0 : w3.cell? ⟨wr.heap.size, 0, none⟩ = some (.int .i64 kd) := cellKeep b3 (by simp [go_sem])
        have u1 : w3.cell? ⟨wr.heap.size, 1, none⟩ = some (.int .i64 A) := cellKeep b3 (by simp [go_sem])
        have u2 : w3.cell? ⟨wr.heap.size, 2, none⟩ = some (.int .i64 B) := cellKeep b3 (by simp [go_sem])
        have u3 : w3.cell? ⟨wr.heap.size, 3, none⟩ = some (.int .i64 C) := cellKeep b3 (by simp [go_sem])
        have VA := hide (varNew i3)
        replace u0 := cellAl (.cells #[.bool s3, .slice a3 n3 c3] 26) u0
        replace u1 := cellAl (.cells #[.bool s3, .slice a3 n3 c3] 26) u1
        replace u2 := cellAl (.cells #[.bool s3, .slice a3 n3 c3] 26) u2
        replace u3 := cellAl (.cells #[.bool s3, .slice a3 n3 c3] 26) u3
        replace BB := hide (belAl BB.out (.cells #[.bool s3, .slice a3 n3 c3] 26))
        clear i3 b3 o0 o1 o2 o3 o4 o5 o6 o7
        go_upto_region 9 with fail
        generalize w3.alloc (.cells #[.bool s3, .slice a3 n3 c3] 26) = W3 at *
        generalize w3.heap.size = pa at *
        go_wp2_with fail
        refine (Of_any _ B q2.1 q2.2).mono ?_
        rintro e w4 ⟨s4, a4, n4, c4, rfl, i4, b4⟩
        have b5 := belAl b4 (.cells #[.bool s4, .slice a4 n4 c4] 26)
        have HD : Hid (MI w' (w4.alloc (.cells #[.bool s4, .slice a4 n4 c4] 26)) pu wr.heap.size pa w4.heap.size kd A B C) :=
          ⟨(HUn.out.below BB.out).below b5, VA.out.below b5, varNew i4, cellKeep b5 u0, cellKeep b5 u1, cellKeep b5 u2, cellKeep b5 u3, lec (lec HBel.out BB.out) b5⟩
        clear i4 b4 b5 u0 u1 u2 u3 VA BB HUn HBel
        go_upto_region 10 with fail
        generalize w4.alloc (.cells #[.bool s4, .slice a4 n4 c4] 26) = W at *
        generalize w4.heap.size = pb at *
        generalize wr.heap.size = po at *
        have t0 := HD.out.o0
        have t1 := HD.out.o1
        have t2 := HD.out.o2
        have t3 := HD.out.o3
        by_cases h4 : kd = 4
        · subst h4
          have hIC := fun w s1 s2 a1 a2 n1 c1 n2 c2 NL NR h1 h2 i1 i2 => hide (isClamp_any w s1 s2 a1 a2 n1 c1 n2 c2 NL NR (A * B) (65536) h1 h2 i1 i2 (by omega))
          have hcall := fun w => hide (FMul_any w A B q1 q2)
          rw [← fq_pos (n := A * B) (show (0 : Int) < 65536 by omega)] at hcall
          generalize clampV (fq (A * B) (65536)) = V at *
          generalize clampE (fq (A * B) (65536)) = Ee at *
          go_wp2_with fail
          refine (hcall _).out.mono ?_
          rintro e w5 ⟨rfl, b5⟩
          have HD5 := hide (HD.out.below b5)
          clear b5 HD t0 t1 t2 t3 hcall
          have t2 := HD5.out.o2
          have t3 := HD5.out.o3
          go_upto_region 12 with fail
          go_cut [52] (fun s wx => s = .bool false ∧ MI w' wx pu po pa pb 4 A B C)
          case first =>
            obtain ⟨sa, aa, na, ca, x0, x1, ia⟩ := HD5.out.drew.va
            obtain ⟨sb, ab, nb, cb, y0, y1, ib⟩ := HD5.out.drew.vb
            obtain ⟨su, au, nu, cu, z0, z1, iu⟩ := HD5.out.drew.un
            have v3 := HD5.out.drew.o3
            have IA := hide ia
            have IB := hide ib
            have IU := hide iu
            clear ia ib iu t2 t3
            go_region_law (first
              | (refine step_call rfl 18 #[.agg #[.bool sa, .slice aa na ca], .agg #[.bool sb, .slice ab nb cb]] ?_ (Mul_any _ sa sb aa ab na nb ca cb 2 2 A B (by omega) IA.out IB.out) ?_; (focus (simp [go_sem]; done)); rintro e w6 ⟨s6, a6, n6, c6, rfl, i6, b6⟩; refine ⟨_, rfl, ?_⟩; have I6 := hide i6; have HD6 := hide (HD5.out.drew.below b6); have IA6 := hide (IA.out.below b6); have IB6 := hide (IB.out.below b6); have IU6 := hide (IU.out.below b6); have k0 := cellKeep b6 x0; have k1 := cellKeep b6 x1; have k2 := cellKeep b6 y0; have k3 := cellKeep b6 y1; have k4 := cellKeep b6 z0; have k5 := cellKeep b6 z1; have k6 := cellKeep b6 v3; clear b6 i6)
              | (refine step_call rfl 17 #[.int .i64 V, .int .i64 Ee, .agg #[.bool s6, .slice a6 n6 c6], .agg #[.bool su, .slice au nu cu]] ?_ (hIC _ s6 su a6 au n6 c6 nu cu (2 + 2) 2 (by omega) (by omega) I6.out IU6.out).out ?_; (focus (simp [go_sem]; done)); rintro e w8 ⟨rfl, b8⟩; refine ⟨_, rfl, ?_⟩; have HD8 := hide (HD6.out.below b8); clear b8))
            all_goals
              go_wp2_with fail
              go_meet
              case rel => exact ⟨rfl, HD8.out⟩
          obtain ⟨rfl, hd8⟩ := hcut
          have HD := hide hd8
          have t0 := hd8.o0
          have t1 := hd8.o1
          have t2 := hd8.o2
          have t3 := hd8.o3
          clear hd8 HD5 hIC
          go_wp2
          go_roundw
          case rel => exact ⟨k + 1, by omega, by go_num, HD.out.bel, HD.out.un⟩
          case measure => simp [intOf]; omega
        · have n4 : (kd == 4) = false := by simpa using h4
          clear h4
          by_cases h5 : kd = 5
          · subst h5
            by_cases hz : B = 0
            · subst hz
              have hE := fun w => hide (isEnd_any w (sgn A))
              have hcall := fun w => hide (FDiv_zero w A)
              obtain ⟨sa, aa, na, ca, x0, x1, ia⟩ := HD.out.va
              have IA := hide ia
              clear ia
              have hS := fun w h => hide (Sign_any w sa aa na ca 2 A h)
              generalize sgn A = sg at *
              generalize endP sg = V at *
              go_wp2_with fail
              refine (hcall _).out.mono ?_
              rintro e w5 ⟨rfl, rfl⟩
              go_wp2_with fail
              refine (hS _ IA.out).out.mono ?_
              rintro e w6 ⟨rfl, b6⟩
              have HD6 := hide (HD.out.below b6)
              clear b6 HD t0 t1 t2 t3 x0 x1 IA hS hcall
              go_wp2_with fail
              refine (hE _).out.mono ?_
              rintro e w7 ⟨rfl, rfl⟩
              have HD := HD6
              have t0 := HD.out.o0
              clear HD6 hE
              go_wp2
              go_roundw
              case rel => exact ⟨k + 1, by omega, by go_num, HD.out.bel, HD.out.un⟩
              case measure => simp [intOf]; omega
            · have hzb : (B == 0) = false := by simpa using hz
              have hIC := fun w s1 s2 a1 a2 n1 c1 n2 c2 NL NR h1 h2 i1 i2 => hide (isClamp_any w s1 s2 a1 a2 n1 c1 n2 c2 NL NR (A * 65536) (B) h1 h2 i1 i2 hz)
              have hcall := fun w => hide (FDiv_any w A B q1 q2 hz)
              generalize clampV (fq (A * 65536) (B)) = V at *
              generalize clampE (fq (A * 65536) (B)) = Ee at *
              go_wp2_with fail
              refine (hcall _).out.mono ?_
              rintro e w5 ⟨rfl, b5⟩
              have HD5 := hide (HD.out.below b5)
              clear b5 HD t0 t1 t2 t3 hcall
              have t2 := HD5.out.o2
              have t3 := HD5.out.o3
              go_upto_region 19 with fail
              go_cut [83] (fun s wx => s = .bool false ∧ MI w' wx pu po pa pb 5 A B C)
              case first =>
                obtain ⟨sa, aa, na, ca, x0, x1, ia⟩ := HD5.out.drew.va
                obtain ⟨sb, ab, nb, cb, y0, y1, ib⟩ := HD5.out.drew.vb
                obtain ⟨su, au, nu, cu, z0, z1, iu⟩ := HD5.out.drew.un
                have v3 := HD5.out.drew.o3
                have IA := hide ia
                have IB := hide ib
                have IU := hide iu
                clear ia ib iu t2 t3
                go_region_law (first
                  | (refine step_call rfl 18 #[.agg #[.bool sa, .slice aa na ca], .agg #[.bool su, .slice au nu cu]] ?_ (Mul_any _ sa su aa au na nu ca cu 2 2 A 65536 (by omega) IA.out IU.out) ?_; (focus (simp [go_sem]; done)); rintro e w6 ⟨s6, a6, n6, c6, rfl, i6, b6⟩; refine ⟨_, rfl, ?_⟩; have I6 := hide i6; have HD6 := hide (HD5.out.drew.below b6); have IA6 := hide (IA.out.below b6); have IB6 := hide (IB.out.below b6); have IU6 := hide (IU.out.below b6); have k0 := cellKeep b6 x0; have k1 := cellKeep b6 x1; have k2 := cellKeep b6 y0; have k3 := cellKeep b6 y1; have k4 := cellKeep b6 z0; have k5 := cellKeep b6 z1; have k6 := cellKeep b6 v3; clear b6 i6)
                  | (refine step_call rfl 17 #[.int .i64 V, .int .i64 Ee, .agg #[.bool s6, .slice a6 n6 c6], .agg #[.bool sb, .slice ab nb cb]] ?_ (hIC _ s6 sb a6 ab n6 c6 nb cb (2 + 2) 2 (by omega) (by omega) I6.out IB6.out).out ?_; (focus (simp [go_sem]; done)); rintro e w8 ⟨rfl, b8⟩; refine ⟨_, rfl, ?_⟩; have HD8 := hide (HD6.out.below b8); clear b8))
                all_goals
                  go_wp2_with fail
                  go_meet
                  case rel => exact ⟨rfl, HD8.out⟩
              obtain ⟨rfl, hd8⟩ := hcut
              have HD := hide hd8
              have t0 := hd8.o0
              have t1 := hd8.o1
              have t2 := hd8.o2
              have t3 := hd8.o3
              clear hd8 HD5 hIC
              go_wp2
              go_roundw
              case rel => exact ⟨k + 1, by omega, by go_num, HD.out.bel, HD.out.un⟩
              case measure => simp [intOf]; omega
          · have n5 : (kd == 5) = false := by simpa using h5
            clear h5
            by_cases h6 : kd = 6
            · subst h6
              by_cases hz : C = 0
              · subst hz
                have hE := fun w => hide (isEnd_any w (sgn (A * B)))
                have hcall := fun w => hide (FMulDiv_zero w A B)
                obtain ⟨sa, aa, na, ca, x0, x1, ia⟩ := HD.out.va
                obtain ⟨sb, ab, nb, cb, y0, y1, ib⟩ := HD.out.vb
                have IA := hide ia
                have IB := hide ib
                clear ia ib
                have hM := fun w h1 h2 => hide (Mul_any w sa sb aa ab na nb ca cb 2 2 A B (by omega) h1 h2)
                have hS := fun w s1 a1 n1 c1 h => hide (Sign_any w s1 a1 n1 c1 (2 + 2) (A * B) h)
                generalize sgn (A * B) = sg at *
                generalize endP sg = V at *
                go_wp2_with fail
                refine (hcall _).out.mono ?_
                rintro e w5 ⟨rfl, rfl⟩
                go_wp2_with fail
                refine (hM _ IA.out IB.out).out.mono ?_
                rintro e w6 ⟨s6, a6, n6, c6, rfl, i6, b6⟩
                have I6 := hide i6
                have HD6 := hide (HD.out.below b6)
                clear b6 i6 HD t0 t1 t2 t3 x0 x1 y0 y1 IA IB hM hcall
                go_wp2_with fail
                refine (hS _ s6 a6 n6 c6 I6.out).out.mono ?_
                rintro e w7 ⟨rfl, b7⟩
                have HD7 := hide (HD6.out.below b7)
                clear b7 HD6 I6 hS
                go_wp2_with fail
                refine (hE _).out.mono ?_
                rintro e w8 ⟨rfl, rfl⟩
                have HD := HD7
                clear HD7 hE
                go_wp2
                go_roundw
                case rel => exact ⟨k + 1, by omega, by go_num, HD.out.bel, HD.out.un⟩
                case measure => simp [intOf]; omega
              · have hzb : (C == 0) = false := by simpa using hz
                have hIC := fun w s1 s2 a1 a2 n1 c1 n2 c2 NL NR h1 h2 i1 i2 => hide (isClamp_any w s1 s2 a1 a2 n1 c1 n2 c2 NL NR (A * B) (C) h1 h2 i1 i2 hz)
                have hcall := fun w => hide (FMulDiv_any w A B C q1 q2 q3 hz)
                generalize clampV (fq (A * B) (C)) = V at *
                generalize clampE (fq (A * B) (C)) = Ee at *
                go_wp2_with fail
                refine (hcall _).out.mono ?_
                rintro e w5 ⟨rfl, b5⟩
                have HD5 := hide (HD.out.below b5)
                clear b5 HD t0 t1 t2 t3 hcall
                have t2 := HD5.out.o2
                have t3 := HD5.out.o3
                go_upto_region 26 with fail
                go_cut [120] (fun s wx => s = .bool false ∧ MI w' wx pu po pa pb 6 A B C)
                case first =>
                  obtain ⟨sa, aa, na, ca, x0, x1, ia⟩ := HD5.out.drew.va
                  obtain ⟨sb, ab, nb, cb, y0, y1, ib⟩ := HD5.out.drew.vb
                  obtain ⟨su, au, nu, cu, z0, z1, iu⟩ := HD5.out.drew.un
                  have v3 := HD5.out.drew.o3
                  have IA := hide ia
                  have IB := hide ib
                  have IU := hide iu
                  clear ia ib iu t2 t3
                  go_region_law (first
                    | (refine step_call rfl 18 #[.agg #[.bool sa, .slice aa na ca], .agg #[.bool sb, .slice ab nb cb]] ?_ (Mul_any _ sa sb aa ab na nb ca cb 2 2 A B (by omega) IA.out IB.out) ?_; (focus (simp [go_sem]; done)); rintro e w6 ⟨s6, a6, n6, c6, rfl, i6, b6⟩; refine ⟨_, rfl, ?_⟩; first | (have I7' := hide (I7.out.below b6); have I6 := hide i6; have HD8' := hide (HD7.out.below b6); clear b6 i6) | (have I6' := hide i6; have HD6 := hide (HD5.out.drew.below b6); have k6 := cellKeep b6 v3; clear b6 i6))
                    | (refine step_call rfl 18 #[.agg #[.bool sa, .slice aa na ca], .agg #[.bool sb, .slice ab nb cb]] ?_ (Mul_any _ sa sb aa ab na nb ca cb 2 2 A B (by omega) IA7.out IB7.out) ?_; (focus (simp [go_sem]; done)); rintro e w6 ⟨s6, a6, n6, c6, rfl, i6, b6⟩; refine ⟨_, rfl, ?_⟩; have I7' := hide (I7.out.below b6); have I6 := hide i6; have HD8' := hide (HD7.out.below b6); clear b6 i6)
                    | (refine step_call rfl 15 #[.int .i64 C] ?_ (Of_any _ C q3.1 q3.2) ?_; (focus (simp [go_sem]; done)); rintro e w7 ⟨s7, a7, n7, c7, rfl, i7, b7⟩; refine ⟨_, rfl, ?_⟩; first | (have I6 := hide (I6'.out.below b7); have I7' := hide i7; have HD8' := hide (HD6.out.below b7); clear b7 i7) | (have I7 := hide i7; have HD7 := hide (HD5.out.drew.below b7); have IA7 := hide (IA.out.below b7); have IB7 := hide (IB.out.below b7); have k0 := cellKeep b7 x0; have k1 := cellKeep b7 x1; have k2 := cellKeep b7 y0; have k3 := cellKeep b7 y1; clear b7 i7))
                    | (refine step_call rfl 17 #[.int .i64 V, .int .i64 Ee, .agg #[.bool s6, .slice a6 n6 c6], .agg #[.bool s7, .slice a7 n7 c7]] ?_ (hIC _ s6 s7 a6 a7 n6 c6 n7 c7 (2 + 2) 2 (by omega) (by omega) I6.out I7'.out).out ?_; (focus (simp [go_sem]; done)); rintro e w8 ⟨rfl, b8⟩; refine ⟨_, rfl, ?_⟩; have HD8 := hide (HD8'.out.below b8); clear b8))
                  all_goals
                    go_wp2_with fail
                    go_meet
                    case rel => exact ⟨rfl, HD8.out⟩
                obtain ⟨rfl, hd8⟩ := hcut
                have HD := hide hd8
                have t0 := hd8.o0
                have t1 := hd8.o1
                have t2 := hd8.o2
                have t3 := hd8.o3
                clear hd8 HD5 hIC
                go_wp2
                go_roundw
                case rel => exact ⟨k + 1, by omega, by go_num, HD.out.bel, HD.out.un⟩
                case measure => simp [intOf]; omega
            · have n6 : (kd == 6) = false := by simpa using h6
              clear h6
              go_wp2
              go_roundw
              case rel => exact ⟨k + 1, by omega, by go_num, HD.out.bel, HD.out.un⟩
              case measure => simp [intOf]; omega
      · go_wp2
        go_ret
        exact ⟨rfl, hbel⟩
  · go_enter Try.func3, Try.ntmps3
    go_wp2_with fail
    refine (small_any _ a n cap hn).mono ?_
    rintro e w' ⟨rfl, rfl⟩
    have hd : decide (n ≤ 65536) = false := by simpa using hsm
    rw [hd]
    clear hd
    go_wp2
    go_ret
    exact ⟨rfl, Below.refl _ _⟩
end Go.Proofs.Qxb6500775a
