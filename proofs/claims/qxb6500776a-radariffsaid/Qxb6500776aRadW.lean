import Derived.Test.Qxb6500776aLw2
namespace Go.Proofs.Qxb6500776a
open Go.RowKit


set_option maxRecDepth 100000 in
set_option maxHeartbeats 8000000 in
theorem radarIff_walk (w : World) (a : Option Addr) (n cap : Nat) (f : Nat → Nat → Int) (hn : n ≤ 9223372036854775807) (ho : OpsAt w a n f) :
    Calls Try.prog 5 #[.slice a n cap] w fun e w' => e = .returned (.bool true) ∧ Below w.heap.size w w' := by
  have HO := hide ho
  clear ho
  by_cases hsm : n ≤ 65536
  · go_enter Try.func5, Try.ntmps5
    go_wp2_with fail
    refine (small_any _ a n cap hn).mono ?_
    rintro e w' ⟨rfl, ew⟩
    rw [ew]
    have hd : decide (n ≤ 65536) = true := by simpa using hsm
    rw [hd]
    clear hd ew w'
    go_wp2_with fail
    refine (newW_any _).mono ?_
    rintro e w' ⟨rfl, ew⟩
    rw [ew]
    clear ew w'
    go_wp2_with fail
    refine (newS_any _).mono ?_
    rintro e w' ⟨rfl, ew⟩
    rw [ew]
    clear ew w'
    have HL := hide (LW.first w)
    have hsz : (w.alloc (.cells #[.slice none 0 0, .slice none 0 0] 44)).heap.size = w.heap.size + 1 := by simp
    (try rw [hsz])
    clear hsz
    generalize (w.alloc (.cells #[.slice none 0 0, .slice none 0 0] 44)).alloc (.cells Try.zeroCells75 75) = w1 at *
    obtain ⟨s, hs⟩ : ∃ s, w.heap.size + 1 = s := ⟨_, rfl⟩
    rw [hs] at HL ⊢
    clear hs
    obtain ⟨p, hp⟩ : ∃ p, w.heap.size = p := ⟨_, rfl⟩
    rw [hp] at HL ⊢
    have HP := hide hp
    clear hp
    go_wp2
    go_loopw [5] (fun i wr => ∃ (k : Nat) (v1 v2 : Value) (L : List Shp) (M : List Smk), k ≤ n ∧ i = .int .i64 k ∧ LW w wr p s v1 v2 L M) (fun i _ => n - (intOf i).toNat)
    case atStart => exact ⟨0, _, _, _, _, Nat.zero_le _, rfl, HL.out⟩
    case round =>
      clear HL
      obtain ⟨k, v1, v2, L, M, hk, rfl, hl⟩ := hrel
      have HL := hide hl
      clear hl
      by_cases hlt : k < n
      · have hlti : (k : Int) < (n : Int) := by omega
        obtain ⟨b, off, rfl, hf⟩ := HO.out k hlt
        have hc : ∀ wx, Below w.heap.size w wx → ∀ j, j < 6 → wx.cell? ⟨b, off + k * 6 + j, none⟩ = some (.int .i64 (f k j)) := fun wx hbel j hj => (hbel.cell (World.block_lt_of_cell? _ _ (hf j hj).1)).trans (hf j hj).1
        have c0 := hc _ HL.out.bel 0 (by omega)
        rw [Nat.add_zero] at c0
        have c1 := hc _ HL.out.bel 1 (by omega)
        have c2 := hc _ HL.out.bel 2 (by omega)
        have c3 := hc _ HL.out.bel 3 (by omega)
        have c4 := hc _ HL.out.bel 4 (by omega)
        have c5 := hc _ HL.out.bel 5 (by omega)
        have b1 := (hf 1 (by omega)).2
        have b2 := (hf 2 (by omega)).2
        have HCC := hide hc
        clear hf hc
        obtain ⟨kd, hkd⟩ : ∃ kd, f k 0 = kd := ⟨_, rfl⟩
        rw [hkd] at c0
        have HKD := hide hkd
        clear hkd
        generalize f k 1 = A at *
        generalize f k 2 = Bb at *
        generalize f k 3 = Cc at *
        generalize f k 4 = Dd at *
        generalize f k 5 = Oo at *
        go_wp2_with fail
        refine (step_any _ p v1 v2 L M HL.out.wd HL.out.wo kd A Bb Cc Dd Oo b1 b2).mono ?_
        rintro e w2 hst
        obtain ⟨r0, u1, u2, L2, M2, rfl, hl2⟩ := HL.out.step hst
        have HL2 := hide hl2
        clear hst hl2 HL c0 c1 c2 c3 c4 c5 b1 b2
        have c0 := HCC.out _ HL2.out.bel 0 (by omega)
        rw [Nat.add_zero, HKD.out] at c0
        by_cases h6 : kd = 6
        · rw [h6] at c0
          clear HCC h6 HKD
          go_upto_region 10 with fail
          clear c0
          go_wp2_with fail
          refine (HL2.out.scan).mono ?_
          rintro e w3 ⟨ga, gn, gc, B, rfl, hdr, hgn, hbr, hbd, hex, hl3⟩
          have HL3 := hide hl3
          have HDR := hide hdr
          have HGN := hide hgn
          have HBR := hide hbr
          have HBD := hide hbd
          have hg768 : gn ≤ 768 := by rw [hgn]; exact repN_len B 768
          clear hl3 hdr hgn hbr hbd hex HL2
          obtain ⟨a1, cp1, e1⟩ := own_form HL3.out.wd.r1
          obtain ⟨a2, cp2, e2⟩ := own_form HL3.out.wd.r2
          obtain ⟨nL, hnL⟩ : ∃ nL, L2.length = nL := ⟨_, rfl⟩
          obtain ⟨nM, hnM⟩ : ∃ nM, M2.length = nM := ⟨_, rfl⟩
          have hnL48 : nL ≤ 48 := by rw [← hnL]; exact HL3.out.wo.len
          have hnM32 : nM ≤ 32 := by rw [← hnM]; exact HL3.out.wo.ml
          rw [hnL] at e1
          rw [hnM] at e2
          have HNL := hide hnL
          have HNM := hide hnM
          have E1 := hide e1
          have E2 := hide e2
          clear e1 e2 hnL hnM
          go_wp2
          go_loopw [7] (fun sT wx => ∃ T : Nat, T ≤ 4 ∧ sT = .int .i64 T ∧ Below w3.heap.size w3 wx) (fun sT _ => 4 - (intOf sT).toNat)
          case atStart => exact ⟨0, by omega, rfl, Below.refl _ _⟩
          case round =>
            obtain ⟨T, hT, rfl, hb⟩ := hrel
            have HB3 := hide hb
            clear hb
            by_cases hT4 : T < 4
            · have hT4i : (T : Int) < 4 := by omega
              go_wp2
              go_loopw [8] (fun sb wx => ∃ j : Nat, j ≤ nL ∧ sb = .int .i64 j ∧ Below w3.heap.size w3 wx) (fun sb _ => nL - (intOf sb).toNat)
              case atStart => exact ⟨0, by omega, rfl, HB3.out⟩
              case round =>
                clear HB3
                obtain ⟨j, hj, rfl, hb⟩ := hrel
                have HB3 := hide hb
                have HW := hide (HL3.out.wd.below hb)
                have y0 := HW.out.c0
                rw [E1.out] at y0
                clear hb
                by_cases hjl : j < nL
                · have hjli : (j : Int) < (nL : Int) := by omega
                  obtain ⟨t, ht⟩ : ∃ t, L2[j]? = some t := ⟨_, List.getElem?_eq_getElem (by have := HNL.out; omega)⟩
                  obtain ⟨g1, c9, e3⟩ := own_some HW.out.r1 (by have := HNL.out; omega)
                  rw [HNL.out, E1.out] at e3
                  cases e3
                  have hrow := HW.out
                  rw [E1.out] at hrow
                  have hr := hrow.ship ht HNL.out.symm
                  have u0 := hr 0 _ rfl
                  have u1 := hr 1 _ rfl
                  have u2 := hr 2 _ rfl
                  have u3 := hr 3 _ rfl
                  have u4 := hr 4 _ rfl
                  have u5 := hr 5 _ rfl
                  have u6 := hr 6 _ rfl
                  have u7 := hr 7 _ rfl
                  have u8 := hr 8 _ rfl
                  have u9 := hr 9 _ rfl
                  have u10 := hr 10 _ rfl
                  have u11 := hr 11 _ rfl
                  rw [Nat.add_zero] at u0
                  have HT := hide (And.intro ht (HL3.out.wo.ok t (List.mem_of_getElem? ht)))
                  clear hr hrow ht
                  go_upto_region 18 with fail
                  have hst : #[.int .i64 t.id, .int .i64 t.team, .int .i64 t.x, .int .i64 t.y, .int .i64 t.depth, .int .i64 t.speed, .int .i64 t.mast, .int .i64 t.noise, .bool t.afloat, .bool t.radar, .bool t.sonar, .bool t.ping] = shpA t := rfl
                  (try rw [hst])
                  clear hst
                  have HY := hide (BX.new wr t)
                  have HB4 := hide (lec HB3.out (be1 wr (.cells (shpA t) 38)))
                  generalize wr.alloc (.cells (shpA t) 38) = w4 at *
                  obtain ⟨q9, hq9⟩ : ∃ q, wr.heap.size = q := ⟨_, rfl⟩
                  rw [hq9] at HY ⊢
                  clear hq9 u0 u1 u2 u3 u4 u5 u6 u7 u8 u9 u10 u11 y0 HW HB3
                  obtain ⟨P, hP⟩ : ∃ P : Shp → Bool, P = fun o => (o.team == (T : Int)) && liveP o t && seeP M2 o t 0 := ⟨_, rfl⟩
                  have HPP := hide hP
                  clear hP
                  go_wp2
                  go_loopw [10, 11] (fun se sa wy => ∃ i : Nat, i ≤ nL ∧ sa = .int .i64 i ∧ se = .bool ((L2.take i).any P) ∧ Below w4.heap.size w4 wy) (fun _ sa _ => nL - (intOf sa).toNat)
                  case atStart => exact ⟨0, by omega, rfl, by simp, Below.refl _ _⟩
                  case round =>
                    obtain ⟨i, hi, rfl, rfl, hb⟩ := hrel
                    have HB5 := hide hb
                    have HW := hide ((HL3.out.wd.below HB4.out).below hb)
                    have y0 := HW.out.c0
                    rw [E1.out] at y0
                    clear hb
                    by_cases hil : i < nL
                    · have hili : (i : Int) < (nL : Int) := by omega
                      obtain ⟨o, ho⟩ : ∃ o, L2[i]? = some o := ⟨_, List.getElem?_eq_getElem (by have := HNL.out; omega)⟩
                      have hrow := HW.out
                      rw [E1.out] at hrow
                      have hr := hrow.ship ho HNL.out.symm
                      have u0 := hr 0 _ rfl
                      have u1 := hr 1 _ rfl
                      have u2 := hr 2 _ rfl
                      have u3 := hr 3 _ rfl
                      have u4 := hr 4 _ rfl
                      have u5 := hr 5 _ rfl
                      have u6 := hr 6 _ rfl
                      have u7 := hr 7 _ rfl
                      have u8 := hr 8 _ rfl
                      have u9 := hr 9 _ rfl
                      have u10 := hr 10 _ rfl
                      have u11 := hr 11 _ rfl
                      rw [Nat.add_zero] at u0
                      have HOo := hide (And.intro ho (HL3.out.wo.ok o (List.mem_of_getElem? ho)))
                      have HAN := hide (any_take (P := P) ho)
                      clear hr hrow ho
                      go_upto_region 23 with fail
                      have hso : #[.int .i64 o.id, .int .i64 o.team, .int .i64 o.x, .int .i64 o.y, .int .i64 o.depth, .int .i64 o.speed, .int .i64 o.mast, .int .i64 o.noise, .bool o.afloat, .bool o.radar, .bool o.sonar, .bool o.ping] = shpA o := rfl
                      (try rw [hso])
                      clear hso
                      have HX := hide (BX.new wr o)
                      have HB6 := hide (lec HB5.out (be1 wr (.cells (shpA o) 38)))
                      generalize wr.alloc (.cells (shpA o) 38) = w6 at *
                      obtain ⟨q12, hq12⟩ : ∃ q, wr.heap.size = q := ⟨_, rfl⟩
                      rw [hq12] at HX ⊢
                      clear hq12 u0 u1 u2 u3 u4 u5 u6 u7 u8 u9 u10 u11 y0 HW HB5
                      replace HY := hide (HY.out.below HB6.out)
                      have SKIP : Hid (P o = false → (L2.take (i + 1)).any P = (L2.take i).any P) := fun e => by rw [HAN.out, e, Bool.or_false]
                      obtain ⟨sn, hsn⟩ : ∃ sn, (L2.take i).any P = sn := ⟨_, rfl⟩
                      rw [hsn] at SKIP HAN ⊢
                      clear hsn
                      have hP : P o = ((o.team == (T : Int)) && liveP o t && seeP M2 o t 0) := by rw [HPP.out]
                      have HPo := hide hP
                      clear hP
                      by_cases hteam : o.team = (T : Int)
                      · have htb : (o.team != (T : Int)) = false := by simp [hteam]
                        have htb2 : (o.team == (T : Int)) = true := by simp [hteam]
                        have HTB2 := hide htb2
                        clear hteam htb2
                        obtain ⟨x0, x1, x2, x3, x4, x5, x6, x7, x8, x9, x10, x11⟩ := HX.out
                        obtain ⟨y0, y1, y2, y3, y4, y5, y6, y7, y8, y9, y10, y11⟩ := HY.out
                        go_wp2_with fail
                        refine (live_any _ o t).mono ?_
                        rintro e w7 ⟨rfl, b7⟩
                        have HX7 := hide (HX.out.below b7)
                        have HY7 := hide (HY.out.below b7)
                        have HB7 := hide (lec HB6.out b7)
                        clear b7 x0 x1 x2 x3 x4 x5 x6 x7 x8 x9 x10 x11 y0 y1 y2 y3 y4 y5 y6 y7 y8 y9 y10 y11 HX HB6
                        have x9 := HX7.out.c9
                        have x4 := HX7.out.c4
                        cases hlv : liveP o t
                        · go_wp2
                          go_roundw
                          case rel => exact ⟨i + 1, by omega, by simp, by rw [SKIP.out (by rw [HPo.out, hlv]; simp)], HB7.out⟩
                          case measure => simp [intOf]; omega
                        · cases hrad : o.radar
                          · rw [hrad] at x9
                            go_wp2
                            go_roundw
                            case rel => exact ⟨i + 1, by omega, by simp, by rw [SKIP.out (by rw [HPo.out]; simp [seeP, radP, upP, hrad])], HB7.out⟩
                            case measure => simp [intOf]; omega
                          · rw [hrad] at x9
                            by_cases hdep : o.depth = 0
                            · rw [hdep] at x4
                              have HLV := hide (And.intro hlv (And.intro hrad hdep))
                              clear hlv hrad hdep
                              have x2 := HX7.out.c2
                              have x3 := HX7.out.c3
                              have x6 := HX7.out.c6
                              have y2 := HY7.out.c2
                              have y3 := HY7.out.c3
                              have y6 := HY7.out.c6
                              have hm1 := HOo.out.2.mast
                              have hm2 := HT.out.2.mast
                              have wm : IntKind.i64.wrap (16777216 * o.mast) = 16777216 * o.mast := IntWalk.i64_in _ (by omega)
                              have wt : IntKind.i64.wrap (16777216 * t.mast) = 16777216 * t.mast := IntWalk.i64_in _ (by omega)
                              go_upto_region 24 with fail
                              clear x9 x4 htb
                              obtain ⟨d, hd⟩ : ∃ d, dsq o.x o.y t.x t.y = d := ⟨_, rfl⟩
                              have hdr := dsq_rng HOo.out.2.x HOo.out.2.y HT.out.2.x HT.out.2.y
                              rw [hd] at hdr
                              have HDD := hide hd
                              clear hd
                              go_region_held3 (fun w' => w'.cell? ⟨q12, 2, none⟩ = some (.int .i64 o.x) ∧ w'.cell? ⟨q12, 3, none⟩ = some (.int .i64 o.y) ∧ w'.cell? ⟨q12, 6, none⟩ = some (.int .i64 o.mast) ∧ w'.cell? ⟨q9, 2, none⟩ = some (.int .i64 t.x) ∧ w'.cell? ⟨q9, 3, none⟩ = some (.int .i64 t.y) ∧ w'.cell? ⟨q9, 6, none⟩ = some (.int .i64 t.mast)) (simp [*, go_sem])
                                (first
                                  | (go_at_call 22; refine (distSq_any _ o.x o.y t.x t.y HOo.out.2.x HOo.out.2.y HT.out.2.x HT.out.2.y).mono ?_; rintro e w8 ⟨rfl, ew⟩; rw [ew, HDD.out]; clear ew w8)
                                  | (go_at_call 21; refine (wrs_any _ d (16777216 * o.mast) (16777216 * t.mast) (by omega) (by omega) (by omega)).mono ?_; rintro e w8 ⟨rfl, b8⟩; (try replace b8 := of_drew b8); have HX8 := hide (HX7.out.below b8); have HY8 := hide (HY7.out.below b8); have HB8 := hide (lec HB7.out b8); have x28 := HX8.out.c2; have x38 := HX8.out.c3; have x68 := HX8.out.c6; have y28 := HY8.out.c2; have y38 := HY8.out.c3; have y68 := HY8.out.c6; clear b8))
                              clear x2 x3 x6 y2 y3 y6 x28 x38 x68 y28 y38 y68 wm wt HX7 HY7 HB7
                              rename_i hh0
                              clear hh0
                              obtain ⟨wv, hwv⟩ : ∃ wv, wrsP d (16777216 * o.mast) (16777216 * t.mast) = wv := ⟨_, rfl⟩
                              rw [hwv]
                              have HWV := hide hwv
                              clear hwv hm1 hm2 hdr
                              obtain ⟨G, hG⟩ : ∃ G : Smk → Bool, (fun m => segO o t m) = G := ⟨_, rfl⟩
                              have HGG := hide hG
                              clear hG
                              go_wp2
                              go_loopw [14, 15] (fun ss sc wz => ∃ c : Nat, c ≤ nM ∧ sc = .int .i64 c ∧ ss = .bool ((M2.take c).any G) ∧ Below w8.heap.size w8 wz) (fun _ sc _ => nM - (intOf sc).toNat)
                              case atStart => exact ⟨0, by omega, rfl, by simp, Below.refl _ _⟩
                              case round =>
                                obtain ⟨c, hc, rfl, rfl, hb⟩ := hrel
                                have HB9 := hide (lec HB8.out hb)
                                have HX9 := hide (HX8.out.below hb)
                                have HY9 := hide (HY8.out.below hb)
                                have HBz := hide hb
                                clear hb
                                have HW := hide ((HL3.out.wd.below HB4.out).below HB9.out)
                                have y1 := HW.out.c1
                                rw [E2.out] at y1
                                by_cases hcl : c < nM
                                · have hcli : (c : Int) < (nM : Int) := by omega
                                  obtain ⟨m, hm⟩ : ∃ m, M2[c]? = some m := ⟨_, List.getElem?_eq_getElem (by have := HNM.out; omega)⟩
                                  obtain ⟨g2, c9, e3⟩ := own_some HW.out.r2 (by have := HNM.out; omega)
                                  rw [HNM.out, E2.out] at e3
                                  cases e3
                                  have hrow := HW.out
                                  rw [E2.out] at hrow
                                  have hr := hrow.smoke hm HNM.out.symm
                                  have m0 := hr 0 _ rfl
                                  have m1 := hr 1 _ rfl
                                  have m2 := hr 2 _ rfl
                                  rw [Nat.add_zero] at m0
                                  have hmo := HL3.out.wo.mo m (List.mem_of_getElem? hm)
                                  have HMo := hide hmo
                                  have HAM := hide (any_take (P := G) hm)
                                  clear hr hrow hm hmo HW
                                  have x2 := HX9.out.c2
                                  have x3 := HX9.out.c3
                                  have y2 := HY9.out.c2
                                  have y3 := HY9.out.c3
                                  have HGm := hide (show G m = segP o.x o.y t.x t.y m.x m.y m.r by rw [← HGG.out]; rfl)
                                  go_upto_region 29 with fail
                                  go_region_held3 (fun w' => w'.cell? ⟨q12, 2, none⟩ = some (.int .i64 o.x) ∧ w'.cell? ⟨q12, 3, none⟩ = some (.int .i64 o.y) ∧ w'.cell? ⟨q9, 2, none⟩ = some (.int .i64 t.x) ∧ w'.cell? ⟨q9, 3, none⟩ = some (.int .i64 t.y) ∧ w'.cell? ⟨p, 1, none⟩ = some (.slice (some ⟨g2, 0, none⟩) nM cp2) ∧ w'.cell? ⟨g2, c * 3, none⟩ = some (.int .i64 m.x) ∧ w'.cell? ⟨g2, c * 3 + 1, none⟩ = some (.int .i64 m.y) ∧ w'.cell? ⟨g2, c * 3 + 2, none⟩ = some (.int .i64 m.r)) (simp [*, go_sem])
                                    (first
                                      | (go_at_call 23; refine (segDisc_any _ o.x o.y t.x t.y m.x m.y m.r HOo.out.2.x HOo.out.2.y HT.out.2.x HT.out.2.y HMo.out.x HMo.out.y HMo.out.r).mono ?_; rintro e wc ⟨rfl, bc⟩; (try replace bc := of_drew bc); have HBc := hide (lec HBz.out bc); have i1 := cellKeep bc x2; have i2 := cellKeep bc x3; have i3 := cellKeep bc y2; have i4 := cellKeep bc y3; have i5 := cellKeep bc y1; have i6 := cellKeep bc m0; have i7 := cellKeep bc m1; have i8 := cellKeep bc m2; clear bc))
                                  clear x2 x3 y2 y3 y1 m0 m1 m2 i1 i2 i3 i4 i5 i6 i7 i8
                                  rename_i hh0
                                  clear hh0
                                  rw [← HGm.out]
                                  cases hgm : G m
                                  · go_wp2
                                    go_roundw
                                    case rel => exact ⟨c + 1, by omega, by simp, by rw [HAM.out, hgm, Bool.or_false], HBc.out⟩
                                    case measure => simp [intOf]; omega
                                  · go_wp2
                                    go_roundw
                                    case rel => exact ⟨c + 1, by omega, by simp, by rw [HAM.out, hgm, Bool.or_true], HBc.out⟩
                                    case measure => simp [intOf]; omega
                                · have hcli : ¬ (c : Int) < (nM : Int) := by omega
                                  obtain rfl : c = nM := by omega
                                  have hall : (M2.take c).any G = M2.any G := any_take_all HNM.out
                                  rw [hall]
                                  clear hall
                                  have hrp : radP M2 o t = (decide (t.depth = 0) && wv && !(M2.any G)) := by
                                    unfold radP upP
                                    rw [HLV.out.2.1, HLV.out.2.2]
                                    have e1 : wrsP (dstP o t) (16777216 * o.mast) (16777216 * t.mast) = wv := by rw [← HWV.out, ← HDD.out]; rfl
                                    have e2 : (M2.all fun m => !segO o t m) = !(M2.any G) := by rw [← HGG.out, List.not_any_eq_all_not]
                                    rw [e1, e2]
                                    simp
                                  have hPo2 : P o = (decide (t.depth = 0) && wv && !(M2.any G)) := by
                                    rw [HPo.out, HTB2.out, HLV.out.1]
                                    show (true && true && radP M2 o t) = _
                                    rw [hrp]; simp
                                  have HP2 := hide hPo2
                                  clear hPo2 hrp HW
                                  obtain ⟨sk, hsk⟩ : ∃ sk, M2.any G = sk := ⟨_, rfl⟩
                                  rw [hsk] at HP2 ⊢
                                  clear hsk
                                  have y4 := HY9.out.c4
                                  cases wv
                                  · go_wp2
                                    go_roundw
                                    case rel => exact ⟨i + 1, by omega, by simp, by rw [SKIP.out (by rw [HP2.out]; simp)], HB9.out⟩
                                    case measure => simp [intOf]; omega
                                  · by_cases hd0 : t.depth = 0
                                    · rw [hd0] at y4
                                      have HD0 := hide hd0
                                      clear hd0
                                      cases sk
                                      · go_wp2
                                        go_roundw
                                        case rel => exact ⟨i + 1, by omega, by simp, by rw [HAN.out, HP2.out, HD0.out]; simp, HB9.out⟩
                                        case measure => simp [intOf]; omega
                                      · go_wp2
                                        go_roundw
                                        case rel => exact ⟨i + 1, by omega, by simp, by rw [SKIP.out (by rw [HP2.out]; simp)], HB9.out⟩
                                        case measure => simp [intOf]; omega
                                    · have hd0b : (t.depth == 0) = false := by simp [hd0]
                                      go_wp2
                                      go_roundw
                                      case rel => exact ⟨i + 1, by omega, by simp, by rw [SKIP.out (by rw [HP2.out]; simp [hd0])], HB9.out⟩
                                      case measure => simp [intOf]; omega
                            · have hdb : (o.depth != 0) = true := by simp [hdep]
                              go_wp2
                              go_roundw
                              case rel => exact ⟨i + 1, by omega, by simp, by rw [SKIP.out (by rw [HPo.out]; simp [seeP, radP, upP, hdep])], HB7.out⟩
                              case measure => simp [intOf]; omega
                      · have htb : (o.team != (T : Int)) = true := by simp [hteam]
                        have x1 := HX.out.c1
                        go_wp2
                        go_roundw
                        case rel => exact ⟨i + 1, by omega, by simp, by rw [SKIP.out (by rw [HPo.out]; simp [hteam])], HB6.out⟩
                        case measure => simp [intOf]; omega
                    · have hili : ¬ (i : Int) < (nL : Int) := by omega
                      obtain rfl : i = nL := by omega
                      have hall : (L2.take i).any P = L2.any P := any_take_all HNL.out
                      rw [hall]
                      clear hall
                      have hX : hasP (repN B 768) T t.id (0 : Nat) = L2.any P := by rw [has_rep, lk_iff HL3.out.wo HBD.out (List.mem_of_getElem? HT.out.1) (by omega) (by omega), HPP.out]
                      obtain ⟨X, hXX⟩ : ∃ X, L2.any P = X := ⟨_, rfl⟩
                      rw [hXX] at hX ⊢
                      have HXX := hide hX
                      clear hX hXX
                      have z0 := (HY.out.below HB5.out).c0
                      go_wp2_with fail
                      refine (has_any _ _ ga gn gc (repN B 768) (HDR.out.below (lec HB4.out HB5.out)) HGN.out hg768 T t.id (0 : Nat)).mono ?_
                      rintro e w9 ⟨rfl, ew⟩
                      rw [ew, HXX.out]
                      clear ew w9 z0 y0
                      go_wp2
                      go_roundw
                      case rel => exact ⟨j + 1, by omega, by simp, lec HB4.out HB5.out⟩
                      case measure => simp [intOf]; omega
                · have hjli : ¬ (j : Int) < (nL : Int) := by omega
                  go_wp2
                  go_roundw
                  case rel => exact ⟨T + 1, by omega, by simp, HB3.out⟩
                  case measure => simp [intOf]; omega
            · obtain rfl : T = 4 := by omega
              go_wp2
              go_roundw
              case rel => exact ⟨k + 1, _, _, _, _, by omega, by simp, HL3.out.below HB3.out⟩
              case measure => simp [intOf]; omega
        · have h6b : (kd != 6) = true := by simp [h6]
          go_wp2
          go_roundw
          case rel => exact ⟨k + 1, _, _, _, _, by omega, by simp, HL2.out⟩
          case measure => simp [intOf]; omega
      · have hlti : ¬ (k : Int) < (n : Int) := by omega
        obtain rfl : k = n := by omega
        go_wp2
        go_ret
        exact ⟨rfl, HL.out.bel⟩
  · go_enter Try.func5, Try.ntmps5
    go_wp2_with fail
    refine (small_any _ a n cap hn).mono ?_
    rintro e w' ⟨rfl, ew⟩
    rw [ew]
    have hd : decide (n ≤ 65536) = false := by simpa using hsm
    rw [hd]
    clear hd ew w'
    go_wp2
    go_ret
    exact ⟨rfl, Below.refl _ _⟩
end Go.Proofs.Qxb6500776a
