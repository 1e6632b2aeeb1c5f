import Derived.Test.Qxb6500776aLw2
namespace Go.Proofs.Qxb6500776a
open Go.RowKit

set_option maxRecDepth 100000 in
set_option maxHeartbeats 8000000 in
theorem sonarIff_walk (w : World) (a : Option Addr) (n cap : Nat) (f : Nat → Nat → Int) (hn : n ≤ 9223372036854775807) (ho : OpsAt w a n f) :
    Calls Try.prog 6 #[.slice a n cap] w fun e w' => e = .returned (.bool true) ∧ Below w.heap.size w w' := by
  have HO := hide ho
  clear ho
  by_cases hsm : n ≤ 65536
  · go_enter Try.func6, Try.ntmps6
    go_wp2_with fail
    refine (small_any _ a n cap hn).mono ?_
    rintro e w' ⟨rfl, ew⟩
    rw [ew]
    have hd : decide (n ≤ 65536) = true := by simpa using hsm
    rw [hd]
    clear hd ew w'
    go_wp2_with fail
    refine (newW_any _).mono ?_
    rintro e w' ⟨rfl, ew⟩
    rw [ew]
    clear ew w'
    go_wp2_with fail
    refine (newS_any _).mono ?_
    rintro e w' ⟨rfl, ew⟩
    rw [ew]
    clear ew w'
    have HL := hide (LW.first w)
    have hsz : (w.alloc (.cells #[.slice none 0 0, .slice none 0 0] 44)).heap.size = w.heap.size + 1 := by simp
    (try rw [hsz])
    clear hsz
    generalize (w.alloc (.cells #[.slice none 0 0, .slice none 0 0] 44)).alloc (.cells Try.zeroCells75 75) = w1 at *
    obtain ⟨s, hs⟩ : ∃ s, w.heap.size + 1 = s := ⟨_, rfl⟩
    rw [hs] at HL ⊢
    clear hs
    obtain ⟨p, hp⟩ : ∃ p, w.heap.size = p := ⟨_, rfl⟩
    rw [hp] at HL ⊢
    have HP := hide hp
    clear hp
    go_wp2
    go_loopw [5] (fun i wr => ∃ (k : Nat) (v1 v2 : Value) (L : List Shp) (M : List Smk), k ≤ n ∧ i = .int .i64 k ∧ LW w wr p s v1 v2 L M) (fun i _ => n - (intOf i).toNat)
    case atStart => exact ⟨0, _, _, _, _, Nat.zero_le _, rfl, HL.out⟩
    case round =>
      clear HL
      obtain ⟨k, v1, v2, L, M, hk, rfl, hl⟩ := hrel
      have HL := hide hl
      clear hl
      by_cases hlt : k < n
      · have hlti : (k : Int) < (n : Int) := by omega
        obtain ⟨b, off, rfl, hf⟩ := HO.out k hlt
        have hc : ∀ wx, Below w.heap.size w wx → ∀ j, j < 6 → wx.cell? ⟨b, off + k * 6 + j, none⟩ = some (.int .i64 (f k j)) := fun wx hbel j hj => (hbel.cell (World.block_lt_of_cell? _ _ (hf j hj).1)).trans (hf j hj).1
        have c0 := hc _ HL.out.bel 0 (by omega)
        rw [Nat.add_zero] at c0
        have c1 := hc _ HL.out.bel 1 (by omega)
        have c2 := hc _ HL.out.bel 2 (by omega)
        have c3 := hc _ HL.out.bel 3 (by omega)
        have c4 := hc _ HL.out.bel 4 (by omega)
        have c5 := hc _ HL.out.bel 5 (by omega)
        have b1 := (hf 1 (by omega)).2
        have b2 := (hf 2 (by omega)).2
        have HCC := hide hc
        clear hf hc
        obtain ⟨kd, hkd⟩ : ∃ kd, f k 0 = kd := ⟨_, rfl⟩
        rw [hkd] at c0
        have HKD := hide hkd
        clear hkd
        generalize f k 1 = A at *
        generalize f k 2 = Bb at *
        generalize f k 3 = Cc at *
        generalize f k 4 = Dd at *
        generalize f k 5 = Oo at *
        go_wp2_with fail
        refine (step_any _ p v1 v2 L M HL.out.wd HL.out.wo kd A Bb Cc Dd Oo b1 b2).mono ?_
        rintro e w2 hst
        obtain ⟨r0, u1, u2, L2, M2, rfl, hl2⟩ := HL.out.step hst
        have HL2 := hide hl2
        clear hst hl2 HL c0 c1 c2 c3 c4 c5 b1 b2
        have c0 := HCC.out _ HL2.out.bel 0 (by omega)
        rw [Nat.add_zero, HKD.out] at c0
        by_cases h6 : kd = 6
        · rw [h6] at c0
          clear HCC h6 HKD
          go_upto_region 10 with fail
          clear c0
          go_wp2_with fail
          refine (HL2.out.scan).mono ?_
          rintro e w3 ⟨ga, gn, gc, B, rfl, hdr, hgn, hbr, hbd, hex, hl3⟩
          have HL3 := hide hl3
          have HDR := hide hdr
          have HGN := hide hgn
          have HBR := hide hbr
          have HBD := hide hbd
          have hg768 : gn ≤ 768 := by rw [hgn]; exact repN_len B 768
          clear hl3 hdr hgn hbr hbd hex HL2
          obtain ⟨a1, cp1, e1⟩ := own_form HL3.out.wd.r1
          obtain ⟨a2, cp2, e2⟩ := own_form HL3.out.wd.r2
          obtain ⟨nL, hnL⟩ : ∃ nL, L2.length = nL := ⟨_, rfl⟩
          obtain ⟨nM, hnM⟩ : ∃ nM, M2.length = nM := ⟨_, rfl⟩
          have hnL48 : nL ≤ 48 := by rw [← hnL]; exact HL3.out.wo.len
          have hnM32 : nM ≤ 32 := by rw [← hnM]; exact HL3.out.wo.ml
          rw [hnL] at e1
          rw [hnM] at e2
          have HNL := hide hnL
          have HNM := hide hnM
          have E1 := hide e1
          have E2 := hide e2
          clear e1 e2 hnL hnM
          go_wp2
          go_loopw [7] (fun sT wx => ∃ T : Nat, T ≤ 4 ∧ sT = .int .i64 T ∧ Below w3.heap.size w3 wx) (fun sT _ => 4 - (intOf sT).toNat)
          case atStart => exact ⟨0, by omega, rfl, Below.refl _ _⟩
          case round =>
            obtain ⟨T, hT, rfl, hb⟩ := hrel
            have HB3 := hide hb
            clear hb
            by_cases hT4 : T < 4
            · have hT4i : (T : Int) < 4 := by omega
              go_wp2
              go_loopw [8] (fun sb wx => ∃ j : Nat, j ≤ nL ∧ sb = .int .i64 j ∧ Below w3.heap.size w3 wx) (fun sb _ => nL - (intOf sb).toNat)
              case atStart => exact ⟨0, by omega, rfl, HB3.out⟩
              case round =>
                clear HB3
                obtain ⟨j, hj, rfl, hb⟩ := hrel
                have HB3 := hide hb
                have HW := hide (HL3.out.wd.below hb)
                have y0 := HW.out.c0
                rw [E1.out] at y0
                clear hb
                by_cases hjl : j < nL
                · have hjli : (j : Int) < (nL : Int) := by omega
                  obtain ⟨t, ht⟩ : ∃ t, L2[j]? = some t := ⟨_, List.getElem?_eq_getElem (by have := HNL.out; omega)⟩
                  obtain ⟨g1, c9, e3⟩ := own_some HW.out.r1 (by have := HNL.out; omega)
                  rw [HNL.out, E1.out] at e3
                  cases e3
                  have hrow := HW.out
                  rw [E1.out] at hrow
                  have hr := hrow.ship ht HNL.out.symm
                  have u0 := hr 0 _ rfl
                  have u1 := hr 1 _ rfl
                  have u2 := hr 2 _ rfl
                  have u3 := hr 3 _ rfl
                  have u4 := hr 4 _ rfl
                  have u5 := hr 5 _ rfl
                  have u6 := hr 6 _ rfl
                  have u7 := hr 7 _ rfl
                  have u8 := hr 8 _ rfl
                  have u9 := hr 9 _ rfl
                  have u10 := hr 10 _ rfl
                  have u11 := hr 11 _ rfl
                  rw [Nat.add_zero] at u0
                  have HT := hide (And.intro ht (HL3.out.wo.ok t (List.mem_of_getElem? ht)))
                  clear hr hrow ht
                  go_upto_region 18 with fail
                  have hst : #[.int .i64 t.id, .int .i64 t.team, .int .i64 t.x, .int .i64 t.y, .int .i64 t.depth, .int .i64 t.speed, .int .i64 t.mast, .int .i64 t.noise, .bool t.afloat, .bool t.radar, .bool t.sonar, .bool t.ping] = shpA t := rfl
                  (try rw [hst])
                  clear hst
                  have HY := hide (BX.new wr t)
                  have HB4 := hide (lec HB3.out (be1 wr (.cells (shpA t) 38)))
                  generalize wr.alloc (.cells (shpA t) 38) = w4 at *
                  obtain ⟨q9, hq9⟩ : ∃ q, wr.heap.size = q := ⟨_, rfl⟩
                  rw [hq9] at HY ⊢
                  clear hq9 u0 u1 u2 u3 u4 u5 u6 u7 u8 u9 u10 u11 y0 HW HB3
                  obtain ⟨P1, hP1⟩ : ∃ P : Shp → Bool, P = fun o => (o.team == (T : Int)) && liveP o t && seeP M2 o t 1 := ⟨_, rfl⟩
                  obtain ⟨P2, hP2⟩ : ∃ P : Shp → Bool, P = fun o => (o.team == (T : Int)) && liveP o t && seeP M2 o t 2 := ⟨_, rfl⟩
                  obtain ⟨P3, hP3⟩ : ∃ P : Shp → Bool, P = fun o => (o.team == (T : Int)) && liveP o t && seeP M2 o t 3 := ⟨_, rfl⟩
                  have HPP := hide (And.intro hP1 (And.intro hP2 hP3))
                  clear hP1 hP2 hP3
                  go_wp2
                  go_loopw [10, 11, 12, 13] (fun s1 s2 s3 sa wy => ∃ i : Nat, i ≤ nL ∧ sa = .int .i64 i ∧ s1 = .bool ((L2.take i).any P1) ∧ s2 = .bool ((L2.take i).any P2) ∧ s3 = .bool ((L2.take i).any P3) ∧ Below w4.heap.size w4 wy) (fun _ _ _ sa _ => nL - (intOf sa).toNat)
                  case atStart => exact ⟨0, by omega, rfl, by simp, by simp, by simp, Below.refl _ _⟩
                  case round =>
                    obtain ⟨i, hi, rfl, rfl, rfl, rfl, hb⟩ := hrel
                    have HB5 := hide hb
                    have HW := hide ((HL3.out.wd.below HB4.out).below hb)
                    have y0 := HW.out.c0
                    rw [E1.out] at y0
                    clear hb
                    by_cases hil : i < nL
                    · have hili : (i : Int) < (nL : Int) := by omega
                      obtain ⟨o, ho⟩ : ∃ o, L2[i]? = some o := ⟨_, List.getElem?_eq_getElem (by have := HNL.out; omega)⟩
                      have hrow := HW.out
                      rw [E1.out] at hrow
                      have hr := hrow.ship ho HNL.out.symm
                      have u0 := hr 0 _ rfl
                      have u1 := hr 1 _ rfl
                      have u2 := hr 2 _ rfl
                      have u3 := hr 3 _ rfl
                      have u4 := hr 4 _ rfl
                      have u5 := hr 5 _ rfl
                      have u6 := hr 6 _ rfl
                      have u7 := hr 7 _ rfl
                      have u8 := hr 8 _ rfl
                      have u9 := hr 9 _ rfl
                      have u10 := hr 10 _ rfl
                      have u11 := hr 11 _ rfl
                      rw [Nat.add_zero] at u0
                      have HOo := hide (And.intro ho (HL3.out.wo.ok o (List.mem_of_getElem? ho)))
                      have HAN := hide (And.intro (any_take (P := P1) ho) (And.intro (any_take (P := P2) ho) (any_take (P := P3) ho)))
                      clear hr hrow ho
                      go_upto_region 25 with fail
                      have hso : #[.int .i64 o.id, .int .i64 o.team, .int .i64 o.x, .int .i64 o.y, .int .i64 o.depth, .int .i64 o.speed, .int .i64 o.mast, .int .i64 o.noise, .bool o.afloat, .bool o.radar, .bool o.sonar, .bool o.ping] = shpA o := rfl
                      (try rw [hso])
                      clear hso
                      have HX := hide (BX.new wr o)
                      have HB6 := hide (lec HB5.out (be1 wr (.cells (shpA o) 38)))
                      generalize wr.alloc (.cells (shpA o) 38) = w6 at *
                      obtain ⟨q12, hq12⟩ : ∃ q, wr.heap.size = q := ⟨_, rfl⟩
                      rw [hq12] at HX ⊢
                      clear hq12 u0 u1 u2 u3 u4 u5 u6 u7 u8 u9 u10 u11 y0 HW HB5
                      replace HY := hide (HY.out.below HB6.out)
                      have SKIP : Hid ((P1 o = false → (L2.take (i + 1)).any P1 = (L2.take i).any P1) ∧ (P2 o = false → (L2.take (i + 1)).any P2 = (L2.take i).any P2) ∧ (P3 o = false → (L2.take (i + 1)).any P3 = (L2.take i).any P3)) := ⟨fun e => by rw [HAN.out.1, e, Bool.or_false], fun e => by rw [HAN.out.2.1, e, Bool.or_false], fun e => by rw [HAN.out.2.2, e, Bool.or_false]⟩
                      obtain ⟨n1, hn1⟩ : ∃ sn, (L2.take i).any P1 = sn := ⟨_, rfl⟩
                      obtain ⟨n2, hn2⟩ : ∃ sn, (L2.take i).any P2 = sn := ⟨_, rfl⟩
                      obtain ⟨n3, hn3⟩ : ∃ sn, (L2.take i).any P3 = sn := ⟨_, rfl⟩
                      rw [hn1] at SKIP HAN ⊢
                      rw [hn2] at SKIP HAN ⊢
                      rw [hn3] at SKIP HAN ⊢
                      clear hn1 hn2 hn3
                      have HPo1 := hide (show P1 o = ((o.team == (T : Int)) && liveP o t && seeP M2 o t 1) by rw [HPP.out.1])
                      have HPo2 := hide (show P2 o = ((o.team == (T : Int)) && liveP o t && seeP M2 o t 2) by rw [HPP.out.2.1])
                      have HPo3 := hide (show P3 o = ((o.team == (T : Int)) && liveP o t && seeP M2 o t 3) by rw [HPP.out.2.2])
                      by_cases hteam : o.team = (T : Int)
                      · have htb : (o.team != (T : Int)) = false := by simp [hteam]
                        have htb2 : (o.team == (T : Int)) = true := by simp [hteam]
                        have HTB2 := hide htb2
                        clear hteam htb2
                        obtain ⟨x0, x1, x2, x3, x4, x5, x6, x7, x8, x9, x10, x11⟩ := HX.out
                        obtain ⟨y0, y1, y2, y3, y4, y5, y6, y7, y8, y9, y10, y11⟩ := HY.out
                        go_wp2_with fail
                        refine (live_any _ o t).mono ?_
                        rintro e w7 ⟨rfl, b7⟩
                        have HX7 := hide (HX.out.below b7)
                        have HY7 := hide (HY.out.below b7)
                        have HB7 := hide (lec HB6.out b7)
                        clear b7 x0 x1 x2 x3 x4 x5 x6 x7 x8 x9 x10 x11 y0 y1 y2 y3 y4 y5 y6 y7 y8 y9 y10 y11 HX HB6
                        have x10 := HX7.out.c10
                        cases hlv : liveP o t
                        · go_wp2
                          go_roundw
                          case rel => exact ⟨i + 1, by omega, by simp, by rw [SKIP.out.1 (by rw [HPo1.out, hlv]; simp)], by rw [SKIP.out.2.1 (by rw [HPo2.out, hlv]; simp)], by rw [SKIP.out.2.2 (by rw [HPo3.out, hlv]; simp)], HB7.out⟩
                          case measure => simp [intOf]; omega
                        · cases hson : o.sonar
                          · rw [hson] at x10
                            go_wp2
                            go_roundw
                            case rel => exact ⟨i + 1, by omega, by simp, by rw [SKIP.out.1 (by rw [HPo1.out]; simp [seeP, hson])], by rw [SKIP.out.2.1 (by rw [HPo2.out]; simp [seeP, findP, pinP, hson])], by rw [SKIP.out.2.2 (by rw [HPo3.out]; simp [seeP, hearP, hson])], HB7.out⟩
                            case measure => simp [intOf]; omega
                          · rw [hson] at x10
                            have HLV := hide (And.intro hlv hson)
                            clear hlv hson
                            have x2 := HX7.out.c2
                            have x3 := HX7.out.c3
                            have y2 := HY7.out.c2
                            have y3 := HY7.out.c3
                            go_wp2_with fail
                            refine (distSq_any _ o.x o.y t.x t.y HOo.out.2.x HOo.out.2.y HT.out.2.x HT.out.2.y).mono ?_
                            rintro e w8 ⟨rfl, ew⟩
                            rw [ew]
                            obtain ⟨d, hd⟩ : ∃ d, dsq o.x o.y t.x t.y = d := ⟨_, rfl⟩
                            rw [hd]
                            have HDD := hide (show dstP o t = d from hd)
                            clear ew w8 hd x2 x3 y2 y3 x10 htb
                            have x4 := HX7.out.c4
                            have y4 := HY7.out.c4
                            have hly := lay_rng o t
                            go_upto_if 111 with fail
                            go_cut [16] (fun s16 wx => s16 = .int .i64 (layP o t) ∧ Below w7.heap.size w7 wx)
                            case first =>
                              cases hcb : (!(decide (o.depth < 100) == decide (t.depth < 100)))
                              · go_wp2
                                go_meet
                                exact ⟨by unfold layP bne; rw [hcb]; rfl, Below.refl _ _⟩
                              · go_wp2
                                go_meet
                                exact ⟨by unfold layP bne; rw [hcb]; rfl, Below.refl _ _⟩
                            obtain ⟨rfl, hbc⟩ := hcut
                            have HX9 := hide (HX7.out.below hbc)
                            have HY9 := hide (HY7.out.below hbc)
                            have HB9 := hide (lec HB7.out hbc)
                            clear hbc x4 y4
                            obtain ⟨ly, hlyE⟩ : ∃ ly, layP o t = ly := ⟨_, rfl⟩
                            rw [hlyE] at hly ⊢
                            have HLY := hide hlyE
                            clear hlyE
                            have y7 := HY9.out.c7
                            have y5 := HY9.out.c5
                            have x5 := HX9.out.c5
                            have h1 := HT.out.2.speed
                            have h2 := HT.out.2.noise
                            have h3 := HOo.out.2.speed
                            have hdc := decP_le d
                            go_wp2_with fail
                            refine (decibel_any _ d).mono ?_
                            rintro e wd ⟨rfl, ew⟩
                            rw [ew]
                            clear ew wd y7 y5 x5
                            have w1' : IntKind.i64.wrap (t.noise + 2 * t.speed) = t.noise + 2 * t.speed := IntWalk.i64_in _ (by omega)
                            obtain ⟨dc, hdcE⟩ : ∃ dc, decP d = dc := ⟨_, rfl⟩
                            rw [hdcE] at hdc ⊢
                            have HDC := hide hdcE
                            clear hdcE
                            have hP1 : P1 o = decide (10 ≤ t.noise + 2 * t.speed - (dc : Int) - (40 + o.speed) - ly) := by
                              rw [HPo1.out, HTB2.out, HLV.out.1]
                              show (true && true && (o.sonar && decide (10 ≤ excP o t (dstP o t)))) = _
                              rw [HLV.out.2, HDD.out]
                              unfold excP srcP ownP
                              rw [HDC.out, HLY.out]
                              simp
                            have HP1 := hide hP1
                            clear hP1
                            go_upto_if 129 with fail
                            go_cut [10] (fun s10 wx => s10 = .bool ((L2.take (i + 1)).any P1) ∧ Below wc.heap.size wc wx)
                            case first =>
                              by_cases he : 10 ≤ t.noise + 2 * t.speed - (dc : Int) - (40 + o.speed) - ly
                              · have HH := hide he
                                go_wp2
                                go_meet
                                exact ⟨by rw [HAN.out.1, HP1.out, decide_eq_true HH.out, Bool.or_true], Below.refl _ _⟩
                              · have HH := hide he
                                go_wp2
                                go_meet
                                exact ⟨by rw [HAN.out.1, HP1.out, decide_eq_false (by have := HH.out; omega), Bool.or_false], Below.refl _ _⟩
                            obtain ⟨rfl, hba⟩ := hcut
                            replace HX9 := hide (HX9.out.below hba)
                            replace HY9 := hide (HY9.out.below hba)
                            replace HB9 := hide (lec HB9.out hba)
                            clear hba w1' h1 h2 h3 hdc hly HP1
                            have HP2 := hide (show P2 o = (o.ping && decide (d ≤ 1600000000)) by
                              rw [HPo2.out, HTB2.out, HLV.out.1]
                              show (true && true && (o.sonar && o.ping && decide (dstP o t ≤ 1600000000))) = _
                              rw [HLV.out.2, HDD.out]; simp)
                            have x11 := HX9.out.c11
                            go_upto_region 34 with fail
                            cases hpg : o.ping
                            · rw [hpg] at x11
                              have HPG := hide hpg
                              clear hpg
                              have HS2 := hide (show (L2.take (i + 1)).any P2 = n2 from by rw [HAN.out.2.1, HP2.out, HPG.out, Bool.false_and, Bool.or_false])
                              have y10 := HY9.out.c10
                              have y11 := HY9.out.c11
                              have HP3 := hide (show P3 o = (t.sonar && t.ping && decide (d ≤ 6400000000)) by
                                rw [HPo3.out, HTB2.out, HLV.out.1]
                                show (true && true && (o.sonar && (t.sonar && t.ping) && decide (dstP o t ≤ 6400000000))) = _
                                rw [HLV.out.2, HDD.out]; simp)
                              cases hts : t.sonar
                              · rw [hts] at y10
                                have HTS := hide hts
                                clear hts
                                go_wp2
                                go_roundw
                                case rel => exact ⟨i + 1, by omega, by simp, rfl, by rw [HS2.out], by rw [HAN.out.2.2, HP3.out, HTS.out, Bool.false_and, Bool.false_and, Bool.or_false], HB9.out⟩
                                case measure => simp [intOf]; omega
                              · rw [hts] at y10
                                have HTS := hide hts
                                clear hts
                                cases htp : t.ping
                                · rw [htp] at y11
                                  have HTP := hide htp
                                  clear htp
                                  go_wp2
                                  go_roundw
                                  case rel => exact ⟨i + 1, by omega, by simp, rfl, by rw [HS2.out], by rw [HAN.out.2.2, HP3.out, HTS.out, HTP.out, Bool.true_and, Bool.false_and, Bool.or_false], HB9.out⟩
                                  case measure => simp [intOf]; omega
                                · rw [htp] at y11
                                  have HTP := hide htp
                                  clear htp
                                  by_cases hf : d ≤ 6400000000
                                  · have HF := hide hf
                                    go_wp2
                                    go_roundw
                                    case rel => exact ⟨i + 1, by omega, by simp, rfl, by rw [HS2.out], by rw [HAN.out.2.2, HP3.out, HTS.out, HTP.out, decide_eq_true HF.out, Bool.true_and, Bool.true_and, Bool.or_true], HB9.out⟩
                                    case measure => simp [intOf]; omega
                                  · have HF := hide hf
                                    first
                                      | (exfalso; have := HH.out; omega)
                                      | (go_wp2
                                         go_roundw
                                         case rel => exact ⟨i + 1, by omega, by simp, rfl, by rw [HS2.out], by rw [HAN.out.2.2, HP3.out, HTS.out, HTP.out, decide_eq_false (by have := HF.out; omega), Bool.true_and, Bool.true_and, Bool.or_false], HB9.out⟩
                                         case measure => simp [intOf]; omega)
                            · rw [hpg] at x11
                              have HPG := hide hpg
                              clear hpg
                              by_cases he : d ≤ 1600000000
                              · have HH := hide he
                                have HS2 := hide (show (L2.take (i + 1)).any P2 = true from by rw [HAN.out.2.1, HP2.out, HPG.out, decide_eq_true HH.out, Bool.true_and, Bool.or_true])
                                have y10 := HY9.out.c10
                                have y11 := HY9.out.c11
                                have HP3 := hide (show P3 o = (t.sonar && t.ping && decide (d ≤ 6400000000)) by
                                  rw [HPo3.out, HTB2.out, HLV.out.1]
                                  show (true && true && (o.sonar && (t.sonar && t.ping) && decide (dstP o t ≤ 6400000000))) = _
                                  rw [HLV.out.2, HDD.out]; simp)
                                cases hts : t.sonar
                                · rw [hts] at y10
                                  have HTS := hide hts
                                  clear hts
                                  go_wp2
                                  go_roundw
                                  case rel => exact ⟨i + 1, by omega, by simp, rfl, by rw [HS2.out], by rw [HAN.out.2.2, HP3.out, HTS.out, Bool.false_and, Bool.false_and, Bool.or_false], HB9.out⟩
                                  case measure => simp [intOf]; omega
                                · rw [hts] at y10
                                  have HTS := hide hts
                                  clear hts
                                  cases htp : t.ping
                                  · rw [htp] at y11
                                    have HTP := hide htp
                                    clear htp
                                    go_wp2
                                    go_roundw
                                    case rel => exact ⟨i + 1, by omega, by simp, rfl, by rw [HS2.out], by rw [HAN.out.2.2, HP3.out, HTS.out, HTP.out, Bool.true_and, Bool.false_and, Bool.or_false], HB9.out⟩
                                    case measure => simp [intOf]; omega
                                  · rw [htp] at y11
                                    have HTP := hide htp
                                    clear htp
                                    by_cases hf : d ≤ 6400000000
                                    · have HF := hide hf
                                      go_wp2
                                      go_roundw
                                      case rel => exact ⟨i + 1, by omega, by simp, rfl, by rw [HS2.out], by rw [HAN.out.2.2, HP3.out, HTS.out, HTP.out, decide_eq_true HF.out, Bool.true_and, Bool.true_and, Bool.or_true], HB9.out⟩
                                      case measure => simp [intOf]; omega
                                    · have HF := hide hf
                                      first
                                        | (exfalso; have := HH.out; omega)
                                        | (go_wp2
                                           go_roundw
                                           case rel => exact ⟨i + 1, by omega, by simp, rfl, by rw [HS2.out], by rw [HAN.out.2.2, HP3.out, HTS.out, HTP.out, decide_eq_false (by have := HF.out; omega), Bool.true_and, Bool.true_and, Bool.or_false], HB9.out⟩
                                           case measure => simp [intOf]; omega)
                              · have HH := hide he
                                have HS2 := hide (show (L2.take (i + 1)).any P2 = n2 from by rw [HAN.out.2.1, HP2.out, HPG.out, decide_eq_false (by have := HH.out; omega), Bool.true_and, Bool.or_false])
                                have y10 := HY9.out.c10
                                have y11 := HY9.out.c11
                                have HP3 := hide (show P3 o = (t.sonar && t.ping && decide (d ≤ 6400000000)) by
                                  rw [HPo3.out, HTB2.out, HLV.out.1]
                                  show (true && true && (o.sonar && (t.sonar && t.ping) && decide (dstP o t ≤ 6400000000))) = _
                                  rw [HLV.out.2, HDD.out]; simp)
                                cases hts : t.sonar
                                · rw [hts] at y10
                                  have HTS := hide hts
                                  clear hts
                                  go_wp2
                                  go_roundw
                                  case rel => exact ⟨i + 1, by omega, by simp, rfl, by rw [HS2.out], by rw [HAN.out.2.2, HP3.out, HTS.out, Bool.false_and, Bool.false_and, Bool.or_false], HB9.out⟩
                                  case measure => simp [intOf]; omega
                                · rw [hts] at y10
                                  have HTS := hide hts
                                  clear hts
                                  cases htp : t.ping
                                  · rw [htp] at y11
                                    have HTP := hide htp
                                    clear htp
                                    go_wp2
                                    go_roundw
                                    case rel => exact ⟨i + 1, by omega, by simp, rfl, by rw [HS2.out], by rw [HAN.out.2.2, HP3.out, HTS.out, HTP.out, Bool.true_and, Bool.false_and, Bool.or_false], HB9.out⟩
                                    case measure => simp [intOf]; omega
                                  · rw [htp] at y11
                                    have HTP := hide htp
                                    clear htp
                                    by_cases hf : d ≤ 6400000000
                                    · have HF := hide hf
                                      go_wp2
                                      go_roundw
                                      case rel => exact ⟨i + 1, by omega, by simp, rfl, by rw [HS2.out], by rw [HAN.out.2.2, HP3.out, HTS.out, HTP.out, decide_eq_true HF.out, Bool.true_and, Bool.true_and, Bool.or_true], HB9.out⟩
                                      case measure => simp [intOf]; omega
                                    · have HF := hide hf
                                      first
                                        | (exfalso; have := HH.out; omega)
                                        | (go_wp2
                                           go_roundw
                                           case rel => exact ⟨i + 1, by omega, by simp, rfl, by rw [HS2.out], by rw [HAN.out.2.2, HP3.out, HTS.out, HTP.out, decide_eq_false (by have := HF.out; omega), Bool.true_and, Bool.true_and, Bool.or_false], HB9.out⟩
                                           case measure => simp [intOf]; omega)
                      · have htb : (o.team != (T : Int)) = true := by simp [hteam]
                        have x1 := HX.out.c1
                        go_wp2
                        go_roundw
                        case rel => exact ⟨i + 1, by omega, by simp, by rw [SKIP.out.1 (by rw [HPo1.out]; simp [hteam])], by rw [SKIP.out.2.1 (by rw [HPo2.out]; simp [hteam])], by rw [SKIP.out.2.2 (by rw [HPo3.out]; simp [hteam])], HB6.out⟩
                        case measure => simp [intOf]; omega
                    · have hili : ¬ (i : Int) < (nL : Int) := by omega
                      obtain rfl : i = nL := by omega
                      have hall1 : (L2.take i).any P1 = L2.any P1 := any_take_all HNL.out
                      have hall2 : (L2.take i).any P2 = L2.any P2 := any_take_all HNL.out
                      have hall3 : (L2.take i).any P3 = L2.any P3 := any_take_all HNL.out
                      rw [hall1, hall2, hall3]
                      clear hall1 hall2 hall3
                      have hX1 : hasP (repN B 768) T t.id (1 : Nat) = L2.any P1 := by rw [has_rep, lk_iff HL3.out.wo HBD.out (List.mem_of_getElem? HT.out.1) (by omega) (by omega), HPP.out.1]
                      have hX2 : hasP (repN B 768) T t.id (2 : Nat) = L2.any P2 := by rw [has_rep, lk_iff HL3.out.wo HBD.out (List.mem_of_getElem? HT.out.1) (by omega) (by omega), HPP.out.2.1]
                      have hX3 : hasP (repN B 768) T t.id (3 : Nat) = L2.any P3 := by rw [has_rep, lk_iff HL3.out.wo HBD.out (List.mem_of_getElem? HT.out.1) (by omega) (by omega), HPP.out.2.2]
                      obtain ⟨X1, hXX1⟩ : ∃ X, L2.any P1 = X := ⟨_, rfl⟩
                      obtain ⟨X2, hXX2⟩ : ∃ X, L2.any P2 = X := ⟨_, rfl⟩
                      obtain ⟨X3, hXX3⟩ : ∃ X, L2.any P3 = X := ⟨_, rfl⟩
                      rw [hXX1] at hX1 ⊢
                      rw [hXX2] at hX2 ⊢
                      rw [hXX3] at hX3 ⊢
                      have HXX := hide (And.intro hX1 (And.intro hX2 hX3))
                      clear hX1 hXX1 hX2 hXX2 hX3 hXX3
                      have z0 := (HY.out.below HB5.out).c0
                      go_wp2_with fail
                      refine (has_any _ _ ga gn gc (repN B 768) (HDR.out.below (lec HB4.out HB5.out)) HGN.out hg768 T t.id (1 : Nat)).mono ?_
                      rintro e w9 ⟨rfl, ew⟩
                      rw [ew, HXX.out.1]
                      clear ew w9
                      have nn1 : (X1 != X1) = false := by simp
                      go_wp2_with fail
                      refine (has_any _ _ ga gn gc (repN B 768) (HDR.out.below (lec HB4.out HB5.out)) HGN.out hg768 T t.id (2 : Nat)).mono ?_
                      rintro e w9 ⟨rfl, ew⟩
                      rw [ew, HXX.out.2.1]
                      clear ew w9
                      have nn2 : (X2 != X2) = false := by simp
                      go_wp2_with fail
                      refine (has_any _ _ ga gn gc (repN B 768) (HDR.out.below (lec HB4.out HB5.out)) HGN.out hg768 T t.id (3 : Nat)).mono ?_
                      rintro e w9 ⟨rfl, ew⟩
                      rw [ew, HXX.out.2.2]
                      clear ew w9 z0 y0
                      have nn3 : (X3 != X3) = false := by simp
                      go_wp2
                      go_roundw
                      case rel => exact ⟨j + 1, by omega, by simp, lec HB4.out HB5.out⟩
                      case measure => simp [intOf]; omega
                · have hjli : ¬ (j : Int) < (nL : Int) := by omega
                  go_wp2
                  go_roundw
                  case rel => exact ⟨T + 1, by omega, by simp, HB3.out⟩
                  case measure => simp [intOf]; omega
            · obtain rfl : T = 4 := by omega
              go_wp2
              go_roundw
              case rel => exact ⟨k + 1, _, _, _, _, by omega, by simp, HL3.out.below HB3.out⟩
              case measure => simp [intOf]; omega
        · have h6b : (kd != 6) = true := by simp [h6]
          go_wp2
          go_roundw
          case rel => exact ⟨k + 1, _, _, _, _, by omega, by simp, HL2.out⟩
          case measure => simp [intOf]; omega
      · have hlti : ¬ (k : Int) < (n : Int) := by omega
        obtain rfl : k = n := by omega
        go_wp2
        go_ret
        exact ⟨rfl, HL.out.bel⟩
  · go_enter Try.func6, Try.ntmps6
    go_wp2_with fail
    refine (small_any _ a n cap hn).mono ?_
    rintro e w' ⟨rfl, ew⟩
    rw [ew]
    have hd : decide (n ≤ 65536) = false := by simpa using hsm
    rw [hd]
    clear hd ew w'
    go_wp2
    go_ret
    exact ⟨rfl, Below.refl _ _⟩
end Go.Proofs.Qxb6500776a
