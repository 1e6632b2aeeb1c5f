import Derived.Test.Qxb6500776aOneP
namespace Go.Proofs.Qxb6500776a
open Go.RowKit

/-- A record in its box. -/
structure DX (w : World) (p : Nat) (d : Det) : Prop where
  c0 : w.cell? ⟨p, 0, none⟩ = some (.int .i64 d.team)
  c1 : w.cell? ⟨p, 1, none⟩ = some (.int .i64 d.target)
  c2 : w.cell? ⟨p, 2, none⟩ = some (.int .i64 d.sensor)
  c3 : w.cell? ⟨p, 3, none⟩ = some (.int .i64 d.obs)
  c4 : w.cell? ⟨p, 4, none⟩ = some (.int .i64 d.d)
  c5 : w.cell? ⟨p, 5, none⟩ = some (.int .i64 d.g)
theorem DX.below {w w' : World} {p : Nat} {d : Det} (h : DX w p d) (hb : Below w.heap.size w w') : DX w' p d := ⟨cellKeep hb h.c0, cellKeep hb h.c1, cellKeep hb h.c2, cellKeep hb h.c3, cellKeep hb h.c4, cellKeep hb h.c5⟩
def detA (d : Det) : Array Value := #[.int .i64 d.team, .int .i64 d.target, .int .i64 d.sensor, .int .i64 d.obs, .int .i64 d.d, .int .i64 d.g]
theorem DX.new (w : World) (d : Det) : DX (w.alloc (.cells (detA d) 58)) w.heap.size d := by
  unfold detA
  refine ⟨?_, ?_, ?_, ?_, ?_, ?_⟩ <;> simp [go_sem]
set_option linter.unusedSimpArgs false in
set_option maxRecDepth 100000 in
set_option maxHeartbeats 8000000 in
theorem oneRecordInOrder_walk (w : World) (a : Option Addr) (n cap : Nat) (f : Nat → Nat → Int) (hn : n ≤ 9223372036854775807) (ho : OpsAt w a n f) :
    Calls Try.prog 8 #[.slice a n cap] w fun e w' => e = .returned (.bool true) ∧ Below w.heap.size w w' := by
  have HO := hide ho
  clear ho
  by_cases hsm : n ≤ 65536
  · go_enter Try.func8, Try.ntmps8
    go_wp2_with fail
    refine (small_any _ a n cap hn).mono ?_
    rintro e w' ⟨rfl, ew⟩
    rw [ew]
    have hd : decide (n ≤ 65536) = true := by simpa using hsm
    rw [hd]
    clear hd ew w'
    go_wp2_with fail
    refine (newW_any _).mono ?_
    rintro e w' ⟨rfl, ew⟩
    rw [ew]
    clear ew w'
    go_wp2_with fail
    refine (newS_any _).mono ?_
    rintro e w' ⟨rfl, ew⟩
    rw [ew]
    clear ew w'
    have HL := hide (LW.first w)
    have hsz : (w.alloc (.cells #[.slice none 0 0, .slice none 0 0] 44)).heap.size = w.heap.size + 1 := by simp
    (try rw [hsz])
    clear hsz
    generalize (w.alloc (.cells #[.slice none 0 0, .slice none 0 0] 44)).alloc (.cells Try.zeroCells75 75) = w1 at *
    obtain ⟨s, hs⟩ : ∃ s, w.heap.size + 1 = s := ⟨_, rfl⟩
    rw [hs] at HL ⊢
    clear hs
    obtain ⟨p, hp⟩ : ∃ p, w.heap.size = p := ⟨_, rfl⟩
    rw [hp] at HL ⊢
    have HP := hide hp
    clear hp
    go_wp2
    go_loopw [5] (fun i wr => ∃ (k : Nat) (v1 v2 : Value) (L : List Shp) (M : List Smk), k ≤ n ∧ i = .int .i64 k ∧ LW w wr p s v1 v2 L M) (fun i _ => n - (intOf i).toNat)
    case atStart => exact ⟨0, _, _, _, _, Nat.zero_le _, rfl, HL.out⟩
    case round =>
      clear HL
      obtain ⟨k, v1, v2, L, M, hk, rfl, hl⟩ := hrel
      have HL := hide hl
      clear hl
      by_cases hlt : k < n
      · have hlti : (k : Int) < (n : Int) := by omega
        obtain ⟨b, off, rfl, hf⟩ := HO.out k hlt
        have hc : ∀ wx, Below w.heap.size w wx → ∀ j, j < 6 → wx.cell? ⟨b, off + k * 6 + j, none⟩ = some (.int .i64 (f k j)) := fun wx hbel j hj => (hbel.cell (World.block_lt_of_cell? _ _ (hf j hj).1)).trans (hf j hj).1
        have c0 := hc _ HL.out.bel 0 (by omega)
        rw [Nat.add_zero] at c0
        have c1 := hc _ HL.out.bel 1 (by omega)
        have c2 := hc _ HL.out.bel 2 (by omega)
        have c3 := hc _ HL.out.bel 3 (by omega)
        have c4 := hc _ HL.out.bel 4 (by omega)
        have c5 := hc _ HL.out.bel 5 (by omega)
        have b1 := (hf 1 (by omega)).2
        have b2 := (hf 2 (by omega)).2
        have HCC := hide hc
        clear hf hc
        obtain ⟨kd, hkd⟩ : ∃ kd, f k 0 = kd := ⟨_, rfl⟩
        rw [hkd] at c0
        have HKD := hide hkd
        clear hkd
        generalize f k 1 = A at *
        generalize f k 2 = Bb at *
        generalize f k 3 = Cc at *
        generalize f k 4 = Dd at *
        generalize f k 5 = Oo at *
        go_wp2_with fail
        refine (step_any _ p v1 v2 L M HL.out.wd HL.out.wo kd A Bb Cc Dd Oo b1 b2).mono ?_
        rintro e w2 hst
        obtain ⟨r0, va, vb, L2, M2, rfl, hl2⟩ := HL.out.step hst
        have HL2 := hide hl2
        clear hst hl2 HL c0 c1 c2 c3 c4 c5 b1 b2
        have c0 := HCC.out _ HL2.out.bel 0 (by omega)
        rw [Nat.add_zero, HKD.out] at c0
        by_cases h6 : kd = 6
        · rw [h6] at c0
          clear HCC h6 HKD
          go_upto_region 10 with fail
          clear c0
          go_wp2_with fail
          refine (HL2.out.scan).mono ?_
          rintro e w3 ⟨ga, gn, gc, B, rfl, hdr, hgn, hbr, hbd, hex, hl3⟩
          have HL3 := hide hl3
          have HDR := hide hdr
          have HGN := hide hgn
          have HBR := hide hbr
          have HBD := hide hbd
          have hg768 : gn ≤ 768 := by rw [hgn]; exact repN_len B 768
          clear hl3 hdr hgn hbr hbd hex HL2
          obtain ⟨a1, cp1, e1⟩ := own_form HL3.out.wd.r1
          obtain ⟨a2, cp2, e2⟩ := own_form HL3.out.wd.r2
          obtain ⟨nL, hnL⟩ : ∃ nL, L2.length = nL := ⟨_, rfl⟩
          obtain ⟨nM, hnM⟩ : ∃ nM, M2.length = nM := ⟨_, rfl⟩
          have hnL48 : nL ≤ 48 := by rw [← hnL]; exact HL3.out.wo.len
          have hnM32 : nM ≤ 32 := by rw [← hnM]; exact HL3.out.wo.ml
          rw [hnL] at e1
          rw [hnM] at e2
          have HNL := hide hnL
          have HNM := hide hnM
          have E1 := hide e1
          have E2 := hide e2
          clear e1 e2 hnL hnM
          go_wp2
          go_loopw [7] (fun sj wr => ∃ j : Nat, j ≤ gn ∧ sj = .int .i64 j ∧ Below w3.heap.size w3 wr) (fun sj _ => gn - (intOf sj).toNat)
          case atStart => exact ⟨0, by omega, rfl, Below.refl _ _⟩
          case round =>
            obtain ⟨j, hj, rfl, hb⟩ := hrel
            have HB3 := hide hb
            have HR := hide (HDR.out.below hb)
            clear hb
            by_cases hjl : j < gn
            · as_aux_lemma =>
              have hjli : (j : Int) < (gn : Int) := by omega
              obtain ⟨dd, hdd⟩ : ∃ d, (repN B 768)[j]? = some d := ⟨_, List.getElem?_eq_getElem (by have := HGN.out; omega)⟩
              obtain ⟨g1, c9, e3⟩ := own_some HR.out (by have := HGN.out; omega)
              rw [← HGN.out] at e3
              cases e3
              have HDD := hide hdd
              obtain ⟨o, t, hrec⟩ := rec_ok HBD.out (List.mem_of_getElem? hdd)
              have HREC := hide hrec
              have dd0 := HR.out.at HGN.out hdd (j := 0) (v := .int .i64 dd.team) rfl
              have dd1 := HR.out.at HGN.out hdd (j := 1) (v := .int .i64 dd.target) rfl
              have dd2 := HR.out.at HGN.out hdd (j := 2) (v := .int .i64 dd.sensor) rfl
              have dd3 := HR.out.at HGN.out hdd (j := 3) (v := .int .i64 dd.obs) rfl
              have dd4 := HR.out.at HGN.out hdd (j := 4) (v := .int .i64 dd.d) rfl
              have dd5 := HR.out.at HGN.out hdd (j := 5) (v := .int .i64 dd.g) rfl
              rw [Nat.add_zero] at dd0
              clear hdd hrec
              go_upto_region 15 with fail
              have hst : #[.int .i64 dd.team, .int .i64 dd.target, .int .i64 dd.sensor, .int .i64 dd.obs, .int .i64 dd.d, .int .i64 dd.g] = detA dd := rfl
              (try rw [hst])
              clear hst
              have HD := hide (DX.new wr dd)
              have HB4 := hide (lec HB3.out (be1 wr (.cells (detA dd) 58)))
              have HR4 := hide (HR.out.below (be1 wr (.cells (detA dd) 58)))
              generalize wr.alloc (.cells (detA dd) 58) = w4 at *
              obtain ⟨q8, hq8⟩ : ∃ q, wr.heap.size = q := ⟨_, rfl⟩
              rw [hq8] at HD ⊢
              clear hq8 dd0 dd1 dd2 dd3 dd4 dd5 HR HB3
              go_upto_if 59 with fail
              go_cut [9, 10] (fun _ _ wx => Below w4.heap.size w4 wx)
              case first =>
                as_aux_lemma =>
                by_cases hj0 : j = 0
                · have hj0b : ¬ 0 < j := by omega
                  have hj0d : decide (0 < j) = false := by simpa using hj0b
                  rw [hj0d]
                  clear hj0 hj0d
                  go_wp2
                  go_meet
                  exact Below.refl _ _
                · obtain ⟨j1, rfl⟩ : ∃ j1, j = j1 + 1 := ⟨j - 1, by omega⟩
                  obtain ⟨pp, hpp⟩ : ∃ d, (repN B 768)[j1]? = some d := ⟨_, List.getElem?_eq_getElem (by have := HGN.out; omega)⟩
                  have hrise := rep_rise HBD.out hpp HDD.out
                  have hj1i : (j1 : Int) < (gn : Int) := by omega
                  have hj1n : j1 < gn := by omega
                  have hj1p : (0 : Int) ≤ (j1 : Int) := by omega
                  have hpos : (0 : Int) < (j1 : Int) + 1 := by omega
                  have hcast : ((j1 + 1 : Nat) : Int) = (j1 : Int) + 1 := by omega
                  rw [hcast]
                  clear hcast hj0
                  have hposd : decide (0 < j1 + 1) = true := by simp
                  rw [hposd]
                  clear hposd
                  have pp0 := HR4.out.at HGN.out hpp (j := 0) (v := .int .i64 pp.team) rfl
                  have pp1 := HR4.out.at HGN.out hpp (j := 1) (v := .int .i64 pp.target) rfl
                  have pp2 := HR4.out.at HGN.out hpp (j := 2) (v := .int .i64 pp.sensor) rfl
                  have pp3 := HR4.out.at HGN.out hpp (j := 3) (v := .int .i64 pp.obs) rfl
                  have pp4 := HR4.out.at HGN.out hpp (j := 4) (v := .int .i64 pp.d) rfl
                  have pp5 := HR4.out.at HGN.out hpp (j := 5) (v := .int .i64 pp.g) rfl
                  rw [Nat.add_zero] at pp0
                  clear hpp
                  have HRI := hide hrise
                  clear hrise
                  go_upto_region 17 with fail
                  have hst : #[.int .i64 pp.team, .int .i64 pp.target, .int .i64 pp.sensor, .int .i64 pp.obs, .int .i64 pp.d, .int .i64 pp.g] = detA pp := rfl
                  (try rw [hst])
                  clear hst
                  have HP := hide (DX.new w4 pp)
                  have HDd := hide (HD.out.below (be1 w4 (.cells (detA pp) 58)))
                  have HBp := hide (be1 w4 (.cells (detA pp) 58))
                  generalize w4.alloc (.cells (detA pp) 58) = wp at *
                  obtain ⟨q9, hq9⟩ : ∃ q, w4.heap.size = q := ⟨_, rfl⟩
                  rw [hq9] at HP ⊢
                  clear hq9 pp0 pp1 pp2 pp3 pp4 pp5
                  have a0 := HP.out.c0
                  have a1 := HP.out.c1
                  have a2 := HP.out.c2
                  have e0 := HDd.out.c0
                  have e1 := HDd.out.c1
                  have e2 := HDd.out.c2
                  rcases HRI.out with r1 | ⟨r1, r2 | ⟨r2, r3⟩⟩
                  · clear HRI
                    go_wp2
                    go_meet
                    exact HBp.out
                  · have n1 : ¬ pp.team < dd.team := by omega
                    have n2 : (pp.team == dd.team) = true := by simp [r1]
                    clear HRI r1
                    go_wp2
                    go_meet
                    exact HBp.out
                  · have n1 : ¬ pp.team < dd.team := by omega
                    have n2 : (pp.team == dd.team) = true := by simp [r1]
                    have n3 : ¬ pp.target < dd.target := by omega
                    have n4 : (pp.target == dd.target) = true := by simp [r2]
                    clear HRI r1 r2
                    go_wp2
                    go_meet
                    exact HBp.out
              have HB5 := hide (lec HB4.out hcut)
              have HD5 := hide (HD.out.below hcut)
              clear hcut HB4 HD HR4
              have s3 := HD5.out.c3
              go_wp2_with fail
              refine (shipOf_any _ p va vb L2 M2 (HL3.out.wd.below HB5.out) HL3.out.wo.len dd.obs).mono ?_
              rintro e w6 ⟨r, hr, rfl, b6⟩
              cases r with
              | none => exact (hr o HREC.out.ho HREC.out.io).elim
              | some o' =>
                obtain rfl : o = o' := (same_id HL3.out.wo hr.1 HREC.out.ho (hr.2.trans HREC.out.io.symm)).symm
                have HB6 := hide (lec HB5.out b6)
                have HD6 := hide (HD5.out.below b6)
                clear hr b6 s3 HB5 HD5
                dsimp only [Option.getD, Option.isSome]
                (try unfold shpA)
                go_upto_region 21 with fail
                have hst : #[.int .i64 o.id, .int .i64 o.team, .int .i64 o.x, .int .i64 o.y, .int .i64 o.depth, .int .i64 o.speed, .int .i64 o.mast, .int .i64 o.noise, .bool o.afloat, .bool o.radar, .bool o.sonar, .bool o.ping] = shpA o := rfl
                (try rw [hst])
                clear hst
                have HO7 := hide (BX.new w6 o)
                have HD7 := hide (HD6.out.below (be1 w6 (.cells (shpA o) 38)))
                have HB7 := hide (lec HB6.out (be1 w6 (.cells (shpA o) 38)))
                generalize w6.alloc (.cells (shpA o) 38) = w7 at *
                obtain ⟨q11, hq11⟩ : ∃ q, w6.heap.size = q := ⟨_, rfl⟩
                rw [hq11] at HO7 ⊢
                clear hq11 HD6 HB6
                have s1 := HD7.out.c1
                go_wp2_with fail
                refine (shipOf_any _ p va vb L2 M2 (HL3.out.wd.below HB7.out) HL3.out.wo.len dd.target).mono ?_
                rintro e w8 ⟨r, hr, rfl, b8⟩
                cases r with
                | none => exact (hr t HREC.out.ht HREC.out.it).elim
                | some t' =>
                  obtain rfl : t = t' := (same_id HL3.out.wo hr.1 HREC.out.ht (hr.2.trans HREC.out.it.symm)).symm
                  have HB8 := hide (lec HB7.out b8)
                  have HD8 := hide (HD7.out.below b8)
                  have HO8 := hide (HO7.out.below b8)
                  clear hr b8 s1 HB7 HD7 HO7
                  dsimp only [Option.getD, Option.isSome]
                  (try unfold shpA)
                  go_upto_region 22 with fail
                  have hst : #[.int .i64 t.id, .int .i64 t.team, .int .i64 t.x, .int .i64 t.y, .int .i64 t.depth, .int .i64 t.speed, .int .i64 t.mast, .int .i64 t.noise, .bool t.afloat, .bool t.radar, .bool t.sonar, .bool t.ping] = shpA t := rfl
                  (try rw [hst])
                  clear hst
                  have HT9 := hide (BX.new w8 t)
                  have HD9 := hide (HD8.out.below (be1 w8 (.cells (shpA t) 38)))
                  have HO9 := hide (HO8.out.below (be1 w8 (.cells (shpA t) 38)))
                  have HB9 := hide (lec HB8.out (be1 w8 (.cells (shpA t) 38)))
                  generalize w8.alloc (.cells (shpA t) 38) = w9 at *
                  obtain ⟨q13, hq13⟩ : ∃ q, w8.heap.size = q := ⟨_, rfl⟩
                  rw [hq13] at HT9 ⊢
                  clear hq13 HD8 HO8 HB8
                  obtain ⟨x0, x1, x2, x3, x4, x5, x6, x7, x8, x9, x10, x11⟩ := HO9.out
                  obtain ⟨y0, y1, y2, y3, y4, y5, y6, y7, y8, y9, y10, y11⟩ := HT9.out
                  go_wp2_with fail
                  refine (live_any _ o t).mono ?_
                  rintro e wa ⟨rfl, ba⟩
                  rw [HREC.out.lv]
                  have HTa := hide (HT9.out.below ba)
                  have HDa := hide (HD9.out.below ba)
                  have HOa := hide (HO9.out.below ba)
                  have HBa := hide (lec HB9.out ba)
                  clear ba x0 x1 x2 x3 x4 x5 x6 x7 x8 x9 x10 x11 y0 y1 y2 y3 y4 y5 y6 y7 y8 y9 y10 y11 HT9 HD9 HO9 HB9
                  have x1 := HOa.out.c1
                  have e0 := HDa.out.c0
                  rw [HREC.out.tm] at x1
                  go_upto_region 24 with fail
                  clear x1 e0
                  have s4 := HDa.out.c4
                  have s5 := HDa.out.c5
                  have x2 := HOa.out.c2
                  have x3 := HOa.out.c3
                  have y2 := HTa.out.c2
                  have y3 := HTa.out.c3
                  have hg1 := HREC.out.gr.1
                  have hg2 := HREC.out.gr.2
                  have hok := HL3.out.wo.ok o HREC.out.ho
                  have htk := HL3.out.wo.ok t HREC.out.ht
                  have HKK := hide (And.intro hok htk)
                  have HDS := hide (show dsq o.x o.y t.x t.y = dd.d from HREC.out.ds.symm)
                  have nn1 : (dd.d != dd.d) = false := by simp
                  have nn2 : ¬ dd.g < 1 := by omega
                  have nn3 : ¬ 3 < dd.g := by omega
                  clear hok htk
                  have zS := And.intro s4 (And.intro s5 (And.intro x2 (And.intro x3 (And.intro y2 y3))))
                  clear s4 s5 x2 x3 y2 y3
                  go_region_held3 (fun w' => w'.cell? ⟨q8, 4, none⟩ = some (.int .i64 dd.d) ∧ w'.cell? ⟨q8, 5, none⟩ = some (.int .i64 dd.g) ∧ w'.cell? ⟨q11, 2, none⟩ = some (.int .i64 o.x) ∧ w'.cell? ⟨q11, 3, none⟩ = some (.int .i64 o.y) ∧ w'.cell? ⟨q13, 2, none⟩ = some (.int .i64 t.x) ∧ w'.cell? ⟨q13, 3, none⟩ = some (.int .i64 t.y)) (first | (with_reducible exact zS) | exact zS)
                    (first
                      | (refine step_call rfl 22 #[.int .i64 o.x, .int .i64 o.y, .int .i64 t.x, .int .i64 t.y] ?_ (distSq_any _ o.x o.y t.x t.y HKK.out.1.x HKK.out.1.y HKK.out.2.x HKK.out.2.y) ?_; (focus (simp [go_sem]; done)); rintro e wb ⟨rfl, ew⟩; rw [ew, HDS.out]; clear ew wb; refine ⟨_, rfl, ?_⟩))
                  clear zS
                  rename_i hh0
                  clear hh0
                  have e0 := HDa.out.c0
                  have e1 := HDa.out.c1
                  have e2 := HDa.out.c2
                  go_wp2_with fail
                  have hlk := lookup_any wa.drew s B (HBR.out.below HBa.out.drew) dd.team dd.target dd.sensor
                  rw [HREC.out.lk] at hlk
                  refine hlk.mono ?_
                  clear hlk
                  rintro e wc ⟨rfl, bc⟩
                  replace bc := of_drew bc
                  have HDc := hide (HDa.out.below bc)
                  have HBc := hide (lec HBa.out bc)
                  clear bc e0 e1 e2 nn1 nn2 nn3 hg1 hg2 HDa HOa HTa HBa
                  dsimp only
                  go_upto_region 27 with fail
                  have hst : #[.int .i64 dd.team, .int .i64 dd.target, .int .i64 dd.sensor, .int .i64 dd.obs, .int .i64 dd.d, .int .i64 dd.g] = detA dd := rfl
                  (try rw [hst])
                  clear hst
                  have HDn := hide (DX.new wc dd)
                  have HDd := hide (HDc.out.below (be1 wc (.cells (detA dd) 58)))
                  have HBd := hide (lec HBc.out (be1 wc (.cells (detA dd) 58)))
                  generalize wc.alloc (.cells (detA dd) 58) = wd at *
                  obtain ⟨q15, hq15⟩ : ∃ q, wc.heap.size = q := ⟨_, rfl⟩
                  rw [hq15] at HDn ⊢
                  clear hq15 HDc HBc
                  obtain ⟨x0, x1, x2, x3, x4, x5⟩ := HDn.out
                  obtain ⟨y0, y1, y2, y3, y4, y5⟩ := HDd.out
                  go_wp2
                  go_roundw
                  case rel => exact ⟨j + 1, by omega, by simp, HBd.out⟩
                  case measure => simp [intOf]; omega
            · as_aux_lemma =>
              have hjli : ¬ (j : Int) < (gn : Int) := by omega
              go_upto_region 29 with fail
              clear hjli hjl hj
              go_wp2
              go_loopw [17] (fun sT wx => ∃ T : Int, -1 ≤ T ∧ T ≤ 5 ∧ sT = .int .i64 T ∧ Below w3.heap.size w3 wx) (fun sT _ => (5 - intOf sT).toNat)
              case atStart => exact ⟨-1, by omega, by omega, rfl, HB3.out⟩
              case round =>
                clear HB3 HR
                obtain ⟨T, hT0, hT5, rfl, hb⟩ := hrel
                have HB3 := hide hb
                clear hb
                by_cases hT : T ≤ 4
                · go_wp2
                  go_loopw [18] (fun sI wx => ∃ I : Int, -1 ≤ I ∧ I ≤ 49 ∧ sI = .int .i64 I ∧ Below w3.heap.size w3 wx) (fun sI _ => (49 - intOf sI).toNat)
                  case atStart => exact ⟨-1, by omega, by omega, rfl, HB3.out⟩
                  case round =>
                    clear HB3
                    obtain ⟨I, hI0, hI5, rfl, hb⟩ := hrel
                    have HB3 := hide hb
                    clear hb
                    by_cases hI : I ≤ 48
                    · by_cases h0 : 0 ≤ I
                      · by_cases h48 : I < 48
                        · as_aux_lemma =>
                          go_wp2_with fail
                          refine (detected_any _ s B (HBR.out.below HB3.out) T).mono ?_
                          rintro e w' ⟨dn, rfl, hdn, hbits, ew⟩
                          rw [ew]
                          clear ew w'
                          have HDN := hide hdn
                          have HBITS := hide hbits
                          clear hdn hbits
                          obtain ⟨i, rfl⟩ : ∃ i : Nat, I = i := ⟨I.toNat, by omega⟩
                          have hi48 : i < 48 := by omega
                          go_wp2_with fail
                          refine (targeted_any _ _ ga gn gc (repN B 768) (HDR.out.below HB3.out) HGN.out hg768 T i).mono ?_
                          rintro e w' ⟨rfl, ew⟩
                          rw [ew, tgt_rep B T hi48]
                          clear ew w'
                          have HEQ := hide (HBITS.out i hi48)
                          generalize (if 0 ≤ T ∧ T < 4 then anyK B T.toNat i 4 else false) = tv at *
                          have hb1 := and1_u64 dn i HDN.out
                          rw [HEQ.out] at hb1
                          go_upto_if 201 with fail
                          (try rw [hb1])
                          (try rw [show (tv != tv) = false by simp])
                          clear hb1 HEQ HDN HBITS
                          go_wp2
                          go_loopw [19] (fun sK wx => ∃ Kk : Int, -1 ≤ Kk ∧ Kk ≤ 5 ∧ sK = .int .i64 Kk ∧ Below w3.heap.size w3 wx) (fun sK _ => (5 - intOf sK).toNat)
                          case atStart => exact ⟨-1, by omega, by omega, rfl, HB3.out⟩
                          case round =>
                            clear HB3
                            obtain ⟨Kk, hK0, hK5, rfl, hb⟩ := hrel
                            have HB3 := hide hb
                            clear hb
                            by_cases hK : Kk ≤ 4
                            · go_wp2_with fail
                              refine (lookup_any _ s B (HBR.out.below HB3.out) T i Kk).mono ?_
                              rintro e wc ⟨rfl, bc⟩
                              obtain ⟨r, hr⟩ : ∃ r, lkP B T i Kk = r := ⟨_, rfl⟩
                              rw [hr]
                              have HLK := hide (congrArg Prod.snd hr)
                              clear hr
                              obtain ⟨⟨f0, f1, f2, f3, f4, f5⟩, rs⟩ := r
                              dsimp only at HLK ⊢
                              have HBc := hide (lec HB3.out bc)
                              clear bc
                              go_upto_region 41 with fail
                              have HBd := hide (lec HBc.out (be1 wc (.cells #[.int .i64 f0, .int .i64 f1, .int .i64 f2, .int .i64 f3, .int .i64 f4, .int .i64 f5] 58)))
                              generalize wc.alloc (.cells #[.int .i64 f0, .int .i64 f1, .int .i64 f2, .int .i64 f3, .int .i64 f4, .int .i64 f5] 58) = wd at *
                              go_wp2_with fail
                              refine (has_any _ _ ga gn gc (repN B 768) (HDR.out.below HBd.out) HGN.out hg768 T i Kk).mono ?_
                              rintro e w' ⟨rfl, ew⟩
                              rw [ew, has_rep, HLK.out]
                              clear ew w' HLK
                              cases rs
                              · go_wp2
                                go_roundw
                                case rel => exact ⟨Kk + 1, by omega, by omega, by simp, HBd.out⟩
                                case measure => simp [intOf]; omega
                              · go_wp2
                                go_roundw
                                case rel => exact ⟨Kk + 1, by omega, by omega, by simp, HBd.out⟩
                                case measure => simp [intOf]; omega
                            · obtain rfl : Kk = 5 := by omega
                              go_wp2
                              go_roundw
                              case rel => exact ⟨i + 1, by omega, by omega, by simp, HB3.out⟩
                              case measure => first | (simp [intOf]; done) | (simp [intOf]; omega)
                        · as_aux_lemma =>
                          obtain rfl : I = 48 := by omega
                          go_wp2
                          go_loopw [19] (fun sK wx => ∃ Kk : Int, -1 ≤ Kk ∧ Kk ≤ 5 ∧ sK = .int .i64 Kk ∧ Below w3.heap.size w3 wx) (fun sK _ => (5 - intOf sK).toNat)
                          case atStart => exact ⟨-1, by omega, by omega, rfl, HB3.out⟩
                          case round =>
                            clear HB3
                            obtain ⟨Kk, hK0, hK5, rfl, hb⟩ := hrel
                            have HB3 := hide hb
                            clear hb
                            by_cases hK : Kk ≤ 4
                            · go_wp2_with fail
                              refine (lookup_any _ s B (HBR.out.below HB3.out) T 48 Kk).mono ?_
                              rintro e wc ⟨rfl, bc⟩
                              obtain ⟨r, hr⟩ : ∃ r, lkP B T 48 Kk = r := ⟨_, rfl⟩
                              rw [hr]
                              have HLK := hide (congrArg Prod.snd hr)
                              clear hr
                              obtain ⟨⟨f0, f1, f2, f3, f4, f5⟩, rs⟩ := r
                              dsimp only at HLK ⊢
                              have HBc := hide (lec HB3.out bc)
                              clear bc
                              go_upto_region 41 with fail
                              have HBd := hide (lec HBc.out (be1 wc (.cells #[.int .i64 f0, .int .i64 f1, .int .i64 f2, .int .i64 f3, .int .i64 f4, .int .i64 f5] 58)))
                              generalize wc.alloc (.cells #[.int .i64 f0, .int .i64 f1, .int .i64 f2, .int .i64 f3, .int .i64 f4, .int .i64 f5] 58) = wd at *
                              go_wp2_with fail
                              refine (has_any _ _ ga gn gc (repN B 768) (HDR.out.below HBd.out) HGN.out hg768 T 48 Kk).mono ?_
                              rintro e w' ⟨rfl, ew⟩
                              rw [ew, has_rep, HLK.out]
                              clear ew w' HLK
                              cases rs
                              · go_wp2
                                go_roundw
                                case rel => exact ⟨Kk + 1, by omega, by omega, by simp, HBd.out⟩
                                case measure => simp [intOf]; omega
                              · go_wp2
                                go_roundw
                                case rel => exact ⟨Kk + 1, by omega, by omega, by simp, HBd.out⟩
                                case measure => simp [intOf]; omega
                            · obtain rfl : Kk = 5 := by omega
                              go_wp2
                              go_roundw
                              case rel => exact ⟨48 + 1, by omega, by omega, by simp, HB3.out⟩
                              case measure => first | (simp [intOf]; done) | (simp [intOf]; omega)
                      · as_aux_lemma =>
                        obtain rfl : I = -1 := by omega
                        go_wp2
                        go_loopw [19] (fun sK wx => ∃ Kk : Int, -1 ≤ Kk ∧ Kk ≤ 5 ∧ sK = .int .i64 Kk ∧ Below w3.heap.size w3 wx) (fun sK _ => (5 - intOf sK).toNat)
                        case atStart => exact ⟨-1, by omega, by omega, rfl, HB3.out⟩
                        case round =>
                          clear HB3
                          obtain ⟨Kk, hK0, hK5, rfl, hb⟩ := hrel
                          have HB3 := hide hb
                          clear hb
                          by_cases hK : Kk ≤ 4
                          · go_wp2_with fail
                            refine (lookup_any _ s B (HBR.out.below HB3.out) T (-1) Kk).mono ?_
                            rintro e wc ⟨rfl, bc⟩
                            obtain ⟨r, hr⟩ : ∃ r, lkP B T (-1) Kk = r := ⟨_, rfl⟩
                            rw [hr]
                            have HLK := hide (congrArg Prod.snd hr)
                            clear hr
                            obtain ⟨⟨f0, f1, f2, f3, f4, f5⟩, rs⟩ := r
                            dsimp only at HLK ⊢
                            have HBc := hide (lec HB3.out bc)
                            clear bc
                            go_upto_region 41 with fail
                            have HBd := hide (lec HBc.out (be1 wc (.cells #[.int .i64 f0, .int .i64 f1, .int .i64 f2, .int .i64 f3, .int .i64 f4, .int .i64 f5] 58)))
                            generalize wc.alloc (.cells #[.int .i64 f0, .int .i64 f1, .int .i64 f2, .int .i64 f3, .int .i64 f4, .int .i64 f5] 58) = wd at *
                            go_wp2_with fail
                            refine (has_any _ _ ga gn gc (repN B 768) (HDR.out.below HBd.out) HGN.out hg768 T (-1) Kk).mono ?_
                            rintro e w' ⟨rfl, ew⟩
                            rw [ew, has_rep, HLK.out]
                            clear ew w' HLK
                            cases rs
                            · go_wp2
                              go_roundw
                              case rel => exact ⟨Kk + 1, by omega, by omega, by simp, HBd.out⟩
                              case measure => simp [intOf]; omega
                            · go_wp2
                              go_roundw
                              case rel => exact ⟨Kk + 1, by omega, by omega, by simp, HBd.out⟩
                              case measure => simp [intOf]; omega
                          · obtain rfl : Kk = 5 := by omega
                            go_wp2
                            go_roundw
                            case rel => exact ⟨-1 + 1, by omega, by omega, by simp, HB3.out⟩
                            case measure => first | (simp [intOf]; done) | (simp [intOf]; omega)
                    · obtain rfl : I = 49 := by omega
                      go_wp2
                      go_roundw
                      case rel => exact ⟨T + 1, by omega, by omega, by simp, HB3.out⟩
                      case measure => simp [intOf]; omega
                · obtain rfl : T = 5 := by omega
                  go_wp2
                  go_roundw
                  case rel => exact ⟨k + 1, _, _, _, _, by omega, by simp, HL3.out.below HB3.out⟩
                  case measure => simp [intOf]; omega
        · have h6b : (kd != 6) = true := by simp [h6]
          go_wp2
          go_roundw
          case rel => exact ⟨k + 1, _, _, _, _, by omega, by simp, HL2.out⟩
          case measure => simp [intOf]; omega
      · have hlti : ¬ (k : Int) < (n : Int) := by omega
        obtain rfl : k = n := by omega
        go_wp2
        go_ret
        exact ⟨rfl, HL.out.bel⟩
  · go_enter Try.func8, Try.ntmps8
    go_wp2_with fail
    refine (small_any _ a n cap hn).mono ?_
    rintro e w' ⟨rfl, ew⟩
    rw [ew]
    have hd : decide (n ≤ 65536) = false := by simpa using hsm
    rw [hd]
    clear hd ew w'
    go_wp2
    go_ret
    exact ⟨rfl, Below.refl _ _⟩
end Go.Proofs.Qxb6500776a
