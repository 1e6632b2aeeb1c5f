import Derived.Test.Qxb6500776aSe0
import Derived.Test.Qxb6500776aSml
namespace Go.Proofs.Qxb6500776a
open Go.RowKit

theorem s25_mk {w : World} {p g1 i nL cp1 q : Nat} {o t : Shp} (h : w.cell? ⟨p, 0, none⟩ = some (.slice (some ⟨g1, 0, none⟩) nL cp1)) (hr : w.rangeAt g1 (i * 12) o.vals) (hx : BX w q t) : w.cell? ⟨p, 0, none⟩ = some (.slice (some ⟨g1, 0, none⟩) nL cp1) ∧ w.cell? ⟨g1, i * 12, none⟩ = some (.int .i64 o.id) ∧ w.cell? ⟨g1, i * 12 + 1, none⟩ = some (.int .i64 o.team) ∧ w.cell? ⟨g1, i * 12 + 2, none⟩ = some (.int .i64 o.x) ∧ w.cell? ⟨g1, i * 12 + 3, none⟩ = some (.int .i64 o.y) ∧ w.cell? ⟨g1, i * 12 + 4, none⟩ = some (.int .i64 o.depth) ∧ w.cell? ⟨g1, i * 12 + 5, none⟩ = some (.int .i64 o.speed) ∧ w.cell? ⟨g1, i * 12 + 6, none⟩ = some (.int .i64 o.mast) ∧ w.cell? ⟨g1, i * 12 + 7, none⟩ = some (.int .i64 o.noise) ∧ w.cell? ⟨g1, i * 12 + 8, none⟩ = some (.bool o.afloat) ∧ w.cell? ⟨g1, i * 12 + 9, none⟩ = some (.bool o.radar) ∧ w.cell? ⟨g1, i * 12 + 10, none⟩ = some (.bool o.sonar) ∧ w.cell? ⟨g1, i * 12 + 11, none⟩ = some (.bool o.ping) ∧ w.cell? ⟨q, 0, none⟩ = some (.int .i64 t.id) ∧ w.cell? ⟨q, 1, none⟩ = some (.int .i64 t.team) ∧ w.cell? ⟨q, 2, none⟩ = some (.int .i64 t.x) ∧ w.cell? ⟨q, 3, none⟩ = some (.int .i64 t.y) ∧ w.cell? ⟨q, 4, none⟩ = some (.int .i64 t.depth) ∧ w.cell? ⟨q, 5, none⟩ = some (.int .i64 t.speed) ∧ w.cell? ⟨q, 6, none⟩ = some (.int .i64 t.mast) ∧ w.cell? ⟨q, 7, none⟩ = some (.int .i64 t.noise) ∧ w.cell? ⟨q, 8, none⟩ = some (.bool t.afloat) ∧ w.cell? ⟨q, 9, none⟩ = some (.bool t.radar) ∧ w.cell? ⟨q, 10, none⟩ = some (.bool t.sonar) ∧ w.cell? ⟨q, 11, none⟩ = some (.bool t.ping) :=
  ⟨h, hr 0 _ rfl, hr 1 _ rfl, hr 2 _ rfl, hr 3 _ rfl, hr 4 _ rfl, hr 5 _ rfl, hr 6 _ rfl, hr 7 _ rfl, hr 8 _ rfl, hr 9 _ rfl, hr 10 _ rfl, hr 11 _ rfl, hx.c0, hx.c1, hx.c2, hx.c3, hx.c4, hx.c5, hx.c6, hx.c7, hx.c8, hx.c9, hx.c10, hx.c11⟩
theorem lk_absent {L : List Shp} {M : List Smk} {B : Brd} (hb : Bd (DF (L.filter Shp.afloat) M) B) {T I K : Nat} (hno : ∀ s ∈ L, s.id ≠ (I : Int)) : (lkP B T I K).2 = false := by
  cases e : (lkP B T I K).2
  · rfl
  · obtain ⟨_, _, _, _, _, _, _, _, _, hs, _⟩ := lk_fields e
    obtain ⟨o, t, hd, _, h2, _⟩ := hb.some _ _ _ hs
    obtain ⟨_, _, _, htA, _⟩ := hd
    exact (hno t (List.mem_filter.1 htA).1 (by rw [h2]; simp)).elim

set_option maxRecDepth 100000 in
set_option maxHeartbeats 8000000 in
theorem gridEqualsAllPairs_walk (w : World) (a : Option Addr) (n cap : Nat) (f : Nat → Nat → Int) (hn : n ≤ 9223372036854775807) (ho : OpsAt w a n f) :
    Calls Try.prog 4 #[.slice a n cap] w fun e w' => e = .returned (.bool true) ∧ Below w.heap.size w w' := by
  have HO := hide ho
  clear ho
  by_cases hsm : n ≤ 65536
  · go_enter Try.func4, Try.ntmps4
    go_wp2_with fail
    refine (small_any _ a n cap hn).mono ?_
    rintro e w' ⟨rfl, ew⟩
    rw [ew]
    have hd : decide (n ≤ 65536) = true := by simpa using hsm
    rw [hd]
    clear hd ew w'
    go_wp2_with fail
    refine (newW_any _).mono ?_
    rintro e w' ⟨rfl, ew⟩
    rw [ew]
    clear ew w'
    go_wp2_with fail
    refine (newS_any _).mono ?_
    rintro e w' ⟨rfl, ew⟩
    rw [ew]
    clear ew w'
    have HL := hide (LW.first w)
    have hsz : (w.alloc (.cells #[.slice none 0 0, .slice none 0 0] 44)).heap.size = w.heap.size + 1 := by simp
    (try rw [hsz])
    clear hsz
    generalize (w.alloc (.cells #[.slice none 0 0, .slice none 0 0] 44)).alloc (.cells Try.zeroCells75 75) = w1 at *
    obtain ⟨s, hs⟩ : ∃ s, w.heap.size + 1 = s := ⟨_, rfl⟩
    rw [hs] at HL ⊢
    clear hs
    obtain ⟨p, hp⟩ : ∃ p, w.heap.size = p := ⟨_, rfl⟩
    rw [hp] at HL ⊢
    have HP := hide hp
    clear hp
    go_wp2
    go_loopw [5] (fun i wr => ∃ (k : Nat) (v1 v2 : Value) (L : List Shp) (M : List Smk), k ≤ n ∧ i = .int .i64 k ∧ LW w wr p s v1 v2 L M) (fun i _ => n - (intOf i).toNat)
    case atStart => exact ⟨0, _, _, _, _, Nat.zero_le _, rfl, HL.out⟩
    case round =>
      clear HL
      obtain ⟨k, v1, v2, L, M, hk, rfl, hl⟩ := hrel
      have HL := hide hl
      clear hl
      by_cases hlt : k < n
      · have hlti : (k : Int) < (n : Int) := by omega
        obtain ⟨b, off, rfl, hf⟩ := HO.out k hlt
        have hc : ∀ wx, Below w.heap.size w wx → ∀ j, j < 6 → wx.cell? ⟨b, off + k * 6 + j, none⟩ = some (.int .i64 (f k j)) := fun wx hbel j hj => (hbel.cell (World.block_lt_of_cell? _ _ (hf j hj).1)).trans (hf j hj).1
        have c0 := hc _ HL.out.bel 0 (by omega)
        rw [Nat.add_zero] at c0
        have c1 := hc _ HL.out.bel 1 (by omega)
        have c2 := hc _ HL.out.bel 2 (by omega)
        have c3 := hc _ HL.out.bel 3 (by omega)
        have c4 := hc _ HL.out.bel 4 (by omega)
        have c5 := hc _ HL.out.bel 5 (by omega)
        have b1 := (hf 1 (by omega)).2
        have b2 := (hf 2 (by omega)).2
        have HCC := hide hc
        clear hf hc
        obtain ⟨kd, hkd⟩ : ∃ kd, f k 0 = kd := ⟨_, rfl⟩
        rw [hkd] at c0
        have HKD := hide hkd
        clear hkd
        generalize f k 1 = A at *
        generalize f k 2 = Bb at *
        generalize f k 3 = Cc at *
        generalize f k 4 = Dd at *
        generalize f k 5 = Oo at *
        go_wp2_with fail
        refine (step_any _ p v1 v2 L M HL.out.wd HL.out.wo kd A Bb Cc Dd Oo b1 b2).mono ?_
        rintro e w2 hst
        obtain ⟨r0, va, vb, L2, M2, rfl, hl2⟩ := HL.out.step hst
        have HL2 := hide hl2
        clear hst hl2 HL c0 c1 c2 c3 c4 c5 b1 b2
        have c0 := HCC.out _ HL2.out.bel 0 (by omega)
        rw [Nat.add_zero, HKD.out] at c0
        by_cases h6 : kd = 6
        · rw [h6] at c0
          clear HCC h6 HKD
          go_upto_region 10 with fail
          clear c0
          go_wp2_with fail
          refine (HL2.out.scan).mono ?_
          rintro e w3 ⟨ga, gn, gc, B, rfl, hdr, hgn, hbr, hbd, hex, hl3⟩
          have HL3 := hide hl3
          have HDR := hide hdr
          have HGN := hide hgn
          have HBR := hide hbr
          have HBD := hide hbd
          have hg768 : gn ≤ 768 := by rw [hgn]; exact repN_len B 768
          clear hl3 hdr hgn hbr hbd hex HL2
          obtain ⟨a1, cp1, e1⟩ := own_form HL3.out.wd.r1
          obtain ⟨a2, cp2, e2⟩ := own_form HL3.out.wd.r2
          obtain ⟨nL, hnL⟩ : ∃ nL, L2.length = nL := ⟨_, rfl⟩
          obtain ⟨nM, hnM⟩ : ∃ nM, M2.length = nM := ⟨_, rfl⟩
          have hnL48 : nL ≤ 48 := by rw [← hnL]; exact HL3.out.wo.len
          have hnM32 : nM ≤ 32 := by rw [← hnM]; exact HL3.out.wo.ml
          rw [hnL] at e1
          rw [hnM] at e2
          have HNL := hide hnL
          have HNM := hide hnM
          have E1 := hide e1
          have E2 := hide e2
          clear e1 e2 hnL hnM
          go_wp2
          go_loopw [7] (fun sT wr => ∃ T : Nat, T ≤ 4 ∧ sT = .int .i64 T ∧ Below w3.heap.size w3 wr) (fun sT _ => 4 - (intOf sT).toNat)
          case atStart => exact ⟨0, by omega, rfl, Below.refl _ _⟩
          case round =>
            obtain ⟨T, hT, rfl, hb⟩ := hrel
            have HB3 := hide hb
            clear hb
            by_cases hT4 : T < 4
            · have hT4i : (T : Int) < 4 := by omega
              go_wp2
              go_loopw [8] (fun sI wr => ∃ I : Nat, I ≤ 48 ∧ sI = .int .i64 I ∧ Below w3.heap.size w3 wr) (fun sI _ => 48 - (intOf sI).toNat)
              case atStart => exact ⟨0, by omega, rfl, HB3.out⟩
              case round =>
                clear HB3
                obtain ⟨I, hI, rfl, hb⟩ := hrel
                have HB3 := hide hb
                clear hb
                by_cases hI48 : I < 48
                · have hI48i : (I : Int) < 48 := by omega
                  go_wp2
                  go_loopw [9] (fun sK wr => ∃ K : Nat, K ≤ 4 ∧ sK = .int .i64 K ∧ Below w3.heap.size w3 wr) (fun sK _ => 4 - (intOf sK).toNat)
                  case atStart => exact ⟨0, by omega, rfl, HB3.out⟩
                  case round =>
                    clear HB3
                    obtain ⟨K, hK, rfl, hb⟩ := hrel
                    have HB3 := hide hb
                    clear hb
                    by_cases hK4 : K < 4
                    · have hK4i : (K : Int) < 4 := by omega
                      go_wp2_with fail
                      refine (shipOf_any _ p va vb L2 M2 (HL3.out.wd.below HB3.out) HL3.out.wo.len I).mono ?_
                      rintro e w4 ⟨r, hr, rfl, b4⟩
                      have HB4 := hide (lec HB3.out b4)
                      have HSP := hide hr
                      clear hr b4 HB3
                      cases r with
                      | none =>
                        have hX : hasP (repN B 768) T I K = false := by rw [has_rep]; exact lk_absent HBD.out HSP.out
                        have HXX := hide hX
                        clear hX
                        dsimp only [Option.getD, Option.isSome]
                        (try unfold shpA shp0)
                        go_upto_region 22 with fail
                        have HB5 := hide (lec HB4.out (be1 w4 (.cells (shpA shp0) 38)))
                        have hzz : #[.int .i64 0, .int .i64 0, .int .i64 0, .int .i64 0, .int .i64 0, .int .i64 0, .int .i64 0, .int .i64 0, .bool false, .bool false, .bool false, .bool false] = shpA shp0 := rfl
                        (try rw [hzz])
                        clear hzz
                        generalize w4.alloc (.cells (shpA shp0) 38) = w5 at *
                        clear HB4
                        go_wp2
                        go_loopw [10, 13] (fun se sa wr => se = .bool false ∧ sa = .int .i64 0 ∧ Below w5.heap.size w5 wr) (fun _ _ _ => 0)
                        case atStart => exact ⟨rfl, rfl, Below.refl _ _⟩
                        case round =>
                          obtain ⟨rfl, rfl, hb⟩ := hrel
                          have HB6 := hide hb
                          clear hb
                          go_wp2_with fail
                          refine (has_any _ _ ga gn gc (repN B 768) (HDR.out.below (lec HB5.out HB6.out)) HGN.out hg768 T I K).mono ?_
                          rintro e w9 ⟨rfl, ew⟩
                          rw [ew, HXX.out]
                          clear ew w9
                          go_wp2
                          go_roundw
                          case rel => exact ⟨K + 1, by omega, by simp, (lec HB5.out HB6.out)⟩
                          case measure => simp [intOf]; omega
                      | some t =>
                        have hto := HL3.out.wo.ok t HSP.out.1
                        have HTO := hide hto
                        clear hto
                        dsimp only [Option.getD, Option.isSome]
                        (try unfold shpA)
                        go_upto_region 22 with fail
                        have hst : #[.int .i64 t.id, .int .i64 t.team, .int .i64 t.x, .int .i64 t.y, .int .i64 t.depth, .int .i64 t.speed, .int .i64 t.mast, .int .i64 t.noise, .bool t.afloat, .bool t.radar, .bool t.sonar, .bool t.ping] = shpA t := rfl
                        (try rw [hst])
                        clear hst
                        have HX := hide (BX.new w4 t)
                        have HB5 := hide (lec HB4.out (be1 w4 (.cells (shpA t) 38)))
                        generalize w4.alloc (.cells (shpA t) 38) = w5 at *
                        obtain ⟨q, hq⟩ : ∃ q, w4.heap.size = q := ⟨_, rfl⟩
                        rw [hq] at HX ⊢
                        clear hq HB4
                        obtain ⟨P, hP⟩ : ∃ P : Shp → Bool, P = fun o => (o.team == (T : Int)) && liveP o t && seeP M2 o t K := ⟨_, rfl⟩
                        have HPP := hide hP
                        clear hP
                        go_wp2
                        go_loopw [10, 13] (fun se sa wr => ∃ i : Nat, i ≤ nL ∧ sa = .int .i64 i ∧ se = .bool ((L2.take i).any P) ∧ Below w5.heap.size w5 wr) (fun _ sa _ => nL - (intOf sa).toNat)
                        case atStart => exact ⟨0, by omega, rfl, by simp, Below.refl _ _⟩
                        case round =>
                          obtain ⟨i, hi, rfl, rfl, hb⟩ := hrel
                          have HB6 := hide hb
                          have HW := hide ((HL3.out.wd.below HB5.out).below hb)
                          have HX6 := hide (HX.out.below hb)
                          have y0 := HW.out.c0
                          rw [E1.out] at y0
                          clear hb
                          by_cases hil : i < nL
                          · have hili : (i : Int) < (nL : Int) := by omega
                            obtain ⟨o, ho⟩ : ∃ o, L2[i]? = some o := ⟨_, List.getElem?_eq_getElem (by have := HNL.out; omega)⟩
                            obtain ⟨g1, c9, e3⟩ := own_some HW.out.r1 (by have := HNL.out; omega)
                            rw [HNL.out, E1.out] at e3
                            cases e3
                            have hrow := HW.out
                            rw [E1.out] at hrow
                            have hr := hrow.ship ho HNL.out.symm
                            have HR := hide hr
                            have k1 := hr 1 _ rfl
                            have HOo := hide (HL3.out.wo.ok o (List.mem_of_getElem? ho))
                            have HAN := hide (any_take (P := P) ho)
                            have HPo := hide (show P o = ((o.team == (T : Int)) && liveP o t && seeP M2 o t K) by rw [HPP.out])
                            clear hr hrow ho
                            obtain ⟨sn, hsn⟩ : ∃ sn, (L2.take i).any P = sn := ⟨_, rfl⟩
                            rw [hsn] at HAN ⊢
                            clear hsn
                            by_cases hteam : o.team = (T : Int)
                            · have htb : (o.team == (T : Int)) = true := by simp [hteam]
                              have HTB := hide htb
                              clear hteam
                              go_upto_region 25 with fail
                              have zS := s25_mk y0 HR.out HX6.out
                              clear y0 k1
                              go_region_held3 (fun w' => w'.cell? ⟨p, 0, none⟩ = some (.slice (some ⟨g1, 0, none⟩) nL cp1) ∧ w'.cell? ⟨g1, i * 12, none⟩ = some (.int .i64 o.id) ∧ w'.cell? ⟨g1, i * 12 + 1, none⟩ = some (.int .i64 o.team) ∧ w'.cell? ⟨g1, i * 12 + 2, none⟩ = some (.int .i64 o.x) ∧ w'.cell? ⟨g1, i * 12 + 3, none⟩ = some (.int .i64 o.y) ∧ w'.cell? ⟨g1, i * 12 + 4, none⟩ = some (.int .i64 o.depth) ∧ w'.cell? ⟨g1, i * 12 + 5, none⟩ = some (.int .i64 o.speed) ∧ w'.cell? ⟨g1, i * 12 + 6, none⟩ = some (.int .i64 o.mast) ∧ w'.cell? ⟨g1, i * 12 + 7, none⟩ = some (.int .i64 o.noise) ∧ w'.cell? ⟨g1, i * 12 + 8, none⟩ = some (.bool o.afloat) ∧ w'.cell? ⟨g1, i * 12 + 9, none⟩ = some (.bool o.radar) ∧ w'.cell? ⟨g1, i * 12 + 10, none⟩ = some (.bool o.sonar) ∧ w'.cell? ⟨g1, i * 12 + 11, none⟩ = some (.bool o.ping) ∧ w'.cell? ⟨q, 0, none⟩ = some (.int .i64 t.id) ∧ w'.cell? ⟨q, 1, none⟩ = some (.int .i64 t.team) ∧ w'.cell? ⟨q, 2, none⟩ = some (.int .i64 t.x) ∧ w'.cell? ⟨q, 3, none⟩ = some (.int .i64 t.y) ∧ w'.cell? ⟨q, 4, none⟩ = some (.int .i64 t.depth) ∧ w'.cell? ⟨q, 5, none⟩ = some (.int .i64 t.speed) ∧ w'.cell? ⟨q, 6, none⟩ = some (.int .i64 t.mast) ∧ w'.cell? ⟨q, 7, none⟩ = some (.int .i64 t.noise) ∧ w'.cell? ⟨q, 8, none⟩ = some (.bool t.afloat) ∧ w'.cell? ⟨q, 9, none⟩ = some (.bool t.radar) ∧ w'.cell? ⟨q, 10, none⟩ = some (.bool t.sonar) ∧ w'.cell? ⟨q, 11, none⟩ = some (.bool t.ping)) (first | (with_reducible exact zS) | exact zS)
                                (first
                                  | (refine step_call_g ?_ 18 #[.pointer (some ⟨p, 0, none⟩), .agg #[.int .i64 o.id, .int .i64 o.team, .int .i64 o.x, .int .i64 o.y, .int .i64 o.depth, .int .i64 o.speed, .int .i64 o.mast, .int .i64 o.noise, .bool o.afloat, .bool o.radar, .bool o.sonar, .bool o.ping], .agg #[.int .i64 t.id, .int .i64 t.team, .int .i64 t.x, .int .i64 t.y, .int .i64 t.depth, .int .i64 t.speed, .int .i64 t.mast, .int .i64 t.noise, .bool t.afloat, .bool t.radar, .bool t.sonar, .bool t.ping], .int .i64 K] ?_ (sees_any _ p va vb L2 M2 HW.out.drew HL3.out.wo o t HOo.out HTO.out K hK4) ?_; (focus rfl); (focus (simp [go_sem]; done)); rintro e w7 ⟨rfl, b7⟩; replace b7 := of_drew b7; have HB7 := hide (lec HB6.out b7); have HW7 := hide (HW.out.below b7); have HX7 := hide (HX6.out.below b7); have y7 := HW7.out.c0; rw [E1.out] at y7; clear zS; have zS := s25_mk y7 (fun j v hv => cellKeep b7 (HR.out j v hv)) HX7.out; clear b7 y7; refine ⟨_, rfl, ?_⟩))
                              clear zS
                              rename_i hh0
                              clear hh0
                              cases hls : (liveP o t && seeP M2 o t K)
                              · have HF := hide (show P o = false by rw [HPo.out, Bool.and_assoc, hls, Bool.and_false])
                                clear hls
                                go_wp2
                                go_roundw
                                case rel => exact ⟨i + 1, by omega, by simp, by rw [HAN.out, HF.out, Bool.or_false], HB7.out⟩
                                case measure => simp [intOf]; omega
                              · have HF := hide (show P o = true by rw [HPo.out, Bool.and_assoc, hls, HTB.out]; rfl)
                                clear hls
                                go_wp2
                                go_roundw
                                case rel => exact ⟨i + 1, by omega, by simp, by rw [HAN.out, HF.out, Bool.or_true], HB7.out⟩
                                case measure => simp [intOf]; omega
                            · have htb : (o.team == (T : Int)) = false := by simp [hteam]
                              have HF := hide (show P o = false by rw [HPo.out, htb]; rfl)
                              go_upto_region 25 with fail
                              go_quiet (fail)
                              clear y0 k1
                              go_wp2
                              go_roundw
                              case rel => exact ⟨i + 1, by omega, by simp, by rw [HAN.out, HF.out, Bool.or_false], lec HB6.out (belN _ _)⟩
                              case measure => simp [intOf]; omega
                          · have hili : ¬ (i : Int) < (nL : Int) := by omega
                            obtain rfl : i = nL := by omega
                            have hall : (L2.take i).any P = L2.any P := any_take_all HNL.out
                            rw [hall]
                            clear hall
                            have hX : hasP (repN B 768) T I K = L2.any P := by
                              have e := lk_iff HL3.out.wo HBD.out HSP.out.1 (T := T) (k := K) (by omega) hK4
                              rw [HSP.out.2] at e
                              rw [has_rep, e, HPP.out]
                            obtain ⟨X, hXX⟩ : ∃ X, L2.any P = X := ⟨_, rfl⟩
                            rw [hXX] at hX ⊢
                            have HXX := hide hX
                            clear hX hXX
                            go_wp2_with fail
                            refine (has_any _ _ ga gn gc (repN B 768) (HDR.out.below (lec HB5.out HB6.out)) HGN.out hg768 T I K).mono ?_
                            rintro e w9 ⟨rfl, ew⟩
                            rw [ew, HXX.out]
                            clear ew w9
                            go_wp2
                            go_roundw
                            case rel => exact ⟨K + 1, by omega, by simp, (lec HB5.out HB6.out)⟩
                            case measure => simp [intOf]; omega
                    · obtain rfl : K = 4 := by omega
                      go_wp2
                      go_roundw
                      case rel => exact ⟨I + 1, by omega, by simp, HB3.out⟩
                      case measure => simp [intOf]; omega
                · obtain rfl : I = 48 := by omega
                  go_wp2
                  go_roundw
                  case rel => exact ⟨T + 1, by omega, by simp, HB3.out⟩
                  case measure => simp [intOf]; omega
            · obtain rfl : T = 4 := by omega
              go_wp2
              go_roundw
              case rel => exact ⟨k + 1, _, _, _, _, by omega, by simp, HL3.out.below HB3.out⟩
              case measure => simp [intOf]; omega
        · have h6b : (kd != 6) = true := by simp [h6]
          go_wp2
          go_roundw
          case rel => exact ⟨k + 1, _, _, _, _, by omega, by simp, HL2.out⟩
          case measure => simp [intOf]; omega
      · have hlti : ¬ (k : Int) < (n : Int) := by omega
        obtain rfl : k = n := by omega
        go_wp2
        go_ret
        exact ⟨rfl, HL.out.bel⟩
  · go_enter Try.func4, Try.ntmps4
    go_wp2_with fail
    refine (small_any _ a n cap hn).mono ?_
    rintro e w' ⟨rfl, ew⟩
    rw [ew]
    have hd : decide (n ≤ 65536) = false := by simpa using hsm
    rw [hd]
    clear hd ew w'
    go_wp2
    go_ret
    exact ⟨rfl, Below.refl _ _⟩
end Go.Proofs.Qxb6500776a
