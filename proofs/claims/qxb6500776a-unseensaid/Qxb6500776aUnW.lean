import Derived.Test.Qxb6500776aUnS
namespace Go.Proofs.Qxb6500776a
open Go.RowKit

def eqS (a b : Shp) : Bool := a.id == b.id && a.team == b.team && a.x == b.x && a.y == b.y && a.depth == b.depth && a.speed == b.speed && a.mast == b.mast && a.noise == b.noise && a.afloat == b.afloat && a.radar == b.radar && a.sonar == b.sonar && a.ping == b.ping
theorem eqS_eq {a b : Shp} (h : eqS a b = true) : a = b := by
  unfold eqS at h
  simp only [Bool.and_eq_true, beq_iff_eq] at h
  obtain ⟨⟨⟨⟨⟨⟨⟨⟨⟨⟨⟨h0, h1⟩, h2⟩, h3⟩, h4⟩, h5⟩, h6⟩, h7⟩, h8⟩, h9⟩, h10⟩, h11⟩ := h
  cases a
  cases b
  simp_all
theorem same_of {L1 L2 : List Shp} {I : Int} {r1 r2 : Option Shp} {sa sb : Shp} {ia ib : Bool} (h : ((ia == ib) && eqS sa sb) = true) (ha : r1.getD shp0 = sa ∧ r1.isSome = ia) (hb : r2.getD shp0 = sb ∧ r2.isSome = ib) (h1 : shipP L1 I r1) (h2 : shipP L2 I r2) : ∃ r, shipP L1 I r ∧ shipP L2 I r := by
  simp only [Bool.and_eq_true, beq_iff_eq] at h
  obtain ⟨e1, e2⟩ := h
  have e3 := eqS_eq e2
  refine ⟨r1, h1, ?_⟩
  have : r1 = r2 := by
    cases r1 <;> cases r2
    · rfl
    · rw [← ha.2, ← hb.2] at e1; cases e1
    · rw [← ha.2, ← hb.2] at e1; cases e1
    · rw [← ha.1, ← hb.1] at e3; simpa using e3
  rw [this]; exact h2
theorem none_team {L : List Shp} {I T : Nat} {r : Option Shp} {s : Shp} (ha : r.getD shp0 = s ∧ r.isSome = false) (h : shipP L I r) : ∀ x ∈ L, x.id = (I : Int) → x.team ≠ (T : Int) := by
  cases r with
  | none => exact fun x hx hi => (h x hx hi).elim
  | some t => exact absurd ha.2 (by simp)
theorem some_team {L : List Shp} {M : List Smk} {I T : Nat} {r : Option Shp} {s : Shp} (ha : r.getD shp0 = s ∧ r.isSome = true) (h : shipP L I r) (ho : WOk L M) (ht : (s.team == (T : Int)) = false) : ∀ x ∈ L, x.id = (I : Int) → x.team ≠ (T : Int) := by
  cases r with
  | none => exact absurd ha.2 (by simp)
  | some t =>
    intro x hx hi e
    obtain rfl : x = t := same_id ho hx h.1 (hi.trans h.2.symm)
    have hs : x = s := by simpa using ha.1
    rw [← hs, e] at ht
    simp at ht
def UnI (w6 : World) (L1 L2 : List Shp) (D1 D2 : List Det) (T : Nat) (sh sI : Value) (wr : World) : Prop :=
  ∃ (I : Nat) (hd : Bool), I ≤ 48 ∧ sI = .int .i64 I ∧ sh = .bool hd ∧ (hd = true → ∀ i, i < I → HidAt L1 L2 D1 D2 T i) ∧ Below w6.heap.size w6 wr
set_option maxRecDepth 100000 in
set_option maxHeartbeats 8000000 in
theorem unseen_walk (w : World) (a : Option Addr) (n cap : Nat) (f : Nat → Nat → Int) (hn : n ≤ 9223372036854775807) (ho : OpsAt w a n f) :
    Calls Try.prog 7 #[.slice a n cap] w fun e w' => e = .returned (.bool true) ∧ Below w.heap.size w w' := by
  have HO := hide ho
  clear ho
  by_cases hsm : n ≤ 65536
  · go_enter Try.func7, Try.ntmps7
    go_wp2_with fail
    refine (small_any _ a n cap hn).mono ?_
    rintro e w' ⟨rfl, ew⟩
    rw [ew]
    have hd : decide (n ≤ 65536) = true := by simpa using hsm
    rw [hd]
    clear hd ew w'
    go_wp2_with fail
    refine (newW_any _).mono ?_
    rintro e w' ⟨rfl, ew⟩
    rw [ew]
    clear ew w'
    go_wp2_with fail
    refine (newW_any _).mono ?_
    rintro e w' ⟨rfl, ew⟩
    rw [ew]
    clear ew w'
    go_wp2_with fail
    refine (newS_any _).mono ?_
    rintro e w' ⟨rfl, ew⟩
    rw [ew]
    clear ew w'
    go_wp2_with fail
    refine (newS_any _).mono ?_
    rintro e w' ⟨rfl, ew⟩
    rw [ew]
    clear ew w'
    have HU := hide (UU.first w)
    have z1 : (w.alloc (.cells #[.slice none 0 0, .slice none 0 0] 44)).heap.size = w.heap.size + 1 := by simp
    have z2 : ((w.alloc (.cells #[.slice none 0 0, .slice none 0 0] 44)).alloc (.cells #[.slice none 0 0, .slice none 0 0] 44)).heap.size = w.heap.size + 2 := by simp
    have z3 : (((w.alloc (.cells #[.slice none 0 0, .slice none 0 0] 44)).alloc (.cells #[.slice none 0 0, .slice none 0 0] 44)).alloc (.cells Try.zeroCells75 75)).heap.size = w.heap.size + 3 := by simp
    (try rw [z1])
    (try rw [z2])
    (try rw [z3])
    (try simp only [Nat.add_assoc, Nat.reduceAdd])
    clear z1 z2 z3
    generalize (((w.alloc (.cells #[.slice none 0 0, .slice none 0 0] 44)).alloc (.cells #[.slice none 0 0, .slice none 0 0] 44)).alloc (.cells Try.zeroCells75 75)).alloc (.cells Try.zeroCells75 75) = w1 at *
    obtain ⟨s2, hs2⟩ : ∃ s, w.heap.size + 3 = s := ⟨_, rfl⟩
    rw [hs2] at HU ⊢
    obtain ⟨s1, hs1⟩ : ∃ s, w.heap.size + 2 = s := ⟨_, rfl⟩
    rw [hs1] at HU ⊢
    obtain ⟨p2, hp2⟩ : ∃ s, w.heap.size + 1 = s := ⟨_, rfl⟩
    rw [hp2] at HU ⊢
    obtain ⟨p1, hp1⟩ : ∃ p, w.heap.size = p := ⟨_, rfl⟩
    rw [hp1] at HU ⊢
    clear hs2 hs1 hp2 hp1
    go_wp2
    go_loopw [7] (fun i wr => ∃ (k : Nat) (v1 v2 : Value) (L1 : List Shp) (M1 : List Smk) (x1 x2 : Value) (L2 : List Shp) (M2 : List Smk), k ≤ n ∧ i = .int .i64 k ∧ UU w wr p1 s1 p2 s2 v1 v2 L1 M1 x1 x2 L2 M2) (fun i _ => n - (intOf i).toNat)
    case atStart => exact ⟨0, _, _, _, _, _, _, _, _, Nat.zero_le _, rfl, HU.out⟩
    case round =>
      clear HU
      obtain ⟨k, v1, v2, L1, M1, x1, x2, L2, M2, hk, rfl, hu⟩ := hrel
      have HU := hide hu
      clear hu
      by_cases hlt : k < n
      · have hlti : (k : Int) < (n : Int) := by omega
        obtain ⟨b, off, rfl, hf⟩ := HO.out k hlt
        have hc : ∀ wx, Below w.heap.size w wx → ∀ j, j < 6 → wx.cell? ⟨b, off + k * 6 + j, none⟩ = some (.int .i64 (f k j)) := fun wx hbel j hj => (hbel.cell (World.block_lt_of_cell? _ _ (hf j hj).1)).trans (hf j hj).1
        have HCC := hide hc
        have b1 := (hf 1 (by omega)).2
        have b2 := (hf 2 (by omega)).2
        clear hf hc
        obtain ⟨kd, hkd⟩ : ∃ kd, f k 0 = kd := ⟨_, rfl⟩
        obtain ⟨A, hA⟩ : ∃ kd, f k 1 = kd := ⟨_, rfl⟩
        obtain ⟨Bb, hBb⟩ : ∃ kd, f k 2 = kd := ⟨_, rfl⟩
        obtain ⟨Cc, hCc⟩ : ∃ kd, f k 3 = kd := ⟨_, rfl⟩
        obtain ⟨Dd, hDd⟩ : ∃ kd, f k 4 = kd := ⟨_, rfl⟩
        obtain ⟨Oo, hOo⟩ : ∃ kd, f k 5 = kd := ⟨_, rfl⟩
        rw [hA] at b1
        rw [hBb] at b2
        have HKD := hide hkd
        have HOO := hide hOo
        have HALL : Hid (∀ wx, Below w.heap.size w wx → wx.cell? ⟨b, off + k * 6, none⟩ = some (.int .i64 kd) ∧ wx.cell? ⟨b, off + k * 6 + 1, none⟩ = some (.int .i64 A) ∧ wx.cell? ⟨b, off + k * 6 + 2, none⟩ = some (.int .i64 Bb) ∧ wx.cell? ⟨b, off + k * 6 + 3, none⟩ = some (.int .i64 Cc) ∧ wx.cell? ⟨b, off + k * 6 + 4, none⟩ = some (.int .i64 Dd) ∧ wx.cell? ⟨b, off + k * 6 + 5, none⟩ = some (.int .i64 Oo)) := fun wx h => by
          rw [← hkd, ← hA, ← hBb, ← hCc, ← hDd, ← hOo]
          exact ⟨HCC.out wx h 0 (by omega), HCC.out wx h 1 (by omega), HCC.out wx h 2 (by omega), HCC.out wx h 3 (by omega), HCC.out wx h 4 (by omega), HCC.out wx h 5 (by omega)⟩
        clear hkd hA hBb hCc hDd hOo
        obtain ⟨c0, c1, c2, c3, c4, c5⟩ := HALL.out _ HU.out.a.bel
        by_cases hO : Oo = 0
        · have hOb : (Oo == 0) = true := by simp [hO]
          have hOb2 : (Oo != 0) = false := by simp [hO]
          clear hO
          go_wp2_with fail
          refine (step_any _ p1 v1 v2 L1 M1 HU.out.a.wd HU.out.a.wo kd A Bb Cc Dd Oo b1 b2).mono ?_
          rintro e w2 hst
          obtain ⟨r2, q1, q2, L1', M1', rfl, hu⟩ := HU.out.step hst
          replace HU := hide hu
          clear hst hu c0 c1 c2 c3 c4 c5
          obtain ⟨c0, c1, c2, c3, c4, c5⟩ := HALL.out _ HU.out.a.bel
          go_wp2_with fail
          refine (step_any _ p2 x1 x2 L2 M2 HU.out.b.wd HU.out.b.wo kd A Bb Cc Dd Oo b1 b2).mono ?_
          rintro e w3 hst
          obtain ⟨r3, y1, y2, L2', M2', rfl, hu⟩ := HU.out.symm.step hst
          have HU3 := hide hu.symm
          clear hst hu HU c0 c1 c2 c3 c4 c5
          obtain ⟨c0, _, _, _, _, c5⟩ := HALL.out _ HU3.out.a.bel
          by_cases h6 : kd = 6
          · have h6b : (kd != 6) = false := by simp [h6]
            clear h6
            go_wp2_with fail
            refine (sameSmoke_any _ p1 p2 q1 q2 y1 y2 L1' L2' M1' M2' HU3.out.a.wd HU3.out.b.wd HU3.out.a.wo.ml HU3.out.b.wo.ml).mono ?_
            rintro e w4 ⟨bs, rfl, hbs, b4⟩
            have HU4 := hide (HU3.out.below b4)
            clear b4 HU3
            cases bs
            · clear hbs
              go_wp2
              go_roundw
              case rel => exact ⟨k + 1, _, _, _, _, _, _, _, _, by omega, by simp, HU4.out⟩
              case measure => simp [intOf]; omega
            · have hMM := hbs rfl
              have HMM := hide hMM
              clear hMM hbs c0 c5 h6b hOb hOb2 HALL HCC HKD HOO b1 b2
              go_wp2_with fail
              refine (HU4.out.scan).mono ?_
              rintro e w5 ⟨ga, gn, gc, B1, rfl, hdr1, hgn1, hbd1, hex1, hu5⟩
              have HU5 := hide hu5
              have HD1 := hide hdr1
              have HG1 := hide hgn1
              have HB1 := hide hbd1
              have HSL := hide HU4.out.b.slt
              have hg1 : gn ≤ 768 := by rw [hgn1]; exact repN_len B1 768
              clear hu5 hdr1 hgn1 hbd1 hex1 HU4
              go_wp2_with fail
              refine (HU5.out.symm.scan).mono ?_
              rintro e w6 ⟨gb, gm, gd, B2, rfl, hdr2, hgn2, hbd2, hex2, hu6⟩
              have HU6 := hide hu6.symm
              have HD1b := hide (show DRow w6 _ (.slice ga gn gc) (repN B1 768) from own_kept HD1.out hex2 (fun k hk z => by have := (HD1.out.lt k hk).1; have := HSL.out; omega))
              have HD2 := hide hdr2
              have HG2 := hide hgn2
              have HB2 := hide hbd2
              have hg2 : gm ≤ 768 := by rw [hgn2]; exact repN_len B2 768
              clear hu6 hdr2 hgn2 hbd2 hex2 HU5 HD1 HSL
              go_wp2
              go_loopw [10] (fun sT wr => ∃ T : Nat, T ≤ 4 ∧ sT = .int .i64 T ∧ Below w6.heap.size w6 wr) (fun sT _ => 4 - (intOf sT).toNat)
              case atStart => exact ⟨0, by omega, rfl, Below.refl _ _⟩
              case round =>
                obtain ⟨T, hT, rfl, hb⟩ := hrel
                have HB3 := hide hb
                clear hb
                by_cases hT4 : T < 4
                · have hT4i : (T : Int) < 4 := by omega
                  go_wp2
                  go_loopw [11, 12] (fun sh sI wr => UnI w6 L1' L2' (repN B1 768) (repN B2 768) T sh sI wr) (fun _ sI _ => 48 - (intOf sI).toNat)
                  case atStart => exact ⟨0, true, by omega, rfl, rfl, fun _ i hi => by omega, HB3.out⟩
                  case round =>
                    clear HB3
                    obtain ⟨I, hd, hI, rfl, rfl, hh, hb⟩ := hrel
                    have HH := hide hh
                    have HB3 := hide hb
                    clear hh hb
                    by_cases hI48 : I < 48
                    · have hI48i : (I : Int) < 48 := by omega
                      go_wp2_with fail
                      refine (shipOf_any _ p1 q1 q2 L1' M1' (HU6.out.a.wd.below HB3.out) HU6.out.a.wo.len I).mono ?_
                      rintro e w7 ⟨r1, hr1, rfl, b7⟩
                      have HR1 := hide hr1
                      have HB7 := hide (lec HB3.out b7)
                      clear hr1 b7 HB3
                      obtain ⟨sa, hsa⟩ : ∃ sa, r1.getD shp0 = sa := ⟨_, rfl⟩
                      obtain ⟨ia, hia⟩ : ∃ ia, r1.isSome = ia := ⟨_, rfl⟩
                      rw [hsa, hia]
                      have HA := hide (And.intro hsa hia)
                      clear hsa hia
                      (try unfold shpA)
                      go_upto_region 24 with fail
                      have hst : #[.int .i64 sa.id, .int .i64 sa.team, .int .i64 sa.x, .int .i64 sa.y, .int .i64 sa.depth, .int .i64 sa.speed, .int .i64 sa.mast, .int .i64 sa.noise, .bool sa.afloat, .bool sa.radar, .bool sa.sonar, .bool sa.ping] = shpA sa := rfl
                      (try rw [hst])
                      clear hst
                      have HX := hide (BX.new w7 sa)
                      have HB8 := hide (lec HB7.out (be1 w7 (.cells (shpA sa) 38)))
                      generalize w7.alloc (.cells (shpA sa) 38) = w8 at *
                      obtain ⟨q13, hq13⟩ : ∃ q, w7.heap.size = q := ⟨_, rfl⟩
                      rw [hq13] at HX ⊢
                      clear hq13 HB7
                      go_wp2_with fail
                      refine (shipOf_any _ p2 y1 y2 L2' M2' (HU6.out.b.wd.below HB8.out) HU6.out.b.wo.len I).mono ?_
                      rintro e w9 ⟨r2, hr2, rfl, b9⟩
                      have HR2 := hide hr2
                      have HB9 := hide (lec HB8.out b9)
                      have HX9 := hide (HX.out.below b9)
                      clear hr2 b9 HB8 HX
                      obtain ⟨sb, hsb⟩ : ∃ sa, r2.getD shp0 = sa := ⟨_, rfl⟩
                      obtain ⟨ib, hib⟩ : ∃ ia, r2.isSome = ia := ⟨_, rfl⟩
                      rw [hsb, hib]
                      have HBb := hide (And.intro hsb hib)
                      clear hsb hib
                      (try unfold shpA)
                      go_upto_region 25 with fail
                      have hst : #[.int .i64 sb.id, .int .i64 sb.team, .int .i64 sb.x, .int .i64 sb.y, .int .i64 sb.depth, .int .i64 sb.speed, .int .i64 sb.mast, .int .i64 sb.noise, .bool sb.afloat, .bool sb.radar, .bool sb.sonar, .bool sb.ping] = shpA sb := rfl
                      (try rw [hst])
                      clear hst
                      have HY := hide (BX.new w9 sb)
                      have HX10 := hide (HX9.out.below (be1 w9 (.cells (shpA sb) 38)))
                      have HB10 := hide (lec HB9.out (be1 w9 (.cells (shpA sb) 38)))
                      generalize w9.alloc (.cells (shpA sb) 38) = w10 at *
                      obtain ⟨q15, hq15⟩ : ∃ q, w9.heap.size = q := ⟨_, rfl⟩
                      rw [hq15] at HY ⊢
                      clear hq15 HB9 HX9
                      go_cut [101] (fun s101 wx => s101 = .bool ((ia == ib) && eqS sa sb) ∧ Below w10.heap.size w10 wx)
                      case first =>
                        cases hib : (ia == ib)
                        · go_wp2
                          go_meet
                          exact ⟨by rw [hib]; rfl, Below.refl _ _⟩
                        · obtain ⟨x0, x1, x2, x3, x4, x5, x6, x7, x8, x9, x10, x11⟩ := HX10.out
                          obtain ⟨y0, y1, y2, y3, y4, y5, y6, y7, y8, y9, y10, y11⟩ := HY.out
                          cases e0 : (sa.id == sb.id)
                          · go_wp2
                            go_meet
                            exact ⟨by simp [eqS, e0], Below.refl _ _⟩
                          · cases e1 : (sa.team == sb.team)
                            · go_wp2
                              go_meet
                              exact ⟨by simp [eqS, e0, e1], Below.refl _ _⟩
                            · cases e2 : (sa.x == sb.x)
                              · go_wp2
                                go_meet
                                exact ⟨by simp [eqS, e0, e1, e2], Below.refl _ _⟩
                              · cases e3 : (sa.y == sb.y)
                                · go_wp2
                                  go_meet
                                  exact ⟨by simp [eqS, e0, e1, e2, e3], Below.refl _ _⟩
                                · cases e4 : (sa.depth == sb.depth)
                                  · go_wp2
                                    go_meet
                                    exact ⟨by simp [eqS, e0, e1, e2, e3, e4], Below.refl _ _⟩
                                  · cases e5 : (sa.speed == sb.speed)
                                    · go_wp2
                                      go_meet
                                      exact ⟨by simp [eqS, e0, e1, e2, e3, e4, e5], Below.refl _ _⟩
                                    · cases e6 : (sa.mast == sb.mast)
                                      · go_wp2
                                        go_meet
                                        exact ⟨by simp [eqS, e0, e1, e2, e3, e4, e5, e6], Below.refl _ _⟩
                                      · cases e7 : (sa.noise == sb.noise)
                                        · go_wp2
                                          go_meet
                                          exact ⟨by simp [eqS, e0, e1, e2, e3, e4, e5, e6, e7], Below.refl _ _⟩
                                        · cases e8 : (sa.afloat == sb.afloat)
                                          · go_wp2
                                            go_meet
                                            exact ⟨by simp [eqS, e0, e1, e2, e3, e4, e5, e6, e7, e8], Below.refl _ _⟩
                                          · cases e9 : (sa.radar == sb.radar)
                                            · go_wp2
                                              go_meet
                                              exact ⟨by simp [eqS, e0, e1, e2, e3, e4, e5, e6, e7, e8, e9], Below.refl _ _⟩
                                            · cases e10 : (sa.sonar == sb.sonar)
                                              · go_wp2
                                                go_meet
                                                exact ⟨by simp [eqS, e0, e1, e2, e3, e4, e5, e6, e7, e8, e9, e10], Below.refl _ _⟩
                                              · cases e11 : (sa.ping == sb.ping)
                                                · go_wp2
                                                  go_meet
                                                  exact ⟨by simp [eqS, e0, e1, e2, e3, e4, e5, e6, e7, e8, e9, e10, e11], Below.refl _ _⟩
                                                · go_wp2
                                                  go_meet
                                                  exact ⟨by rw [hib]; simp [eqS, e0, e1, e2, e3, e4, e5, e6, e7, e8, e9, e10, e11], Below.refl _ _⟩
                      obtain ⟨rfl, hbc⟩ := hcut
                      have HX11 := hide (HX10.out.below hbc)
                      have HY11 := hide (HY.out.below hbc)
                      have HB11 := hide (lec HB10.out hbc)
                      clear hbc HX10 HY HB10
                      cases hX : ((ia == ib) && eqS sa sb)
                      · have x1 := HX11.out.c1
                        have y1' := HY11.out.c1
                        cases ia
                        · have HN1 := hide (none_team (T := T) HA.out HR1.out)
                          cases ib
                          · have HN2 := hide (none_team (T := T) HBb.out HR2.out)
                            go_wp2_with fail
                            refine (targeted_any _ _ ga gn gc (repN B1 768) (HD1b.out.below HB11.out) HG1.out hg1 T I).mono ?_
                            rintro e wq ⟨rfl, ew⟩
                            rw [ew]
                            clear ew wq
                            cases ht1 : tgtP (repN B1 768) T I
                            · have HT1 := hide ht1
                              clear ht1
                              go_wp2_with fail
                              refine (targeted_any _ _ gb gm gd (repN B2 768) (HD2.out.below HB11.out) HG2.out hg2 T I).mono ?_
                              rintro e wq ⟨rfl, ew⟩
                              rw [ew]
                              clear ew wq
                              cases ht2 : tgtP (repN B2 768) T I
                              · have HT2 := hide ht2
                                clear ht2
                                go_wp2
                                go_roundw
                                case rel =>
                                  refine ⟨I + 1, hd, by omega, by simp, rfl, fun e i hi => ?_, HB11.out⟩
                                  rcases (by omega : i < I ∨ i = I) with z | rfl
                                  · exact HH.out e i z
                                  · exact .inr ⟨fun s hs hi => HN1.out s hs hi, fun s hs hi => HN2.out s hs hi, HT1.out, HT2.out⟩
                                case measure => simp [intOf]; omega
                              · clear ht2
                                go_wp2
                                go_roundw
                                case rel =>
                                  refine ⟨I + 1, false, by omega, by simp, rfl, fun e => (by cases e), HB11.out⟩
                                case measure => simp [intOf]; omega
                            · clear ht1
                              go_wp2
                              go_roundw
                              case rel =>
                                refine ⟨I + 1, false, by omega, by simp, rfl, fun e => (by cases e), HB11.out⟩
                              case measure => simp [intOf]; omega
                          · cases ht : (sb.team == (T : Int))
                            · have HN2 := hide (some_team (T := T) HBb.out HR2.out HU6.out.b.wo ht)
                              go_wp2_with fail
                              refine (targeted_any _ _ ga gn gc (repN B1 768) (HD1b.out.below HB11.out) HG1.out hg1 T I).mono ?_
                              rintro e wq ⟨rfl, ew⟩
                              rw [ew]
                              clear ew wq
                              cases ht1 : tgtP (repN B1 768) T I
                              · have HT1 := hide ht1
                                clear ht1
                                go_wp2_with fail
                                refine (targeted_any _ _ gb gm gd (repN B2 768) (HD2.out.below HB11.out) HG2.out hg2 T I).mono ?_
                                rintro e wq ⟨rfl, ew⟩
                                rw [ew]
                                clear ew wq
                                cases ht2 : tgtP (repN B2 768) T I
                                · have HT2 := hide ht2
                                  clear ht2
                                  go_wp2
                                  go_roundw
                                  case rel =>
                                    refine ⟨I + 1, hd, by omega, by simp, rfl, fun e i hi => ?_, HB11.out⟩
                                    rcases (by omega : i < I ∨ i = I) with z | rfl
                                    · exact HH.out e i z
                                    · exact .inr ⟨fun s hs hi => HN1.out s hs hi, fun s hs hi => HN2.out s hs hi, HT1.out, HT2.out⟩
                                  case measure => simp [intOf]; omega
                                · clear ht2
                                  go_wp2
                                  go_roundw
                                  case rel =>
                                    refine ⟨I + 1, false, by omega, by simp, rfl, fun e => (by cases e), HB11.out⟩
                                  case measure => simp [intOf]; omega
                              · clear ht1
                                go_wp2
                                go_roundw
                                case rel =>
                                  refine ⟨I + 1, false, by omega, by simp, rfl, fun e => (by cases e), HB11.out⟩
                                case measure => simp [intOf]; omega
                            · skip
                              go_wp2
                              go_roundw
                              case rel =>
                                refine ⟨I + 1, false, by omega, by simp, rfl, fun e => (by cases e), HB11.out⟩
                              case measure => simp [intOf]; omega
                        · cases ht0 : (sa.team == (T : Int))
                          · have HN1 := hide (some_team (T := T) HA.out HR1.out HU6.out.a.wo ht0)
                            cases ib
                            · have HN2 := hide (none_team (T := T) HBb.out HR2.out)
                              go_wp2_with fail
                              refine (targeted_any _ _ ga gn gc (repN B1 768) (HD1b.out.below HB11.out) HG1.out hg1 T I).mono ?_
                              rintro e wq ⟨rfl, ew⟩
                              rw [ew]
                              clear ew wq
                              cases ht1 : tgtP (repN B1 768) T I
                              · have HT1 := hide ht1
                                clear ht1
                                go_wp2_with fail
                                refine (targeted_any _ _ gb gm gd (repN B2 768) (HD2.out.below HB11.out) HG2.out hg2 T I).mono ?_
                                rintro e wq ⟨rfl, ew⟩
                                rw [ew]
                                clear ew wq
                                cases ht2 : tgtP (repN B2 768) T I
                                · have HT2 := hide ht2
                                  clear ht2
                                  go_wp2
                                  go_roundw
                                  case rel =>
                                    refine ⟨I + 1, hd, by omega, by simp, rfl, fun e i hi => ?_, HB11.out⟩
                                    rcases (by omega : i < I ∨ i = I) with z | rfl
                                    · exact HH.out e i z
                                    · exact .inr ⟨fun s hs hi => HN1.out s hs hi, fun s hs hi => HN2.out s hs hi, HT1.out, HT2.out⟩
                                  case measure => simp [intOf]; omega
                                · clear ht2
                                  go_wp2
                                  go_roundw
                                  case rel =>
                                    refine ⟨I + 1, false, by omega, by simp, rfl, fun e => (by cases e), HB11.out⟩
                                  case measure => simp [intOf]; omega
                              · clear ht1
                                go_wp2
                                go_roundw
                                case rel =>
                                  refine ⟨I + 1, false, by omega, by simp, rfl, fun e => (by cases e), HB11.out⟩
                                case measure => simp [intOf]; omega
                            · cases ht : (sb.team == (T : Int))
                              · have HN2 := hide (some_team (T := T) HBb.out HR2.out HU6.out.b.wo ht)
                                go_wp2_with fail
                                refine (targeted_any _ _ ga gn gc (repN B1 768) (HD1b.out.below HB11.out) HG1.out hg1 T I).mono ?_
                                rintro e wq ⟨rfl, ew⟩
                                rw [ew]
                                clear ew wq
                                cases ht1 : tgtP (repN B1 768) T I
                                · have HT1 := hide ht1
                                  clear ht1
                                  go_wp2_with fail
                                  refine (targeted_any _ _ gb gm gd (repN B2 768) (HD2.out.below HB11.out) HG2.out hg2 T I).mono ?_
                                  rintro e wq ⟨rfl, ew⟩
                                  rw [ew]
                                  clear ew wq
                                  cases ht2 : tgtP (repN B2 768) T I
                                  · have HT2 := hide ht2
                                    clear ht2
                                    go_wp2
                                    go_roundw
                                    case rel =>
                                      refine ⟨I + 1, hd, by omega, by simp, rfl, fun e i hi => ?_, HB11.out⟩
                                      rcases (by omega : i < I ∨ i = I) with z | rfl
                                      · exact HH.out e i z
                                      · exact .inr ⟨fun s hs hi => HN1.out s hs hi, fun s hs hi => HN2.out s hs hi, HT1.out, HT2.out⟩
                                    case measure => simp [intOf]; omega
                                  · clear ht2
                                    go_wp2
                                    go_roundw
                                    case rel =>
                                      refine ⟨I + 1, false, by omega, by simp, rfl, fun e => (by cases e), HB11.out⟩
                                    case measure => simp [intOf]; omega
                                · clear ht1
                                  go_wp2
                                  go_roundw
                                  case rel =>
                                    refine ⟨I + 1, false, by omega, by simp, rfl, fun e => (by cases e), HB11.out⟩
                                  case measure => simp [intOf]; omega
                              · skip
                                go_wp2
                                go_roundw
                                case rel =>
                                  refine ⟨I + 1, false, by omega, by simp, rfl, fun e => (by cases e), HB11.out⟩
                                case measure => simp [intOf]; omega
                          · skip
                            go_wp2
                            go_roundw
                            case rel =>
                              refine ⟨I + 1, false, by omega, by simp, rfl, fun e => (by cases e), HB11.out⟩
                            case measure => simp [intOf]; omega
                      · have HE := hide (same_of hX HA.out HBb.out HR1.out HR2.out)
                        clear hX
                        go_wp2
                        go_roundw
                        case rel =>
                          refine ⟨I + 1, hd, by omega, by simp, rfl, fun e i hi => ?_, HB11.out⟩
                          rcases (by omega : i < I ∨ i = I) with z | rfl
                          · exact HH.out e i z
                          · exact .inl HE.out
                        case measure => simp [intOf]; omega
                    · have hI48i : ¬ (I : Int) < 48 := by omega
                      obtain rfl : I = 48 := by omega
                      cases hd
                      · go_wp2
                        go_roundw
                        case rel => exact ⟨T + 1, by omega, by simp, HB3.out⟩
                        case measure => simp [intOf]; omega
                      · have heq := unseen_eq HU6.out.a.wo (by have := HU6.out.b.wo; rw [← HMM.out] at this; exact this) HB1.out (by have := HB2.out; rw [← HMM.out] at this; exact this) hT4 (HH.out rfl)
                        have HEQ := hide heq
                        clear heq
                        go_wp2_with fail
                        refine (ofTeam_any _ _ ga gn gc (repN B1 768) (HD1b.out.below HB3.out) HG1.out hg1 T).mono ?_
                        rintro e w7 ⟨a7, n7, c7, rfl, hn7, hr7, b7⟩
                        have HR7 := hide hr7
                        have HN7 := hide hn7
                        have HB7 := hide (lec HB3.out b7)
                        clear hr7 hn7 b7
                        go_wp2_with fail
                        refine (ofTeam_any _ _ gb gm gd (repN B2 768) (HD2.out.below HB7.out) HG2.out hg2 T).mono ?_
                        rintro e w8 ⟨a8, n8, c8, rfl, hn8, hr8, b8⟩
                        rw [← HEQ.out] at hn8 hr8
                        obtain rfl : n8 = n7 := by rw [hn8, HN7.out]
                        have HR8 := hide hr8
                        have HR7b := hide (HR7.out.below b8)
                        have HB8 := hide (lec HB7.out b8)
                        have hn768 : n8 ≤ 768 := by rw [hn8]; exact Nat.le_trans (List.length_filter_le _ _) (repN_len B1 768)
                        have HN8 := hide hn8
                        clear hr8 hn8 b8
                        go_wp2_with fail
                        refine (same_any _ _ _ a7 a8 n8 c7 c8 _ HR7b.out HR8.out HN8.out hn768).mono ?_
                        rintro e w9 ⟨rfl, b9⟩
                        have HB9 := hide (lec HB8.out b9)
                        clear b9
                        go_wp2
                        go_roundw
                        case rel => exact ⟨T + 1, by omega, by simp, HB9.out⟩
                        case measure => simp [intOf]; omega
                · obtain rfl : T = 4 := by omega
                  go_wp2
                  go_roundw
                  case rel => exact ⟨k + 1, _, _, _, _, _, _, _, _, by omega, by simp, HU6.out.below HB3.out⟩
                  case measure => simp [intOf]; omega
          · have h6b : (kd != 6) = true := by simp [h6]
            go_wp2
            go_roundw
            case rel => exact ⟨k + 1, _, _, _, _, _, _, _, _, by omega, by simp, HU3.out⟩
            case measure => simp [intOf]; omega
        · have hOb : (Oo == 0) = false := by simp [hO]
          have hOb2 : (Oo != 0) = true := by simp [hO]
          go_wp2_with fail
          refine (step_any _ p2 x1 x2 L2 M2 HU.out.b.wd HU.out.b.wo kd A Bb Cc Dd Oo b1 b2).mono ?_
          rintro e w3 hst
          obtain ⟨r3, y1, y2, L2', M2', rfl, hu⟩ := HU.out.symm.step hst
          have HU3 := hide hu.symm
          clear hst hu HU c0 c1 c2 c3 c4 c5
          obtain ⟨c0, _, _, _, _, c5⟩ := HALL.out _ HU3.out.a.bel
          by_cases h6 : kd = 6
          · have h6b : (kd != 6) = false := by simp [h6]
            clear h6
            go_wp2
            go_roundw
            case rel => exact ⟨k + 1, _, _, _, _, _, _, _, _, by omega, by simp, HU3.out⟩
            case measure => simp [intOf]; omega
          · have h6b : (kd != 6) = true := by simp [h6]
            go_wp2
            go_roundw
            case rel => exact ⟨k + 1, _, _, _, _, _, _, _, _, by omega, by simp, HU3.out⟩
            case measure => simp [intOf]; omega
      · have hlti : ¬ (k : Int) < (n : Int) := by omega
        obtain rfl : k = n := by omega
        go_wp2
        go_ret
        exact ⟨rfl, HU.out.a.bel⟩
  · go_enter Try.func7, Try.ntmps7
    go_wp2_with fail
    refine (small_any _ a n cap hn).mono ?_
    rintro e w' ⟨rfl, ew⟩
    rw [ew]
    have hd : decide (n ≤ 65536) = false := by simpa using hsm
    rw [hd]
    clear hd ew w'
    go_wp2
    go_ret
    exact ⟨rfl, Below.refl _ _⟩
end Go.Proofs.Qxb6500776a
