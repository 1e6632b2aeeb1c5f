import Derived.Test.Qxb6500776aMscP
namespace Go.Proofs.Qxb6500776a
open Go.RowKit

/-- Inside a target's loop over the sensors. -/
def MK (w : World) (B : Brd) (q : Nat) (t : Shp) (m : Nat) (sv : Value) (wr : World) : Prop :=
  ∃ (a : Option Addr) (c : Nat), sv = .slice a (repN B m).length c ∧ DRow wr w.heap.size (.slice a (repN B m).length c) (repN B m) ∧ (Value.slice a (repN B m).length c).ownBlock ≠ some q ∧ BX wr q t ∧ Below w.heap.size w wr
/-- Inside the loop over the observers. -/
structure MI (w0 wr : World) (q : Nat) (L : List Shp) (M : List Smk) (T : Int) (t : Shp) (k i : Nat) (r : Option Shp) : Prop where
  best : Best L M T t k i r
  by' : BX wr q (r.getD shp0)
  ex : Ex (fun k => k = q) w0 wr
  fr : ∀ j, wr.frozen? ⟨q, j, none⟩ = false
theorem BX.sets {w : World} {q : Nat} {b o : Shp} (h : BX w q b) : BX (w.setCells q 0 o.vals) q o := by
  obtain ⟨x0, x1, x2, x3, x4, x5, x6, x7, x8, x9, x10, x11⟩ := h
  refine ⟨?_, ?_, ?_, ?_, ?_, ?_, ?_, ?_, ?_, ?_, ?_, ?_⟩ <;> simp [World.setCells, Shp.vals, go_sem, *]
theorem sets_frozen (q j : Nat) : ∀ (vs : List Value) (o : Nat) (w : World), (w.setCells q o vs).frozen? ⟨q, j, none⟩ = w.frozen? ⟨q, j, none⟩
  | [], _, _ => rfl
  | v :: r, o, w => by rw [World.setCells, sets_frozen q j r (o + 1), set_frozen]
theorem bx_frozen (w : World) (s : Shp) (j : Nat) : (w.alloc (.cells (shpA s) 38)).frozen? ⟨w.heap.size, j, none⟩ = false := by simp [go_sem]
theorem kept_frozen {w w' : World} {q : Nat} {s : Shp} (h : BX w q s) (hb : Below w.heap.size w w') (hf : ∀ j, w.frozen? ⟨q, j, none⟩ = false) : ∀ j, w'.frozen? ⟨q, j, none⟩ = false :=
  fun j => ((Ex.of (S := fun _ => False) hb).frozen (fun e => e) (World.block_lt_of_cell? _ _ h.c0)).trans (hf j)
set_option linter.unusedSimpArgs false in
set_option maxRecDepth 100000 in
set_option maxHeartbeats 8000000 in
/-- sensorsm.Scan -/
theorem mscan_any (w : World) (p : Nat) (v1 v2 : Value) (L : List Shp) (M : List Smk) (h : WD w p v1 v2 L M) (hok : WOk L M) (B : Brd) (hb : Bd (DF (L.filter Shp.afloat) M) B) :
    Calls Try.prog 16 #[.pointer (some ⟨p, 0, none⟩)] w (RepPost w (repN B 768)) := by
  have HB := hide hb
  have HW0 := hide h
  have HOK := hide hok
  obtain ⟨a1, cp1, e1⟩ := own_form h.r1
  obtain ⟨nL, hnL⟩ : ∃ nL, L.length = nL := ⟨_, rfl⟩
  have hnL48 : nL ≤ 48 := by rw [← hnL]; exact hok.len
  rw [hnL] at e1
  have HNL := hide hnL
  have E1 := hide e1
  have HPL := hide (h.lt (.inl rfl))
  clear hb h hok e1 hnL
  obtain ⟨i0, hi0, hz0, hz1, hz2⟩ : ∃ i0, Try.prog.info? 58 = some i0 ∧ i0.zero = some (.agg #[.int .i64 0, .int .i64 0, .int .i64 0, .int .i64 0, .int .i64 0, .int .i64 0]) ∧ i0.size = 6 ∧ i0.bytes = 48 := ⟨_, rfl, rfl, rfl, rfl⟩
  go_enter Try.func16, Try.ntmps16
  go_wp2
  go_loopw [3, 4] (fun sv sT wr => ∃ (T : Nat) (a : Option Addr) (c : Nat), T ≤ 4 ∧ sT = .int .i64 T ∧ sv = .slice a (repN B (T * 192)).length c ∧ DRow wr w.heap.size (.slice a (repN B (T * 192)).length c) (repN B (T * 192)) ∧ Below w.heap.size w wr) (fun _ sT _ => 4 - (intOf sT).toNat)
  case atStart => exact ⟨0, none, 0, by omega, rfl, rfl, World.ownsRow_nil _ _ _ _, Below.refl _ _⟩
  case round =>
    obtain ⟨T, a, c, hT, rfl, rfl, hr, hb⟩ := hrel
    have HR := hide hr
    have HE := hide hb
    clear hr hb
    by_cases hT4 : T < 4
    · have hT4i : (T : Int) < 4 := by omega
      go_wp2
      go_loopw [3, 5] (fun sv sI wr => ∃ (I : Nat) (a : Option Addr) (c : Nat), I ≤ 48 ∧ sI = .int .i64 I ∧ sv = .slice a (repN B (T * 192 + I * 4)).length c ∧ DRow wr w.heap.size (.slice a (repN B (T * 192 + I * 4)).length c) (repN B (T * 192 + I * 4)) ∧ Below w.heap.size w wr) (fun _ sI _ => 48 - (intOf sI).toNat)
      case atStart => exact ⟨0, a, c, by omega, rfl, rfl, HR.out, HE.out⟩
      case round =>
        clear HR HE
        obtain ⟨I, a, c, hI, rfl, rfl, hr, hb⟩ := hrel
        have HR := hide hr
        have HE := hide hb
        clear hr hb
        by_cases hI48 : I < 48
        · have hI48i : (I : Int) < 48 := by omega
          have HWr := hide (HW0.out.below HE.out)
          go_wp2_with fail
          refine (find_any _ p v1 v2 L M HWr.out HOK.out.len I).mono ?_
          rintro e w' ⟨at', rfl, hat, ew⟩
          rw [ew]
          clear ew w'
          rcases hat with ⟨rfl, hno⟩ | ⟨x, t, rfl, hx, htid⟩
          · have HX := hide (rep_absent (T := T) hI48 HB.out hno)
            clear hno
            go_wp2
            go_roundw
            case rel =>
              refine ⟨I + 1, a, c, by omega, by simp, ?_, ?_, HE.out⟩
              · rw [HX.out]
              · rw [HX.out]; exact HR.out
            case measure => simp [intOf]; omega
          · have hxl : x < nL := by rw [← HNL.out]; exact (List.getElem?_eq_some_iff.1 hx).1
            have hxli : (x : Int) < (nL : Int) := by omega
            have hx0 : ¬ (x : Int) < 0 := by omega
            obtain ⟨g1, c9, e3⟩ := own_some HWr.out.r1 (by have := HNL.out; omega)
            rw [HNL.out, E1.out] at e3
            cases e3
            have hrow := HWr.out
            rw [E1.out] at hrow
            have y0 := hrow.c0
            have hr := hrow.ship hx HNL.out.symm
            have k0 := hr 0 _ rfl
            have k1 := hr 1 _ rfl
            have k2 := hr 2 _ rfl
            have k3 := hr 3 _ rfl
            have k4 := hr 4 _ rfl
            have k5 := hr 5 _ rfl
            have k6 := hr 6 _ rfl
            have k7 := hr 7 _ rfl
            have k8 := hr 8 _ rfl
            have k9 := hr 9 _ rfl
            have k10 := hr 10 _ rfl
            have k11 := hr 11 _ rfl
            rw [Nat.add_zero] at k0
            have HTL := hide (List.mem_of_getElem? hx)
            have HTO := hide (HOK.out.ok t (List.mem_of_getElem? hx))
            have HTI := hide htid
            clear hr hrow hx htid
            go_upto_region 11 with fail
            have hst : #[.int .i64 t.id, .int .i64 t.team, .int .i64 t.x, .int .i64 t.y, .int .i64 t.depth, .int .i64 t.speed, .int .i64 t.mast, .int .i64 t.noise, .bool t.afloat, .bool t.radar, .bool t.sonar, .bool t.ping] = shpA t := rfl
            (try rw [hst])
            clear hst
            have HM := hide (show MK w B wr.heap.size t (T * 192 + I * 4 + 0) (.slice a (repN B (T * 192 + I * 4 + 0)).length c) (wr.alloc (.cells (shpA t) 38)) from ⟨a, c, rfl, HR.out.below (be1 _ _), fun e => by have := (HR.out.lt _ e).2; omega, BX.new wr t, lec HE.out (be1 _ _)⟩)
            have HQ7 := hide (show w.heap.size ≤ wr.heap.size from HE.out.size)
            generalize wr.alloc (.cells (shpA t) 38) = w7 at *
            obtain ⟨q7, hq7⟩ : ∃ q, wr.heap.size = q := ⟨_, rfl⟩
            rw [hq7] at HM HQ7 ⊢
            clear hq7 k0 k1 k2 k3 k4 k5 k6 k7 k8 k9 k10 k11 y0 HR HE HWr
            go_wp2
            go_loopw [3, 8] (fun sv sK wr => ∃ Kk : Nat, Kk ≤ 4 ∧ sK = .int .i64 Kk ∧ MK w B q7 t (T * 192 + I * 4 + Kk) sv wr) (fun _ sK _ => 4 - (intOf sK).toNat)
            case atStart => exact ⟨0, by omega, rfl, HM.out⟩
            case round =>
              clear HM
              obtain ⟨Kk, hK, rfl, a, c, rfl, hr, hnq, hbx, hb⟩ := hrel
              have HR := hide hr
              have HE := hide hb
              have HNQ := hide hnq
              have HBX := hide hbx
              clear hr hb hnq hbx
              by_cases hK4 : Kk < 4
              · have hK4i : (Kk : Int) < 4 := by omega
                obtain ⟨Ds, hDs⟩ : ∃ Ds, repN B (T * 192 + I * 4 + Kk) = Ds := ⟨_, rfl⟩
                have hlen : Ds.length ≤ 768 := by have := repN_len B (T * 192 + I * 4 + Kk); rw [hDs] at this; omega
                rw [hDs] at HR HNQ ⊢
                have HDs := hide hDs
                clear hDs
                go_upto_region 17 with fail
                have hzz : #[.int .i64 0, .int .i64 0, .int .i64 0, .int .i64 0, .int .i64 0, .int .i64 0, .int .i64 0, .int .i64 0, .bool false, .bool false, .bool false, .bool false] = shpA shp0 := rfl
                (try rw [hzz])
                clear hzz
                have HMI := hide (show MI (wr.alloc (.cells (shpA shp0) 38)) (wr.alloc (.cells (shpA shp0) 38)) wr.heap.size L M T t Kk 0 none from ⟨Best.zero, BX.new wr shp0, Ex.refl _ _, bx_frozen wr shp0⟩)
                have HR1 := hide (HR.out.below (be1 wr (.cells (shpA shp0) 38)))
                have HE1 := hide (lec HE.out (be1 wr (.cells (shpA shp0) 38)))
                have HBX1 := hide (HBX.out.below (be1 wr (.cells (shpA shp0) 38)))
                have HNY := hide (show (Value.slice a Ds.length c).ownBlock ≠ some wr.heap.size from fun e => by have := (HR.out.lt _ e).2; omega)
                have HQ := hide (show w.heap.size ≤ wr.heap.size ∧ q7 < wr.heap.size from ⟨HE.out.size, World.block_lt_of_cell? _ _ HBX.out.c0⟩)
                generalize wr.alloc (.cells (shpA shp0) 38) = wy at *
                obtain ⟨qy, hqy⟩ : ∃ q, wr.heap.size = q := ⟨_, rfl⟩
                rw [hqy] at HMI HNY HQ ⊢
                clear hqy HR HE HBX
                go_wp2
                go_loopw [9, 11] (fun sf si wr => ∃ (i : Nat) (r : Option Shp), i ≤ nL ∧ si = .int .i64 i ∧ sf = .bool r.isSome ∧ MI wy wr qy L M T t Kk i r) (fun _ si _ => nL - (intOf si).toNat)
                case atStart => exact ⟨0, none, by omega, rfl, rfl, HMI.out⟩
                case round =>
                  clear HMI
                  obtain ⟨i, r, hi, rfl, rfl, hmi⟩ := hrel
                  have HMI := hide hmi
                  clear hmi
                  have HWD := hide ((HW0.out.below HE1.out).keep HMI.out.ex (fun k hk z => by have := HW0.out.lt hk; have := HQ.out.1; omega))
                  have HBT := hide (HBX1.out.keep HMI.out.ex (fun z => by have := HQ.out.2; omega))
                  have y0 := HWD.out.c0
                  rw [E1.out] at y0
                  by_cases hil : i < nL
                  · have hili : (i : Int) < (nL : Int) := by omega
                    obtain ⟨o, ho⟩ : ∃ o, L[i]? = some o := ⟨_, List.getElem?_eq_getElem (by have := HNL.out; omega)⟩
                    have hrow := HWD.out
                    rw [E1.out] at hrow
                    have hr := hrow.ship ho HNL.out.symm
                    have k0 := hr 0 _ rfl
                    have k1 := hr 1 _ rfl
                    have k2 := hr 2 _ rfl
                    have k3 := hr 3 _ rfl
                    have k4 := hr 4 _ rfl
                    have k5 := hr 5 _ rfl
                    have k6 := hr 6 _ rfl
                    have k7 := hr 7 _ rfl
                    have k8 := hr 8 _ rfl
                    have k9 := hr 9 _ rfl
                    have k10 := hr 10 _ rfl
                    have k11 := hr 11 _ rfl
                    rw [Nat.add_zero] at k0
                    have HOL := hide ho
                    have HOO := hide (HOK.out.ok o (List.mem_of_getElem? ho))
                    clear hr hrow ho
                    go_upto_region 20 with fail
                    have hst : #[.int .i64 o.id, .int .i64 o.team, .int .i64 o.x, .int .i64 o.y, .int .i64 o.depth, .int .i64 o.speed, .int .i64 o.mast, .int .i64 o.noise, .bool o.afloat, .bool o.radar, .bool o.sonar, .bool o.ping] = shpA o := rfl
                    (try rw [hst])
                    clear hst
                    have HXo := hide (BX.new wr o)
                    have bo := be1 wr (.cells (shpA o) 38)
                    have HWo := hide (HWD.out.below bo)
                    have HBo := hide (HBT.out.below bo)
                    have HYo := hide (HMI.out.by'.below bo)
                    have HFo := hide (kept_frozen HMI.out.by' bo HMI.out.fr)
                    have HEo := hide (HMI.out.ex.trans (Ex.of bo))
                    generalize wr.alloc (.cells (shpA o) 38) = wo at *
                    obtain ⟨qo, hqo⟩ : ∃ q, wr.heap.size = q := ⟨_, rfl⟩
                    rw [hqo] at HXo ⊢
                    clear hqo bo y0 HWD HBT k0 k1 k2 k3 k4 k5 k6 k7 k8 k9 k10 k11
                    have HBEST := hide HMI.out.best
                    clear HMI
                    have x1 := HXo.out.c1
                    by_cases hteam : o.team = (T : Int)
                    · have HTM := hide hteam
                      have htb : (o.team == (T : Int)) = true := by simp [hteam]
                      clear hteam
                      obtain ⟨x0, x1, x2, x3, x4, x5, x6, x7, x8, x9, x10, x11⟩ := HXo.out
                      obtain ⟨y0, y1, y2, y3, y4, y5, y6, y7, y8, y9, y10, y11⟩ := HBo.out
                      go_wp2_with fail
                      refine (sees_any _ p _ v2 L M HWo.out HOK.out o t HOO.out HTO.out Kk hK4).mono ?_
                      rintro e w5 ⟨rfl, b5⟩
                      have HX5 := hide (HXo.out.below b5)
                      have HB5 := hide (HBo.out.below b5)
                      have HY5 := hide (HYo.out.below b5)
                      have HF5 := hide (kept_frozen HYo.out b5 HFo.out)
                      have HE5 := hide (HEo.out.trans (Ex.of b5))
                      clear b5 x0 x1 x2 x3 x4 x5 x6 x7 x8 x9 x10 x11 y0 y1 y2 y3 y4 y5 y6 y7 y8 y9 y10 y11 HXo HBo HYo HEo HWo HFo
                      cases hls : (liveP o t && seeP M o t Kk)
                      · have HC := hide (show candP M T t Kk o = false by unfold candP; rw [hls, Bool.and_false])
                        clear hls htb
                        go_wp2
                        go_roundw
                        case rel => exact ⟨i + 1, r, by omega, by simp, rfl, ⟨HBEST.out.skip HOL.out HC.out, HY5.out, HE5.out, HF5.out⟩⟩
                        case measure => simp [intOf]; omega
                      · have HC := hide (show candP M T t Kk o = true by unfold candP; rw [hls, htb]; rfl)
                        clear hls htb
                        obtain ⟨x0, x1, x2, x3, x4, x5, x6, x7, x8, x9, x10, x11⟩ := HX5.out
                        cases r with
                        | none =>
                          dsimp only [Option.isSome]
                          obtain ⟨u0, u1, u2, u3, u4, u5, u6, u7, u8, u9, u10, u11⟩ := HY5.out
                          have fq := HF5.out
                          dsimp only [Option.getD] at u0 u1 u2 u3 u4 u5 u6 u7 u8 u9 u10 u11
                          go_upto_region 18 with fail
                          have hset : ((((((((((((w5.setCell ⟨qy, 0, none⟩ (.int .i64 o.id)).setCell ⟨qy, 1, none⟩ (.int .i64 o.team)).setCell ⟨qy, 2, none⟩ (.int .i64 o.x)).setCell ⟨qy, 3, none⟩ (.int .i64 o.y)).setCell ⟨qy, 4, none⟩ (.int .i64 o.depth)).setCell ⟨qy, 5, none⟩ (.int .i64 o.speed)).setCell ⟨qy, 6, none⟩ (.int .i64 o.mast)).setCell ⟨qy, 7, none⟩ (.int .i64 o.noise)).setCell ⟨qy, 8, none⟩ (.bool o.afloat)).setCell ⟨qy, 9, none⟩ (.bool o.radar)).setCell ⟨qy, 10, none⟩ (.bool o.sonar)).setCell ⟨qy, 11, none⟩ (.bool o.ping)) = w5.setCells qy 0 o.vals := rfl
                          rw [hset]
                          clear hset fq u0 u1 u2 u3 u4 u5 u6 u7 u8 u9 u10 u11 x0 x1 x2 x3 x4 x5 x6 x7 x8 x9 x10 x11
                          have HY6 := hide (HY5.out.sets (o := o))
                          have HE6 := hide (Ex.sets (S := fun k => k = qy) rfl o.vals 0 _ HE5.out)
                          have HF6 := hide (fun j => (sets_frozen qy j o.vals 0 w5).trans (HF5.out j))
                          generalize w5.setCells qy 0 o.vals = w6 at *
                          go_wp2
                          go_roundw
                          case rel => exact ⟨i + 1, some o, by omega, by simp, rfl, ⟨HBEST.out.first HOL.out HC.out, HY6.out, HE6.out, HF6.out⟩⟩
                          case measure => simp [intOf]; omega
                        | some b =>
                          obtain ⟨y0, y1, y2, y3, y4, y5, y6, y7, y8, y9, y10, y11⟩ := HB5.out
                          obtain ⟨u0, u1, u2, u3, u4, u5, u6, u7, u8, u9, u10, u11⟩ := HY5.out
                          have HBO := hide (HOK.out.ok b (HBEST.out.some b rfl).1)
                          dsimp only [Option.isSome]
                          dsimp only [Option.getD] at u0 u1 u2 u3 u4 u5 u6 u7 u8 u9 u10 u11
                          go_wp2_with fail
                          refine (better_any _ o b t HOO.out HBO.out HTO.out).mono ?_
                          rintro e w7 ⟨rfl, b7⟩
                          have HX7 := hide (HX5.out.below b7)
                          have HY7 := hide (HY5.out.below b7)
                          have HF7 := hide (kept_frozen HY5.out b7 HF5.out)
                          have HE7 := hide (HE5.out.trans (Ex.of b7))
                          clear b7 x0 x1 x2 x3 x4 x5 x6 x7 x8 x9 x10 x11 y0 y1 y2 y3 y4 y5 y6 y7 y8 y9 y10 y11 u0 u1 u2 u3 u4 u5 u6 u7 u8 u9 u10 u11 HX5 HY5 HF5 HE5 HB5
                          cases hbt : betP o b t
                          · have HBT := hide hbt
                            clear hbt
                            go_wp2
                            go_roundw
                            case rel => exact ⟨i + 1, some b, by omega, by simp, rfl, ⟨HBEST.out.keep HOL.out HBT.out, HY7.out, HE7.out, HF7.out⟩⟩
                            case measure => simp [intOf]; omega
                          · have HBT := hide hbt
                            clear hbt
                            obtain ⟨x0, x1, x2, x3, x4, x5, x6, x7, x8, x9, x10, x11⟩ := HX7.out
                            obtain ⟨u0, u1, u2, u3, u4, u5, u6, u7, u8, u9, u10, u11⟩ := HY7.out
                            have fq := HF7.out
                            dsimp only [Option.getD] at u0 u1 u2 u3 u4 u5 u6 u7 u8 u9 u10 u11
                            go_upto_region 18 with fail
                            have hset : ((((((((((((w7.setCell ⟨qy, 0, none⟩ (.int .i64 o.id)).setCell ⟨qy, 1, none⟩ (.int .i64 o.team)).setCell ⟨qy, 2, none⟩ (.int .i64 o.x)).setCell ⟨qy, 3, none⟩ (.int .i64 o.y)).setCell ⟨qy, 4, none⟩ (.int .i64 o.depth)).setCell ⟨qy, 5, none⟩ (.int .i64 o.speed)).setCell ⟨qy, 6, none⟩ (.int .i64 o.mast)).setCell ⟨qy, 7, none⟩ (.int .i64 o.noise)).setCell ⟨qy, 8, none⟩ (.bool o.afloat)).setCell ⟨qy, 9, none⟩ (.bool o.radar)).setCell ⟨qy, 10, none⟩ (.bool o.sonar)).setCell ⟨qy, 11, none⟩ (.bool o.ping)) = w7.setCells qy 0 o.vals := rfl
                            rw [hset]
                            clear hset fq u0 u1 u2 u3 u4 u5 u6 u7 u8 u9 u10 u11 x0 x1 x2 x3 x4 x5 x6 x7 x8 x9 x10 x11
                            have HY6 := hide (HY7.out.sets (o := o))
                            have HE6 := hide (Ex.sets (S := fun k => k = qy) rfl o.vals 0 _ HE7.out)
                            have HF6 := hide (fun j => (sets_frozen qy j o.vals 0 w7).trans (HF7.out j))
                            generalize w7.setCells qy 0 o.vals = w6 at *
                            go_wp2
                            go_roundw
                            case rel => exact ⟨i + 1, some o, by omega, by simp, rfl, ⟨HBEST.out.take HOL.out HC.out HBT.out, HY6.out, HE6.out, HF6.out⟩⟩
                            case measure => simp [intOf]; omega
                    · have htb : (o.team == (T : Int)) = false := by simp [hteam]
                      have HC := hide (show candP M T t Kk o = false by unfold candP; rw [htb]; rfl)
                      clear hteam
                      go_wp2
                      go_roundw
                      case rel => exact ⟨i + 1, r, by omega, by simp, rfl, ⟨HBEST.out.skip HOL.out HC.out, HYo.out, HEo.out, HFo.out⟩⟩
                      case measure => simp [intOf]; omega
                  · have hili : ¬ (i : Int) < (nL : Int) := by omega
                    obtain rfl : i = nL := by omega
                    go_upto_region 23 with fail
                    have HRz := hide (show DRow wr w.heap.size (.slice a Ds.length c) Ds from own_kept HR1.out HMI.out.ex (fun k hk z => HNY.out (by rw [← z]; exact hk)))
                    have HEz := hide (HE1.out.trans (HMI.out.ex.below HE1.out.size (fun k hk z => by have := HQ.out.1; omega)))
                    have HBEST := hide HMI.out.best
                    have HYz := hide HMI.out.by'
                    clear HMI HWD y0 HBX1 HR1 HE1
                    cases r with
                    | none =>
                      have HSK := hide (show repN B (T * 192 + I * 4 + (Kk + 1)) = Ds by
                        have hbst := HBEST.out
                        rw [← HNL.out] at hbst
                        have e := lk_of_none HOK.out HB.out HTL.out (T := T) (by omega) hK4 hbst
                        rw [HTI.out] at e
                        rw [rep_skip hI48 hK4 e]; exact HDs.out)
                      dsimp only [Option.isSome]
                      go_wp2
                      go_roundw
                      case rel =>
                        refine ⟨Kk + 1, by omega, by simp, a, c, ?_, ?_, ?_, HBT.out, HEz.out⟩
                        · rw [HSK.out]
                        · rw [HSK.out]; exact HRz.out
                        · rw [HSK.out]; exact HNQ.out
                      case measure => simp [intOf]; omega
                    | some b =>
                      have HTK := hide (show repN B (T * 192 + I * 4 + (Kk + 1)) = Ds ++ [⟨T, I, Kk, b.id, dstP b t, grP b t Kk⟩] by
                        have hbst := HBEST.out
                        rw [← HNL.out] at hbst
                        have e := lk_of_some HOK.out HB.out HTL.out (T := T) (by omega) hK4 hbst
                        rw [HTI.out] at e
                        rw [rep_take hI48 hK4 e, HDs.out])
                      have HBO := hide (HOK.out.ok b (HBEST.out.some b rfl).1)
                      dsimp only [Option.isSome]
                      go_upto_region 24 with fail
                      have zS := conj24b (o := b) (t := t) HYz.out HBT.out
                      (try dsimp only [Option.getD] at zS)
                      have cD := fun w => hide (dist_any w b t HBO.out HTO.out)
                      have cG := fun w => hide (grade_any w b t HBO.out HTO.out Kk hK4)
                      obtain ⟨dd, hdd⟩ : ∃ d, dstP b t = d := ⟨_, rfl⟩
                      obtain ⟨gg, hgg⟩ : ∃ d, grP b t Kk = d := ⟨_, rfl⟩
                      rw [hdd] at cD HTK
                      rw [hgg] at cG HTK
                      clear hdd hgg
                      refine wp_region_held_drew (S := fun w' => w'.cell? ⟨qy, 0, none⟩ = some (.int .i64 b.id) ∧ w'.cell? ⟨qy, 1, none⟩ = some (.int .i64 b.team) ∧ w'.cell? ⟨qy, 2, none⟩ = some (.int .i64 b.x) ∧ w'.cell? ⟨qy, 3, none⟩ = some (.int .i64 b.y) ∧ w'.cell? ⟨qy, 4, none⟩ = some (.int .i64 b.depth) ∧ w'.cell? ⟨qy, 5, none⟩ = some (.int .i64 b.speed) ∧ w'.cell? ⟨qy, 6, none⟩ = some (.int .i64 b.mast) ∧ w'.cell? ⟨qy, 7, none⟩ = some (.int .i64 b.noise) ∧ w'.cell? ⟨qy, 8, none⟩ = some (.bool b.afloat) ∧ w'.cell? ⟨qy, 9, none⟩ = some (.bool b.radar) ∧ w'.cell? ⟨qy, 10, none⟩ = some (.bool b.sonar) ∧ w'.cell? ⟨qy, 11, none⟩ = some (.bool b.ping) ∧ w'.cell? ⟨q7, 0, none⟩ = some (.int .i64 t.id) ∧ w'.cell? ⟨q7, 1, none⟩ = some (.int .i64 t.team) ∧ w'.cell? ⟨q7, 2, none⟩ = some (.int .i64 t.x) ∧ w'.cell? ⟨q7, 3, none⟩ = some (.int .i64 t.y) ∧ w'.cell? ⟨q7, 4, none⟩ = some (.int .i64 t.depth) ∧ w'.cell? ⟨q7, 5, none⟩ = some (.int .i64 t.speed) ∧ w'.cell? ⟨q7, 6, none⟩ = some (.int .i64 t.mast) ∧ w'.cell? ⟨q7, 7, none⟩ = some (.int .i64 t.noise) ∧ w'.cell? ⟨q7, 8, none⟩ = some (.bool t.afloat) ∧ w'.cell? ⟨q7, 9, none⟩ = some (.bool t.radar) ∧ w'.cell? ⟨q7, 10, none⟩ = some (.bool t.sonar) ∧ w'.cell? ⟨q7, 11, none⟩ = some (.bool t.ping)) (by kernel_rfl) zS (fun hHeld => ?_)
                      refine wpAnyH_take (i := 0) (v := ?_) rfl (by kernel_rfl) (by kernel_rfl) (by kernel_rfl) (fun _ _ _ h => h) (Or.inl ⟨by rfl, ?_⟩) (by assumption) ?_
                      rotate_left
                      · (intro w hSw; (try dsimp only at hSw); go_simp; try (with_reducible rfl))
                      try simp only [Act.put, List.getElem_toArray, List.getElem_cons_zero, List.getElem_cons_succ, List.setIfInBounds_toArray, List.set_cons_zero, List.set_cons_succ]
                      refine wpAnyH_take (i := 1) (v := ?_) rfl (by kernel_rfl) (by kernel_rfl) (by kernel_rfl) (fun _ _ _ h => h) (Or.inl ⟨by rfl, ?_⟩) (by assumption) ?_
                      rotate_left
                      · (intro w hSw; (try dsimp only at hSw); go_simp; try (with_reducible rfl))
                      try simp only [Act.put, List.getElem_toArray, List.getElem_cons_zero, List.getElem_cons_succ, List.setIfInBounds_toArray, List.set_cons_zero, List.set_cons_succ]
                      refine wpAnyH_take (i := 2) (v := ?_) rfl (by kernel_rfl) (by kernel_rfl) (by kernel_rfl) (fun _ _ _ h => h) (Or.inl ⟨by rfl, ?_⟩) (by assumption) ?_
                      rotate_left
                      · (intro w hSw; (try dsimp only at hSw); go_simp; try (with_reducible rfl))
                      try simp only [Act.put, List.getElem_toArray, List.getElem_cons_zero, List.getElem_cons_succ, List.setIfInBounds_toArray, List.set_cons_zero, List.set_cons_succ]
                      refine wpAnyH_take (i := 3) (v := ?_) rfl (by kernel_rfl) (by kernel_rfl) (by kernel_rfl) (fun _ _ _ h => h) (Or.inl ⟨by rfl, ?_⟩) (by assumption) ?_
                      rotate_left
                      · (intro w hSw; (try dsimp only at hSw); go_simp; try (with_reducible rfl))
                      try simp only [Act.put, List.getElem_toArray, List.getElem_cons_zero, List.getElem_cons_succ, List.setIfInBounds_toArray, List.set_cons_zero, List.set_cons_succ]
                      refine wpAnyH_take (i := 4) (v := ?_) rfl (by kernel_rfl) (by kernel_rfl) (by kernel_rfl) (fun _ _ _ h => h) (Or.inl ⟨by rfl, ?_⟩) (by assumption) ?_
                      rotate_left
                      · (intro w hSw; (try dsimp only at hSw); go_simp; try (with_reducible rfl))
                      try simp only [Act.put, List.getElem_toArray, List.getElem_cons_zero, List.getElem_cons_succ, List.setIfInBounds_toArray, List.set_cons_zero, List.set_cons_succ]
                      refine wpAnyH_take (i := 5) (v := ?_) rfl (by kernel_rfl) (by kernel_rfl) (by kernel_rfl) (fun _ _ _ h => h) (Or.inl ⟨by rfl, ?_⟩) (by assumption) ?_
                      rotate_left
                      · (intro w hSw; (try dsimp only at hSw); go_simp; try (with_reducible rfl))
                      try simp only [Act.put, List.getElem_toArray, List.getElem_cons_zero, List.getElem_cons_succ, List.setIfInBounds_toArray, List.set_cons_zero, List.set_cons_succ]
                      refine wpAnyH_take (i := 6) (v := ?_) rfl (by kernel_rfl) (by kernel_rfl) (by kernel_rfl) (fun _ _ _ h => h) (Or.inl ⟨by rfl, ?_⟩) (by assumption) ?_
                      rotate_left
                      · (intro w hSw; (try dsimp only at hSw); go_simp; try (with_reducible rfl))
                      try simp only [Act.put, List.getElem_toArray, List.getElem_cons_zero, List.getElem_cons_succ, List.setIfInBounds_toArray, List.set_cons_zero, List.set_cons_succ]
                      refine wpAnyH_take (i := 7) (v := ?_) rfl (by kernel_rfl) (by kernel_rfl) (by kernel_rfl) (fun _ _ _ h => h) (Or.inl ⟨by rfl, ?_⟩) (by assumption) ?_
                      rotate_left
                      · (intro w hSw; (try dsimp only at hSw); go_simp; try (with_reducible rfl))
                      try simp only [Act.put, List.getElem_toArray, List.getElem_cons_zero, List.getElem_cons_succ, List.setIfInBounds_toArray, List.set_cons_zero, List.set_cons_succ]
                      refine wpAnyH_take (i := 9) (v := ?_) rfl (by kernel_rfl) (by kernel_rfl) (by kernel_rfl) (fun _ _ _ h => h) (Or.inl ⟨by rfl, ?_⟩) (by assumption) ?_
                      rotate_left
                      · (intro w hSw; (try dsimp only at hSw); go_simp; try (with_reducible rfl))
                      try simp only [Act.put, List.getElem_toArray, List.getElem_cons_zero, List.getElem_cons_succ, List.setIfInBounds_toArray, List.set_cons_zero, List.set_cons_succ]
                      refine wpAnyH_take (i := 10) (v := ?_) rfl (by kernel_rfl) (by kernel_rfl) (by kernel_rfl) (fun _ _ _ h => h) (Or.inl ⟨by rfl, ?_⟩) (by assumption) ?_
                      rotate_left
                      · (intro w hSw; (try dsimp only at hSw); go_simp; try (with_reducible rfl))
                      try simp only [Act.put, List.getElem_toArray, List.getElem_cons_zero, List.getElem_cons_succ, List.setIfInBounds_toArray, List.set_cons_zero, List.set_cons_succ]
                      refine wpAnyH_take (i := 11) (v := ?_) rfl (by kernel_rfl) (by kernel_rfl) (by kernel_rfl) (fun _ _ _ h => h) (Or.inl ⟨by rfl, ?_⟩) (by assumption) ?_
                      rotate_left
                      · (intro w hSw; (try dsimp only at hSw); go_simp; try (with_reducible rfl))
                      try simp only [Act.put, List.getElem_toArray, List.getElem_cons_zero, List.getElem_cons_succ, List.setIfInBounds_toArray, List.set_cons_zero, List.set_cons_succ]
                      refine wpAnyH_ready (rs := [8]) (by kernel_rfl) (by simp) ?_
                      refine (AllReadyH.cons rfl (fun K hK => ?_) AllReadyH.nil)
                      · refine step_call rfl 39 #[.agg #[.int .i64 b.id, .int .i64 b.team, .int .i64 b.x, .int .i64 b.y, .int .i64 b.depth, .int .i64 b.speed, .int .i64 b.mast, .int .i64 b.noise, .bool b.afloat, .bool b.radar, .bool b.sonar, .bool b.ping], .agg #[.int .i64 t.id, .int .i64 t.team, .int .i64 t.x, .int .i64 t.y, .int .i64 t.depth, .int .i64 t.speed, .int .i64 t.mast, .int .i64 t.noise, .bool t.afloat, .bool t.radar, .bool t.sonar, .bool t.ping]] (by simp [go_sem]) (cD _).out ?_
                        rintro e w8 ⟨rfl, b8⟩
                        replace b8 := of_drew b8
                        have HY8 := hide (HYz.out.below b8)
                        have HB8 := hide (HBT.out.below b8)
                        have HR8 := hide (HRz.out.below b8)
                        have HE8 := hide (lec HEz.out b8)
                        have zS8 := conj24b (o := b) (t := t) HY8.out HB8.out
                        clear b8
                        refine ⟨_, rfl, ?_⟩
                        refine hK.out _ _ ?_ (fun hHeld => ?_)
                        · (first | with_reducible exact zS | with_reducible exact zS8 | with_reducible exact zS9 | with_reducible exact zSA | with_reducible exact zSG | exact zSA)
                        clear hK K
                        try simp only [Act.put, List.getElem_toArray, List.getElem_cons_zero, List.getElem_cons_succ, List.setIfInBounds_toArray, List.set_cons_zero, List.set_cons_succ]
                        refine wpAnyH_ready (rs := [12]) (by kernel_rfl) (by simp) ?_
                        refine (AllReadyH.cons rfl (fun K hK => ?_) AllReadyH.nil)
                        · refine step_call rfl 40 #[.agg #[.int .i64 b.id, .int .i64 b.team, .int .i64 b.x, .int .i64 b.y, .int .i64 b.depth, .int .i64 b.speed, .int .i64 b.mast, .int .i64 b.noise, .bool b.afloat, .bool b.radar, .bool b.sonar, .bool b.ping], .agg #[.int .i64 t.id, .int .i64 t.team, .int .i64 t.x, .int .i64 t.y, .int .i64 t.depth, .int .i64 t.speed, .int .i64 t.mast, .int .i64 t.noise, .bool t.afloat, .bool t.radar, .bool t.sonar, .bool t.ping], .int .i64 Kk] (by simp [go_sem]) (cG _).out ?_
                          rintro e w9 ⟨rfl, b9⟩
                          have HY9 := hide (HY8.out.below b9)
                          have HB9 := hide (HB8.out.below b9)
                          have HR9 := hide (HR8.out.below b9)
                          have HE9 := hide (lec HE8.out b9)
                          have zS9 := conj24b (o := b) (t := t) HY9.out HB9.out
                          clear b9
                          have bA := be1 w9 (.cells #[.int .i64 T, .int .i64 I, .int .i64 Kk, .int .i64 b.id, .int .i64 dd, .int .i64 gg] 58)
                          have HYA := hide (HY9.out.below bA)
                          have HBA := hide (HB9.out.below bA)
                          have HRA := hide (HR9.out.below bA)
                          have HEA := hide (lec HE9.out bA)
                          have zSA := conj24b (o := b) (t := t) HYA.out HBA.out
                          clear bA
                          refine ⟨_, rfl, ?_⟩
                          refine hK.out _ _ ?_ (fun hHeld => ?_)
                          · (first | with_reducible exact zS | with_reducible exact zS8 | with_reducible exact zS9 | with_reducible exact zSA | with_reducible exact zSG | exact zSA)
                          clear hK K
                          try simp only [Act.put, List.getElem_toArray, List.getElem_cons_zero, List.getElem_cons_succ, List.setIfInBounds_toArray, List.set_cons_zero, List.set_cons_succ]
                          refine wpAnyH_take (i := 13) (v := ?_) rfl (by kernel_rfl) (by kernel_rfl) (by kernel_rfl) (fun _ _ _ h => h) (Or.inl ⟨by rfl, ?_⟩) (by assumption) ?_
                          rotate_left
                          · (intro w hSw; (try dsimp only at hSw); go_simp; try (with_reducible rfl))
                          try simp only [Act.put, List.getElem_toArray, List.getElem_cons_zero, List.getElem_cons_succ, List.setIfInBounds_toArray, List.set_cons_zero, List.set_cons_succ]
                          refine wpAnyH_ready (rs := [14]) (by kernel_rfl) (by simp) ?_
                          refine (AllReadyH.cons rfl (fun K hK => ?_) AllReadyH.nil)
                          · go_simp
                            refine hK.out _ _ ?_ (fun hHeld => ?_)
                            · (first | with_reducible exact zS | with_reducible exact zS8 | with_reducible exact zS9 | with_reducible exact zSA | with_reducible exact zSG | exact zSA)
                            clear hK K
                            try simp only [Act.put, List.getElem_toArray, List.getElem_cons_zero, List.getElem_cons_succ, List.setIfInBounds_toArray, List.set_cons_zero, List.set_cons_succ]
                            refine wpAnyH_ready (rs := [15]) (by kernel_rfl) (by simp) ?_
                            refine (AllReadyH.cons rfl (fun K hK => ?_) AllReadyH.nil)
                            · refine step_append_lies _ rfl (.tmp 76) (.tmp 90) 34 rfl w.heap.size 58 i0 _ 6 48 Try.underlying34 hi0 hz0 hz1 hz2 rfl (by decide) (.slice a Ds.length c) Ds.length (Ds.flatMap Det.vals) rfl HRA.out ⟨w9.heap.size, 0, none⟩ 1 1 (Det.vals ⟨T, I, Kk, b.id, dd, gg⟩) rfl rfl (fun j u hj => new_cells w9 (Det.vals ⟨T, I, Kk, b.id, dd, gg⟩) 58 j u hj) (dvals_one ⟨T, I, Kk, b.id, dd, gg⟩) (by decide) (by unfold maxLen; omega) (by omega) HEA.out.size _ rfl ?_
                              intro g2 cap2 w2 hr hg hat hlt2
                              have exg := Ex.ofGrown (S := fun k => (Value.slice a Ds.length c).ownBlock = some k) hg (fun k e => e.symm)
                              have HBG := hide (HBA.out.keep exg HNQ.out)
                              have HYG := hide (HYA.out.keep exg HNY.out)
                              have HEG := hide (bel_grown HEA.out HRA.out hg)
                              have HRG := hide hr
                              have HNG := hide (show (Value.slice (some ⟨g2, 0, none⟩) (Ds.length + 1) cap2).ownBlock ≠ some q7 from fun e => by
                                have e2 : g2 = q7 := by simpa [Value.ownBlock] using e
                                rcases hat with z | z
                                · exact HNQ.out (by rw [z, e2])
                                · have hql : q7 < _ := World.block_lt_of_cell? _ _ HBA.out.c0; omega)
                              have zSG := conj24b (o := b) (t := t) HYG.out HBG.out
                              clear hr hg hat hlt2 exg
                              refine hK.out _ _ ?_ (fun hHeld => ?_)
                              · (first | with_reducible exact zS | with_reducible exact zS8 | with_reducible exact zS9 | with_reducible exact zSA | with_reducible exact zSG | exact zSA)
                              clear hK K
                              try simp only [Act.put, List.getElem_toArray, List.getElem_cons_zero, List.getElem_cons_succ, List.setIfInBounds_toArray, List.set_cons_zero, List.set_cons_succ]
                              refine wpAnyH_take (i := 16) (v := ?_) rfl (by kernel_rfl) (by kernel_rfl) (by kernel_rfl) (fun _ _ _ h => h) (Or.inl ⟨by rfl, ?_⟩) (by assumption) ?_
                              rotate_left
                              · (intro w hSw; (try dsimp only at hSw); go_simp; try (with_reducible rfl))
                              try simp only [Act.put, List.getElem_toArray, List.getElem_cons_zero, List.getElem_cons_succ, List.setIfInBounds_toArray, List.set_cons_zero, List.set_cons_succ]
                              refine wpAnyH_done (by kernel_rfl) ?_ _
                              go_wp2
                              go_roundw
                              case rel =>
                                refine ⟨Kk + 1, by omega, by simp, some ⟨g2, 0, none⟩, cap2, ?_, ?_, ?_, HBG.out, HEG.out⟩
                                · rw [HTK.out]; simp
                                · rw [HTK.out]; have := HRG.out; show World.ownsRow _ _ _ _ _ _ _; simpa using this
                                · rw [HTK.out]; simpa using HNG.out
                              case measure => simp [intOf]; omega
              · obtain rfl : Kk = 4 := by omega
                go_wp2
                go_roundw
                case rel =>
                  refine ⟨I + 1, a, c, by omega, by simp, ?_, ?_, HE.out⟩
                  · rw [show T * 192 + (I + 1) * 4 = T * 192 + I * 4 + 4 by omega]
                  · rw [show T * 192 + (I + 1) * 4 = T * 192 + I * 4 + 4 by omega]; exact HR.out
                case measure => simp [intOf]; omega
        · obtain rfl : I = 48 := by omega
          go_wp2
          go_roundw
          case rel =>
            refine ⟨T + 1, a, c, by omega, by simp, ?_, ?_, HE.out⟩
            · rw [show (T + 1) * 192 = T * 192 + 48 * 4 by omega]
            · rw [show (T + 1) * 192 = T * 192 + 48 * 4 by omega]; exact HR.out
          case measure => simp [intOf]; omega
    · obtain rfl : T = 4 := by omega
      go_wp2
      go_ret
      exact ⟨_, rfl, HR.out, HE.out⟩
end Go.Proofs.Qxb6500776a
