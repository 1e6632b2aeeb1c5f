import Derived.Test.Qxb6500784aTn
namespace Go.Proofs.Qxb6500784a
open Go.RowKit

attribute [-simp] Try.isAgg95 Try.sizeOf95 Try.typeInfo95 Try.isAgg70 Try.sizeOf70 Try.typeInfo70 Try.isAgg65 Try.sizeOf65 Try.typeInfo65 Try.isAgg56 Try.sizeOf56 Try.typeInfo56 Try.isAgg68 Try.sizeOf68 Try.typeInfo68
attribute [local irreducible] rootP shaP
theorem HL.exz {w : World} {b k : Nat} {P : Pr} {S : List Nat} {x y : World} {Z : Nat → Prop} (h : HL w b k P S x) (ex : Ex Z x y) (hz : ∀ j, Z j → w.heap.size ≤ j ∧ j ≠ b ∧ j ∉ S) : HL w b k P S y :=
  ⟨h.iv, h.pp.ex ex (fun e => (hz _ e).2.1 rfl) (fun j hj e => (hz j e).2.2 hj), h.be.trans (ex.below h.be.size (fun j hj e => by have := (hz j e).1; omega)), h.ge⟩
set_option linter.unusedSimpArgs false in
set_option maxRecDepth 100000 in
set_option maxHeartbeats 8000000 in
theorem totalsKept_walk (w : World) (a : Option Addr) (n cap : Nat) (O : Nat → OpR) (hn : n ≤ 9223372036854775807) (ho : OpsAt4 w a n O) :
    Calls Try.prog 10 #[.slice a n cap] w fun e w' => e = .returned (.bool true) ∧ Below w.heap.size w w' := by
  have HO := hide ho.1.1.1
  have HO4 := hide ho.2
  clear ho
  go_enter Try.func10, Try.ntmps10
  go_wp2_with fail
  refine (small_n _ a n cap O hn HO.out).mono ?_
  rintro e w ⟨bb, ⟨rfl, rfl⟩, hsmall⟩
  cases bb
  · go_wp2
    go_ret
    exact ⟨rfl, Below.refl _ _⟩
  have HSM := hide (hsmall rfl)
  clear hsmall
  go_upto_region 4 with (go_at_call 19; refine (newPairL_any _).mono ?_; rintro e w1 ⟨rfl, S0, hp, hb, hg⟩; have HH0 : Hid (HL w w.heap.size 0 pr0 S0 w1) := (⟨iv0, hp, hb, hg⟩ : HL w w.heap.size 0 pr0 S0 w1); clear hp hb hg; simp only [])
  obtain ⟨b, hb⟩ : ∃ b, w.heap.size = b := ⟨_, rfl⟩
  have HBb : Hid (w.heap.size ≤ b) := by rw [← hb]; exact Nat.le_refl _
  simp only [hb] at HH0 ⊢
  clear hb
  go_wp2
  go_loopw [20] (fun s20 wr => ∃ (k : Nat) (P : Pr) (S : List Nat), k ≤ n ∧ s20 = .int .i64 k ∧ HL w b k P S wr ∧ TI P) (fun s20 _ => n - (intOf s20).toNat)
  case atStart => exact ⟨0, pr0, S0, Nat.zero_le _, rfl, HH0.out, ti0⟩
  case round =>
    clear HH0
    obtain ⟨k, P, S, hk, rfl, hh, hti⟩ := hrel
    have HH := hide hh
    clear hh
    have HTI := hide hti
    clear hti
    by_cases hlt : k < n
    · have d1 : decide ((k : Int) < (n : Int)) = true := by simp; omega
      have hki : (k : Int) < (n : Int) := by omega
      obtain ⟨lb, off, ha, hc, hop⟩ := (HO.out.below HH.out.be) k hlt
      subst ha
      obtain ⟨⟨kd, ch, pt, gs, ac, tk, am, hv, hr1, hr2, hr3, hr4, hr5⟩⟩ := (HO4.out k hlt).1
      have HRR := hide (And.intro hr1 (And.intro hr2 (And.intro hr3 (And.intro hr4 hr5))))
      have HVV := hide (HO4.out k hlt).2
      have HLN := hide hop.ln
      have HLG : Hid (LegsAt w (O k).la (O k).ln (O k).L) := by
        obtain ⟨_, _, _, _, h5⟩ := HO.out k hlt
        exact h5.legs
      have o0 : wr.cell? ⟨lb, off + k * 8, none⟩ = some (.int .i64 kd) := by have := hc 0 (by omega); rw [hv 0 (by omega)] at this; exact this
      have o1 : wr.cell? ⟨lb, off + k * 8 + 1, none⟩ = some (.slice (O k).la (O k).ln (O k).lc) := by have := hc 1 (by omega); rw [hv 1 (by omega)] at this; exact this
      have o2 : wr.cell? ⟨lb, off + k * 8 + 2, none⟩ = some (.int .u8 ch) := by have := hc 2 (by omega); rw [hv 2 (by omega)] at this; exact this
      have o3 : wr.cell? ⟨lb, off + k * 8 + 3, none⟩ = some (.int .i64 pt) := by have := hc 3 (by omega); rw [hv 3 (by omega)] at this; exact this
      have o4 : wr.cell? ⟨lb, off + k * 8 + 4, none⟩ = some (.int .u64 gs) := by have := hc 4 (by omega); rw [hv 4 (by omega)] at this; exact this
      have o5 : wr.cell? ⟨lb, off + k * 8 + 5, none⟩ = some (.int .u8 ac) := by have := hc 5 (by omega); rw [hv 5 (by omega)] at this; exact this
      have o6 : wr.cell? ⟨lb, off + k * 8 + 6, none⟩ = some (.int .u8 tk) := by have := hc 6 (by omega); rw [hv 6 (by omega)] at this; exact this
      have o7 : wr.cell? ⟨lb, off + k * 8 + 7, none⟩ = some (.int .u64 am) := by have := hc 7 (by omega); rw [hv 7 (by omega)] at this; exact this
      clear hc hop hv hr1 hr2 hr3 hr4 hr5
      generalize (O k).la = la at *
      generalize (O k).ln = ln at *
      generalize (O k).lc = lc at *
      generalize (O k).L = L at *
      have HBE := hide (be1 wr (.cells #[.int .i64 kd, .slice la ln lc, .int .u8 ch, .int .i64 pt, .int .u64 gs, .int .u8 ac, .int .u8 tk, .int .u64 am] 33))
      have HN := hide (newR wr [.int .i64 kd, .slice la ln lc, .int .u8 ch, .int .i64 pt, .int .u64 gs, .int .u8 ac, .int .u8 tk, .int .u64 am] 33)
      go_upto_region 7 with fail
      obtain ⟨D, hD⟩ : ∃ D, wr.heap.size = D := ⟨_, rfl⟩
      have HSZ : Hid ((wr.alloc (.cells #[.int .i64 kd, .slice la ln lc, .int .u8 ch, .int .i64 pt, .int .u64 gs, .int .u8 ac, .int .u8 tk, .int .u64 am] 33)).heap.size = D + 1) := by show _ = _; rw [← hD]; simp
      have HDD : Hid (b < D ∧ ∀ j, j ∈ S → j < D) := by rw [← hD]; exact ⟨HH.out.pp.bl, fun j hj => HH.out.pp.lt hj⟩
      have HH2 := hide (HH.out.below HBE.out)
      rw [hD] at HN ⊢
      clear hD o0 o1 o2 o3 o4 o5 o6 o7 HH
      generalize wr.alloc (.cells #[.int .i64 kd, .slice la ln lc, .int .u8 ch, .int .i64 pt, .int .u64 gs, .int .u8 ac, .int .u8 tk, .int .u64 am] 33) = w2 at *
      clear HBE
      have HZK : Hid (9 * k ≤ 800000000000) := by show 9 * k ≤ _; have := HSM.out; omega
      have HST : Hid (∀ (S : List Nat) (x : World), HL w b k P S x → Calls Try.prog 22 #[.pointer (some ⟨b, 0, none⟩), .agg #[.int .i64 kd, .slice la ln lc, .int .u8 ch, .int .i64 pt, .int .u64 gs, .int .u8 ac, .int .u8 tk, .int .u64 am]] x fun e w' => ∃ v, StPost x b S (stepS P kd ln L (fun q => txOf (L q)) ch pt gs ac tk am) (stepAn P kd ln L (fun q => txOf (L q)) ch pt gs ac tk am v) e w') := fun S x hx =>
        step_any x w b P S hx.pp (hx.iv.psm HZK.out) hx.be HBb.out hx.ge hx.iv.gi.oa hx.iv.gi.ob kd la ln lc L (fun q => txOf (L q)) HLN.out HLG.out (fun _ => HVV.out) (9 * k) hx.iv.bd HZK.out ch pt gs ac tk am HRR.out.1 HRR.out.2.1 HRR.out.2.2.1 HRR.out.2.2.2.1 HRR.out.2.2.2.2
      have HIN : Hid (Iv (9 * (k + 1)) (stepS P kd ln L (fun q => txOf (L q)) ch pt gs ac tk am)) := iv_step HH2.out.iv (fun q hq => (HVV.out q hq).k) HRR.out.2.1
      have p0 : w2.cell? ⟨D, 0, none⟩ = some (.int .i64 kd) := by have := HN.out 0 _ rfl; rwa [Nat.zero_add] at this
      have p1 : w2.cell? ⟨D, 1, none⟩ = some (.slice la ln lc) := by have := HN.out 1 _ rfl; rwa [Nat.zero_add] at this
      have p2 : w2.cell? ⟨D, 2, none⟩ = some (.int .u8 ch) := by have := HN.out 2 _ rfl; rwa [Nat.zero_add] at this
      have p3 : w2.cell? ⟨D, 3, none⟩ = some (.int .i64 pt) := by have := HN.out 3 _ rfl; rwa [Nat.zero_add] at this
      have p4 : w2.cell? ⟨D, 4, none⟩ = some (.int .u64 gs) := by have := HN.out 4 _ rfl; rwa [Nat.zero_add] at this
      have p5 : w2.cell? ⟨D, 5, none⟩ = some (.int .u8 ac) := by have := HN.out 5 _ rfl; rwa [Nat.zero_add] at this
      have p6 : w2.cell? ⟨D, 6, none⟩ = some (.int .u8 tk) := by have := HN.out 6 _ rfl; rwa [Nat.zero_add] at this
      have p7 : w2.cell? ⟨D, 7, none⟩ = some (.int .u64 am) := by have := HN.out 7 _ rfl; rwa [Nat.zero_add] at this
      have HTI2 : Hid (TI (stepS P kd ln L (fun q => txOf (L q)) ch pt gs ac tk am)) := ti_step HTI.out (fun i hi => by
        have hv := HVV.out i hi
        obtain ⟨_, _, _, _, hlk⟩ := HLG.out i hi
        refine ⟨hv.k, ?_⟩
        have e3 : (legL (L i))[2 + 1]? = some (.int .u8 (L i).tch) := by rw [legL_at _ (by omega), hlk.v3]
        have e4 := hv.x 1 _ (fld_at hv.k (by omega))
        rw [e3] at e4
        injection e4 with e4
        injection e4 with _ e4
        exact e4.symm)
      generalize stepS P kd ln L (fun q => txOf (L q)) ch pt gs ac tk am = P2 at *
      generalize stepAn P kd ln L (fun q => txOf (L q)) ch pt gs ac tk am = AN at *
      go_upto_region 8 with (go_at_call 22; refine (HST.out S w2 HH2.out).mono ?_; rintro e y3 ⟨v, vo, vr, vs, C, S3, rfl, hrl, hok, hmo, hk3, hp3, hC3⟩; have HK3 := hide hk3; have HP3 := hide hp3; clear hrl hok hmo hk3 hp3 hC3; simp only [])
      have HH5 := hide (HH2.out.link HBb.out HK3.out HP3.out HIN.out)
      have HZ2 : Hid (9 * (k + 1) ≤ 800000000000) := by show 9 * (k + 1) ≤ _; have := HSM.out; omega
      have HPS : Hid (PSm P2) := HH5.out.iv.psm HZ2.out
      generalize (AN v).vals vo vr vs = AV at *
      clear HK3 HP3 HST HIN HH2 HN HSZ HDD HZK HTI p0 p1 p2 p3 p4 p5 p6 p7
      go_wp2_with (go_at_call 20; refine (worldNew y3 b P2 S3 HH5.out.pp HPS.out).mono ?_; rintro e y1 ⟨F1, S1, rfl, hl1, ho1, hb1, hs1, hp1⟩; have HF1l := hide hl1; have HF11 := hide ho1; have HB1 := hide hb1; have HS1 := hide hs1; have HP1 := hide hp1; clear hl1 ho1 hb1 hs1 hp1; simp only [])
      simp only [Try.sizeOf56, Result.andThen, HF1l.out, ↓reduceIte, stNew y1 56 Try.zeroCells56 F1 667 Try.sz56 Try.zs56 HF1l.out HF11.out]
      rw [Oper.upon_skip]
      simp only [Act.put]
      have HB2 := hide (lec HB1.out (be1 y1 (.cells F1.toArray 56)))
      have HH6 := hide (HH5.out.below HB2.out)
      obtain ⟨A1, hA1⟩ : ∃ A, y1.heap.size = A := ⟨_, rfl⟩
      rw [hA1] at HP1 ⊢
      generalize y1.alloc (.cells F1.toArray 56) = y2 at *
      clear hA1 HF1l HF11 HB1 HB2 HS1 HH5
      obtain ⟨D1, hD1⟩ : ∃ D, y2.heap.size = D := ⟨_, rfl⟩
      have HRW : Hid (∀ f, RowAt y2 A1 (boxO f + 1) (P2.box f).out (fun k => k = D1 ∨ k = D1 + 1 ∨ k = D1 + 2) ∧ RowAt y2 A1 (boxO f + 2) (P2.box f).inb (fun k => k = D1 ∨ k = D1 + 1 ∨ k = D1 + 2)) := fun f => HP1.out.rows (fun j hj => by omega) f
      have HAb : Hid (A1 < D1 ∧ ∀ j, j ∈ S1 → j < D1) := by rw [← hD1]; exact ⟨HP1.out.bl, fun j hj => HP1.out.lt hj⟩
      have n1 := ar_new y2
      have n2 := ar_new (y2.alloc (.cells arr0 98))
      have n3 := ar_new ((y2.alloc (.cells arr0 98)).alloc (.cells arr0 98))
      have HX : Hid (Ex (fun k => k = D1 ∨ k = D1 + 1 ∨ k = D1 + 2) y2 (((y2.alloc (.cells arr0 98)).alloc (.cells arr0 98)).alloc (.cells arr0 98))) := Ex.of (S := (fun k => k = D1 ∨ k = D1 + 1 ∨ k = D1 + 2)) ((((Below.refl _ _).alloc (Nat.le_refl _) _).alloc (by simp) _).alloc (by simp; omega) _)
      have HBA := hide ((((Below.refl y2.heap.size y2).alloc (Nat.le_refl _) (.cells arr0 98)).alloc (by simp) (.cells arr0 98)).alloc (by simp; omega) (.cells arr0 98))
      rw [show (y2.alloc (.cells arr0 98)).heap.size = D1 + 1 by simp [hD1]] at n2
      rw [show ((y2.alloc (.cells arr0 98)).alloc (.cells arr0 98)).heap.size = D1 + 2 by simp [hD1]] at n3
      rw [hD1] at n1
      have HAD := hide ((n1.below (be1 _ (.cells arr0 98))).below (be1 _ (.cells arr0 98)))
      have HAO := hide (n2.below (be1 _ (.cells arr0 98)))
      have HAF := hide n3
      clear n1 n2 n3
      go_upto_region 10 with fail
      try rw [hD1]
      have HYs : Hid (y2.heap.size = D1) := hD1
      clear hD1 HBA
      generalize ((y2.alloc (.cells arr0 98)).alloc (.cells arr0 98)).alloc (.cells arr0 98) = x0 at *
      obtain ⟨va, vc, c663, r1, s1⟩ := ((HRW.out 3).1.ex HX.out).x
      have hle := own_le r1
      have HR1 := hide r1
      have HS1 := hide s1
      have HMs := hide (HRW.out 3).1.m
      clear r1 s1
      replace c663 : x0.cell? ⟨A1, 663, none⟩ = some (.slice va (P2.box 3).out.length vc) := c663
      have HXX : Hid (Ex (fun j => j = D1) x0 x0) := Ex.refl _ _
      go_upto_block 2 with fail
      go_cut [33] (fun _ wx => Ex (fun j => j = D1) x0 wx ∧ AR wx D1 ((P2.box 3).out.foldl depF (fun _ => 0)))
      case first =>
        go_wp2
        clear c663
        go_loopw [33] (fun s33 wr => ∃ i : Nat, i ≤ (P2.box 3).out.length ∧ s33 = .int .i64 i ∧ Ex (fun j => j = D1) x0 wr ∧ AR wr D1 (((P2.box 3).out.take i).foldl depF (fun _ => 0))) (fun s33 _ => (P2.box 3).out.length - (intOf s33).toNat)
        case atStart => exact ⟨0, Nat.zero_le _, rfl, HXX.out, HAD.out⟩
        case round =>
          obtain ⟨i, hi, rfl, hx, ho⟩ := hrel
          have HXr := hide hx
          have HOR := hide ho
          clear hx ho
          by_cases hlt : i < (P2.box 3).out.length
          · have d2 : decide ((i : Int) < ((P2.box 3).out.length : Int)) = true := by simp; omega
            have hii : (i : Int) < ((P2.box 3).out.length : Int) := by omega
            obtain ⟨m, hm⟩ : ∃ m, (P2.box 3).out[i]? = some m := ⟨_, List.getElem?_eq_getElem hlt⟩
            have hmm := List.mem_of_getElem? hm
            have HMO := hide (HMs.out m hmm)
            have HTO : Hid (((P2.box 3).out.take (i + 1)).foldl depF (fun _ => 0) = depF (((P2.box 3).out.take i).foldl depF (fun _ => 0)) m) := by show _ = _; rw [List.take_add_one, hm, List.foldl_append]; rfl
            have hr2 := own_kept HR1.out HXr.out (fun j hj e => HS1.out j hj (.inl e))
            obtain ⟨g, _, hg⟩ := own_some hr2 (by omega)
            cases hg
            have HVR := hide (msg_at hr2 HMs.out hm)
            have h6 := fld_r HMO.out (j := 6) (by omega)
            have htk4 := HTI2.out.d m hmm
            obtain ⟨tk, hto6⟩ : ∃ t : Nat, (fld m 6).toNat = t := ⟨_, rfl⟩
            have h6i : fld m 6 = (tk : Int) := by omega
            have htk : tk < 4 := by omega
            have htki : (tk : Int) < 4 := by omega
            obtain ⟨am', hto7⟩ : ∃ a, fld m 7 = a := ⟨_, rfl⟩
            have HV6 : Hid ((msv m)[6]? = some (.int .u8 tk)) := by rw [← h6i]; exact fld_at HMO.out (by omega)
            have HV7 : Hid ((msv m)[7]? = some (.int .u64 am')) := by rw [← hto7]; exact fld_at HMO.out (by omega)
            have HVl : Hid ((msv m).length = 41) := msv_len HMO.out
            have HVo : Hid (∀ u ∈ msv m, u.oneCell' = true) := kvs_one _ _
            have HOe : Hid (∀ X, depF X m = addAt X tk am') := fun X => by unfold depF; rw [hto6, hto7]
            rw [HOe.out] at HTO
            clear hto6 hto7 h6i h6 htk4 HMO hm hmm hr2 HOe
            generalize msv m = V at *
            generalize ((P2.box 3).out.take i).foldl depF (fun _ => 0) = O1 at *
            go_upto_region 12 with fail
            go_wp2_with fail
            simp only [Try.sizeOf68, Result.andThen]
            rw [Oper.upon_value]
            go_wp2_with fail
            simp only [Try.isAgg68, Try.sizeOf68, Result.andThen, ↓reduceIte, ldC wr g (i * 41) V 41 HVl.out HVR.out]
            rw [Oper.upon_value]
            go_wp2_with fail
            simp only [Try.sizeOf68, Result.andThen, HVl.out, ↓reduceIte, stNew wr 68 #[.int .u8 0, .int .u8 0, .int .u8 0, .int .u8 0, .int .u8 0, .int .u64 0, .int .u8 0, .int .u64 0, .int .u8 0, .int .u8 0, .int .u8 0, .int .u8 0, .int .u8 0, .int .u8 0, .int .u8 0, .int .u8 0, .int .u8 0, .int .u8 0, .int .u8 0, .int .u8 0, .int .u8 0, .int .u8 0, .int .u8 0, .int .u8 0, .int .u8 0, .int .u8 0, .int .u8 0, .int .u8 0, .int .u8 0, .int .u8 0, .int .u8 0, .int .u8 0, .int .u8 0, .int .u8 0, .int .u8 0, .int .u8 0, .int .u8 0, .int .u8 0, .int .u8 0, .int .u8 0, .int .u8 0] V 41 Try.sz68 rfl HVl.out HVo.out]
            rw [Oper.upon_skip]
            simp only [Act.put]
            have hbn := be1 wr (.cells V.toArray 68)
            have HX2 := hide (HXr.out.trans2 (Ex.of (S := fun _ => False) hbn) (fun _ e => e.elim))
            have HRO := hide (HOR.out.below hbn)
            have HER := hide (newR wr V 68)
            obtain ⟨E, hE⟩ : ∃ E, wr.heap.size = E := ⟨_, rfl⟩
            rw [hE] at HER ⊢
            generalize wr.alloc (.cells V.toArray 68) = wz at *
            clear hE hbn HVR HVo HXr HOR
            have e6 : wz.cell? ⟨E, 6, none⟩ = some (.int .u8 tk) := by have := HER.out 6 _ HV6.out; rwa [Nat.zero_add] at this
            have e7 : wz.cell? ⟨E, 7, none⟩ = some (.int .u64 am') := by have := HER.out 7 _ HV7.out; rwa [Nat.zero_add] at this
            have cO := HRO.out.c tk htk
            have fO := HRO.out.f tk htk
            obtain ⟨x0', hx0⟩ : ∃ x, O1 tk = x := ⟨_, rfl⟩
            rw [hx0] at cO
            obtain ⟨x1, hx1⟩ : ∃ x, w64 (x0' + am') = x := ⟨_, rfl⟩
            have hwx : IntKind.u64.wrap (x0' + am') = x1 := by rw [IntKind.wrap_u64, ← hx1]; rfl
            have HNA := hide (HRO.out.set (k := tk) am')
            rw [hx0, hx1] at HNA
            have HXF := hide (HX2.out.set (j := tk) rfl (.int .u64 x1))
            clear hx0 hx1
            go_upto_region 13 with fail
            go_region
            replace HNA := hide (HNA.out.below ((Below.refl _ _).drew))
            replace HXF := hide (HXF.out.drew)
            go_wp2
            go_roundw
            case rel => exact ⟨i + 1, by omega, by go_num, HXF.out, by rw [HTO.out]; exact HNA.out⟩
            case measure => simp [intOf]; omega
          · obtain rfl : i = (P2.box 3).out.length := by omega
            have d2 : decide (((P2.box 3).out.length : Int) < ((P2.box 3).out.length : Int)) = false := by simp
            rw [List.take_length] at HOR
            go_wp2
            go_meet
            exact ⟨HXr.out, HOR.out⟩
      obtain ⟨hx1, hd1⟩ := hcut
      have HX1 := hide hx1
      replace HAD := hide hd1
      replace HAO := hide (HAO.out.ex hx1 (by omega))
      replace HAF := hide (HAF.out.ex hx1 (by omega))
      replace HX := hide (HX.out.trans2 hx1 (fun j hj => .inl (.inl hj)))
      have HB3' := hide (show Ex (fun k => k = D1 ∨ k = D1 + 1 ∨ k = D1 + 2) x0 wc from hx1.mono (fun j hj => .inl hj))
      clear hx1 hd1 HX1 HXX c663 HR1 HS1
      go_upto_region 15 with fail
      have HB15 := hide (burns_any wc A1 662 A1 652 A1 657 (D1 + 1) (D1 + 2) (P2.box 3).out (P2.box 1).inb (P2.box 2).inb (fun _ => 0) (fun _ => 0) ((HRW.out 3).1.ex HX.out |>.mono (fun _ e => .inr e)) ((HRW.out 1).2.ex HX.out |>.mono (fun _ e => .inr e)) ((HRW.out 2).2.ex HX.out |>.mono (fun _ e => .inr e)) HAO.out HAF.out (by omega) (HTI2.out.tk 3 (.inr (.inr rfl))))
      go_upto_region 16 with (go_at_call 39; refine HB15.out.mono ?_; rintro e z1 ⟨rfl, hx, ho, hf⟩; have HXb := hide hx; have HAO' := hide ho; have HAF' := hide hf; clear hx ho hf; simp only [])
      replace HX := hide (HX.out.trans2 HXb.out (fun j hj => .inl (.inr hj)))
      replace HAD := hide (HAD.out.ex HXb.out (by omega))
      replace HAO := hide HAO'.out
      replace HAF := hide HAF'.out
      clear HXb HAO' HAF' HB15
      have HB16 := hide (burns_any z1 A1 652 A1 652 A1 657 (D1 + 1) (D1 + 2) (P2.box 1).out (P2.box 1).inb (P2.box 2).inb _ _ ((HRW.out 1).1.ex HX.out |>.mono (fun _ e => .inr e)) ((HRW.out 1).2.ex HX.out |>.mono (fun _ e => .inr e)) ((HRW.out 2).2.ex HX.out |>.mono (fun _ e => .inr e)) HAO.out HAF.out (by omega) (HTI2.out.tk 1 (.inl rfl)))
      go_upto_region 17 with (go_at_call 39; refine HB16.out.mono ?_; rintro e z2 ⟨rfl, hx, ho, hf⟩; have HXb := hide hx; have HAO' := hide ho; have HAF' := hide hf; clear hx ho hf; simp only [])
      replace HX := hide (HX.out.trans2 HXb.out (fun j hj => .inl (.inr hj)))
      replace HAD := hide (HAD.out.ex HXb.out (by omega))
      replace HAO := hide HAO'.out
      replace HAF := hide HAF'.out
      clear HXb HAO' HAF' HB16
      have HB17 := hide (burns_any z2 A1 657 A1 652 A1 657 (D1 + 1) (D1 + 2) (P2.box 2).out (P2.box 1).inb (P2.box 2).inb _ _ ((HRW.out 2).1.ex HX.out |>.mono (fun _ e => .inr e)) ((HRW.out 1).2.ex HX.out |>.mono (fun _ e => .inr e)) ((HRW.out 2).2.ex HX.out |>.mono (fun _ e => .inr e)) HAO.out HAF.out (by omega) (HTI2.out.tk 2 (.inr (.inl rfl))))
      go_upto_region 18 with (go_at_call 39; refine HB17.out.mono ?_; rintro e z3 ⟨rfl, hx, ho, hf⟩; have HXb := hide hx; have HAO' := hide ho; have HAF' := hide hf; clear hx ho hf; simp only [])
      replace HX := hide (HX.out.trans2 HXb.out (fun j hj => .inl (.inr hj)))
      replace HAD := hide (HAD.out.ex HXb.out (by omega))
      replace HAO := hide HAO'.out
      replace HAF := hide HAF'.out
      clear HXb HAO' HAF' HB17
      have HOF : Hid (∀ t : Nat, t < 4 → ∀ O F D : Int, O = List.foldl outF (List.foldl outF (List.foldl outF (fun _ => 0) (P2.box 3).out) (P2.box 1).out) (P2.box 2).out t → F = List.foldl (flyF (P2.box 1).inb (P2.box 2).inb) (List.foldl (flyF (P2.box 1).inb (P2.box 2).inb) (List.foldl (flyF (P2.box 1).inb (P2.box 2).inb) (fun _ => 0) (P2.box 3).out) (P2.box 1).out) (P2.box 2).out t → D = List.foldl depF (fun _ => 0) (P2.box 3).out t → 0 ≤ D ∧ D < 18446744073709551616 → w64 (w64 (w64 (supP P2.la t + supP P2.lb t) + F) + O) = D) := fun t ht O F D eO eF eD hr => by
        refine tk_fin HTI2.out ht ?_ ?_ hr
        · have g1 := burn_cong (P2.box 1).inb (P2.box 2).inb t (P2.box 3).out (fun _ => 0) (fun _ => 0) (HRW.out 3).1.m
          have g2 := burn_cong (P2.box 1).inb (P2.box 2).inb t (P2.box 1).out (List.foldl outF (fun _ => 0) (P2.box 3).out) (List.foldl (flyF (P2.box 1).inb (P2.box 2).inb) (fun _ => 0) (P2.box 3).out) (HRW.out 1).1.m
          have g3 := burn_cong (P2.box 1).inb (P2.box 2).inb t (P2.box 2).out (List.foldl outF (List.foldl outF (fun _ => 0) (P2.box 3).out) (P2.box 1).out) (List.foldl (flyF (P2.box 1).inb (P2.box 2).inb) (List.foldl (flyF (P2.box 1).inb (P2.box 2).inb) (fun _ => 0) (P2.box 3).out) (P2.box 1).out) (HRW.out 2).1.m
          rw [← eO, ← eF] at g3
          obtain ⟨q1, e1⟩ := g1
          obtain ⟨q2, e2⟩ := g2
          obtain ⟨q3, e3⟩ := g3
          unfold tot
          exact ⟨q1 + q2 + q3, by omega⟩
        · have g := dep_cong t (P2.box 3).out (fun _ => 0) (HRW.out 3).1.m
          rw [← eD] at g
          obtain ⟨q, e⟩ := g
          unfold dep
          exact ⟨q, by omega⟩
      have HPZ := hide (HP1.out.ex HX.out (by have := HAb.out.1; omega) (fun j hj e => by have := HAb.out.2 j hj; omega))
      have HHZ := hide (HH6.out.exz HX.out (fun j hj => by have h1 := HH6.out.be.size; have h2 := HH6.out.pp.bl; have h3 := HYs.out; exact ⟨by omega, by omega, fun e => by have := HH6.out.pp.lt e; omega⟩))
      generalize List.foldl outF (List.foldl outF (List.foldl outF (fun _ => 0) (P2.box 3).out) (P2.box 1).out) (P2.box 2).out = OO at *
      generalize List.foldl (flyF (P2.box 1).inb (P2.box 2).inb) (List.foldl (flyF (P2.box 1).inb (P2.box 2).inb) (List.foldl (flyF (P2.box 1).inb (P2.box 2).inb) (fun _ => 0) (P2.box 3).out) (P2.box 1).out) (P2.box 2).out = FF at *
      generalize List.foldl depF (fun _ => 0) (P2.box 3).out = DD at *
      clear HH6 HP1 HRW HX HAb HMs HB3' HPS HYs
      go_wp2
      go_loopw [12] (fun s12 wr => ∃ t : Nat, t ≤ 4 ∧ s12 = .int .i64 t ∧ Below z3.heap.size z3 wr) (fun s12 _ => 4 - (intOf s12).toNat)
      case atStart => exact ⟨0, by omega, rfl, Below.refl _ _⟩
      case round =>
        obtain ⟨t, ht, rfl, hb⟩ := hrel
        have HB := hide hb
        clear hb
        by_cases ht4 : t < 4
        · have d2 : decide ((t : Int) < 4) = true := by simp; omega
          have hti : (t : Int) < 4 := by omega
          have hE := HOF.out t ht4 (OO t) (FF t) (DD t) rfl rfl rfl (HAD.out.r t ht4)
          have HS : Hid (∀ (q : Nat) (y : World), q = 0 ∨ q = 326 → Below z3.heap.size z3 y → Calls Try.prog 40 #[.pointer (some ⟨A1, q, none⟩), .int .u8 t] y fun e w' => e = .returned (.int .u64 (if q = 0 then supP P2.la t else supP P2.lb t)) ∧ Below y.heap.size y w') := fun q y hq hy => by
            rcases hq with rfl | rfl
            · obtain ⟨B, hl, _⟩ := (HPZ.out.below hy).onA
              exact supply_any y A1 0 P2.la P2.sa B t ht4 hl
            · obtain ⟨B, hl, _⟩ := (HPZ.out.below hy).onB
              exact supply_any y A1 326 P2.lb P2.sb B t ht4 hl
          have HC1 := hide HAD.out.c
          have HC2 := hide HAO.out.c
          have HC3 := hide HAF.out.c
          have k1 := HC1.out t ht4
          have k2 := HC2.out t ht4
          have k3 := HC3.out t ht4
          generalize supP P2.la t = sa at *
          generalize supP P2.lb t = sb at *
          generalize OO t = ov at *
          generalize FF t = fv at *
          generalize DD t = dv at *
          obtain ⟨s1, hs1⟩ : ∃ x, w64 (sa + sb) = x := ⟨_, rfl⟩
          rw [hs1] at hE
          obtain ⟨s2, hs2⟩ : ∃ x, w64 (s1 + fv) = x := ⟨_, rfl⟩
          rw [hs2] at hE
          have hw1 : IntKind.u64.wrap (sa + sb) = s1 := by rw [IntKind.wrap_u64, ← hs1]; rfl
          have hw2 : IntKind.u64.wrap (s1 + fv) = s2 := by rw [IntKind.wrap_u64, ← hs2]; rfl
          have hw3 : IntKind.u64.wrap (s2 + ov) = dv := by rw [IntKind.wrap_u64, ← hE]; rfl
          clear hs1 hs2 hE
          go_upto_region 22 with (go_at_call 40; refine (HS.out _ _ (by simp) (by first | exact HBb.out | exact HB.out)).mono ?_; rintro e yy ⟨rfl, hbe⟩; have HBb : Hid (Below z3.heap.size z3 yy) := (by first | exact lec HBb.out hbe | exact lec HB.out hbe); clear hbe; simp only [↓reduceIte, show ((326 : Nat) = 0) = False from by simp])
          have a1 := cellKeep HBb.out k1
          have a2 := cellKeep HBb.out k2
          have a3 := cellKeep HBb.out k3
          go_quiet (fail)
          have HBF := hide (lec HBb.out (below_dn yy nq))
          go_wp2
          go_roundw
          case rel => exact ⟨t + 1, by omega, by go_num, HBF.out⟩
          case measure => simp [intOf]; omega
        · obtain rfl : t = 4 := by omega
          have HHF := hide (HHZ.out.below HB.out)
          go_wp2
          go_roundw
          case rel => exact ⟨k + 1, P2, S3, by omega, by go_num, HHF.out, HTI2.out⟩
          case measure => simp [intOf]; omega
    · obtain rfl : k = n := by omega
      have d1 : decide ((k : Int) < (k : Int)) = false := by simp
      have HBX := hide HH.out.be
      go_wp2
      go_ret
      exact ⟨rfl, HBX.out⟩
end Go.Proofs.Qxb6500784a
