import Derived.Test.Qxb6500784aMx
namespace Go.Proofs.Qxb6500784a
open Go.RowKit

attribute [-simp] Try.isAgg95 Try.sizeOf95 Try.typeInfo95 Try.isAgg70 Try.sizeOf70 Try.typeInfo70 Try.isAgg65 Try.sizeOf65 Try.typeInfo65 Try.isAgg56 Try.sizeOf56 Try.typeInfo56 Try.isAgg68 Try.sizeOf68 Try.typeInfo68 Try.isAgg89 Try.sizeOf89 Try.typeInfo89
attribute [local irreducible] rootP shaP
theorem zs89 : Try.zeroCells89.size = 87 := by kernel_rfl
theorem ord_zero {n : Nat} {L : Nat → Leg} (h : ordCode n L = 0) : bCode n L = 0 ∧ stuckP n (needM n L) = 0 := by
  unfold ordCode at h
  split at h
  · rename_i e; exact absurd h e
  · rename_i e
    split at h
    · cases h
    · rename_i e2; exact ⟨Classical.not_not.1 e, Classical.not_not.1 e2⟩
set_option linter.unusedSimpArgs false in
set_option maxRecDepth 100000 in
set_option maxHeartbeats 8000000 in
theorem messagesMatch_walk (w : World) (a : Option Addr) (n cap : Nat) (O : Nat → OpR) (hn : n ≤ 9223372036854775807) (ho : OpsAt4 w a n O) :
    Calls Try.prog 9 #[.slice a n cap] w fun e w' => e = .returned (.bool true) ∧ Below w.heap.size w w' := by
  have HO := hide ho.1.1.1
  have HO4 := hide ho.2
  clear ho
  go_enter Try.func9, Try.ntmps9
  go_wp2_with fail
  refine (small_n _ a n cap O hn HO.out).mono ?_
  rintro e w ⟨bb, ⟨rfl, rfl⟩, hsmall⟩
  cases bb
  · go_wp2
    go_ret
    exact ⟨rfl, Below.refl _ _⟩
  have HSM := hide (hsmall rfl)
  clear hsmall
  go_upto_region 4 with (go_at_call 19; refine (newPairL_any _).mono ?_; rintro e w1 ⟨rfl, S0, hp, hb, hg⟩; have HH0 : Hid (HL w w.heap.size 0 pr0 S0 w1) := (⟨iv0, hp, hb, hg⟩ : HL w w.heap.size 0 pr0 S0 w1); clear hp hb hg; simp only [])
  obtain ⟨b, hb⟩ : ∃ b, w.heap.size = b := ⟨_, rfl⟩
  have HBb : Hid (w.heap.size ≤ b) := by rw [← hb]; exact Nat.le_refl _
  simp only [hb] at HH0 ⊢
  clear hb
  go_wp2
  go_loopw [22] (fun s20 wr => ∃ (k : Nat) (P : Pr) (S : List Nat), k ≤ n ∧ s20 = .int .i64 k ∧ HL w b k P S wr) (fun s20 _ => n - (intOf s20).toNat)
  case atStart => exact ⟨0, pr0, S0, Nat.zero_le _, rfl, HH0.out⟩
  case round =>
    clear HH0
    obtain ⟨k, P, S, hk, rfl, hh⟩ := hrel
    have HH := hide hh
    clear hh
    by_cases hlt : k < n
    · have d1 : decide ((k : Int) < (n : Int)) = true := by simp; omega
      have hki : (k : Int) < (n : Int) := by omega
      obtain ⟨lb, off, ha, hc, hop⟩ := (HO.out.below HH.out.be) k hlt
      subst ha
      obtain ⟨⟨kd, ch, pt, gs, ac, tk, am, hv, hr1, hr2, hr3, hr4, hr5⟩⟩ := (HO4.out k hlt).1
      have HRR := hide (And.intro hr1 (And.intro hr2 (And.intro hr3 (And.intro hr4 hr5))))
      have HVV := hide (HO4.out k hlt).2
      have HLN := hide hop.ln
      have HLG : Hid (LegsAt w (O k).la (O k).ln (O k).L) := by
        obtain ⟨_, _, _, _, h5⟩ := HO.out k hlt
        exact h5.legs
      have o0 : wr.cell? ⟨lb, off + k * 8, none⟩ = some (.int .i64 kd) := by have := hc 0 (by omega); rw [hv 0 (by omega)] at this; exact this
      have o1 : wr.cell? ⟨lb, off + k * 8 + 1, none⟩ = some (.slice (O k).la (O k).ln (O k).lc) := by have := hc 1 (by omega); rw [hv 1 (by omega)] at this; exact this
      have o2 : wr.cell? ⟨lb, off + k * 8 + 2, none⟩ = some (.int .u8 ch) := by have := hc 2 (by omega); rw [hv 2 (by omega)] at this; exact this
      have o3 : wr.cell? ⟨lb, off + k * 8 + 3, none⟩ = some (.int .i64 pt) := by have := hc 3 (by omega); rw [hv 3 (by omega)] at this; exact this
      have o4 : wr.cell? ⟨lb, off + k * 8 + 4, none⟩ = some (.int .u64 gs) := by have := hc 4 (by omega); rw [hv 4 (by omega)] at this; exact this
      have o5 : wr.cell? ⟨lb, off + k * 8 + 5, none⟩ = some (.int .u8 ac) := by have := hc 5 (by omega); rw [hv 5 (by omega)] at this; exact this
      have o6 : wr.cell? ⟨lb, off + k * 8 + 6, none⟩ = some (.int .u8 tk) := by have := hc 6 (by omega); rw [hv 6 (by omega)] at this; exact this
      have o7 : wr.cell? ⟨lb, off + k * 8 + 7, none⟩ = some (.int .u64 am) := by have := hc 7 (by omega); rw [hv 7 (by omega)] at this; exact this
      clear hc hop hv hr1 hr2 hr3 hr4 hr5
      generalize (O k).la = la at *
      generalize (O k).ln = ln at *
      generalize (O k).lc = lc at *
      generalize (O k).L = L at *
      have HBE := hide (be1 wr (.cells #[.int .i64 kd, .slice la ln lc, .int .u8 ch, .int .i64 pt, .int .u64 gs, .int .u8 ac, .int .u8 tk, .int .u64 am] 33))
      have HN := hide (newR wr [.int .i64 kd, .slice la ln lc, .int .u8 ch, .int .i64 pt, .int .u64 gs, .int .u8 ac, .int .u8 tk, .int .u64 am] 33)
      go_upto_region 7 with fail
      obtain ⟨D, hD⟩ : ∃ D, wr.heap.size = D := ⟨_, rfl⟩
      have HSZ : Hid ((wr.alloc (.cells #[.int .i64 kd, .slice la ln lc, .int .u8 ch, .int .i64 pt, .int .u64 gs, .int .u8 ac, .int .u8 tk, .int .u64 am] 33)).heap.size = D + 1) := by show _ = _; rw [← hD]; simp
      have HDD : Hid (b < D ∧ ∀ j, j ∈ S → j < D) := by rw [← hD]; exact ⟨HH.out.pp.bl, fun j hj => HH.out.pp.lt hj⟩
      have HH2 := hide (HH.out.below HBE.out)
      rw [hD] at HN ⊢
      clear hD o0 o1 o2 o3 o4 o5 o6 o7 HH
      generalize wr.alloc (.cells #[.int .i64 kd, .slice la ln lc, .int .u8 ch, .int .i64 pt, .int .u64 gs, .int .u8 ac, .int .u8 tk, .int .u64 am] 33) = w2 at *
      clear HBE
      have HZK : Hid (9 * k ≤ 800000000000) := by show 9 * k ≤ _; have := HSM.out; omega
      have HST : Hid (∀ (S : List Nat) (x : World), HL w b k P S x → Calls Try.prog 22 #[.pointer (some ⟨b, 0, none⟩), .agg #[.int .i64 kd, .slice la ln lc, .int .u8 ch, .int .i64 pt, .int .u64 gs, .int .u8 ac, .int .u8 tk, .int .u64 am]] x fun e w' => ∃ v, StPost x b S (stepS P kd ln L (fun q => txOf (L q)) ch pt gs ac tk am) (stepAn P kd ln L (fun q => txOf (L q)) ch pt gs ac tk am v) e w') := fun S x hx =>
        step_any x w b P S hx.pp (hx.iv.psm HZK.out) hx.be HBb.out hx.ge hx.iv.gi.oa hx.iv.gi.ob kd la ln lc L (fun q => txOf (L q)) HLN.out HLG.out (fun _ => HVV.out) (9 * k) hx.iv.bd HZK.out ch pt gs ac tk am HRR.out.1 HRR.out.2.1 HRR.out.2.2.1 HRR.out.2.2.2.1 HRR.out.2.2.2.2
      have HIN : Hid (Iv (9 * (k + 1)) (stepS P kd ln L (fun q => txOf (L q)) ch pt gs ac tk am)) := iv_step HH2.out.iv (fun q hq => (HVV.out q hq).k) HRR.out.2.1
      have p0 : w2.cell? ⟨D, 0, none⟩ = some (.int .i64 kd) := by have := HN.out 0 _ rfl; rwa [Nat.zero_add] at this
      have p1 : w2.cell? ⟨D, 1, none⟩ = some (.slice la ln lc) := by have := HN.out 1 _ rfl; rwa [Nat.zero_add] at this
      have p2 : w2.cell? ⟨D, 2, none⟩ = some (.int .u8 ch) := by have := HN.out 2 _ rfl; rwa [Nat.zero_add] at this
      have p3 : w2.cell? ⟨D, 3, none⟩ = some (.int .i64 pt) := by have := HN.out 3 _ rfl; rwa [Nat.zero_add] at this
      have p4 : w2.cell? ⟨D, 4, none⟩ = some (.int .u64 gs) := by have := HN.out 4 _ rfl; rwa [Nat.zero_add] at this
      have p5 : w2.cell? ⟨D, 5, none⟩ = some (.int .u8 ac) := by have := HN.out 5 _ rfl; rwa [Nat.zero_add] at this
      have p6 : w2.cell? ⟨D, 6, none⟩ = some (.int .u8 tk) := by have := HN.out 6 _ rfl; rwa [Nat.zero_add] at this
      have p7 : w2.cell? ⟨D, 7, none⟩ = some (.int .u64 am) := by have := HN.out 7 _ rfl; rwa [Nat.zero_add] at this
      have HMP : Hid (∀ v, kd = 1 → (stepAn P kd ln L (fun q => txOf (L q)) ch pt gs ac tk am v).code = 0 → RunI P L (fun q => txOf (L q)) (ordP ln L) (stepS P kd ln L (fun q => txOf (L q)) ch pt gs ac tk am) (stepAn P kd ln L (fun q => txOf (L q)) ch pt gs ac tk am v).r ∧ (stepAn P kd ln L (fun q => txOf (L q)) ch pt gs ac tk am v).r.ord = ordI (ordP ln L) ∧ ordCode ln L = 0) := fun v h1 h2 => by
        have e : stepAn P kd ln L (fun q => txOf (L q)) ch pt gs ac tk am v = ⟨(simR P ln L (fun q => txOf (L q)) v).code, simR P ln L (fun q => txOf (L q)) v, msg0⟩ := if_pos (.inl h1)
        have e2 : stepS P kd ln L (fun q => txOf (L q)) ch pt gs ac tk am = simS true P ln L (fun q => txOf (L q)) := if_pos h1
        rw [e] at h2 ⊢
        rw [e2]
        refine match_plain h2 (fun i hi => ?_)
        have hv := HVV.out i hi
        have hlk := (HLG.out i hi)
        obtain ⟨_, _, _, _, hlk⟩ := hlk
        have e3 : (legL (L i))[2 + 1]? = some (.int .u8 (L i).tch) := by rw [legL_at _ (by omega), hlk.v3]
        have e4 := hv.x 1 _ (fld_at hv.k (by omega))
        rw [e3] at e4
        injection e4 with e4
        injection e4 with _ e4
        exact e4.symm
      generalize stepS P kd ln L (fun q => txOf (L q)) ch pt gs ac tk am = P2 at *
      generalize stepAn P kd ln L (fun q => txOf (L q)) ch pt gs ac tk am = AN at *
      go_wp2_with (go_at_call 20; refine (worldNew w2 b P S HH2.out.pp (HH2.out.iv.psm HZK.out)).mono ?_; rintro e y1 ⟨F1, S1, rfl, hl1, ho1, hb1, hs1, hp1⟩; have HF1l := hide hl1; have HF11 := hide ho1; have HB1 := hide hb1; have HS1 := hide hs1; have HP1 := hide hp1; clear hl1 ho1 hb1 hs1 hp1; simp only [])
      simp only [Try.sizeOf56, Result.andThen, HF1l.out, ↓reduceIte, stNew y1 56 Try.zeroCells56 F1 667 Try.sz56 Try.zs56 HF1l.out HF11.out]
      rw [Oper.upon_skip]
      simp only [Act.put]
      have HB2 := hide (lec HB1.out (be1 y1 (.cells F1.toArray 56)))
      have HH3 := hide (HH2.out.below HB2.out)
      have HN1 := hide (range_below HN.out (by have := HSZ.out; omega) HB2.out)
      obtain ⟨A1, hA1⟩ : ∃ A, y1.heap.size = A := ⟨_, rfl⟩
      have HZ1 : Hid (D < A1 ∧ A1 < (y1.alloc (.cells F1.toArray 56)).heap.size) := ⟨by have := HSZ.out; have := HB1.out.size; omega, by simp [hA1]⟩
      have HX1 : Hid (∀ j, j = A1 ∨ j ∈ S1 → ¬ (j = b ∨ j ∈ S)) := fun j hj hh => by
        have hjw : D + 1 ≤ j := by
          rcases hj with rfl | hj
          · have := HZ1.out.1; omega
          · have := (HS1.out j hj).1; have := HSZ.out; omega
        rcases hh with rfl | hh
        · have := HDD.out.1; omega
        · have := HDD.out.2 j hh; omega
      rw [hA1] at HP1 ⊢
      generalize y1.alloc (.cells F1.toArray 56) = y2 at *
      clear hA1 HF1l HF11 HB1 HS1
      clear p0 p1 p2 p3 p4 p5 p6 p7
      have p0 : y2.cell? ⟨D, 0, none⟩ = some (.int .i64 kd) := by have := HN1.out 0 _ rfl; rwa [Nat.zero_add] at this
      have p1 : y2.cell? ⟨D, 1, none⟩ = some (.slice la ln lc) := by have := HN1.out 1 _ rfl; rwa [Nat.zero_add] at this
      have p2 : y2.cell? ⟨D, 2, none⟩ = some (.int .u8 ch) := by have := HN1.out 2 _ rfl; rwa [Nat.zero_add] at this
      have p3 : y2.cell? ⟨D, 3, none⟩ = some (.int .i64 pt) := by have := HN1.out 3 _ rfl; rwa [Nat.zero_add] at this
      have p4 : y2.cell? ⟨D, 4, none⟩ = some (.int .u64 gs) := by have := HN1.out 4 _ rfl; rwa [Nat.zero_add] at this
      have p5 : y2.cell? ⟨D, 5, none⟩ = some (.int .u8 ac) := by have := HN1.out 5 _ rfl; rwa [Nat.zero_add] at this
      have p6 : y2.cell? ⟨D, 6, none⟩ = some (.int .u8 tk) := by have := HN1.out 6 _ rfl; rwa [Nat.zero_add] at this
      have p7 : y2.cell? ⟨D, 7, none⟩ = some (.int .u64 am) := by have := HN1.out 7 _ rfl; rwa [Nat.zero_add] at this
      go_wp2_with (go_at_call 22; refine (HST.out S y2 HH3.out).mono ?_; rintro e y3 ⟨v, vo, vr, vs, C, S3, rfl, hrl, hok, hmo, hk3, hp3, hC3⟩; have HRL := hide hrl; have HOK := hide hok; have HMO := hide hmo; have HK3 := hide hk3; have HP3 := hide hp3; clear hrl hok hmo hk3 hp3 hC3; simp only [])
      have HH4 := hide (HH3.out.link HBb.out HK3.out HP3.out HIN.out)
      have HN2 := hide (range_ex HN1.out (by have := HZ1.out; omega) HK3.out.1 (fun e => by
        rcases e with z | z
        · have := HDD.out.1; omega
        · have := HDD.out.2 _ z; omega))
      have HP1b := hide (HP1.out.ex HK3.out.1 (HX1.out A1 (.inl rfl)) (fun j hj => HX1.out j (.inr hj)))
      have HZ3 : Hid (D < y3.heap.size) := by have := HZ1.out; have := HK3.out.1.size; show _ < _; omega
      obtain ⟨F, hF⟩ : ∃ F, (AN v).vals vo vr vs = F := ⟨_, rfl⟩
      have HFl : Hid (F.length = 112) := by rw [← hF]; exact An.len HOK.out HMO.out _ _ _
      have HF1 : Hid (∀ u ∈ F, u.oneCell' = true) := by
        rw [← hF]
        obtain ⟨_, _, e1⟩ := own_form HRL.out.o
        obtain ⟨_, _, e2⟩ := own_form HRL.out.q
        obtain ⟨_, _, e3⟩ := own_form HRL.out.s
        exact An.one _ (by rw [e1]; rfl) (by rw [e2]; rfl) (by rw [e3]; rfl)
      have HG1 : Hid (∀ u ∈ (AN v).r.vals vo vr vs, u.oneCell' = true) := by
        obtain ⟨_, _, e1⟩ := own_form HRL.out.o
        obtain ⟨_, _, e2⟩ := own_form HRL.out.q
        obtain ⟨_, _, e3⟩ := own_form HRL.out.s
        exact Rs.one _ (by rw [e1]; rfl) (by rw [e2]; rfl) (by rw [e3]; rfl)
      have HGl : Hid (((AN v).r.vals vo vr vs).length = 70) := Rs.len HOK.out _ _ _
      simp only [hF]
      simp only [Try.sizeOf70, Result.andThen, HFl.out, ↓reduceIte, stNew y3 70 Try.zeroCells70 F 112 Try.sz70 Try.zs70 HFl.out HF1.out]
      rw [Oper.upon_skip]
      simp only [Act.put]
      have HB4 := hide (be1 y3 (.cells F.toArray 70))
      have HRA := hide (newR y3 F 70)
      obtain ⟨A4, hA4⟩ : ∃ A, y3.heap.size = A := ⟨_, rfl⟩
      have HA4 : Hid (A4 < (y3.alloc (.cells F.toArray 70)).heap.size) := by show _ < _; simp [hA4]
      rw [hA4] at HRA ⊢
      have HH5 := hide (HH4.out.below HB4.out)
      have HN3 := hide (range_below HN2.out HZ3.out HB4.out)
      have HP1c := hide (HP1b.out.below HB4.out)
      have HRL4 := hide (HRL.out.keep (Ex.of (S := fun _ => False) HB4.out) (fun _ _ e => e))
      have HZ4 : Hid (D < (y3.alloc (.cells F.toArray 70)).heap.size) := Nat.lt_of_lt_of_le HZ3.out HB4.out.size
      generalize y3.alloc (.cells F.toArray 70) = y4 at *
      clear hA4 HB4 HRL HN2 HH4 HK3 HP3 HN1 HP1 HP1b HX1 HH3 HST HIN HF1 HFl HZ1 HZ3
      have HRB : Hid (y4.rangeAt A4 1 ((AN v).r.vals vo vr vs)) := by
        have h0 := HRA.out
        rw [← hF] at h0
        have h1 := (range_app (A := [.int .i64 (AN v).code]) (B := (AN v).r.vals vo vr vs ++ msv (AN v).m) h0).2
        exact (range_app h1).1
      have q0 : y4.cell? ⟨A4, 0, none⟩ = some (.int .i64 (AN v).code) := by have := HRA.out 0 _ (by rw [← hF]; rfl); rwa [Nat.zero_add] at this
      clear hF HRA HMO
      clear p0 p1 p2 p3 p4 p5 p6 p7
      have p0 : y4.cell? ⟨D, 0, none⟩ = some (.int .i64 kd) := by have := HN3.out 0 _ rfl; rwa [Nat.zero_add] at this
      have p1 : y4.cell? ⟨D, 1, none⟩ = some (.slice la ln lc) := by have := HN3.out 1 _ rfl; rwa [Nat.zero_add] at this
      have p2 : y4.cell? ⟨D, 2, none⟩ = some (.int .u8 ch) := by have := HN3.out 2 _ rfl; rwa [Nat.zero_add] at this
      have p3 : y4.cell? ⟨D, 3, none⟩ = some (.int .i64 pt) := by have := HN3.out 3 _ rfl; rwa [Nat.zero_add] at this
      have p4 : y4.cell? ⟨D, 4, none⟩ = some (.int .u64 gs) := by have := HN3.out 4 _ rfl; rwa [Nat.zero_add] at this
      have p5 : y4.cell? ⟨D, 5, none⟩ = some (.int .u8 ac) := by have := HN3.out 5 _ rfl; rwa [Nat.zero_add] at this
      have p6 : y4.cell? ⟨D, 6, none⟩ = some (.int .u8 tk) := by have := HN3.out 6 _ rfl; rwa [Nat.zero_add] at this
      have p7 : y4.cell? ⟨D, 7, none⟩ = some (.int .u64 am) := by have := HN3.out 7 _ rfl; rwa [Nat.zero_add] at this
      by_cases hin : kd = 1 ∧ (AN v).code = 0
      case neg =>
        generalize (AN v).code = cd at *
        by_cases hk1 : kd = 1
        · subst hk1
          have e0 : (cd != 0) = true := by simp; exact fun e => hin ⟨rfl, e⟩
          clear hin
          go_wp2
          go_roundw
          case rel => exact ⟨k + 1, P2, S3, by omega, by go_num, HH5.out⟩
          case measure => simp [intOf]; omega
        · have e0 : (kd != 1) = true := by simp [hk1]
          clear hin
          go_wp2
          go_roundw
          case rel => exact ⟨k + 1, P2, S3, by omega, by go_num, HH5.out⟩
          case measure => simp [intOf]; omega
      obtain ⟨hk1, hcd⟩ := hin
      have HRI := hide (HMP.out v hk1 hcd).1
      have HOI := hide (HMP.out v hk1 hcd).2.1
      have HOC := hide (HMP.out v hk1 hcd).2.2
      rw [hcd] at q0
      subst hk1
      clear hcd HMP
      generalize (AN v).r = r at *
      obtain ⟨G, hG⟩ : ∃ G, r.vals vo vr vs = G := ⟨_, rfl⟩
      rw [hG] at HG1 HGl HRB
      have HGe := hide hG
      clear hG
      go_upto_region 10 with fail
      have HZ2 : Hid (9 * (k + 1) ≤ 800000000000) := by show 9 * (k + 1) ≤ _; have := HSM.out; omega
      go_wp2_with (go_at_call 20; refine (worldNew y4 b P2 S3 HH5.out.pp (HH5.out.iv.psm HZ2.out)).mono ?_; rintro e y5 ⟨F3, S5, rfl, hl1, ho1, hb1, hs1, hp1⟩; have HF3l := hide hl1; have HF31 := hide ho1; have HB5 := hide hb1; have HP5 := hide hp1; clear hl1 ho1 hb1 hs1 hp1; simp only [])
      simp only [Try.sizeOf56, Result.andThen, HF3l.out, ↓reduceIte, stNew y5 56 Try.zeroCells56 F3 667 Try.sz56 Try.zs56 HF3l.out HF31.out]
      rw [Oper.upon_skip]
      simp only [Act.put]
      have HB6 := hide (lec HB5.out (be1 y5 (.cells F3.toArray 56)))
      obtain ⟨A3, hA3⟩ : ∃ A, y5.heap.size = A := ⟨_, rfl⟩
      rw [hA3] at HP5 ⊢
      have HH6 := hide (HH5.out.below HB6.out)
      have HN4 := hide (range_below HN3.out HZ4.out HB6.out)
      have HP1d := hide (HP1c.out.below HB6.out)
      have HRL5 := hide (HRL4.out.keep (Ex.of (S := fun _ => False) HB6.out) (fun _ _ e => e))
      have HRB2 := hide (range_below HRB.out HA4.out HB6.out)
      have HZ6 : Hid (D < (y5.alloc (.cells F3.toArray 56)).heap.size) := Nat.lt_of_lt_of_le HZ4.out HB6.out.size
      generalize y5.alloc (.cells F3.toArray 56) = y6 at *
      clear hA3 HF3l HF31 HB5 HB6 HP1c HRL4 HRB HN3 HH5 q0 HZ4
      clear p0 p1 p2 p3 p4 p5 p6 p7
      go_wp2_with fail
      simp only [Try.sizeOf65, Result.andThen, show ((70 : Nat) = 0) = False from by simp, ↓reduceIte]
      rw [Oper.upon_value]
      go_wp2_with fail
      simp only [Try.isAgg65, Try.sizeOf65, Result.andThen, ↓reduceIte, ldC y6 A4 1 G 70 HGl.out HRB2.out]
      rw [Oper.upon_value]
      go_wp2_with fail
      simp only [Try.sizeOf65, Result.andThen, HGl.out, ↓reduceIte, stNew y6 65 Try.zeroCells65 G 70 Try.sz65 Try.zs65 HGl.out HG1.out]
      rw [Oper.upon_skip]
      simp only [Act.put]
      have HB7 := hide (be1 y6 (.cells G.toArray 65))
      have HRG := hide (newR y6 G 65)
      obtain ⟨A5, hA5⟩ : ∃ A, y6.heap.size = A := ⟨_, rfl⟩
      have HA5 : Hid (A5 < (y6.alloc (.cells G.toArray 65)).heap.size) := by show _ < _; simp [hA5]
      rw [hA5] at HRG ⊢
      have HH7 := hide (HH6.out.below HB7.out)
      have HN5 := hide (range_below HN4.out HZ6.out HB7.out)
      have p1 := cellKeep HB7.out (show y6.cell? ⟨D, 1, none⟩ = some (.slice la ln lc) from by have := HN4.out 1 _ rfl; rwa [Nat.zero_add] at this)
      generalize y6.alloc (.cells G.toArray 65) = y7 at *
      rw [← HGe.out] at HRG
      have HMX0 : Hid (∀ z, Below y6.heap.size y6 z → z.rangeAt A5 0 (r.vals vo vr vs) → A5 < z.heap.size → MX z D A1 A3 A5 la ln lc L P P2 r vo vr vs) := fun z hz h1 h2 =>
        ⟨⟨_, HP1d.out.below hz⟩, ⟨_, HP5.out.below hz⟩, h1, h2, ⟨_, HRL5.out.keep (Ex.of (S := fun _ => False) hz) (fun _ _ e => e)⟩, cellKeep hz (by have := HN4.out 1 _ rfl; rwa [Nat.zero_add] at this), HLG.out.below (HH6.out.below hz).be, HOK.out⟩
      have HMX := hide (HMX0.out y7 HB7.out HRG.out HA5.out)
      clear HMX0 HP1d HP5 HRL5 HN4 HN5 HRB2 HH6 HB7 HA4 HA5 HZ6 hA5 HG1 HGl
      obtain ⟨hn0, hn8, hol, hon, hom, hoc⟩ := ord_facts HOC.out
      obtain ⟨hz8, hs8⟩ : bCode ln L = 0 ∧ stuckP ln (needM ln L) = 0 := ord_zero HOC.out
      have HFT : Hid (fitsB L (ordP ln L) = true) := (least_ok hz8 hs8).2.2.2
      clear hz8 hs8
      have HOM := hide hom
      have hlr := HRI.out.ln
      obtain ⟨V, hV⟩ : ∃ V, ordP ln L = V := ⟨_, rfl⟩
      rw [hV] at HRI HOI HFT HOM hol hlr
      clear hV hon hom hoc
      obtain ⟨C0, hrl0⟩ := HMX.out.rl
      have hro := hrl0.o
      rw [HOI.out, ordI_len] at hro
      obtain ⟨oa, oc, rfl, hperm⟩ := ord_perm hro
      have HPM := hide hperm
      obtain ⟨qa, qc, hqe⟩ := own_form hrl0.q
      obtain ⟨ta, tc, hte⟩ := own_form hrl0.s
      subst hqe hte
      rw [hlr] at HMX HRG
      rw [hol] at HMX HRG
      have g2 : y7.cell? ⟨A5, 2, none⟩ = some (.slice oa ln oc) := by have := HRG.out 2 _ rfl; rwa [Nat.zero_add] at this
      have g3 : y7.cell? ⟨A5, 3, none⟩ = some (.slice qa ln qc) := by have := HRG.out 3 _ rfl; rwa [Nat.zero_add] at this
      have g4 : y7.cell? ⟨A5, 4, none⟩ = some (.slice ta r.stm.length tc) := by have := HRG.out 4 _ rfl; rwa [Nat.zero_add] at this
      clear hro hperm hrl0 HRG
      have HFC : Hid (Calls Try.prog 18 #[.agg #[.slice la ln lc], .slice oa ln oc] y7 fun e w' => e = .returned (.bool true) ∧ Below y7.heap.size y7 w') := by
        have := fits_any y7 la ln lc L oa oc V (by omega) HOM.out HMX.out.lg HPM.out
        rw [HFT.out, hol] at this
        exact this
      go_upto_region 14 with (go_at_call 18; refine HFC.out.mono ?_; rintro e z0 ⟨rfl, hbe⟩; have HBZ := hide hbe; clear hbe; simp only [])
      have HMZ := hide (HMX.out.below HBZ.out)
      have HHZ := hide (HH7.out.below HBZ.out)
      have z4 := cellKeep HBZ.out g4
      have z3 := cellKeep HBZ.out g3
      have z2 := cellKeep HBZ.out g2
      have HPZ := hide (HPM.out.below HBZ.out)
      clear HMX HH7 g2 g3 g4 p1 HFC HPM HBZ
      go_upto_block 2 with fail
      go_cut [2] (fun _ wx => Below z0.heap.size z0 wx)
      case first =>
        go_wp2
        go_loopw [71] (fun s wr => ∃ i : Nat, i ≤ r.stm.length ∧ s = .int .i64 i ∧ Below z0.heap.size z0 wr) (fun s _ => r.stm.length - (intOf s).toNat)
        case atStart => exact ⟨0, Nat.zero_le _, rfl, Below.refl _ _⟩
        case round =>
          clear z4
          obtain ⟨i, hi, rfl, hb⟩ := hrel
          have HB := hide hb
          clear hb
          by_cases hlt : i < r.stm.length
          · have d2 : decide ((i : Int) < (r.stm.length : Int)) = true := by simp; omega
            have hii : (i : Int) < (r.stm.length : Int) := by omega
            obtain ⟨m, hm⟩ : ∃ m, r.stm[i]? = some m := ⟨_, List.getElem?_eq_getElem hlt⟩
            have hmo : MsgOk m := HMZ.out.ok.sm m (List.mem_of_getElem? hm)
            obtain ⟨hst1, hst2, hst3⟩ := HRI.out.st m (List.mem_of_getElem? hm)
            obtain ⟨C1, hrl⟩ := HMZ.out.rl
            have hls := own_le hrl.s
            obtain ⟨g, _, hg⟩ := own_some hrl.s (by omega)
            cases hg
            have HMR := hide (range_below (msg_at hrl.s HMZ.out.ok.sm hm) (hrl.s.lt g rfl).2 HB.out)
            obtain ⟨sq, hsq⟩ : ∃ sq : Nat, fld m 5 = (sq : Int) := ⟨(fld m 5).toNat, by omega⟩
            obtain ⟨f, hf⟩ : ∃ f, fld m 1 = f := ⟨_, rfl⟩
            rw [hsq, hf, Int.toNat_natCast] at hst1
            rw [hsq, hf] at hst3
            obtain ⟨S2', hp2⟩ := HMZ.out.p2
            obtain ⟨oa2, oc2, co2, ow2, ok2⟩ := hp2.outs f
            obtain ⟨S1', hp1⟩ := HMZ.out.p1
            obtain ⟨oa1, oc1, co1, ow1, ok1⟩ := hp1.outs f
            have hsl : sq < (P2.box f).out.length := (List.getElem?_eq_some_iff.1 hst1).1
            have hl2 := own_le ow2
            have hl1 := own_le ow1
            obtain ⟨g2, _, hg2⟩ := own_some ow2 (by omega)
            cases hg2
            have HOR := hide (range_below (msg_at ow2 ok2 hst1) (ow2.lt g2 rfl).2 HB.out)
            have k2 := cellKeep HB.out co2
            have k1 := cellKeep HB.out co1
            have HVl : Hid ((msv m).length = 41) := msv_len hmo
            have HVo : Hid (∀ u ∈ msv m, u.oneCell' = true) := kvs_one _ _
            have he68 : ∀ w, (Op.equalIn 10000 68 (.agg (msv m).toArray) (.agg (msv m).toArray)).run Try.prog w = .ok true w := fun w => by have := eq68 w hmo hmo 9996; simpa using this
            have HV1 : Hid ((msv m)[1]? = some (.int .u8 f)) := by rw [← hf]; exact fld_at hmo (by omega)
            have HV5 : Hid ((msv m)[5]? = some (.int .u64 sq)) := by rw [← hsq]; exact fld_at hmo (by omega)
            clear hm hmo hst1 hst2 hrl hsq hf hp2 hp1 co2 co1 ow2 ow1 ok2 ok1
            generalize (P2.box f).out.length = n2 at *
            generalize (P.box f).out.length = n1 at *
            generalize msv m = V at *
            have hw2 : IntKind.u64.wrap (n2 : Int) = (n2 : Int) := by rw [IntKind.wrap_u64]; omega
            have hw1 : IntKind.u64.wrap (n1 : Int) = (n1 : Int) := by rw [IntKind.wrap_u64]; omega
            have d3 : decide ((n2 : Int) ≤ (sq : Int)) = false := by simp; omega
            have d4 : decide (n2 ≤ sq) = false := by simp; omega
            have d5 : decide ((sq : Int) < (n1 : Int)) = false := by simp; omega
            have d6 : decide (sq < n1) = false := by simp; omega
            have hsi : (sq : Int) < (n2 : Int) := by omega
            go_upto_region 16 with fail
            go_wp2_with fail
            simp only [Try.sizeOf68, Result.andThen]
            rw [Oper.upon_value]
            go_wp2_with fail
            simp only [Try.isAgg68, Try.sizeOf68, Result.andThen, ↓reduceIte, ldC wr g (i * 41) V 41 HVl.out HMR.out]
            rw [Oper.upon_value]
            go_wp2_with fail
            simp only [Try.sizeOf68, Result.andThen, HVl.out, ↓reduceIte, stNew wr 68 #[.int .u8 0, .int .u8 0, .int .u8 0, .int .u8 0, .int .u8 0, .int .u64 0, .int .u8 0, .int .u64 0, .int .u8 0, .int .u8 0, .int .u8 0, .int .u8 0, .int .u8 0, .int .u8 0, .int .u8 0, .int .u8 0, .int .u8 0, .int .u8 0, .int .u8 0, .int .u8 0, .int .u8 0, .int .u8 0, .int .u8 0, .int .u8 0, .int .u8 0, .int .u8 0, .int .u8 0, .int .u8 0, .int .u8 0, .int .u8 0, .int .u8 0, .int .u8 0, .int .u8 0, .int .u8 0, .int .u8 0, .int .u8 0, .int .u8 0, .int .u8 0, .int .u8 0, .int .u8 0, .int .u8 0] V 41 Try.sz68 rfl HVl.out HVo.out]
            rw [Oper.upon_skip]
            simp only [Act.put]
            have hbn := be1 wr (.cells V.toArray 68)
            have HB2 := hide (lec HB.out hbn)
            have HER := hide (newR wr V 68)
            have HOR2 := hide (range_below HOR.out (World.block_lt_of_cell? _ _ (HOR.out 1 _ HV1.out)) hbn)
            have j2 := cellKeep hbn k2
            have j1 := cellKeep hbn k1
            obtain ⟨E, hE⟩ : ∃ E, wr.heap.size = E := ⟨_, rfl⟩
            rw [hE] at HER ⊢
            generalize wr.alloc (.cells V.toArray 68) = wz at *
            clear hE hbn k1 k2 HOR HMR HVo
            have e1 : wz.cell? ⟨E, 1, none⟩ = some (.int .u8 f) := by have := HER.out 1 _ HV1.out; rwa [Nat.zero_add] at this
            have e5 : wz.cell? ⟨E, 5, none⟩ = some (.int .u64 sq) := by have := HER.out 5 _ HV5.out; rwa [Nat.zero_add] at this
            go_upto_region 18 with (go_at_call 36; refine (wbox_any wz A3 f).mono ?_; rintro e wq ⟨rfl, rfl⟩; simp only [])
            obtain ⟨wz, hwz⟩ : ∃ W', W' = wq := ⟨_, rfl⟩
            subst hwz
            have hz68 := Try.sizeOf68
            have HS : Hid ((fun (w' : World) => w'.cell? ⟨E, 1, none⟩ = some (.int .u8 f) ∧ w'.cell? ⟨E, 5, none⟩ = some (.int .u64 sq) ∧ w'.rangeAt E 0 V ∧ w'.rangeAt g2 (sq * 41) V ∧ w'.cell? ⟨A1, boxO f + 1, none⟩ = some (.slice oa1 n1 oc1)) wz.drew) := ⟨e1, e5, HER.out, HOR2.out, j1⟩
            refine wp_region_held_drew (S := fun (w' : World) => w'.cell? ⟨E, 1, none⟩ = some (.int .u8 f) ∧ w'.cell? ⟨E, 5, none⟩ = some (.int .u64 sq) ∧ w'.rangeAt E 0 V ∧ w'.rangeAt g2 (sq * 41) V ∧ w'.cell? ⟨A1, boxO f + 1, none⟩ = some (.slice oa1 n1 oc1)) (by kernel_rfl) HS.out (fun hHeld => ?_)
            refine wpAnyH_take (i := 0) (v := ?_) rfl (by kernel_rfl) (by kernel_rfl) (by kernel_rfl) (fun _ _ _ h => h) (Or.inl ⟨by rfl, ?_⟩) (by assumption) ?_
            rotate_left
            · (intro w hSw; (try dsimp only at hSw); go_simp; try (with_reducible rfl))
            try simp only [Act.put, List.getElem_toArray, List.getElem_cons_zero, List.getElem_cons_succ, List.setIfInBounds_toArray, List.set_cons_zero, List.set_cons_succ]
            refine wpAnyH_take (i := 1) (v := ?_) rfl (by kernel_rfl) (by kernel_rfl) (by kernel_rfl) (fun _ _ _ h => h) (Or.inl ⟨by rfl, ?_⟩) (by assumption) ?_
            rotate_left
            · (intro w hSw; (try dsimp only at hSw); go_simp; try (with_reducible rfl))
            try simp only [Act.put, List.getElem_toArray, List.getElem_cons_zero, List.getElem_cons_succ, List.setIfInBounds_toArray, List.set_cons_zero, List.set_cons_succ]
            refine wpAnyH_take (i := 2) (v := ?_) rfl (by kernel_rfl) (by kernel_rfl) (by kernel_rfl) (fun _ _ _ h => h) (Or.inl ⟨by rfl, ?_⟩) (by assumption) ?_
            rotate_left
            · (intro w hSw; (try dsimp only at hSw); go_simp; try (with_reducible rfl))
            try simp only [Act.put, List.getElem_toArray, List.getElem_cons_zero, List.getElem_cons_succ, List.setIfInBounds_toArray, List.set_cons_zero, List.set_cons_succ]
            refine wpAnyH_take (i := 3) (v := ?_) rfl (by kernel_rfl) (by kernel_rfl) (by kernel_rfl) (fun _ _ _ h => h) (Or.inl ⟨by rfl, ?_⟩) (by assumption) ?_
            rotate_left
            · (intro w hSw; (try dsimp only at hSw); go_simp; try (with_reducible rfl))
            try simp only [Act.put, List.getElem_toArray, List.getElem_cons_zero, List.getElem_cons_succ, List.setIfInBounds_toArray, List.set_cons_zero, List.set_cons_succ]
            refine wpAnyH_take (i := 4) (v := ?_) rfl (by kernel_rfl) (by kernel_rfl) (by kernel_rfl) (fun _ _ _ h => h) (Or.inl ⟨by rfl, ?_⟩) (by assumption) ?_
            rotate_left
            · (intro w hSw; (try dsimp only at hSw); go_simp; try (with_reducible rfl))
            try simp only [Act.put, List.getElem_toArray, List.getElem_cons_zero, List.getElem_cons_succ, List.setIfInBounds_toArray, List.set_cons_zero, List.set_cons_succ]
            refine wpAnyH_take (i := 5) (v := ?_) rfl (by kernel_rfl) (by kernel_rfl) (by kernel_rfl) (fun _ _ _ h => h) (Or.inl ⟨by rfl, ?_⟩) (by assumption) ?_
            rotate_left
            · (intro w hSw; (try dsimp only at hSw); go_simp; try (with_reducible rfl))
            try simp only [Act.put, List.getElem_toArray, List.getElem_cons_zero, List.getElem_cons_succ, List.setIfInBounds_toArray, List.set_cons_zero, List.set_cons_succ]
            refine wpAnyH_take (i := 6) (v := ?_) rfl (by kernel_rfl) (by kernel_rfl) (by kernel_rfl) (fun _ _ _ h => h) (Or.inl ⟨by rfl, ?_⟩) (by assumption) ?_
            rotate_left
            · (intro w hSw; (try dsimp only at hSw); go_simp; try (with_reducible rfl))
            try simp only [Act.put, List.getElem_toArray, List.getElem_cons_zero, List.getElem_cons_succ, List.setIfInBounds_toArray, List.set_cons_zero, List.set_cons_succ]
            refine wpAnyH_take (i := 7) (v := ?_) rfl (by kernel_rfl) (by kernel_rfl) (by kernel_rfl) (fun _ _ _ h => h) (Or.inl ⟨by rfl, ?_⟩) (by assumption) ?_
            rotate_left
            · (intro w hSw; (try dsimp only at hSw); go_simp; try (with_reducible rfl))
            try simp only [Act.put, List.getElem_toArray, List.getElem_cons_zero, List.getElem_cons_succ, List.setIfInBounds_toArray, List.set_cons_zero, List.set_cons_succ]
            refine wpAnyH_take (i := 8) (v := ?_) rfl (by kernel_rfl) (by kernel_rfl) (by kernel_rfl) (fun _ _ _ h => h) (Or.inl ⟨by rfl, ?_⟩) (by assumption) ?_
            rotate_left
            · (intro w hSw; (try dsimp only at hSw); go_simp; try (with_reducible rfl))
            try simp only [Act.put, List.getElem_toArray, List.getElem_cons_zero, List.getElem_cons_succ, List.setIfInBounds_toArray, List.set_cons_zero, List.set_cons_succ]
            refine wpAnyH_take (i := 9) (v := ?_) rfl (by kernel_rfl) (by kernel_rfl) (by kernel_rfl) (fun _ _ _ h => h) (Or.inl ⟨by rfl, ?_⟩) (by assumption) ?_
            rotate_left
            · (intro w hSw; (try dsimp only at hSw); go_simp; try (with_reducible rfl))
            try simp only [Act.put, List.getElem_toArray, List.getElem_cons_zero, List.getElem_cons_succ, List.setIfInBounds_toArray, List.set_cons_zero, List.set_cons_succ]
            refine wpAnyH_take (i := 10) (v := ?_) rfl (by kernel_rfl) (by kernel_rfl) (by kernel_rfl) (fun _ _ _ h => h) (Or.inl ⟨by rfl, ?_⟩) (by assumption) ?_
            rotate_left
            · (intro w hSw; (try dsimp only at hSw); go_simp; try (with_reducible rfl))
            try simp only [Act.put, List.getElem_toArray, List.getElem_cons_zero, List.getElem_cons_succ, List.setIfInBounds_toArray, List.set_cons_zero, List.set_cons_succ]
            refine wpAnyH_take (i := 11) rfl (by kernel_rfl) (by kernel_rfl) (by kernel_rfl) (fun _ _ _ h => h) (yieldsIf_load_mid (by rfl) 68 (.tmp 91) rfl g2 (sq * 41) rfl V _ (fun w h => h.2.2.2.1) Try.underlying68 rfl (by rw [HVl.out]; exact Try.sz68)) (by assumption) ?_
            try simp only [Act.put, List.getElem_toArray, List.getElem_cons_zero, List.getElem_cons_succ, List.setIfInBounds_toArray, List.set_cons_zero, List.set_cons_succ]
            refine wpAnyH_take (i := 12) rfl (by kernel_rfl) (by kernel_rfl) (by kernel_rfl) (fun _ _ _ h => h) (yieldsIf_load_mid (by rfl) 68 (.tmp 11) rfl E (0) rfl V _ (fun w h => h.2.2.1) Try.underlying68 rfl (by rw [HVl.out]; exact Try.sz68)) (by assumption) ?_
            try simp only [Act.put, List.getElem_toArray, List.getElem_cons_zero, List.getElem_cons_succ, List.setIfInBounds_toArray, List.set_cons_zero, List.set_cons_succ]
            refine wpAnyH_take (i := 13) (v := ?_) rfl (by kernel_rfl) (by kernel_rfl) (by kernel_rfl) (fun _ _ _ h => h) (Or.inl ⟨by rfl, ?_⟩) (by assumption) ?_
            rotate_left
            · (intro w hSw; (try dsimp only at hSw); go_simp; try (with_reducible rfl))
            try simp only [Act.put, List.getElem_toArray, List.getElem_cons_zero, List.getElem_cons_succ, List.setIfInBounds_toArray, List.set_cons_zero, List.set_cons_succ]
            refine wpAnyH_take (i := 14) (v := ?_) rfl (by kernel_rfl) (by kernel_rfl) (by kernel_rfl) (fun _ _ _ h => h) (Or.inl ⟨by rfl, ?_⟩) (by assumption) ?_
            rotate_left
            · (intro w hSw; (try dsimp only at hSw); go_simp; try (with_reducible rfl))
            try simp only [Act.put, List.getElem_toArray, List.getElem_cons_zero, List.getElem_cons_succ, List.setIfInBounds_toArray, List.set_cons_zero, List.set_cons_succ]
            refine wpAnyH_take (i := 15) (v := ?_) rfl (by kernel_rfl) (by kernel_rfl) (by kernel_rfl) (fun _ _ _ h => h) (Or.inl ⟨by rfl, ?_⟩) (by assumption) ?_
            rotate_left
            · (intro w hSw; (try dsimp only at hSw); go_simp; try (with_reducible rfl))
            try simp only [Act.put, List.getElem_toArray, List.getElem_cons_zero, List.getElem_cons_succ, List.setIfInBounds_toArray, List.set_cons_zero, List.set_cons_succ]
            refine wpAnyH_take (i := 16) (v := ?_) rfl (by kernel_rfl) (by kernel_rfl) (by kernel_rfl) (fun _ _ _ h => h) (Or.inl ⟨by rfl, ?_⟩) (by assumption) ?_
            rotate_left
            · (intro w hSw; (try dsimp only at hSw); go_simp; try (with_reducible rfl))
            try simp only [Act.put, List.getElem_toArray, List.getElem_cons_zero, List.getElem_cons_succ, List.setIfInBounds_toArray, List.set_cons_zero, List.set_cons_succ]
            refine wpAnyH_take (i := 17) (v := ?_) rfl (by kernel_rfl) (by kernel_rfl) (by kernel_rfl) (fun _ _ _ h => h) (Or.inl ⟨by rfl, ?_⟩) (by assumption) ?_
            rotate_left
            · (intro w hSw; (try dsimp only at hSw); go_simp; try (with_reducible rfl))
            try simp only [Act.put, List.getElem_toArray, List.getElem_cons_zero, List.getElem_cons_succ, List.setIfInBounds_toArray, List.set_cons_zero, List.set_cons_succ]
            refine wpAnyH_take (i := 18) (v := ?_) rfl (by kernel_rfl) (by kernel_rfl) (by kernel_rfl) (fun _ _ _ h => h) (Or.inl ⟨by rfl, ?_⟩) (by assumption) ?_
            rotate_left
            · (intro w hSw; (try dsimp only at hSw); go_simp; try (with_reducible rfl))
            try simp only [Act.put, List.getElem_toArray, List.getElem_cons_zero, List.getElem_cons_succ, List.setIfInBounds_toArray, List.set_cons_zero, List.set_cons_succ]
            refine wpAnyH_take (i := 19) (v := ?_) rfl (by kernel_rfl) (by kernel_rfl) (by kernel_rfl) (fun _ _ _ h => h) (Or.inl ⟨by rfl, ?_⟩) (by assumption) ?_
            rotate_left
            · (intro w hSw; (try dsimp only at hSw); go_simp; try (with_reducible rfl))
            try simp only [Act.put, List.getElem_toArray, List.getElem_cons_zero, List.getElem_cons_succ, List.setIfInBounds_toArray, List.set_cons_zero, List.set_cons_succ]
            refine wpAnyH_ready (rs := [20]) (by kernel_rfl) (by simp) ?_
            refine (AllReadyH.cons rfl (fun K hK => ?_) AllReadyH.nil)
            refine step_call_g (by rfl) 36 #[.pointer (some ⟨A1, 0, none⟩), .int .u8 f] (by simp [go_sem]) (wbox_any _ A1 f) ?_
            rintro e wq ⟨rfl, rfl⟩
            refine ⟨_, rfl, ?_⟩
            refine hK.out _ _ ?_ (fun hHeld => ?_)
            · exact hHeld
            clear hK K
            try simp only [Act.put, List.getElem_toArray, List.getElem_cons_zero, List.getElem_cons_succ, List.setIfInBounds_toArray, List.set_cons_zero, List.set_cons_succ]
            refine wpAnyH_take (i := 21) (v := ?_) rfl (by kernel_rfl) (by kernel_rfl) (by kernel_rfl) (fun _ _ _ h => h) (Or.inl ⟨by rfl, ?_⟩) (by assumption) ?_
            rotate_left
            · (intro w hSw; (try dsimp only at hSw); go_simp; try (with_reducible rfl))
            try simp only [Act.put, List.getElem_toArray, List.getElem_cons_zero, List.getElem_cons_succ, List.setIfInBounds_toArray, List.set_cons_zero, List.set_cons_succ]
            refine wpAnyH_take (i := 22) (v := ?_) rfl (by kernel_rfl) (by kernel_rfl) (by kernel_rfl) (fun _ _ _ h => h) (Or.inl ⟨by rfl, ?_⟩) (by assumption) ?_
            rotate_left
            · (intro w hSw; (try dsimp only at hSw); go_simp; try (with_reducible rfl))
            try simp only [Act.put, List.getElem_toArray, List.getElem_cons_zero, List.getElem_cons_succ, List.setIfInBounds_toArray, List.set_cons_zero, List.set_cons_succ]
            refine wpAnyH_take (i := 23) (v := ?_) rfl (by kernel_rfl) (by kernel_rfl) (by kernel_rfl) (fun _ _ _ h => h) (Or.inl ⟨by rfl, ?_⟩) (by assumption) ?_
            rotate_left
            · (intro w hSw; (try dsimp only at hSw); go_simp; try (with_reducible rfl))
            try simp only [Act.put, List.getElem_toArray, List.getElem_cons_zero, List.getElem_cons_succ, List.setIfInBounds_toArray, List.set_cons_zero, List.set_cons_succ]
            refine wpAnyH_take (i := 24) (v := ?_) rfl (by kernel_rfl) (by kernel_rfl) (by kernel_rfl) (fun _ _ _ h => h) (Or.inl ⟨by rfl, ?_⟩) (by assumption) ?_
            rotate_left
            · (intro w hSw; (try dsimp only at hSw); go_simp; try (with_reducible rfl))
            try simp only [Act.put, List.getElem_toArray, List.getElem_cons_zero, List.getElem_cons_succ, List.setIfInBounds_toArray, List.set_cons_zero, List.set_cons_succ]
            refine wpAnyH_take (i := 25) (v := ?_) rfl (by kernel_rfl) (by kernel_rfl) (by kernel_rfl) (fun _ _ _ h => h) (Or.inl ⟨by rfl, ?_⟩) (by assumption) ?_
            rotate_left
            · (intro w hSw; (try dsimp only at hSw); go_simp; try (with_reducible rfl))
            try simp only [Act.put, List.getElem_toArray, List.getElem_cons_zero, List.getElem_cons_succ, List.setIfInBounds_toArray, List.set_cons_zero, List.set_cons_succ]
            refine wpAnyH_take (i := 26) (v := ?_) rfl (by kernel_rfl) (by kernel_rfl) (by kernel_rfl) (fun _ _ _ h => h) (Or.inl ⟨by rfl, ?_⟩) (by assumption) ?_
            rotate_left
            · (intro w hSw; (try dsimp only at hSw); go_simp; try (with_reducible rfl))
            try simp only [Act.put, List.getElem_toArray, List.getElem_cons_zero, List.getElem_cons_succ, List.setIfInBounds_toArray, List.set_cons_zero, List.set_cons_succ]
            refine wpAnyH_take (i := 27) (v := ?_) rfl (by kernel_rfl) (by kernel_rfl) (by kernel_rfl) (fun _ _ _ h => h) (Or.inl ⟨by rfl, ?_⟩) (by assumption) ?_
            rotate_left
            · (intro w hSw; (try dsimp only at hSw); go_simp; try (with_reducible rfl))
            try simp only [Act.put, List.getElem_toArray, List.getElem_cons_zero, List.getElem_cons_succ, List.setIfInBounds_toArray, List.set_cons_zero, List.set_cons_succ]
            refine wpAnyH_done (by kernel_rfl) ?_ _
            clear hHeld HS hz68 he68
            have HB3 := hide HB2.out.drew
            generalize wz.drew = wy at *
            go_wp2
            go_roundw
            case rel => exact ⟨i + 1, by omega, by go_num, HB3.out⟩
            case measure => simp [intOf]; omega
          · obtain rfl : i = r.stm.length := by omega
            have d2 : decide ((r.stm.length : Int) < (r.stm.length : Int)) = false := by simp
            go_wp2
            go_meet
            exact HB.out
      have HC := hide hcut
      clear hcut
      go_upto_region 21 with fail
      have k3 := cellKeep HC.out z3
      go_wp2
      go_loopw [113] (fun s wr => ∃ j : Nat, j ≤ ln ∧ s = .int .i64 j ∧ Below z0.heap.size z0 wr) (fun s _ => ln - (intOf s).toNat)
      case atStart => exact ⟨0, Nat.zero_le _, rfl, HC.out⟩
      case round =>
        clear k3 HC
        obtain ⟨j, hj, rfl, hb⟩ := hrel
        have HB := hide hb
        clear hb
        by_cases hjl : j < ln
        · have d2 : decide ((j : Int) < (ln : Int)) = true := by simp; omega
          have hji : (j : Int) < (ln : Int) := by omega
          obtain ⟨q, hq⟩ : ∃ q, V[j]? = some q := ⟨_, List.getElem?_eq_getElem (by omega)⟩
          have hqn : q < ln := HOM.out q (List.mem_of_getElem? hq)
          have hqi : (q : Int) < (ln : Int) := by omega
          obtain ⟨x, hx⟩ : ∃ x, r.rcs[j]? = some x := ⟨_, List.getElem?_eq_getElem (by omega)⟩
          have hxo : x.Ok := HMZ.out.ok.rc x (List.mem_of_getElem? hx)
          obtain ⟨C1, hrl⟩ := HMZ.out.rl
          have hrq := hrl.q
          rw [show r.rcs.length = ln by omega] at hrq
          obtain ⟨g, _, hg⟩ := own_some hrq (by omega)
          cases hg
          have HFR := hide (range_below (range_flat (k := 87) (fun y hy => Rcp.len (HMZ.out.ok.rc y hy)) (own_range hrq) hx) (hrq.lt g rfl).2 HB.out)
          have HFl : Hid (x.vals.length = 87) := Rcp.len hxo
          have HFo : Hid (∀ u ∈ x.vals, u.oneCell' = true) := Rcp.one x
          have HF45 : Hid (x.vals[45]? = some (.bool x.ht)) := Rcp.at45 hxo
          have HF46 : Hid (∀ (y : World) (e : Nat), y.rangeAt e 0 x.vals → y.rangeAt e 46 (msv x.took)) := fun y e h => Rcp.took_at hxo h
          obtain ⟨ob, oo, hoa, hoc⟩ := HPZ.out.2 j q hq
          cases hoa
          obtain ⟨lb2, lo2, hla, hlc, hlk⟩ := HMZ.out.lg q hqn
          cases hla
          have HLV := hide (HVV.out q hqn)
          have HLR := hide (range_below (legRange hlc) (World.block_lt_of_cell? _ _ (hlc 0 (by omega))) HB.out)
          have HLl : Hid ((legL (L q)).length = 86) := HLV.out.l
          have HLo := hide HLV.out.o
          have HLc := hide HLV.out.c
          have HLm : Hid (∀ (y : World) (e : Nat), y.rangeAt e 0 (legL (L q)) → y.rangeAt e 44 (msv (txMsg (txOf (L q))))) := fun y e h => leg_msg HLV.out h
          have HRO : Hid (x.ht = true → RcpOk P P2 r.stm (L q).ch (txOf (L q)) x) := fun hh => HRI.out.rc j q x hq hx hh
          have HMO : Hid (MsgOk (txMsg (txOf (L q)))) := txMsg_ok HLV.out.k
          have HSO := hide hrl.s
          have kD := cellKeep HB.out HMZ.out.op
          have kA := cellKeep HB.out z2
          have kO := cellKeep HB.out hoc
          clear hq hx hxo hrl hrq hoc hlc hlk HLV
          generalize (L q).ch = c at *
          generalize txOf (L q) = t at *
          generalize legL (L q) = Lv at *
          obtain ⟨F, hF⟩ : ∃ F, x.vals = F := ⟨_, rfl⟩
          rw [hF] at HFR HFl HFo HF45
          simp only [hF] at HF46
          clear hF
          go_upto_region 23 with fail
          go_wp2_with fail
          simp only [Try.sizeOf89, Result.andThen]
          rw [Oper.upon_value]
          go_wp2_with fail
          simp only [Try.isAgg89, Try.sizeOf89, Result.andThen, ↓reduceIte, ldC wr g (j * 87) F 87 HFl.out HFR.out]
          rw [Oper.upon_value]
          go_wp2_with fail
          simp only [Try.sizeOf89, Result.andThen, HFl.out, ↓reduceIte, stNew wr 89 Try.zeroCells89 F 87 Try.sz89 zs89 HFl.out HFo.out]
          rw [Oper.upon_skip]
          simp only [Act.put]
          have hbn := be1 wr (.cells F.toArray 89)
          have HB2 := hide (lec HB.out hbn)
          have HE2 := hide (newR wr F 89)
          have HLR2 := hide (range_below HLR.out (World.block_lt_of_cell? _ _ (HLR.out 1 _ HLc.out)) hbn)
          have lD := cellKeep hbn kD
          have lA := cellKeep hbn kA
          have lO := cellKeep hbn kO
          obtain ⟨E2, hE2⟩ : ∃ E, wr.heap.size = E := ⟨_, rfl⟩
          have HEl : Hid (E2 < (wr.alloc (.cells F.toArray 89)).heap.size) := by show _ < _; simp [hE2]
          rw [hE2] at HE2 ⊢
          generalize wr.alloc (.cells F.toArray 89) = wz at *
          clear hE2 hbn kD kA kO HLR HFR HFo HB
          go_upto_region 24 with fail
          have hz95 := Try.sizeOf95
          refine wp_region_held_drew (S := fun (w' : World) => w'.cell? ⟨D, 1, none⟩ = some (.slice (some ⟨lb2, lo2, none⟩) ln lc) ∧ w'.cell? ⟨A5, 2, none⟩ = some (.slice (some ⟨ob, oo, none⟩) ln oc) ∧ w'.cell? ⟨ob, oo + j, none⟩ = some (.int .i64 q) ∧ w'.rangeAt lb2 (lo2 + q * 86) Lv) (by kernel_rfl) ⟨lD, lA, lO, HLR2.out⟩ (fun hHeld => ?_)
          have HB3 := hide HB2.out.drew
          have HE2d : Hid (wz.drew.rangeAt E2 0 F) := HE2.out
          have HELd : Hid (E2 < wz.drew.heap.size) := HEl.out
          clear HE2 HEl HB2 lD lA lO HLR2
          generalize wz.drew = wd at *
          have HBn := hide (be1 wd (.cells Try.zeroCells95 95))
          have HLB : Hid (lb2 < wd.heap.size) := World.block_lt_of_cell? _ _ (hHeld.2.2.2 1 _ HLc.out)
          have HT3 := hide (newTz wd Try.zeroCells95 95)
          rw [Try.zs95] at HT3
          obtain ⟨E3, hE3⟩ : ∃ E, wd.heap.size = E := ⟨_, rfl⟩
          rw [hE3] at HT3
          have HBS : Hid (Below z0.heap.size z0 ((wd.alloc (.cells Try.zeroCells95 95)).setCells E3 0 Lv)) := (lec HB3.out HBn.out).trans ((Ex.sets (S := fun j => j = E3) rfl Lv 0 _ (Ex.refl _ _)).below (lec HB3.out HBn.out).size (fun i hi e => by have := HB3.out.size; omega))
          have HG2 : Hid (((wd.alloc (.cells Try.zeroCells95 95)).setCells E3 0 Lv).rangeAt E2 0 F) := range_ex (range_below HE2d.out HELd.out HBn.out) (Nat.lt_of_lt_of_le HELd.out HBn.out.size) (Ex.sets (S := fun j => j = E3) rfl Lv 0 _ (Ex.refl _ _)) (fun e => by have := HELd.out; omega)
          have HG3 : Hid (((wd.alloc (.cells Try.zeroCells95 95)).setCells E3 0 Lv).rangeAt E3 0 Lv) := World.rangeAt_setCells_same _ E3 0 Lv (by rw [HLl.out]; exact HT3.out)
          have HXC : Hid ((fun (w' : World) => w'.cell? ⟨D, 1, none⟩ = some (.slice (some ⟨lb2, lo2, none⟩) ln lc) ∧ w'.cell? ⟨A5, 2, none⟩ = some (.slice (some ⟨ob, oo, none⟩) ln oc) ∧ w'.cell? ⟨ob, oo + j, none⟩ = some (.int .i64 q) ∧ w'.rangeAt lb2 (lo2 + q * 86) Lv) ((wd.alloc (.cells Try.zeroCells95 95)).setCells E3 0 Lv)) := by
            have ex : Ex (fun j => j = E3) (wd.alloc (.cells Try.zeroCells95 95)) ((wd.alloc (.cells Try.zeroCells95 95)).setCells E3 0 Lv) := Ex.sets (S := fun j => j = E3) rfl Lv 0 _ (Ex.refl _ _)
            have b1 := World.block_lt_of_cell? _ _ hHeld.1
            have b2 := World.block_lt_of_cell? _ _ hHeld.2.1
            have b3 := World.block_lt_of_cell? _ _ hHeld.2.2.1
            have b4 := HLB.out
            exact ⟨ex.cell (fun e => by simp only at b1; omega) (cellKeep HBn.out hHeld.1), ex.cell (fun e => by simp only at b2; omega) (cellKeep HBn.out hHeld.2.1), ex.cell (fun e => by simp only at b3; omega) (cellKeep HBn.out hHeld.2.2.1), range_ex (range_below hHeld.2.2.2 HLB.out HBn.out) (Nat.lt_of_lt_of_le HLB.out HBn.out.size) ex (fun e => by omega)⟩
          clear HE2d HELd HB3
          refine wpAnyH_take (i := 0) (v := ?_) rfl (by kernel_rfl) (by kernel_rfl) (by kernel_rfl) (fun _ _ _ h => h) (Or.inl ⟨by rfl, ?_⟩) (by assumption) ?_
          rotate_left
          · (intro w hSw; (try dsimp only at hSw); go_simp; try (with_reducible rfl))
          try simp only [Act.put, List.getElem_toArray, List.getElem_cons_zero, List.getElem_cons_succ, List.setIfInBounds_toArray, List.set_cons_zero, List.set_cons_succ]
          refine wpAnyH_take (i := 1) (v := ?_) rfl (by kernel_rfl) (by kernel_rfl) (by kernel_rfl) (fun _ _ _ h => h) (Or.inl ⟨by rfl, ?_⟩) (by assumption) ?_
          rotate_left
          · (intro w hSw; (try dsimp only at hSw); go_simp; try (with_reducible rfl))
          try simp only [Act.put, List.getElem_toArray, List.getElem_cons_zero, List.getElem_cons_succ, List.setIfInBounds_toArray, List.set_cons_zero, List.set_cons_succ]
          refine wpAnyH_take (i := 2) (v := ?_) rfl (by kernel_rfl) (by kernel_rfl) (by kernel_rfl) (fun _ _ _ h => h) (Or.inl ⟨by rfl, ?_⟩) (by assumption) ?_
          rotate_left
          · (intro w hSw; (try dsimp only at hSw); go_simp; try (with_reducible rfl))
          try simp only [Act.put, List.getElem_toArray, List.getElem_cons_zero, List.getElem_cons_succ, List.setIfInBounds_toArray, List.set_cons_zero, List.set_cons_succ]
          refine wpAnyH_take (i := 3) (v := ?_) rfl (by kernel_rfl) (by kernel_rfl) (by kernel_rfl) (fun _ _ _ h => h) (Or.inl ⟨by rfl, ?_⟩) (by assumption) ?_
          rotate_left
          · (intro w hSw; (try dsimp only at hSw); go_simp; try (with_reducible rfl))
          try simp only [Act.put, List.getElem_toArray, List.getElem_cons_zero, List.getElem_cons_succ, List.setIfInBounds_toArray, List.set_cons_zero, List.set_cons_succ]
          refine wpAnyH_take (i := 4) (v := ?_) rfl (by kernel_rfl) (by kernel_rfl) (by kernel_rfl) (fun _ _ _ h => h) (Or.inl ⟨by rfl, ?_⟩) (by assumption) ?_
          rotate_left
          · (intro w hSw; (try dsimp only at hSw); go_simp; try (with_reducible rfl))
          try simp only [Act.put, List.getElem_toArray, List.getElem_cons_zero, List.getElem_cons_succ, List.setIfInBounds_toArray, List.set_cons_zero, List.set_cons_succ]
          refine wpAnyH_take (i := 5) (v := ?_) rfl (by kernel_rfl) (by kernel_rfl) (by kernel_rfl) (fun _ _ _ h => h) (Or.inl ⟨by rfl, ?_⟩) (by assumption) ?_
          rotate_left
          · (intro w hSw; (try dsimp only at hSw); go_simp; try (with_reducible rfl))
          try simp only [Act.put, List.getElem_toArray, List.getElem_cons_zero, List.getElem_cons_succ, List.setIfInBounds_toArray, List.set_cons_zero, List.set_cons_succ]
          refine wpAnyH_take (i := 6) (v := ?_) rfl (by kernel_rfl) (by kernel_rfl) (by kernel_rfl) (fun _ _ _ h => h) (Or.inl ⟨by rfl, ?_⟩) (by assumption) ?_
          rotate_left
          · (intro w hSw; (try dsimp only at hSw); go_simp; try (with_reducible rfl))
          try simp only [Act.put, List.getElem_toArray, List.getElem_cons_zero, List.getElem_cons_succ, List.setIfInBounds_toArray, List.set_cons_zero, List.set_cons_succ]
          refine wpAnyH_take (i := 7) (v := ?_) rfl (by kernel_rfl) (by kernel_rfl) (by kernel_rfl) (fun _ _ _ h => h) (Or.inl ⟨by rfl, ?_⟩) (by assumption) ?_
          rotate_left
          · (intro w hSw; (try dsimp only at hSw); go_simp; try (with_reducible rfl))
          try simp only [Act.put, List.getElem_toArray, List.getElem_cons_zero, List.getElem_cons_succ, List.setIfInBounds_toArray, List.set_cons_zero, List.set_cons_succ]
          refine wpAnyH_take (i := 8) (v := ?_) rfl (by kernel_rfl) (by kernel_rfl) (by kernel_rfl) (fun _ _ _ h => h) (Or.inl ⟨by rfl, ?_⟩) (by assumption) ?_
          rotate_left
          · (intro w hSw; (try dsimp only at hSw); go_simp; try (with_reducible rfl))
          try simp only [Act.put, List.getElem_toArray, List.getElem_cons_zero, List.getElem_cons_succ, List.setIfInBounds_toArray, List.set_cons_zero, List.set_cons_succ]
          refine wpAnyH_take (i := 9) rfl (by kernel_rfl) (by kernel_rfl) (by kernel_rfl) (fun _ _ _ h => h) (yieldsIf_load_mid (by rfl) 95 (.tmp 126) rfl lb2 (lo2 + q * 86) rfl Lv _ (fun w h => h.2.2.2) Try.underlying95 rfl (by rw [HLl.out]; exact Try.sz95)) (by assumption) ?_
          try simp only [Act.put, List.getElem_toArray, List.getElem_cons_zero, List.getElem_cons_succ, List.setIfInBounds_toArray, List.set_cons_zero, List.set_cons_succ]
          refine wpAnyH_ready (rs := [10]) (by kernel_rfl) (by simp) ?_
          refine (AllReadyH.cons rfl (fun K hK => ?_) AllReadyH.nil)
          go_simp
          refine hK.out _ _ ?_ (fun hHeld => ?_)
          · exact ⟨cellKeep HBn.out hHeld.1, cellKeep HBn.out hHeld.2.1, cellKeep HBn.out hHeld.2.2.1, range_below hHeld.2.2.2 HLB.out HBn.out⟩
          clear hK K
          try simp only [Act.put, List.getElem_toArray, List.getElem_cons_zero, List.getElem_cons_succ, List.setIfInBounds_toArray, List.set_cons_zero, List.set_cons_succ]
          try rw [hE3]
          clear hE3
          generalize wd.alloc (.cells Try.zeroCells95 95) = we at *
          refine wpAnyH_ready (rs := [11]) (by kernel_rfl) (by simp) ?_
          refine (AllReadyH.cons rfl (fun K hK => ?_) AllReadyH.nil)
          refine step_storeM rfl 95 (.tmp 15) (.tmp 127) rfl E3 0 Lv rfl rfl (by rw [HLl.out]; exact HT3.out) (by rw [HLl.out]; exact Try.sz95) HLo.out ?_
          refine hK.out _ _ ?_ (fun hHeld => ?_)
          · exact ⟨HXC.out.1, HXC.out.2.1, HXC.out.2.2.1, HXC.out.2.2.2⟩
          clear hK K
          try simp only [Act.put, List.getElem_toArray, List.getElem_cons_zero, List.getElem_cons_succ, List.setIfInBounds_toArray, List.set_cons_zero, List.set_cons_succ]
          refine wpAnyH_done (by kernel_rfl) ?_ _
          clear hHeld hz95
          generalize we.setCells E3 0 Lv = wg at *
          have c45 : wg.cell? ⟨E2, 45, none⟩ = some (.bool x.ht) := by have := HG2.out 45 _ HF45.out; rwa [Nat.zero_add] at this
          clear HXC HT3 HBn HLB
          obtain ⟨ht, hht⟩ : ∃ q, x.ht = q := ⟨_, rfl⟩
          rw [hht] at c45
          cases ht
          · go_wp2
            go_roundw
            case rel => exact ⟨j + 1, by omega, by go_num, HBS.out⟩
            case measure => simp [intOf]; omega
          have hr := HRO.out hht
          obtain ⟨U, hU⟩ : ∃ U, msv (txMsg t) = U := ⟨_, rfl⟩
          have HUe := hide hU
          have HUl : Hid (U.length = 41) := by rw [← hU]; exact msv_len HMO.out
          obtain ⟨f, hf⟩ : ∃ f, fld t 43 = f := ⟨_, rfl⟩
          have HU1 : Hid (U[1]? = some (.int .u8 f)) := by rw [← hU, ← hf, show fld t 43 = fld (txMsg t) 1 from (fld_msg t 1).symm]; exact fld_at HMO.out (by omega)
          have HU2' : Hid (U[2]? = some (.int .u8 c)) := by rw [← hU, ← hr.dst, show fld t 44 = fld (txMsg t) 2 from (fld_msg t 2).symm]; exact fld_at HMO.out (by omega)
          have HU2 := hide (HF46.out wg E2 HG2.out)
          rw [hr.tk, hU] at HU2
          have HU3 := hide (HLm.out wg E3 HG3.out)
          rw [hU] at HU3
          have c47 : wg.cell? ⟨E2, 47, none⟩ = some (.int .u8 f) := HU2.out 1 _ HU1.out
          have c48 : wg.cell? ⟨E2, 48, none⟩ = some (.int .u8 c) := HU2.out 2 _ HU2'.out
          have c31 : wg.cell? ⟨E3, 1, none⟩ = some (.int .u8 c) := by have := HG3.out 1 _ HLc.out; rwa [Nat.zero_add] at this
          have he68 : ∀ w, (Op.equalIn 10000 68 (.agg U.toArray) (.agg U.toArray)).run Try.prog w = .ok true w := fun w => by have := eq68 w HMO.out HMO.out 9996; rw [hU] at this; simpa using this
          have hram := hr.am
          rw [hf] at hram
          have hrct := hr.ct
          have hrno := hr.no
          obtain ⟨S1', hp1⟩ := HMZ.out.p1
          obtain ⟨S2', hp2⟩ := HMZ.out.p2
          obtain ⟨oa1, oc1, co1, ow1, ok1⟩ := hp1.outs f
          obtain ⟨ia1, ic1, ci1, iw1, ik1⟩ := hp1.inbs c
          obtain ⟨ia2, ic2, ci2, iw2, ik2⟩ := hp2.inbs c
          have HTM : Hid (∀ y, Below z0.heap.size z0 y → Calls Try.prog 38 #[.slice ia2 (P2.box c).inb.length ic2, .agg U.toArray] y fun e w' => e = .returned (.int .i64 1) ∧ Below y.heap.size y w') := fun y hy => by
            have := times_any y (.slice ia2 (P2.box c).inb.length ic2) (P2.box c).inb (txMsg t) (own_kept iw2 (Ex.of (S := fun _ => False) hy) (fun _ _ e => e)) ik2 HMO.out
            rw [hrct, HUe.out] at this
            exact this
          have HAM3 : Hid (∀ y, Below z0.heap.size z0 y → Calls Try.prog 37 #[.slice ia1 (P.box c).inb.length ic1, .agg U.toArray] y fun e w' => e = .returned (.bool false) ∧ Below y.heap.size y w') := fun y hy => by
            have := among_any y (.slice ia1 (P.box c).inb.length ic1) (P.box c).inb (txMsg t) (own_kept iw1 (Ex.of (S := fun _ => False) hy) (fun _ _ e => e)) ik1 HMO.out
            rw [decide_eq_false hrno, HUe.out] at this
            exact this
          have HAMX : Hid (txMsg t ∈ r.stm ∨ ∀ y, Below z0.heap.size z0 y → Calls Try.prog 37 #[.slice oa1 (P.box f).out.length oc1, .agg U.toArray] y fun e w' => e = .returned (.bool true) ∧ Below y.heap.size y w') := by
            rcases hram with z | z
            · exact .inl z
            · right
              intro y hy
              have := among_any y (.slice oa1 (P.box f).out.length oc1) (P.box f).out (txMsg t) (own_kept ow1 (Ex.of (S := fun _ => False) hy) (fun _ _ e => e)) ok1 HMO.out
              rw [decide_eq_true z, HUe.out] at this
              exact this
          have HAMS : Hid (∀ y, Below z0.heap.size z0 y → Calls Try.prog 37 #[.slice ta r.stm.length tc, .agg U.toArray] y fun e w' => e = .returned (.bool (decide (txMsg t ∈ r.stm))) ∧ Below y.heap.size y w') := fun y hy => by
            have := among_any y (.slice ta r.stm.length tc) r.stm (txMsg t) (own_kept HSO.out (Ex.of (S := fun _ => False) hy) (fun _ _ e => e)) HMZ.out.ok.sm HMO.out
            rw [HUe.out] at this
            exact this
          clear hr hU hf hram hrct hrno hp1 hp2 ow1 ok1 iw1 ik1 iw2 ik2 HG2 HG3 HF46 HLm HRO HU1 HU2' HSO
          generalize (P.box f).out.length = n1 at *
          generalize (P.box c).inb.length = m1 at *
          generalize (P2.box c).inb.length = m2 at *
          go_upto_region 26 with fail
          go_wp2_with fail
          simp only [Try.sizeOf68, Result.andThen, show ((41 : Nat) = 0) = False from by simp, ↓reduceIte]
          rw [Oper.upon_value]
          go_wp2_with fail
          simp only [Try.isAgg68, Try.sizeOf68, Result.andThen, ↓reduceIte, ldC wg E2 46 U 41 HUl.out HU2.out]
          rw [Oper.upon_value]
          go_wp2_with fail
          simp only [Try.sizeOf68, Result.andThen, show ((41 : Nat) = 0) = False from by simp, ↓reduceIte]
          rw [Oper.upon_value]
          go_wp2_with fail
          simp only [Try.isAgg68, Try.sizeOf68, Result.andThen, ↓reduceIte, ldC wg E3 44 U 41 HUl.out HU3.out]
          rw [Oper.upon_value]
          go_wp2_with fail
          simp only [Try.sizeOf68, Result.andThen, show ((41 : Nat) = 0) = False from by simp, ↓reduceIte]
          rw [Oper.upon_value]
          go_upto_region 28 with fail
          have HS28 : Hid ((fun (w' : World) => Below z0.heap.size z0 w' ∧ w'.cell? ⟨A5, 4, none⟩ = some (.slice ta r.stm.length tc) ∧ w'.rangeAt E2 46 U ∧ w'.cell? ⟨E2, 47, none⟩ = some (.int .u8 f) ∧ w'.cell? ⟨A1, boxO f + 1, none⟩ = some (.slice oa1 n1 oc1) ∧ w'.cell? ⟨E3, 1, none⟩ = some (.int .u8 c)) wg.drew) := ⟨HBS.out.drew, cellKeep HBS.out.drew z4, HU2.out, c47, cellKeep HBS.out.drew co1, c31⟩
          clear c45 c47 c48 c31 he68 HU3 HU2
          by_cases hst : txMsg t ∈ r.stm
          · have HAM1 := hide HAMS.out
            rw [decide_eq_true hst] at HAM1
            clear HAMS HAMX hst
            have hz68 := Try.sizeOf68
            refine wp_region_held_drew (S := fun (w' : World) => Below z0.heap.size z0 w' ∧ w'.cell? ⟨A5, 4, none⟩ = some (.slice ta r.stm.length tc) ∧ w'.rangeAt E2 46 U ∧ w'.cell? ⟨E2, 47, none⟩ = some (.int .u8 f) ∧ w'.cell? ⟨A1, boxO f + 1, none⟩ = some (.slice oa1 n1 oc1) ∧ w'.cell? ⟨E3, 1, none⟩ = some (.int .u8 c)) (by kernel_rfl) HS28.out (fun hHeld => ?_)
            clear HS28
            refine wpAnyH_take (i := 0) (v := ?_) rfl (by kernel_rfl) (by kernel_rfl) (by kernel_rfl) (fun _ _ _ h => h) (Or.inl ⟨by rfl, ?_⟩) (by assumption) ?_
            rotate_left
            · (intro w hSw; (try dsimp only at hSw); go_simp; try (with_reducible rfl))
            try simp only [Act.put, List.getElem_toArray, List.getElem_cons_zero, List.getElem_cons_succ, List.setIfInBounds_toArray, List.set_cons_zero, List.set_cons_succ]
            refine wpAnyH_take (i := 1) (v := ?_) rfl (by kernel_rfl) (by kernel_rfl) (by kernel_rfl) (fun _ _ _ h => h) (Or.inl ⟨by rfl, ?_⟩) (by assumption) ?_
            rotate_left
            · (intro w hSw; (try dsimp only at hSw); go_simp; try (with_reducible rfl))
            try simp only [Act.put, List.getElem_toArray, List.getElem_cons_zero, List.getElem_cons_succ, List.setIfInBounds_toArray, List.set_cons_zero, List.set_cons_succ]
            refine wpAnyH_take (i := 2) (v := ?_) rfl (by kernel_rfl) (by kernel_rfl) (by kernel_rfl) (fun _ _ _ h => h) (Or.inl ⟨by rfl, ?_⟩) (by assumption) ?_
            rotate_left
            · (intro w hSw; (try dsimp only at hSw); go_simp; try (with_reducible rfl))
            try simp only [Act.put, List.getElem_toArray, List.getElem_cons_zero, List.getElem_cons_succ, List.setIfInBounds_toArray, List.set_cons_zero, List.set_cons_succ]
            refine wpAnyH_take (i := 3) rfl (by kernel_rfl) (by kernel_rfl) (by kernel_rfl) (fun _ _ _ h => h) (yieldsIf_load_mid (by rfl) 68 (.tmp 147) rfl E2 (46) rfl U _ (fun w h => h.2.2.1) Try.underlying68 rfl (by rw [HUl.out]; exact Try.sz68)) (by assumption) ?_
            try simp only [Act.put, List.getElem_toArray, List.getElem_cons_zero, List.getElem_cons_succ, List.setIfInBounds_toArray, List.set_cons_zero, List.set_cons_succ]
            refine wpAnyH_ready (rs := [4]) (by kernel_rfl) (by simp) ?_
            refine (AllReadyH.cons rfl (fun K hK => ?_) AllReadyH.nil)
            refine step_call rfl 37 #[.slice ta r.stm.length tc, .agg U.toArray] (by simp [go_sem]) (HAM1.out _ hHeld.1) ?_
            rintro e wq ⟨rfl, hbq⟩
            have HBq := hide hbq
            have HBQ := hide (lec hHeld.1 hbq)
            clear hbq
            refine ⟨_, rfl, ?_⟩
            refine hK.out _ _ ?_ (fun hHeld => ?_)
            · exact ⟨HBQ.out, cellKeep HBq.out hHeld.2.1, range_below hHeld.2.2.1 (World.block_lt_of_cell? _ _ hHeld.2.2.2.1) HBq.out, cellKeep HBq.out hHeld.2.2.2.1, cellKeep HBq.out hHeld.2.2.2.2.1, cellKeep HBq.out hHeld.2.2.2.2.2⟩
            clear hK K
            try simp only [Act.put, List.getElem_toArray, List.getElem_cons_zero, List.getElem_cons_succ, List.setIfInBounds_toArray, List.set_cons_zero, List.set_cons_succ]
            refine wpAnyH_take (i := 5) (v := ?_) rfl (by kernel_rfl) (by kernel_rfl) (by kernel_rfl) (fun _ _ _ h => h) (Or.inl ⟨by rfl, ?_⟩) (by assumption) ?_
            rotate_left
            · (intro w hSw; (try dsimp only at hSw); go_simp; try (with_reducible rfl))
            try simp only [Act.put, List.getElem_toArray, List.getElem_cons_zero, List.getElem_cons_succ, List.setIfInBounds_toArray, List.set_cons_zero, List.set_cons_succ]
            refine wpAnyH_take (i := 6) (v := ?_) rfl (by kernel_rfl) (by kernel_rfl) (by kernel_rfl) (fun _ _ _ h => h) (Or.inl ⟨by rfl, ?_⟩) (by assumption) ?_
            rotate_left
            · (intro w hSw; (try dsimp only at hSw); go_simp; try (with_reducible rfl))
            try simp only [Act.put, List.getElem_toArray, List.getElem_cons_zero, List.getElem_cons_succ, List.setIfInBounds_toArray, List.set_cons_zero, List.set_cons_succ]
            refine wpAnyH_take (i := 7) (v := undef) rfl (by kernel_rfl) (by kernel_rfl) (by kernel_rfl) (fun _ _ _ h => h) (Or.inr ⟨by rfl, rfl⟩) (by assumption) ?_
            try simp only [Act.put, List.getElem_toArray, List.getElem_cons_zero, List.getElem_cons_succ, List.setIfInBounds_toArray, List.set_cons_zero, List.set_cons_succ]
            refine wpAnyH_take (i := 8) (v := undef) rfl (by kernel_rfl) (by kernel_rfl) (by kernel_rfl) (fun _ _ _ h => h) (Or.inr ⟨by rfl, rfl⟩) (by assumption) ?_
            try simp only [Act.put, List.getElem_toArray, List.getElem_cons_zero, List.getElem_cons_succ, List.setIfInBounds_toArray, List.set_cons_zero, List.set_cons_succ]
            refine wpAnyH_take (i := 9) (v := undef) rfl (by kernel_rfl) (by kernel_rfl) (by kernel_rfl) (fun _ _ _ h => h) (Or.inr ⟨by rfl, rfl⟩) (by assumption) ?_
            try simp only [Act.put, List.getElem_toArray, List.getElem_cons_zero, List.getElem_cons_succ, List.setIfInBounds_toArray, List.set_cons_zero, List.set_cons_succ]
            refine wpAnyH_take (i := 10) (v := undef) rfl (by kernel_rfl) (by kernel_rfl) (by kernel_rfl) (fun _ _ _ h => h) (Or.inr ⟨by rfl, rfl⟩) (by assumption) ?_
            try simp only [Act.put, List.getElem_toArray, List.getElem_cons_zero, List.getElem_cons_succ, List.setIfInBounds_toArray, List.set_cons_zero, List.set_cons_succ]
            refine wpAnyH_take (i := 11) (v := undef) rfl (by kernel_rfl) (by kernel_rfl) (by kernel_rfl) (fun _ _ _ h => h) (Or.inr ⟨by rfl, rfl⟩) (by assumption) ?_
            try simp only [Act.put, List.getElem_toArray, List.getElem_cons_zero, List.getElem_cons_succ, List.setIfInBounds_toArray, List.set_cons_zero, List.set_cons_succ]
            refine wpAnyH_take (i := 12) (v := undef) rfl (by kernel_rfl) (by kernel_rfl) (by kernel_rfl) (fun _ _ _ h => h) (Or.inr ⟨by rfl, rfl⟩) (by assumption) ?_
            try simp only [Act.put, List.getElem_toArray, List.getElem_cons_zero, List.getElem_cons_succ, List.setIfInBounds_toArray, List.set_cons_zero, List.set_cons_succ]
            refine wpAnyH_take (i := 13) (v := undef) rfl (by kernel_rfl) (by kernel_rfl) (by kernel_rfl) (fun _ _ _ h => h) (Or.inr ⟨by rfl, rfl⟩) (by assumption) ?_
            try simp only [Act.put, List.getElem_toArray, List.getElem_cons_zero, List.getElem_cons_succ, List.setIfInBounds_toArray, List.set_cons_zero, List.set_cons_succ]
            refine wpAnyH_take (i := 14) (v := undef) rfl (by kernel_rfl) (by kernel_rfl) (by kernel_rfl) (fun _ _ _ h => h) (Or.inr ⟨by rfl, rfl⟩) (by assumption) ?_
            try simp only [Act.put, List.getElem_toArray, List.getElem_cons_zero, List.getElem_cons_succ, List.setIfInBounds_toArray, List.set_cons_zero, List.set_cons_succ]
            refine wpAnyH_take (i := 15) (v := undef) rfl (by kernel_rfl) (by kernel_rfl) (by kernel_rfl) (fun _ _ _ h => h) (Or.inr ⟨by rfl, rfl⟩) (by assumption) ?_
            try simp only [Act.put, List.getElem_toArray, List.getElem_cons_zero, List.getElem_cons_succ, List.setIfInBounds_toArray, List.set_cons_zero, List.set_cons_succ]
            refine wpAnyH_take (i := 16) (v := undef) rfl (by kernel_rfl) (by kernel_rfl) (by kernel_rfl) (fun _ _ _ h => h) (Or.inr ⟨by rfl, rfl⟩) (by assumption) ?_
            try simp only [Act.put, List.getElem_toArray, List.getElem_cons_zero, List.getElem_cons_succ, List.setIfInBounds_toArray, List.set_cons_zero, List.set_cons_succ]
            refine wpAnyH_take (i := 17) (v := undef) rfl (by kernel_rfl) (by kernel_rfl) (by kernel_rfl) (fun _ _ _ h => h) (Or.inr ⟨by rfl, rfl⟩) (by assumption) ?_
            try simp only [Act.put, List.getElem_toArray, List.getElem_cons_zero, List.getElem_cons_succ, List.setIfInBounds_toArray, List.set_cons_zero, List.set_cons_succ]
            refine wpAnyH_take (i := 18) (v := ?_) rfl (by kernel_rfl) (by kernel_rfl) (by kernel_rfl) (fun _ _ _ h => h) (Or.inl ⟨by rfl, ?_⟩) (by assumption) ?_
            rotate_left
            · (intro w hSw; (try dsimp only at hSw); go_simp; try (with_reducible rfl))
            try simp only [Act.put, List.getElem_toArray, List.getElem_cons_zero, List.getElem_cons_succ, List.setIfInBounds_toArray, List.set_cons_zero, List.set_cons_succ]
            refine wpAnyH_done (by kernel_rfl) ?_ _
            have HT := hide hHeld
            clear hHeld hz68
            go_upto_region 30 with fail
            have hz68 := Try.sizeOf68
            have HS30 : Hid ((fun (w' : World) => Below z0.heap.size z0 w' ∧ w'.cell? ⟨E3, 1, none⟩ = some (.int .u8 c) ∧ w'.rangeAt E2 46 U ∧ w'.cell? ⟨E2, 47, none⟩ = some (.int .u8 f) ∧ w'.cell? ⟨A3, boxO c + 2, none⟩ = some (.slice ia2 m2 ic2) ∧ w'.cell? ⟨A1, boxO c + 2, none⟩ = some (.slice ia1 m1 ic1)) wq.drew) := ⟨HT.out.1.drew, HT.out.2.2.2.2.2, HT.out.2.2.1, HT.out.2.2.2.1, cellKeep HT.out.1.drew ci2, cellKeep HT.out.1.drew ci1⟩
            refine wp_region_held_drew (S := fun (w' : World) => Below z0.heap.size z0 w' ∧ w'.cell? ⟨E3, 1, none⟩ = some (.int .u8 c) ∧ w'.rangeAt E2 46 U ∧ w'.cell? ⟨E2, 47, none⟩ = some (.int .u8 f) ∧ w'.cell? ⟨A3, boxO c + 2, none⟩ = some (.slice ia2 m2 ic2) ∧ w'.cell? ⟨A1, boxO c + 2, none⟩ = some (.slice ia1 m1 ic1)) (by kernel_rfl) HS30.out (fun hHeld => ?_)
            clear HS30 HT
            refine wpAnyH_take (i := 0) (v := ?_) rfl (by kernel_rfl) (by kernel_rfl) (by kernel_rfl) (fun _ _ _ h => h) (Or.inl ⟨by rfl, ?_⟩) (by assumption) ?_
            rotate_left
            · (intro w hSw; (try dsimp only at hSw); go_simp; try (with_reducible rfl))
            try simp only [Act.put, List.getElem_toArray, List.getElem_cons_zero, List.getElem_cons_succ, List.setIfInBounds_toArray, List.set_cons_zero, List.set_cons_succ]
            refine wpAnyH_take (i := 1) (v := ?_) rfl (by kernel_rfl) (by kernel_rfl) (by kernel_rfl) (fun _ _ _ h => h) (Or.inl ⟨by rfl, ?_⟩) (by assumption) ?_
            rotate_left
            · (intro w hSw; (try dsimp only at hSw); go_simp; try (with_reducible rfl))
            try simp only [Act.put, List.getElem_toArray, List.getElem_cons_zero, List.getElem_cons_succ, List.setIfInBounds_toArray, List.set_cons_zero, List.set_cons_succ]
            refine wpAnyH_take (i := 6) (v := ?_) rfl (by kernel_rfl) (by kernel_rfl) (by kernel_rfl) (fun _ _ _ h => h) (Or.inl ⟨by rfl, ?_⟩) (by assumption) ?_
            rotate_left
            · (intro w hSw; (try dsimp only at hSw); go_simp; try (with_reducible rfl))
            try simp only [Act.put, List.getElem_toArray, List.getElem_cons_zero, List.getElem_cons_succ, List.setIfInBounds_toArray, List.set_cons_zero, List.set_cons_succ]
            refine wpAnyH_take (i := 7) rfl (by kernel_rfl) (by kernel_rfl) (by kernel_rfl) (fun _ _ _ h => h) (yieldsIf_load_mid (by rfl) 68 (.tmp 170) rfl E2 (46) rfl U _ (fun w h => h.2.2.1) Try.underlying68 rfl (by rw [HUl.out]; exact Try.sz68)) (by assumption) ?_
            try simp only [Act.put, List.getElem_toArray, List.getElem_cons_zero, List.getElem_cons_succ, List.setIfInBounds_toArray, List.set_cons_zero, List.set_cons_succ]
            refine wpAnyH_ready (rs := [2]) (by kernel_rfl) (by simp) ?_
            refine (AllReadyH.cons rfl (fun K hK => ?_) AllReadyH.nil)
            refine step_call rfl 36 #[.pointer (some ⟨A3, 0, none⟩), .int .u8 c] (by simp [go_sem]) (wbox_any _ A3 c) ?_
            rintro e wq ⟨rfl, rfl⟩
            refine ⟨_, rfl, ?_⟩
            refine hK.out _ _ ?_ (fun hHeld => ?_)
            · exact hHeld
            clear hK K
            try simp only [Act.put, List.getElem_toArray, List.getElem_cons_zero, List.getElem_cons_succ, List.setIfInBounds_toArray, List.set_cons_zero, List.set_cons_succ]
            refine wpAnyH_take (i := 3) (v := ?_) rfl (by kernel_rfl) (by kernel_rfl) (by kernel_rfl) (fun _ _ _ h => h) (Or.inl ⟨by rfl, ?_⟩) (by assumption) ?_
            rotate_left
            · (intro w hSw; (try dsimp only at hSw); go_simp; try (with_reducible rfl))
            try simp only [Act.put, List.getElem_toArray, List.getElem_cons_zero, List.getElem_cons_succ, List.setIfInBounds_toArray, List.set_cons_zero, List.set_cons_succ]
            refine wpAnyH_take (i := 4) (v := ?_) rfl (by kernel_rfl) (by kernel_rfl) (by kernel_rfl) (fun _ _ _ h => h) (Or.inl ⟨by rfl, ?_⟩) (by assumption) ?_
            rotate_left
            · (intro w hSw; (try dsimp only at hSw); go_simp; try (with_reducible rfl))
            try simp only [Act.put, List.getElem_toArray, List.getElem_cons_zero, List.getElem_cons_succ, List.setIfInBounds_toArray, List.set_cons_zero, List.set_cons_succ]
            refine wpAnyH_take (i := 5) (v := ?_) rfl (by kernel_rfl) (by kernel_rfl) (by kernel_rfl) (fun _ _ _ h => h) (Or.inl ⟨by rfl, ?_⟩) (by assumption) ?_
            rotate_left
            · (intro w hSw; (try dsimp only at hSw); go_simp; try (with_reducible rfl))
            try simp only [Act.put, List.getElem_toArray, List.getElem_cons_zero, List.getElem_cons_succ, List.setIfInBounds_toArray, List.set_cons_zero, List.set_cons_succ]
            refine wpAnyH_ready (rs := [8]) (by kernel_rfl) (by simp) ?_
            refine (AllReadyH.cons rfl (fun K hK => ?_) AllReadyH.nil)
            refine step_call rfl 38 #[.slice ia2 m2 ic2, .agg U.toArray] (by simp [go_sem]) (HTM.out _ hHeld.1) ?_
            rintro e wq ⟨rfl, hbq⟩
            have HBq := hide hbq
            have HBQ := hide (lec hHeld.1 hbq)
            clear hbq
            refine ⟨_, rfl, ?_⟩
            refine hK.out _ _ ?_ (fun hHeld => ?_)
            · exact ⟨HBQ.out, cellKeep HBq.out hHeld.2.1, range_below hHeld.2.2.1 (World.block_lt_of_cell? _ _ hHeld.2.2.2.1) HBq.out, cellKeep HBq.out hHeld.2.2.2.1, cellKeep HBq.out hHeld.2.2.2.2.1, cellKeep HBq.out hHeld.2.2.2.2.2⟩
            clear hK K
            try simp only [Act.put, List.getElem_toArray, List.getElem_cons_zero, List.getElem_cons_succ, List.setIfInBounds_toArray, List.set_cons_zero, List.set_cons_succ]
            refine wpAnyH_take (i := 9) (v := ?_) rfl (by kernel_rfl) (by kernel_rfl) (by kernel_rfl) (fun _ _ _ h => h) (Or.inl ⟨by rfl, ?_⟩) (by assumption) ?_
            rotate_left
            · (intro w hSw; (try dsimp only at hSw); go_simp; try (with_reducible rfl))
            try simp only [Act.put, List.getElem_toArray, List.getElem_cons_zero, List.getElem_cons_succ, List.setIfInBounds_toArray, List.set_cons_zero, List.set_cons_succ]
            refine wpAnyH_take (i := 10) (v := ?_) rfl (by kernel_rfl) (by kernel_rfl) (by kernel_rfl) (fun _ _ _ h => h) (Or.inl ⟨by rfl, ?_⟩) (by assumption) ?_
            rotate_left
            · (intro w hSw; (try dsimp only at hSw); go_simp; try (with_reducible rfl))
            try simp only [Act.put, List.getElem_toArray, List.getElem_cons_zero, List.getElem_cons_succ, List.setIfInBounds_toArray, List.set_cons_zero, List.set_cons_succ]
            refine wpAnyH_take (i := 11) (v := ?_) rfl (by kernel_rfl) (by kernel_rfl) (by kernel_rfl) (fun _ _ _ h => h) (Or.inl ⟨by rfl, ?_⟩) (by assumption) ?_
            rotate_left
            · (intro w hSw; (try dsimp only at hSw); go_simp; try (with_reducible rfl))
            try simp only [Act.put, List.getElem_toArray, List.getElem_cons_zero, List.getElem_cons_succ, List.setIfInBounds_toArray, List.set_cons_zero, List.set_cons_succ]
            refine wpAnyH_take (i := 12) (v := ?_) rfl (by kernel_rfl) (by kernel_rfl) (by kernel_rfl) (fun _ _ _ h => h) (Or.inl ⟨by rfl, ?_⟩) (by assumption) ?_
            rotate_left
            · (intro w hSw; (try dsimp only at hSw); go_simp; try (with_reducible rfl))
            try simp only [Act.put, List.getElem_toArray, List.getElem_cons_zero, List.getElem_cons_succ, List.setIfInBounds_toArray, List.set_cons_zero, List.set_cons_succ]
            refine wpAnyH_take (i := 17) (v := ?_) rfl (by kernel_rfl) (by kernel_rfl) (by kernel_rfl) (fun _ _ _ h => h) (Or.inl ⟨by rfl, ?_⟩) (by assumption) ?_
            rotate_left
            · (intro w hSw; (try dsimp only at hSw); go_simp; try (with_reducible rfl))
            try simp only [Act.put, List.getElem_toArray, List.getElem_cons_zero, List.getElem_cons_succ, List.setIfInBounds_toArray, List.set_cons_zero, List.set_cons_succ]
            refine wpAnyH_take (i := 18) rfl (by kernel_rfl) (by kernel_rfl) (by kernel_rfl) (fun _ _ _ h => h) (yieldsIf_load_mid (by rfl) 68 (.tmp 181) rfl E2 (46) rfl U _ (fun w h => h.2.2.1) Try.underlying68 rfl (by rw [HUl.out]; exact Try.sz68)) (by assumption) ?_
            try simp only [Act.put, List.getElem_toArray, List.getElem_cons_zero, List.getElem_cons_succ, List.setIfInBounds_toArray, List.set_cons_zero, List.set_cons_succ]
            refine wpAnyH_ready (rs := [13]) (by kernel_rfl) (by simp) ?_
            refine (AllReadyH.cons rfl (fun K hK => ?_) AllReadyH.nil)
            refine step_call_g (by rfl) 36 #[.pointer (some ⟨A1, 0, none⟩), .int .u8 c] (by simp [go_sem]) (wbox_any _ A1 c) ?_
            rintro e wq ⟨rfl, rfl⟩
            refine ⟨_, rfl, ?_⟩
            refine hK.out _ _ ?_ (fun hHeld => ?_)
            · exact hHeld
            clear hK K
            try simp only [Act.put, List.getElem_toArray, List.getElem_cons_zero, List.getElem_cons_succ, List.setIfInBounds_toArray, List.set_cons_zero, List.set_cons_succ]
            refine wpAnyH_take (i := 14) (v := ?_) rfl (by kernel_rfl) (by kernel_rfl) (by kernel_rfl) (fun _ _ _ h => h) (Or.inl ⟨by rfl, ?_⟩) (by assumption) ?_
            rotate_left
            · (intro w hSw; (try dsimp only at hSw); go_simp; try (with_reducible rfl))
            try simp only [Act.put, List.getElem_toArray, List.getElem_cons_zero, List.getElem_cons_succ, List.setIfInBounds_toArray, List.set_cons_zero, List.set_cons_succ]
            refine wpAnyH_take (i := 15) (v := ?_) rfl (by kernel_rfl) (by kernel_rfl) (by kernel_rfl) (fun _ _ _ h => h) (Or.inl ⟨by rfl, ?_⟩) (by assumption) ?_
            rotate_left
            · (intro w hSw; (try dsimp only at hSw); go_simp; try (with_reducible rfl))
            try simp only [Act.put, List.getElem_toArray, List.getElem_cons_zero, List.getElem_cons_succ, List.setIfInBounds_toArray, List.set_cons_zero, List.set_cons_succ]
            refine wpAnyH_take (i := 16) (v := ?_) rfl (by kernel_rfl) (by kernel_rfl) (by kernel_rfl) (fun _ _ _ h => h) (Or.inl ⟨by rfl, ?_⟩) (by assumption) ?_
            rotate_left
            · (intro w hSw; (try dsimp only at hSw); go_simp; try (with_reducible rfl))
            try simp only [Act.put, List.getElem_toArray, List.getElem_cons_zero, List.getElem_cons_succ, List.setIfInBounds_toArray, List.set_cons_zero, List.set_cons_succ]
            refine wpAnyH_ready (rs := [19]) (by kernel_rfl) (by simp) ?_
            refine (AllReadyH.cons rfl (fun K hK => ?_) AllReadyH.nil)
            refine step_call_g (by rfl) 37 #[.slice ia1 m1 ic1, .agg U.toArray] (by simp [go_sem]) (HAM3.out _ hHeld.1) ?_
            rintro e wq ⟨rfl, hbq⟩
            have HBq := hide hbq
            have HBQ := hide (lec hHeld.1 hbq)
            clear hbq
            refine ⟨_, rfl, ?_⟩
            refine hK.out _ _ ?_ (fun hHeld => ?_)
            · exact ⟨HBQ.out, cellKeep HBq.out hHeld.2.1, range_below hHeld.2.2.1 (World.block_lt_of_cell? _ _ hHeld.2.2.2.1) HBq.out, cellKeep HBq.out hHeld.2.2.2.1, cellKeep HBq.out hHeld.2.2.2.2.1, cellKeep HBq.out hHeld.2.2.2.2.2⟩
            clear hK K
            try simp only [Act.put, List.getElem_toArray, List.getElem_cons_zero, List.getElem_cons_succ, List.setIfInBounds_toArray, List.set_cons_zero, List.set_cons_succ]
            refine wpAnyH_take (i := 20) (v := ?_) rfl (by kernel_rfl) (by kernel_rfl) (by kernel_rfl) (fun _ _ _ h => h) (Or.inl ⟨by rfl, ?_⟩) (by assumption) ?_
            rotate_left
            · (intro w hSw; (try dsimp only at hSw); go_simp; try (with_reducible rfl))
            try simp only [Act.put, List.getElem_toArray, List.getElem_cons_zero, List.getElem_cons_succ, List.setIfInBounds_toArray, List.set_cons_zero, List.set_cons_succ]
            refine wpAnyH_done (by kernel_rfl) ?_ _
            have HBF := hide hHeld.1
            clear hHeld hz68
            go_wp2
            go_roundw
            case rel => exact ⟨j + 1, by omega, by go_num, HBF.out⟩
            case measure => simp [intOf]; omega
          · have HAM1 := hide HAMS.out
            rw [decide_eq_false hst] at HAM1
            have HAM2 := hide (HAMX.out.resolve_left hst)
            clear HAMS HAMX hst
            have hz68 := Try.sizeOf68
            refine wp_region_held_drew (S := fun (w' : World) => Below z0.heap.size z0 w' ∧ w'.cell? ⟨A5, 4, none⟩ = some (.slice ta r.stm.length tc) ∧ w'.rangeAt E2 46 U ∧ w'.cell? ⟨E2, 47, none⟩ = some (.int .u8 f) ∧ w'.cell? ⟨A1, boxO f + 1, none⟩ = some (.slice oa1 n1 oc1) ∧ w'.cell? ⟨E3, 1, none⟩ = some (.int .u8 c)) (by kernel_rfl) HS28.out (fun hHeld => ?_)
            clear HS28
            refine wpAnyH_take (i := 0) (v := ?_) rfl (by kernel_rfl) (by kernel_rfl) (by kernel_rfl) (fun _ _ _ h => h) (Or.inl ⟨by rfl, ?_⟩) (by assumption) ?_
            rotate_left
            · (intro w hSw; (try dsimp only at hSw); go_simp; try (with_reducible rfl))
            try simp only [Act.put, List.getElem_toArray, List.getElem_cons_zero, List.getElem_cons_succ, List.setIfInBounds_toArray, List.set_cons_zero, List.set_cons_succ]
            refine wpAnyH_take (i := 1) (v := ?_) rfl (by kernel_rfl) (by kernel_rfl) (by kernel_rfl) (fun _ _ _ h => h) (Or.inl ⟨by rfl, ?_⟩) (by assumption) ?_
            rotate_left
            · (intro w hSw; (try dsimp only at hSw); go_simp; try (with_reducible rfl))
            try simp only [Act.put, List.getElem_toArray, List.getElem_cons_zero, List.getElem_cons_succ, List.setIfInBounds_toArray, List.set_cons_zero, List.set_cons_succ]
            refine wpAnyH_take (i := 2) (v := ?_) rfl (by kernel_rfl) (by kernel_rfl) (by kernel_rfl) (fun _ _ _ h => h) (Or.inl ⟨by rfl, ?_⟩) (by assumption) ?_
            rotate_left
            · (intro w hSw; (try dsimp only at hSw); go_simp; try (with_reducible rfl))
            try simp only [Act.put, List.getElem_toArray, List.getElem_cons_zero, List.getElem_cons_succ, List.setIfInBounds_toArray, List.set_cons_zero, List.set_cons_succ]
            refine wpAnyH_take (i := 3) rfl (by kernel_rfl) (by kernel_rfl) (by kernel_rfl) (fun _ _ _ h => h) (yieldsIf_load_mid (by rfl) 68 (.tmp 147) rfl E2 (46) rfl U _ (fun w h => h.2.2.1) Try.underlying68 rfl (by rw [HUl.out]; exact Try.sz68)) (by assumption) ?_
            try simp only [Act.put, List.getElem_toArray, List.getElem_cons_zero, List.getElem_cons_succ, List.setIfInBounds_toArray, List.set_cons_zero, List.set_cons_succ]
            refine wpAnyH_ready (rs := [4]) (by kernel_rfl) (by simp) ?_
            refine (AllReadyH.cons rfl (fun K hK => ?_) AllReadyH.nil)
            refine step_call rfl 37 #[.slice ta r.stm.length tc, .agg U.toArray] (by simp [go_sem]) (HAM1.out _ hHeld.1) ?_
            rintro e wq ⟨rfl, hbq⟩
            have HBq := hide hbq
            have HBQ := hide (lec hHeld.1 hbq)
            clear hbq
            refine ⟨_, rfl, ?_⟩
            refine hK.out _ _ ?_ (fun hHeld => ?_)
            · exact ⟨HBQ.out, cellKeep HBq.out hHeld.2.1, range_below hHeld.2.2.1 (World.block_lt_of_cell? _ _ hHeld.2.2.2.1) HBq.out, cellKeep HBq.out hHeld.2.2.2.1, cellKeep HBq.out hHeld.2.2.2.2.1, cellKeep HBq.out hHeld.2.2.2.2.2⟩
            clear hK K
            try simp only [Act.put, List.getElem_toArray, List.getElem_cons_zero, List.getElem_cons_succ, List.setIfInBounds_toArray, List.set_cons_zero, List.set_cons_succ]
            refine wpAnyH_take (i := 5) (v := ?_) rfl (by kernel_rfl) (by kernel_rfl) (by kernel_rfl) (fun _ _ _ h => h) (Or.inl ⟨by rfl, ?_⟩) (by assumption) ?_
            rotate_left
            · (intro w hSw; (try dsimp only at hSw); go_simp; try (with_reducible rfl))
            try simp only [Act.put, List.getElem_toArray, List.getElem_cons_zero, List.getElem_cons_succ, List.setIfInBounds_toArray, List.set_cons_zero, List.set_cons_succ]
            refine wpAnyH_take (i := 6) (v := ?_) rfl (by kernel_rfl) (by kernel_rfl) (by kernel_rfl) (fun _ _ _ h => h) (Or.inl ⟨by rfl, ?_⟩) (by assumption) ?_
            rotate_left
            · (intro w hSw; (try dsimp only at hSw); go_simp; try (with_reducible rfl))
            try simp only [Act.put, List.getElem_toArray, List.getElem_cons_zero, List.getElem_cons_succ, List.setIfInBounds_toArray, List.set_cons_zero, List.set_cons_succ]
            refine wpAnyH_take (i := 7) (v := ?_) rfl (by kernel_rfl) (by kernel_rfl) (by kernel_rfl) (fun _ _ _ h => h) (Or.inl ⟨by rfl, ?_⟩) (by assumption) ?_
            rotate_left
            · (intro w hSw; (try dsimp only at hSw); go_simp; try (with_reducible rfl))
            try simp only [Act.put, List.getElem_toArray, List.getElem_cons_zero, List.getElem_cons_succ, List.setIfInBounds_toArray, List.set_cons_zero, List.set_cons_succ]
            refine wpAnyH_take (i := 8) (v := ?_) rfl (by kernel_rfl) (by kernel_rfl) (by kernel_rfl) (fun _ _ _ h => h) (Or.inl ⟨by rfl, ?_⟩) (by assumption) ?_
            rotate_left
            · (intro w hSw; (try dsimp only at hSw); go_simp; try (with_reducible rfl))
            try simp only [Act.put, List.getElem_toArray, List.getElem_cons_zero, List.getElem_cons_succ, List.setIfInBounds_toArray, List.set_cons_zero, List.set_cons_succ]
            refine wpAnyH_take (i := 9) (v := ?_) rfl (by kernel_rfl) (by kernel_rfl) (by kernel_rfl) (fun _ _ _ h => h) (Or.inl ⟨by rfl, ?_⟩) (by assumption) ?_
            rotate_left
            · (intro w hSw; (try dsimp only at hSw); go_simp; try (with_reducible rfl))
            try simp only [Act.put, List.getElem_toArray, List.getElem_cons_zero, List.getElem_cons_succ, List.setIfInBounds_toArray, List.set_cons_zero, List.set_cons_succ]
            refine wpAnyH_take (i := 14) (v := ?_) rfl (by kernel_rfl) (by kernel_rfl) (by kernel_rfl) (fun _ _ _ h => h) (Or.inl ⟨by rfl, ?_⟩) (by assumption) ?_
            rotate_left
            · (intro w hSw; (try dsimp only at hSw); go_simp; try (with_reducible rfl))
            try simp only [Act.put, List.getElem_toArray, List.getElem_cons_zero, List.getElem_cons_succ, List.setIfInBounds_toArray, List.set_cons_zero, List.set_cons_succ]
            refine wpAnyH_take (i := 15) rfl (by kernel_rfl) (by kernel_rfl) (by kernel_rfl) (fun _ _ _ h => h) (yieldsIf_load_mid (by rfl) 68 (.tmp 159) rfl E2 (46) rfl U _ (fun w h => h.2.2.1) Try.underlying68 rfl (by rw [HUl.out]; exact Try.sz68)) (by assumption) ?_
            try simp only [Act.put, List.getElem_toArray, List.getElem_cons_zero, List.getElem_cons_succ, List.setIfInBounds_toArray, List.set_cons_zero, List.set_cons_succ]
            refine wpAnyH_ready (rs := [10]) (by kernel_rfl) (by simp) ?_
            refine (AllReadyH.cons rfl (fun K hK => ?_) AllReadyH.nil)
            refine step_call_g (by rfl) 36 #[.pointer (some ⟨A1, 0, none⟩), .int .u8 f] (by simp [go_sem]) (wbox_any _ A1 f) ?_
            rintro e wq ⟨rfl, rfl⟩
            refine ⟨_, rfl, ?_⟩
            refine hK.out _ _ ?_ (fun hHeld => ?_)
            · exact hHeld
            clear hK K
            try simp only [Act.put, List.getElem_toArray, List.getElem_cons_zero, List.getElem_cons_succ, List.setIfInBounds_toArray, List.set_cons_zero, List.set_cons_succ]
            refine wpAnyH_take (i := 11) (v := ?_) rfl (by kernel_rfl) (by kernel_rfl) (by kernel_rfl) (fun _ _ _ h => h) (Or.inl ⟨by rfl, ?_⟩) (by assumption) ?_
            rotate_left
            · (intro w hSw; (try dsimp only at hSw); go_simp; try (with_reducible rfl))
            try simp only [Act.put, List.getElem_toArray, List.getElem_cons_zero, List.getElem_cons_succ, List.setIfInBounds_toArray, List.set_cons_zero, List.set_cons_succ]
            refine wpAnyH_take (i := 12) (v := ?_) rfl (by kernel_rfl) (by kernel_rfl) (by kernel_rfl) (fun _ _ _ h => h) (Or.inl ⟨by rfl, ?_⟩) (by assumption) ?_
            rotate_left
            · (intro w hSw; (try dsimp only at hSw); go_simp; try (with_reducible rfl))
            try simp only [Act.put, List.getElem_toArray, List.getElem_cons_zero, List.getElem_cons_succ, List.setIfInBounds_toArray, List.set_cons_zero, List.set_cons_succ]
            refine wpAnyH_take (i := 13) (v := ?_) rfl (by kernel_rfl) (by kernel_rfl) (by kernel_rfl) (fun _ _ _ h => h) (Or.inl ⟨by rfl, ?_⟩) (by assumption) ?_
            rotate_left
            · (intro w hSw; (try dsimp only at hSw); go_simp; try (with_reducible rfl))
            try simp only [Act.put, List.getElem_toArray, List.getElem_cons_zero, List.getElem_cons_succ, List.setIfInBounds_toArray, List.set_cons_zero, List.set_cons_succ]
            refine wpAnyH_ready (rs := [16]) (by kernel_rfl) (by simp) ?_
            refine (AllReadyH.cons rfl (fun K hK => ?_) AllReadyH.nil)
            refine step_call_g (by rfl) 37 #[.slice oa1 n1 oc1, .agg U.toArray] (by simp [go_sem]) (HAM2.out _ hHeld.1) ?_
            rintro e wq ⟨rfl, hbq⟩
            have HBq := hide hbq
            have HBQ := hide (lec hHeld.1 hbq)
            clear hbq
            refine ⟨_, rfl, ?_⟩
            refine hK.out _ _ ?_ (fun hHeld => ?_)
            · exact ⟨HBQ.out, cellKeep HBq.out hHeld.2.1, range_below hHeld.2.2.1 (World.block_lt_of_cell? _ _ hHeld.2.2.2.1) HBq.out, cellKeep HBq.out hHeld.2.2.2.1, cellKeep HBq.out hHeld.2.2.2.2.1, cellKeep HBq.out hHeld.2.2.2.2.2⟩
            clear hK K
            try simp only [Act.put, List.getElem_toArray, List.getElem_cons_zero, List.getElem_cons_succ, List.setIfInBounds_toArray, List.set_cons_zero, List.set_cons_succ]
            refine wpAnyH_take (i := 17) (v := ?_) rfl (by kernel_rfl) (by kernel_rfl) (by kernel_rfl) (fun _ _ _ h => h) (Or.inl ⟨by rfl, ?_⟩) (by assumption) ?_
            rotate_left
            · (intro w hSw; (try dsimp only at hSw); go_simp; try (with_reducible rfl))
            try simp only [Act.put, List.getElem_toArray, List.getElem_cons_zero, List.getElem_cons_succ, List.setIfInBounds_toArray, List.set_cons_zero, List.set_cons_succ]
            refine wpAnyH_take (i := 18) (v := ?_) rfl (by kernel_rfl) (by kernel_rfl) (by kernel_rfl) (fun _ _ _ h => h) (Or.inl ⟨by rfl, ?_⟩) (by assumption) ?_
            rotate_left
            · (intro w hSw; (try dsimp only at hSw); go_simp; try (with_reducible rfl))
            try simp only [Act.put, List.getElem_toArray, List.getElem_cons_zero, List.getElem_cons_succ, List.setIfInBounds_toArray, List.set_cons_zero, List.set_cons_succ]
            refine wpAnyH_done (by kernel_rfl) ?_ _
            have HT := hide hHeld
            clear hHeld hz68
            go_upto_region 30 with fail
            have hz68 := Try.sizeOf68
            have HS30 : Hid ((fun (w' : World) => Below z0.heap.size z0 w' ∧ w'.cell? ⟨E3, 1, none⟩ = some (.int .u8 c) ∧ w'.rangeAt E2 46 U ∧ w'.cell? ⟨E2, 47, none⟩ = some (.int .u8 f) ∧ w'.cell? ⟨A3, boxO c + 2, none⟩ = some (.slice ia2 m2 ic2) ∧ w'.cell? ⟨A1, boxO c + 2, none⟩ = some (.slice ia1 m1 ic1)) wq.drew) := ⟨HT.out.1.drew, HT.out.2.2.2.2.2, HT.out.2.2.1, HT.out.2.2.2.1, cellKeep HT.out.1.drew ci2, cellKeep HT.out.1.drew ci1⟩
            refine wp_region_held_drew (S := fun (w' : World) => Below z0.heap.size z0 w' ∧ w'.cell? ⟨E3, 1, none⟩ = some (.int .u8 c) ∧ w'.rangeAt E2 46 U ∧ w'.cell? ⟨E2, 47, none⟩ = some (.int .u8 f) ∧ w'.cell? ⟨A3, boxO c + 2, none⟩ = some (.slice ia2 m2 ic2) ∧ w'.cell? ⟨A1, boxO c + 2, none⟩ = some (.slice ia1 m1 ic1)) (by kernel_rfl) HS30.out (fun hHeld => ?_)
            clear HS30 HT
            refine wpAnyH_take (i := 0) (v := ?_) rfl (by kernel_rfl) (by kernel_rfl) (by kernel_rfl) (fun _ _ _ h => h) (Or.inl ⟨by rfl, ?_⟩) (by assumption) ?_
            rotate_left
            · (intro w hSw; (try dsimp only at hSw); go_simp; try (with_reducible rfl))
            try simp only [Act.put, List.getElem_toArray, List.getElem_cons_zero, List.getElem_cons_succ, List.setIfInBounds_toArray, List.set_cons_zero, List.set_cons_succ]
            refine wpAnyH_take (i := 1) (v := ?_) rfl (by kernel_rfl) (by kernel_rfl) (by kernel_rfl) (fun _ _ _ h => h) (Or.inl ⟨by rfl, ?_⟩) (by assumption) ?_
            rotate_left
            · (intro w hSw; (try dsimp only at hSw); go_simp; try (with_reducible rfl))
            try simp only [Act.put, List.getElem_toArray, List.getElem_cons_zero, List.getElem_cons_succ, List.setIfInBounds_toArray, List.set_cons_zero, List.set_cons_succ]
            refine wpAnyH_take (i := 6) (v := ?_) rfl (by kernel_rfl) (by kernel_rfl) (by kernel_rfl) (fun _ _ _ h => h) (Or.inl ⟨by rfl, ?_⟩) (by assumption) ?_
            rotate_left
            · (intro w hSw; (try dsimp only at hSw); go_simp; try (with_reducible rfl))
            try simp only [Act.put, List.getElem_toArray, List.getElem_cons_zero, List.getElem_cons_succ, List.setIfInBounds_toArray, List.set_cons_zero, List.set_cons_succ]
            refine wpAnyH_take (i := 7) rfl (by kernel_rfl) (by kernel_rfl) (by kernel_rfl) (fun _ _ _ h => h) (yieldsIf_load_mid (by rfl) 68 (.tmp 170) rfl E2 (46) rfl U _ (fun w h => h.2.2.1) Try.underlying68 rfl (by rw [HUl.out]; exact Try.sz68)) (by assumption) ?_
            try simp only [Act.put, List.getElem_toArray, List.getElem_cons_zero, List.getElem_cons_succ, List.setIfInBounds_toArray, List.set_cons_zero, List.set_cons_succ]
            refine wpAnyH_ready (rs := [2]) (by kernel_rfl) (by simp) ?_
            refine (AllReadyH.cons rfl (fun K hK => ?_) AllReadyH.nil)
            refine step_call rfl 36 #[.pointer (some ⟨A3, 0, none⟩), .int .u8 c] (by simp [go_sem]) (wbox_any _ A3 c) ?_
            rintro e wq ⟨rfl, rfl⟩
            refine ⟨_, rfl, ?_⟩
            refine hK.out _ _ ?_ (fun hHeld => ?_)
            · exact hHeld
            clear hK K
            try simp only [Act.put, List.getElem_toArray, List.getElem_cons_zero, List.getElem_cons_succ, List.setIfInBounds_toArray, List.set_cons_zero, List.set_cons_succ]
            refine wpAnyH_take (i := 3) (v := ?_) rfl (by kernel_rfl) (by kernel_rfl) (by kernel_rfl) (fun _ _ _ h => h) (Or.inl ⟨by rfl, ?_⟩) (by assumption) ?_
            rotate_left
            · (intro w hSw; (try dsimp only at hSw); go_simp; try (with_reducible rfl))
            try simp only [Act.put, List.getElem_toArray, List.getElem_cons_zero, List.getElem_cons_succ, List.setIfInBounds_toArray, List.set_cons_zero, List.set_cons_succ]
            refine wpAnyH_take (i := 4) (v := ?_) rfl (by kernel_rfl) (by kernel_rfl) (by kernel_rfl) (fun _ _ _ h => h) (Or.inl ⟨by rfl, ?_⟩) (by assumption) ?_
            rotate_left
            · (intro w hSw; (try dsimp only at hSw); go_simp; try (with_reducible rfl))
            try simp only [Act.put, List.getElem_toArray, List.getElem_cons_zero, List.getElem_cons_succ, List.setIfInBounds_toArray, List.set_cons_zero, List.set_cons_succ]
            refine wpAnyH_take (i := 5) (v := ?_) rfl (by kernel_rfl) (by kernel_rfl) (by kernel_rfl) (fun _ _ _ h => h) (Or.inl ⟨by rfl, ?_⟩) (by assumption) ?_
            rotate_left
            · (intro w hSw; (try dsimp only at hSw); go_simp; try (with_reducible rfl))
            try simp only [Act.put, List.getElem_toArray, List.getElem_cons_zero, List.getElem_cons_succ, List.setIfInBounds_toArray, List.set_cons_zero, List.set_cons_succ]
            refine wpAnyH_ready (rs := [8]) (by kernel_rfl) (by simp) ?_
            refine (AllReadyH.cons rfl (fun K hK => ?_) AllReadyH.nil)
            refine step_call rfl 38 #[.slice ia2 m2 ic2, .agg U.toArray] (by simp [go_sem]) (HTM.out _ hHeld.1) ?_
            rintro e wq ⟨rfl, hbq⟩
            have HBq := hide hbq
            have HBQ := hide (lec hHeld.1 hbq)
            clear hbq
            refine ⟨_, rfl, ?_⟩
            refine hK.out _ _ ?_ (fun hHeld => ?_)
            · exact ⟨HBQ.out, cellKeep HBq.out hHeld.2.1, range_below hHeld.2.2.1 (World.block_lt_of_cell? _ _ hHeld.2.2.2.1) HBq.out, cellKeep HBq.out hHeld.2.2.2.1, cellKeep HBq.out hHeld.2.2.2.2.1, cellKeep HBq.out hHeld.2.2.2.2.2⟩
            clear hK K
            try simp only [Act.put, List.getElem_toArray, List.getElem_cons_zero, List.getElem_cons_succ, List.setIfInBounds_toArray, List.set_cons_zero, List.set_cons_succ]
            refine wpAnyH_take (i := 9) (v := ?_) rfl (by kernel_rfl) (by kernel_rfl) (by kernel_rfl) (fun _ _ _ h => h) (Or.inl ⟨by rfl, ?_⟩) (by assumption) ?_
            rotate_left
            · (intro w hSw; (try dsimp only at hSw); go_simp; try (with_reducible rfl))
            try simp only [Act.put, List.getElem_toArray, List.getElem_cons_zero, List.getElem_cons_succ, List.setIfInBounds_toArray, List.set_cons_zero, List.set_cons_succ]
            refine wpAnyH_take (i := 10) (v := ?_) rfl (by kernel_rfl) (by kernel_rfl) (by kernel_rfl) (fun _ _ _ h => h) (Or.inl ⟨by rfl, ?_⟩) (by assumption) ?_
            rotate_left
            · (intro w hSw; (try dsimp only at hSw); go_simp; try (with_reducible rfl))
            try simp only [Act.put, List.getElem_toArray, List.getElem_cons_zero, List.getElem_cons_succ, List.setIfInBounds_toArray, List.set_cons_zero, List.set_cons_succ]
            refine wpAnyH_take (i := 11) (v := ?_) rfl (by kernel_rfl) (by kernel_rfl) (by kernel_rfl) (fun _ _ _ h => h) (Or.inl ⟨by rfl, ?_⟩) (by assumption) ?_
            rotate_left
            · (intro w hSw; (try dsimp only at hSw); go_simp; try (with_reducible rfl))
            try simp only [Act.put, List.getElem_toArray, List.getElem_cons_zero, List.getElem_cons_succ, List.setIfInBounds_toArray, List.set_cons_zero, List.set_cons_succ]
            refine wpAnyH_take (i := 12) (v := ?_) rfl (by kernel_rfl) (by kernel_rfl) (by kernel_rfl) (fun _ _ _ h => h) (Or.inl ⟨by rfl, ?_⟩) (by assumption) ?_
            rotate_left
            · (intro w hSw; (try dsimp only at hSw); go_simp; try (with_reducible rfl))
            try simp only [Act.put, List.getElem_toArray, List.getElem_cons_zero, List.getElem_cons_succ, List.setIfInBounds_toArray, List.set_cons_zero, List.set_cons_succ]
            refine wpAnyH_take (i := 17) (v := ?_) rfl (by kernel_rfl) (by kernel_rfl) (by kernel_rfl) (fun _ _ _ h => h) (Or.inl ⟨by rfl, ?_⟩) (by assumption) ?_
            rotate_left
            · (intro w hSw; (try dsimp only at hSw); go_simp; try (with_reducible rfl))
            try simp only [Act.put, List.getElem_toArray, List.getElem_cons_zero, List.getElem_cons_succ, List.setIfInBounds_toArray, List.set_cons_zero, List.set_cons_succ]
            refine wpAnyH_take (i := 18) rfl (by kernel_rfl) (by kernel_rfl) (by kernel_rfl) (fun _ _ _ h => h) (yieldsIf_load_mid (by rfl) 68 (.tmp 181) rfl E2 (46) rfl U _ (fun w h => h.2.2.1) Try.underlying68 rfl (by rw [HUl.out]; exact Try.sz68)) (by assumption) ?_
            try simp only [Act.put, List.getElem_toArray, List.getElem_cons_zero, List.getElem_cons_succ, List.setIfInBounds_toArray, List.set_cons_zero, List.set_cons_succ]
            refine wpAnyH_ready (rs := [13]) (by kernel_rfl) (by simp) ?_
            refine (AllReadyH.cons rfl (fun K hK => ?_) AllReadyH.nil)
            refine step_call_g (by rfl) 36 #[.pointer (some ⟨A1, 0, none⟩), .int .u8 c] (by simp [go_sem]) (wbox_any _ A1 c) ?_
            rintro e wq ⟨rfl, rfl⟩
            refine ⟨_, rfl, ?_⟩
            refine hK.out _ _ ?_ (fun hHeld => ?_)
            · exact hHeld
            clear hK K
            try simp only [Act.put, List.getElem_toArray, List.getElem_cons_zero, List.getElem_cons_succ, List.setIfInBounds_toArray, List.set_cons_zero, List.set_cons_succ]
            refine wpAnyH_take (i := 14) (v := ?_) rfl (by kernel_rfl) (by kernel_rfl) (by kernel_rfl) (fun _ _ _ h => h) (Or.inl ⟨by rfl, ?_⟩) (by assumption) ?_
            rotate_left
            · (intro w hSw; (try dsimp only at hSw); go_simp; try (with_reducible rfl))
            try simp only [Act.put, List.getElem_toArray, List.getElem_cons_zero, List.getElem_cons_succ, List.setIfInBounds_toArray, List.set_cons_zero, List.set_cons_succ]
            refine wpAnyH_take (i := 15) (v := ?_) rfl (by kernel_rfl) (by kernel_rfl) (by kernel_rfl) (fun _ _ _ h => h) (Or.inl ⟨by rfl, ?_⟩) (by assumption) ?_
            rotate_left
            · (intro w hSw; (try dsimp only at hSw); go_simp; try (with_reducible rfl))
            try simp only [Act.put, List.getElem_toArray, List.getElem_cons_zero, List.getElem_cons_succ, List.setIfInBounds_toArray, List.set_cons_zero, List.set_cons_succ]
            refine wpAnyH_take (i := 16) (v := ?_) rfl (by kernel_rfl) (by kernel_rfl) (by kernel_rfl) (fun _ _ _ h => h) (Or.inl ⟨by rfl, ?_⟩) (by assumption) ?_
            rotate_left
            · (intro w hSw; (try dsimp only at hSw); go_simp; try (with_reducible rfl))
            try simp only [Act.put, List.getElem_toArray, List.getElem_cons_zero, List.getElem_cons_succ, List.setIfInBounds_toArray, List.set_cons_zero, List.set_cons_succ]
            refine wpAnyH_ready (rs := [19]) (by kernel_rfl) (by simp) ?_
            refine (AllReadyH.cons rfl (fun K hK => ?_) AllReadyH.nil)
            refine step_call_g (by rfl) 37 #[.slice ia1 m1 ic1, .agg U.toArray] (by simp [go_sem]) (HAM3.out _ hHeld.1) ?_
            rintro e wq ⟨rfl, hbq⟩
            have HBq := hide hbq
            have HBQ := hide (lec hHeld.1 hbq)
            clear hbq
            refine ⟨_, rfl, ?_⟩
            refine hK.out _ _ ?_ (fun hHeld => ?_)
            · exact ⟨HBQ.out, cellKeep HBq.out hHeld.2.1, range_below hHeld.2.2.1 (World.block_lt_of_cell? _ _ hHeld.2.2.2.1) HBq.out, cellKeep HBq.out hHeld.2.2.2.1, cellKeep HBq.out hHeld.2.2.2.2.1, cellKeep HBq.out hHeld.2.2.2.2.2⟩
            clear hK K
            try simp only [Act.put, List.getElem_toArray, List.getElem_cons_zero, List.getElem_cons_succ, List.setIfInBounds_toArray, List.set_cons_zero, List.set_cons_succ]
            refine wpAnyH_take (i := 20) (v := ?_) rfl (by kernel_rfl) (by kernel_rfl) (by kernel_rfl) (fun _ _ _ h => h) (Or.inl ⟨by rfl, ?_⟩) (by assumption) ?_
            rotate_left
            · (intro w hSw; (try dsimp only at hSw); go_simp; try (with_reducible rfl))
            try simp only [Act.put, List.getElem_toArray, List.getElem_cons_zero, List.getElem_cons_succ, List.setIfInBounds_toArray, List.set_cons_zero, List.set_cons_succ]
            refine wpAnyH_done (by kernel_rfl) ?_ _
            have HBF := hide hHeld.1
            clear hHeld hz68
            go_wp2
            go_roundw
            case rel => exact ⟨j + 1, by omega, by go_num, HBF.out⟩
            case measure => simp [intOf]; omega
          
        · obtain rfl : j = ln := by omega
          have d2 : decide ((j : Int) < (j : Int)) = false := by simp
          have HHF := hide (HHZ.out.below HB.out)
          go_wp2
          go_roundw
          case rel => exact ⟨k + 1, P2, S3, by omega, by go_num, HHF.out⟩
          case measure => simp [intOf]; omega
    · obtain rfl : k = n := by omega
      have d1 : decide ((k : Int) < (k : Int)) = false := by simp
      have HBX := hide HH.out.be
      go_wp2
      go_ret
      exact ⟨rfl, HBX.out⟩
end Go.Proofs.Qxb6500784a
