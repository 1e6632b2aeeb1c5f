import Derived.Test.Qxb6500784aBg2
import Derived.Test.Qxb6500784aAn0
namespace Go.Proofs.Qxb6500784a
open Go.RowKit

attribute [-simp] Try.isAgg95 Try.sizeOf95 Try.typeInfo95 Try.isAgg70 Try.sizeOf70 Try.typeInfo70 Try.isAgg65 Try.sizeOf65 Try.typeInfo65 Try.isAgg56 Try.sizeOf56 Try.typeInfo56 Try.isAgg63 Try.sizeOf63 Try.typeInfo63
attribute [local irreducible] rootP shaP
set_option linter.unusedSimpArgs false in
set_option maxRecDepth 100000 in
set_option maxHeartbeats 8000000 in
theorem allOrNothing_walk (w : World) (a : Option Addr) (n cap : Nat) (O : Nat → OpR) (hn : n ≤ 9223372036854775807) (ho : OpsAt4 w a n O) :
    Calls Try.prog 4 #[.slice a n cap] w fun e w' => e = .returned (.bool true) ∧ Below w.heap.size w w' := by
  have HO := hide ho.1.1.1
  have HO4 := hide ho.2
  clear ho
  go_enter Try.func4, Try.ntmps4
  go_wp2_with fail
  refine (small_n _ a n cap O hn HO.out).mono ?_
  rintro e w ⟨bb, ⟨rfl, rfl⟩, hsmall⟩
  cases bb
  · go_wp2
    go_ret
    exact ⟨rfl, Below.refl _ _⟩
  have HSM := hide (hsmall rfl)
  clear hsmall
  go_upto_region 4 with (go_at_call 19; refine (newPairL_any _).mono ?_; rintro e w1 ⟨rfl, S0, hp, hb, hg⟩; have HH0 : Hid (HL w w.heap.size 0 pr0 S0 w1) := (⟨iv0, hp, hb, hg⟩ : HL w w.heap.size 0 pr0 S0 w1); clear hp hb hg; simp only [])
  obtain ⟨b, hb⟩ : ∃ b, w.heap.size = b := ⟨_, rfl⟩
  have HBb : Hid (w.heap.size ≤ b) := by rw [← hb]; exact Nat.le_refl _
  simp only [hb] at HH0 ⊢
  clear hb
  go_wp2
  go_loopw [18] (fun s20 wr => ∃ (k : Nat) (P : Pr) (S : List Nat), k ≤ n ∧ s20 = .int .i64 k ∧ HL w b k P S wr) (fun s20 _ => n - (intOf s20).toNat)
  case atStart => exact ⟨0, pr0, S0, Nat.zero_le _, rfl, HH0.out⟩
  case round =>
    clear HH0
    obtain ⟨k, P, S, hk, rfl, hh⟩ := hrel
    have HH := hide hh
    clear hh
    by_cases hlt : k < n
    · have d1 : decide ((k : Int) < (n : Int)) = true := by simp; omega
      have hki : (k : Int) < (n : Int) := by omega
      obtain ⟨lb, off, ha, hc, hop⟩ := (HO.out.below HH.out.be) k hlt
      subst ha
      obtain ⟨⟨kd, ch, pt, gs, ac, tk, am, hv, hr1, hr2, hr3, hr4, hr5⟩⟩ := (HO4.out k hlt).1
      have HRR := hide (And.intro hr1 (And.intro hr2 (And.intro hr3 (And.intro hr4 hr5))))
      have HVV := hide (HO4.out k hlt).2
      have HLN := hide hop.ln
      have HLG : Hid (LegsAt w (O k).la (O k).ln (O k).L) := by
        obtain ⟨_, _, _, _, h5⟩ := HO.out k hlt
        exact h5.legs
      have o0 : wr.cell? ⟨lb, off + k * 8, none⟩ = some (.int .i64 kd) := by have := hc 0 (by omega); rw [hv 0 (by omega)] at this; exact this
      have o1 : wr.cell? ⟨lb, off + k * 8 + 1, none⟩ = some (.slice (O k).la (O k).ln (O k).lc) := by have := hc 1 (by omega); rw [hv 1 (by omega)] at this; exact this
      have o2 : wr.cell? ⟨lb, off + k * 8 + 2, none⟩ = some (.int .u8 ch) := by have := hc 2 (by omega); rw [hv 2 (by omega)] at this; exact this
      have o3 : wr.cell? ⟨lb, off + k * 8 + 3, none⟩ = some (.int .i64 pt) := by have := hc 3 (by omega); rw [hv 3 (by omega)] at this; exact this
      have o4 : wr.cell? ⟨lb, off + k * 8 + 4, none⟩ = some (.int .u64 gs) := by have := hc 4 (by omega); rw [hv 4 (by omega)] at this; exact this
      have o5 : wr.cell? ⟨lb, off + k * 8 + 5, none⟩ = some (.int .u8 ac) := by have := hc 5 (by omega); rw [hv 5 (by omega)] at this; exact this
      have o6 : wr.cell? ⟨lb, off + k * 8 + 6, none⟩ = some (.int .u8 tk) := by have := hc 6 (by omega); rw [hv 6 (by omega)] at this; exact this
      have o7 : wr.cell? ⟨lb, off + k * 8 + 7, none⟩ = some (.int .u64 am) := by have := hc 7 (by omega); rw [hv 7 (by omega)] at this; exact this
      clear hc hop hv hr1 hr2 hr3 hr4 hr5
      generalize (O k).la = la at *
      generalize (O k).ln = ln at *
      generalize (O k).lc = lc at *
      generalize (O k).L = L at *
      have HBE := hide (be1 wr (.cells #[.int .i64 kd, .slice la ln lc, .int .u8 ch, .int .i64 pt, .int .u64 gs, .int .u8 ac, .int .u8 tk, .int .u64 am] 33))
      have HN := hide (newR wr [.int .i64 kd, .slice la ln lc, .int .u8 ch, .int .i64 pt, .int .u64 gs, .int .u8 ac, .int .u8 tk, .int .u64 am] 33)
      go_upto_region 7 with fail
      obtain ⟨D, hD⟩ : ∃ D, wr.heap.size = D := ⟨_, rfl⟩
      have HSZ : Hid ((wr.alloc (.cells #[.int .i64 kd, .slice la ln lc, .int .u8 ch, .int .i64 pt, .int .u64 gs, .int .u8 ac, .int .u8 tk, .int .u64 am] 33)).heap.size = D + 1) := by show _ = _; rw [← hD]; simp
      have HDD : Hid (b < D ∧ ∀ j, j ∈ S → j < D) := by rw [← hD]; exact ⟨HH.out.pp.bl, fun j hj => HH.out.pp.lt hj⟩
      have HH2 := hide (HH.out.below HBE.out)
      rw [hD] at HN ⊢
      clear hD o0 o1 o2 o3 o4 o5 o6 o7 HH
      generalize wr.alloc (.cells #[.int .i64 kd, .slice la ln lc, .int .u8 ch, .int .i64 pt, .int .u64 gs, .int .u8 ac, .int .u8 tk, .int .u64 am] 33) = w2 at *
      clear HBE
      have HZK : Hid (9 * k ≤ 800000000000) := by show 9 * k ≤ _; have := HSM.out; omega
      have HST : Hid (∀ (S : List Nat) (x : World), HL w b k P S x → Calls Try.prog 22 #[.pointer (some ⟨b, 0, none⟩), .agg #[.int .i64 kd, .slice la ln lc, .int .u8 ch, .int .i64 pt, .int .u64 gs, .int .u8 ac, .int .u8 tk, .int .u64 am]] x fun e w' => ∃ v, StPost x b S (stepS P kd ln L (fun q => txOf (L q)) ch pt gs ac tk am) (stepAn P kd ln L (fun q => txOf (L q)) ch pt gs ac tk am v) e w') := fun S x hx =>
        step_any x w b P S hx.pp (hx.iv.psm HZK.out) hx.be HBb.out hx.ge hx.iv.gi.oa hx.iv.gi.ob kd la ln lc L (fun q => txOf (L q)) HLN.out HLG.out (fun _ => HVV.out) (9 * k) hx.iv.bd HZK.out ch pt gs ac tk am HRR.out.1 HRR.out.2.1 HRR.out.2.2.1 HRR.out.2.2.2.1 HRR.out.2.2.2.2
      have HIN : Hid (Iv (9 * (k + 1)) (stepS P kd ln L (fun q => txOf (L q)) ch pt gs ac tk am)) := iv_step HH2.out.iv (fun q hq => (HVV.out q hq).k) HRR.out.2.1
      have p0 : w2.cell? ⟨D, 0, none⟩ = some (.int .i64 kd) := by have := HN.out 0 _ rfl; rwa [Nat.zero_add] at this
      have p1 : w2.cell? ⟨D, 1, none⟩ = some (.slice la ln lc) := by have := HN.out 1 _ rfl; rwa [Nat.zero_add] at this
      have p2 : w2.cell? ⟨D, 2, none⟩ = some (.int .u8 ch) := by have := HN.out 2 _ rfl; rwa [Nat.zero_add] at this
      have p3 : w2.cell? ⟨D, 3, none⟩ = some (.int .i64 pt) := by have := HN.out 3 _ rfl; rwa [Nat.zero_add] at this
      have p4 : w2.cell? ⟨D, 4, none⟩ = some (.int .u64 gs) := by have := HN.out 4 _ rfl; rwa [Nat.zero_add] at this
      have p5 : w2.cell? ⟨D, 5, none⟩ = some (.int .u8 ac) := by have := HN.out 5 _ rfl; rwa [Nat.zero_add] at this
      have p6 : w2.cell? ⟨D, 6, none⟩ = some (.int .u8 tk) := by have := HN.out 6 _ rfl; rwa [Nat.zero_add] at this
      have p7 : w2.cell? ⟨D, 7, none⟩ = some (.int .u64 am) := by have := HN.out 7 _ rfl; rwa [Nat.zero_add] at this
      have HAN : Hid (kd = 1 → ∀ v, stepAn P kd ln L (fun q => txOf (L q)) ch pt gs ac tk am v = ⟨(simR P ln L (fun q => txOf (L q)) v).code, simR P ln L (fun q => txOf (L q)) v, msg0⟩) := fun h v => if_pos (.inl h)
      have HSS : Hid (kd = 1 → stepS P kd ln L (fun q => txOf (L q)) ch pt gs ac tk am = simS true P ln L (fun q => txOf (L q))) := fun h => if_pos h
      have HPM : Hid (PSm P) := HH2.out.iv.psm HZK.out
      have HZK2 : Hid (9 * (k + 1) ≤ 800000000000) := by show 9 * (k + 1) ≤ _; have := HSM.out; omega
      have HBG : Hid (∀ (x : World) (G : List Value) (S1 : List Nat), WF x P G S1 → Below w.heap.size w x → ordCode ln L = 0 → shallow P → Calls Try.prog 25 #[.agg G.toArray, .agg #[.slice la ln lc]] x (fun e y => ∃ v U S' vo vr vs C, e = .returned (.tuple #[.agg U.toArray, .agg ((simR P ln L (fun q => txOf (L q)) v).vals vo vr vs).toArray]) ∧ WF y (simS true P ln L (fun q => txOf (L q))) U S' ∧ RL y (simR P ln L (fun q => txOf (L q)) v) vo vr vs C ∧ (simR P ln L (fun q => txOf (L q)) v).Ok ∧ Below x.heap.size x y)) := fun x G S1 hx hb hc hs => by
        refine (big_run x P G S1 hx HPM.out la ln lc L (fun q => txOf (L q)) HLN.out (HLG.out.below hb) (legs_one HVV.out) HVV.out hc hs (9 * k) HH2.out.iv.bd HZK.out).mono ?_
        rintro e y ⟨v, U, S', vo, vr, vs, C, h1, h2, h3, h4, h5, _⟩
        exact ⟨v, U, S', vo, vr, vs, C, h1, h2, h3, h4, h5⟩
      have HZ0 : Hid (∀ v, (simR P ln L (fun q => txOf (L q)) v).code = 0 → ordCode ln L = 0 ∧ shallow P ∧ (simR P ln L (fun q => txOf (L q)) v).ra = rootP (simS true P ln L (fun q => txOf (L q))).la ∧ (simR P ln L (fun q => txOf (L q)) v).rb = rootP (simS true P ln L (fun q => txOf (L q))).lb) := fun v h => sim_zero h
      have HZN : Hid (∀ v, (simR P ln L (fun q => txOf (L q)) v).code ≠ 0 → simS true P ln L (fun q => txOf (L q)) = P) := fun v h => sim_nz h
      have HDE : Hid (depV (simS true P ln L (fun q => txOf (L q))) = depV P) := dep_sim _ _ _ _ _
      generalize stepS P kd ln L (fun q => txOf (L q)) ch pt gs ac tk am = P2 at *
      generalize stepAn P kd ln L (fun q => txOf (L q)) ch pt gs ac tk am = AN at *
      generalize simR P ln L (fun q => txOf (L q)) = RR at *
      generalize simS true P ln L (fun q => txOf (L q)) = SS at *
      obtain ⟨e1, he1⟩ : ∃ e : Int, (P.sa.length : Int) = e := ⟨_, rfl⟩
      obtain ⟨e2, he2⟩ : ∃ e : Int, (P.sb.length : Int) = e := ⟨_, rfl⟩
      obtain ⟨e3, he3⟩ : ∃ e : Int, (P.ta.length : Int) = e := ⟨_, rfl⟩
      obtain ⟨e4, he4⟩ : ∃ e : Int, (P.tb.length : Int) = e := ⟨_, rfl⟩
      have HDV : Hid ((depV P).toArray = #[.int .i64 e1, .int .i64 e2, .int .i64 e3, .int .i64 e4]) := by rw [← he1, ← he2, ← he3, ← he4]; exact rfl
      clear he1 he2 he3 he4
      go_upto_region 8 with (go_at_call 20; refine (worldNew w2 b P S HH2.out.pp HPM.out).mono ?_; rintro e y1 ⟨F1, S1, rfl, hl1, ho1, hb1, hs1, hp1⟩; have HF1l := hide hl1; have HF11 := hide ho1; have HB1 := hide hb1; have HS1 := hide hs1; have HP1 := hide hp1; clear hl1 ho1 hb1 hs1 hp1; simp only [])
      simp only [Try.sizeOf56, Result.andThen, HF1l.out, ↓reduceIte, stNew y1 56 Try.zeroCells56 F1 667 Try.sz56 Try.zs56 HF1l.out HF11.out]
      rw [Oper.upon_skip]
      simp only [Act.put]
      have HB2 := hide (lec HB1.out (be1 y1 (.cells F1.toArray 56)))
      have HH3 := hide (HH2.out.below HB2.out)
      have HN1 := hide (range_below HN.out (by have := HSZ.out; omega) HB2.out)
      obtain ⟨A1, hA1⟩ : ∃ A, y1.heap.size = A := ⟨_, rfl⟩
      have HZ1 : Hid (D < A1 ∧ A1 < (y1.alloc (.cells F1.toArray 56)).heap.size) := ⟨by have := HSZ.out; have := HB1.out.size; omega, by simp [hA1]⟩
      have HX1 : Hid (∀ j, j = A1 ∨ j ∈ S1 → ¬ (j = b ∨ j ∈ S)) := fun j hj hh => by
        have hjw : D + 1 ≤ j := by
          rcases hj with rfl | hj
          · have := HZ1.out.1; omega
          · have := (HS1.out j hj).1; have := HSZ.out; omega
        rcases hh with rfl | hh
        · have := HDD.out.1; omega
        · have := HDD.out.2 j hh; omega
      rw [hA1] at HP1 ⊢
      generalize y1.alloc (.cells F1.toArray 56) = y2 at *
      clear hA1 HF1l HF11 HB1 HS1 HB2
      clear p0 p1 p2 p3 p4 p5 p6 p7
      go_upto_region 8 with fail
      go_upto_region 9 with (go_at_call 21; refine (depths_any y2 b P S HH3.out.pp).mono ?_; rintro e y3 ⟨rfl, hbe⟩; have HB3 := hide hbe; clear hbe; rw [HDV.out]; simp only [])
      have HB4 := hide (lec HB3.out (be1 y3 (.cells #[.int .i64 e1, .int .i64 e2, .int .i64 e3, .int .i64 e4] 59)))
      have HH4 := hide (HH3.out.below HB4.out)
      have HN2 := hide (range_below HN1.out (by have := HZ1.out; omega) HB4.out)
      have HP1b := hide (HP1.out.below HB4.out)
      have HR2 := hide (newR y3 [.int .i64 e1, .int .i64 e2, .int .i64 e3, .int .i64 e4] 59)
      obtain ⟨A2, hA2⟩ : ∃ A, y3.heap.size = A := ⟨_, rfl⟩
      have HZ2 : Hid (D < A2 ∧ A2 < (y3.alloc (.cells #[.int .i64 e1, .int .i64 e2, .int .i64 e3, .int .i64 e4] 59)).heap.size ∧ ¬ (A2 = b ∨ A2 ∈ S)) := ⟨by have := HZ1.out; have := HB3.out.size; omega, by simp [hA2], fun e => by
        rcases e with e | e
        · have := HDD.out.1; have := HZ1.out; have := HB3.out.size; omega
        · have := HDD.out.2 _ e; have := HZ1.out; have := HB3.out.size; omega⟩
      rw [hA2] at HR2 ⊢
      generalize y3.alloc (.cells #[.int .i64 e1, .int .i64 e2, .int .i64 e3, .int .i64 e4] 59) = y4 at *
      clear hA2 HB3 HB4 HP1 HN1 HH3 HZ1
      have p0 : y4.cell? ⟨D, 0, none⟩ = some (.int .i64 kd) := by have := HN2.out 0 _ rfl; rwa [Nat.zero_add] at this
      have p1 : y4.cell? ⟨D, 1, none⟩ = some (.slice la ln lc) := by have := HN2.out 1 _ rfl; rwa [Nat.zero_add] at this
      have p2 : y4.cell? ⟨D, 2, none⟩ = some (.int .u8 ch) := by have := HN2.out 2 _ rfl; rwa [Nat.zero_add] at this
      have p3 : y4.cell? ⟨D, 3, none⟩ = some (.int .i64 pt) := by have := HN2.out 3 _ rfl; rwa [Nat.zero_add] at this
      have p4 : y4.cell? ⟨D, 4, none⟩ = some (.int .u64 gs) := by have := HN2.out 4 _ rfl; rwa [Nat.zero_add] at this
      have p5 : y4.cell? ⟨D, 5, none⟩ = some (.int .u8 ac) := by have := HN2.out 5 _ rfl; rwa [Nat.zero_add] at this
      have p6 : y4.cell? ⟨D, 6, none⟩ = some (.int .u8 tk) := by have := HN2.out 6 _ rfl; rwa [Nat.zero_add] at this
      have p7 : y4.cell? ⟨D, 7, none⟩ = some (.int .u64 am) := by have := HN2.out 7 _ rfl; rwa [Nat.zero_add] at this
      go_upto_region 10 with (go_at_call 22; refine (HST.out S y4 HH4.out).mono ?_; rintro e y5 ⟨v, vo, vr, vs, C, S5, rfl, hrl, hok, hmo, hk5, hp5, hC5⟩; have HRL := hide hrl; have HOK := hide hok; have HMO := hide hmo; have HK5 := hide hk5; have HP5 := hide hp5; clear hrl hok hmo hk5 hp5 hC5; simp only [])
      have HH5 := hide (HH4.out.link HBb.out HK5.out HP5.out HIN.out)
      have HN3 := hide (range_ex HN2.out (by have := HZ2.out; omega) HK5.out.1 (fun e => by
        rcases e with z | z
        · have := HDD.out.1; omega
        · have := HDD.out.2 _ z; omega))
      have HR3 := hide (range_ex HR2.out HZ2.out.2.1 HK5.out.1 HZ2.out.2.2)
      have HP1c := hide (HP1b.out.ex HK5.out.1 (HX1.out A1 (.inl rfl)) (fun j hj => HX1.out j (.inr hj)))
      have HZ5 : Hid (D < y5.heap.size ∧ A2 < y5.heap.size) := ⟨by have := HZ2.out; have := HK5.out.1.size; omega, by have := HZ2.out; have := HK5.out.1.size; omega⟩
      obtain ⟨F, hF⟩ : ∃ F, (AN v).vals vo vr vs = F := ⟨_, rfl⟩
      have HFl : Hid (F.length = 112) := by rw [← hF]; exact An.len HOK.out HMO.out _ _ _
      have HF1 : Hid (∀ u ∈ F, u.oneCell' = true) := by
        rw [← hF]
        obtain ⟨_, _, e1⟩ := own_form HRL.out.o
        obtain ⟨_, _, e2⟩ := own_form HRL.out.q
        obtain ⟨_, _, e3⟩ := own_form HRL.out.s
        exact An.one _ (by rw [e1]; rfl) (by rw [e2]; rfl) (by rw [e3]; rfl)
      have HF := hide hF
      simp only [hF]
      clear hF
      simp only [Try.sizeOf70, Result.andThen, HFl.out, ↓reduceIte, stNew y5 70 Try.zeroCells70 F 112 Try.sz70 Try.zs70 HFl.out HF1.out]
      rw [Oper.upon_skip]
      simp only [Act.put]
      have HB6 := hide (be1 y5 (.cells F.toArray 70))
      have HRA := hide (newR y5 F 70)
      obtain ⟨A4, hA4⟩ : ∃ A, y5.heap.size = A := ⟨_, rfl⟩
      have HZ6 : Hid (A4 < (y5.alloc (.cells F.toArray 70)).heap.size) := by simp [Hid, hA4]
      rw [hA4] at HRA ⊢
      have HH6 := hide (HH5.out.below HB6.out)
      have HN4 := hide (range_below HN3.out HZ5.out.1 HB6.out)
      have HR4 := hide (range_below HR3.out HZ5.out.2 HB6.out)
      have HP1d := hide (HP1c.out.below HB6.out)
      have HZ7 : Hid (D < (y5.alloc (.cells F.toArray 70)).heap.size ∧ A2 < (y5.alloc (.cells F.toArray 70)).heap.size) := ⟨Nat.lt_of_lt_of_le HZ5.out.1 HB6.out.size, Nat.lt_of_lt_of_le HZ5.out.2 HB6.out.size⟩
      generalize y5.alloc (.cells F.toArray 70) = y6 at *
      clear hA4 HB6 HRL HK5 HP5 HN3 HR3 HP1c HP1b HR2 HN2 HH4 HH5 HZ5 HZ2 HX1 HST HIN
      clear p0 p1 p2 p3 p4 p5 p6 p7
      have p0 : y6.cell? ⟨D, 0, none⟩ = some (.int .i64 kd) := by have := HN4.out 0 _ rfl; rwa [Nat.zero_add] at this
      have p1 : y6.cell? ⟨D, 1, none⟩ = some (.slice la ln lc) := by have := HN4.out 1 _ rfl; rwa [Nat.zero_add] at this
      have p2 : y6.cell? ⟨D, 2, none⟩ = some (.int .u8 ch) := by have := HN4.out 2 _ rfl; rwa [Nat.zero_add] at this
      have p3 : y6.cell? ⟨D, 3, none⟩ = some (.int .i64 pt) := by have := HN4.out 3 _ rfl; rwa [Nat.zero_add] at this
      have p4 : y6.cell? ⟨D, 4, none⟩ = some (.int .u64 gs) := by have := HN4.out 4 _ rfl; rwa [Nat.zero_add] at this
      have p5 : y6.cell? ⟨D, 5, none⟩ = some (.int .u8 ac) := by have := HN4.out 5 _ rfl; rwa [Nat.zero_add] at this
      have p6 : y6.cell? ⟨D, 6, none⟩ = some (.int .u8 tk) := by have := HN4.out 6 _ rfl; rwa [Nat.zero_add] at this
      have p7 : y6.cell? ⟨D, 7, none⟩ = some (.int .u64 am) := by have := HN4.out 7 _ rfl; rwa [Nat.zero_add] at this
      by_cases hk1 : kd = 1
      · subst hk1
        have eS := HSS.out rfl
        have eA := HAN.out rfl v
        subst eS
        obtain ⟨cd, hcd⟩ : ∃ c, (RR v).code = c := ⟨_, rfl⟩
        have HFE : Hid (F = .int .i64 cd :: ((RR v).vals vo vr vs ++ msv msg0)) := by rw [← HF.out, eA, ← hcd]; exact rfl
        have HRO : Hid ((RR v).Ok) := by have := HOK.out; rw [eA] at this; exact this
        have HZc := hide (HZ0.out v)
        have HZd := hide (HZN.out v)
        rw [hcd] at HZc HZd
        clear hcd eA HSS HAN HZ0 HZN HF HOK HMO
        have HPM2 : Hid (PSm P2) := HH6.out.iv.psm HZK2.out
        go_upto_region 11 with fail
        go_upto_region 12 with (go_at_call 20; refine (worldNew y6 b P2 S5 HH6.out.pp HPM2.out).mono ?_; rintro e y7 ⟨F9, S9, rfl, hl1, ho1, hb1, hs1, hp1⟩; have HF9l := hide hl1; have HF91 := hide ho1; have HB7 := hide hb1; have HP9 := hide hp1; clear hl1 ho1 hb1 hs1 hp1; simp only [])
        simp only [Try.sizeOf56, Result.andThen, HF9l.out, ↓reduceIte, stNew y7 56 Try.zeroCells56 F9 667 Try.sz56 Try.zs56 HF9l.out HF91.out]
        rw [Oper.upon_skip]
        simp only [Act.put]
        have HB8 := hide (lec HB7.out (be1 y7 (.cells F9.toArray 56)))
        obtain ⟨A9, hA9⟩ : ∃ A, y7.heap.size = A := ⟨_, rfl⟩
        rw [hA9] at HP9 ⊢
        generalize y7.alloc (.cells F9.toArray 56) = y8 at *
        clear hA9 HF9l HF91 HB7
        have HH8 := hide (HH6.out.below HB8.out)
        have HN8 := hide (range_below HN4.out HZ7.out.1 HB8.out)
        have HR8 := hide (range_below HR4.out HZ7.out.2 HB8.out)
        have HRA8 := hide (range_below HRA.out HZ6.out HB8.out)
        have HP8 := hide (HP1d.out.below HB8.out)
        have HZ8 : Hid (D < y8.heap.size ∧ A2 < y8.heap.size ∧ A4 < y8.heap.size) := ⟨Nat.lt_of_lt_of_le HZ7.out.1 HB8.out.size, Nat.lt_of_lt_of_le HZ7.out.2 HB8.out.size, Nat.lt_of_lt_of_le HZ6.out HB8.out.size⟩
        clear HB8 HN4 HR4 HRA HP1d HZ6 HZ7 HH6 HH2 HN
        clear p0 p1 p2 p3 p4 p5 p6 p7
        have he59 : ∀ w, (Op.equalIn 10000 59 (.agg #[.int .i64 e1, .int .i64 e2, .int .i64 e3, .int .i64 e4]) (.agg #[.int .i64 e1, .int .i64 e2, .int .i64 e3, .int .i64 e4])).run Try.prog w = .ok true w := fun w => eq59 9994 e1 e2 e3 e4
        have hDP := depths_any y8.drew b P2 S5 (HH8.out.pp.below ((Below.refl y8.heap.size y8).drew))
        rw [HDE.out, HDV.out] at hDP
        have HDP := hide hDP
        clear hDP
        go_upto_region 12 with fail
        go_cut [37] (fun s37 wx => s37 = .bool false ∧ Below y8.heap.size y8 wx)
        case first =>
          refine wp_region_held_drew (S := fun w' => w'.rangeAt A2 0 [.int .i64 e1, .int .i64 e2, .int .i64 e3, .int .i64 e4]) (by kernel_rfl) HR8.out (fun hHeld => ?_)
          refine wpAnyH_take (i := 0) (v := ?_) rfl (by kernel_rfl) (by kernel_rfl) (by kernel_rfl) (fun _ _ _ h => h) (Or.inl ⟨by rfl, ?_⟩) (by assumption) ?_
          rotate_left
          · (intro w hSw; (try dsimp only at hSw); go_simp; try (with_reducible rfl))
          try simp only [Act.put, List.getElem_toArray, List.getElem_cons_zero, List.getElem_cons_succ, List.setIfInBounds_toArray, List.set_cons_zero, List.set_cons_succ]
          refine wpAnyH_take (i := 2) rfl (by kernel_rfl) (by kernel_rfl) (by kernel_rfl) (fun _ _ _ h => h) (yieldsIf_load_mid (by rfl) 59 (.tmp 7) rfl A2 0 rfl [.int .i64 e1, .int .i64 e2, .int .i64 e3, .int .i64 e4] _ (fun w hSw => hSw) Try.underlying59 rfl Try.sz59) (by assumption) ?_
          try simp only [Act.put, List.getElem_toArray, List.getElem_cons_zero, List.getElem_cons_succ, List.setIfInBounds_toArray, List.set_cons_zero, List.set_cons_succ]
          refine wpAnyH_ready (rs := [1]) (by kernel_rfl) (by simp) ?_
          refine (AllReadyH.cons rfl (fun K hK => ?_) AllReadyH.nil)
          refine step_call rfl 21 #[.pointer (some ⟨b, 0, none⟩)] (by simp [go_sem]) HDP.out ?_
          rintro e y9 ⟨rfl, hbe⟩
          have HB9 := hide (lec ((Below.refl y8.heap.size y8).drew) hbe)
          clear hbe
          refine ⟨_, rfl, ?_⟩
          refine hK.out _ _ ?_ (fun hHeld => ?_)
          · exact range_below HR8.out HZ8.out.2.1 HB9.out
          clear hK K
          try simp only [Act.put, List.getElem_toArray, List.getElem_cons_zero, List.getElem_cons_succ, List.setIfInBounds_toArray, List.set_cons_zero, List.set_cons_succ]
          refine wpAnyH_take (i := 3) (v := ?_) rfl (by kernel_rfl) (by kernel_rfl) (by kernel_rfl) (fun _ _ _ h => h) (Or.inl ⟨by rfl, ?_⟩) (by assumption) ?_
          rotate_left
          · (intro w hSw; (try dsimp only at hSw); go_simp; try (with_reducible rfl))
          try simp only [Act.put, List.getElem_toArray, List.getElem_cons_zero, List.getElem_cons_succ, List.setIfInBounds_toArray, List.set_cons_zero, List.set_cons_succ]
          refine wpAnyH_done (by kernel_rfl) ?_ _
          go_wp2_with fail
          go_meet
          exact ⟨rfl, HB9.out⟩
        obtain ⟨rfl, hbc⟩ := hcut
        obtain ⟨y9, hy9⟩ : ∃ W', W' = wc := ⟨_, rfl⟩
        subst hy9
        have HH9 := hide (HH8.out.below hbc)
        have HN9 := hide (range_below HN8.out HZ8.out.1 hbc)
        have HRA9 := hide (range_below HRA8.out HZ8.out.2.2 hbc)
        have HPa := hide (HP8.out.below hbc)
        have HPb := hide (HP9.out.below hbc)
        have HZ9 : Hid (D < y9.heap.size ∧ A4 < y9.heap.size) := ⟨Nat.lt_of_lt_of_le HZ8.out.1 hbc.size, Nat.lt_of_lt_of_le HZ8.out.2.2 hbc.size⟩
        clear hbc HDP he59 HR8 HN8 HRA8 HP8 HP9 HZ8 HH8 HDV HDE
        have c0 : y9.cell? ⟨A4, 0, none⟩ = some (.int .i64 cd) := by have := HRA9.out 0 (.int .i64 cd) (by rw [HFE.out]; rfl); rwa [Nat.zero_add] at this
        by_cases hc0 : cd = 0
        · subst hc0
          obtain ⟨z1, z2, z3, z4⟩ := HZc.out rfl
          have HZa := hide (And.intro z1 z2)
          obtain ⟨Ra, hRa⟩ : ∃ R, u8s (rootP P2.la) = R := ⟨_, rfl⟩
          obtain ⟨Rb, hRb⟩ : ∃ R, u8s (rootP P2.lb) = R := ⟨_, rfl⟩
          have HRr : Hid (y9.rangeAt A4 7 Ra ∧ y9.rangeAt A4 39 Rb) := by
            have h0 := HRA9.out
            rw [HFE.out] at h0
            have h1 := (range_app (A := [.int .i64 0]) (B := (RR v).vals vo vr vs ++ msv msg0) h0).2
            have h2 := (range_app h1).1
            have h3 : y9.rangeAt A4 (0 + 1) ([.int .i64 (RR v).code, .int .i64 (RR v).failed, vo, vr, vs, .int .u64 (RR v).gas] ++ (u8s (RR v).ra ++ u8s (RR v).rb)) := h2
            have h4 := (range_app h3).2
            obtain ⟨h5, h6⟩ := range_app h4
            rw [show (u8s (RR v).ra).length = 32 by simp [u8s, HRO.out.al]] at h6
            rw [← hRa, ← hRb, ← z3, ← z4]
            exact ⟨h5, h6⟩
          have HRl : Hid (Ra.length = 32 ∧ Rb.length = 32) := ⟨by rw [← hRa]; simp [u8s, rootP_len], by rw [← hRb]; simp [u8s, rootP_len]⟩
          have heA : ∀ w, (Op.equalIn 10000 63 (.agg Ra.toArray) (.agg Ra.toArray)).run Try.prog w = .ok true w := fun w => by rw [← hRa]; exact eq63 9998 (rootP_len _)
          have heB : ∀ w, (Op.equalIn 10000 63 (.agg Rb.toArray) (.agg Rb.toArray)).run Try.prog w = .ok true w := fun w => by rw [← hRb]; exact eq63 9998 (rootP_len _)
          have HRTa := hide hRa
          have HRTb := hide hRb
          clear z1 z2 z3 z4 hRa hRb
          obtain ⟨G, hG, hGr⟩ := HPa.out.wf
          have HG := hide hG
          have HGr := hide hGr
          have HGl : Hid (G.length = 667) := hG.len
          have HCB := hide (HBG.out y9 G S1 hG HH9.out.be HZa.out.1 HZa.out.2)
          clear hG hGr HBG
          have p0 : y9.cell? ⟨D, 0, none⟩ = some (.int .i64 1) := by have := HN9.out 0 _ rfl; rwa [Nat.zero_add] at this
          have p1 : y9.cell? ⟨D, 1, none⟩ = some (.slice la ln lc) := by have := HN9.out 1 _ rfl; rwa [Nat.zero_add] at this
          have p2 : y9.cell? ⟨D, 2, none⟩ = some (.int .u8 ch) := by have := HN9.out 2 _ rfl; rwa [Nat.zero_add] at this
          have p3 : y9.cell? ⟨D, 3, none⟩ = some (.int .i64 pt) := by have := HN9.out 3 _ rfl; rwa [Nat.zero_add] at this
          have p4 : y9.cell? ⟨D, 4, none⟩ = some (.int .u64 gs) := by have := HN9.out 4 _ rfl; rwa [Nat.zero_add] at this
          have p5 : y9.cell? ⟨D, 5, none⟩ = some (.int .u8 ac) := by have := HN9.out 5 _ rfl; rwa [Nat.zero_add] at this
          have p6 : y9.cell? ⟨D, 6, none⟩ = some (.int .u8 tk) := by have := HN9.out 6 _ rfl; rwa [Nat.zero_add] at this
          have p7 : y9.cell? ⟨D, 7, none⟩ = some (.int .u64 am) := by have := HN9.out 7 _ rfl; rwa [Nat.zero_add] at this
          go_upto_region 17 with fail
          clear c0
          go_wp2_with fail
          simp only [Try.isAgg56, Try.sizeOf56, Result.andThen, ↓reduceIte, ldC y9 A1 0 G 667 HGl.out HGr.out]
          rw [Oper.upon_value]
          go_wp2_with (go_at_call 25; refine HCB.out.mono ?_; rintro e x1 ⟨v', U, S', vo', vr', vs', C', rfl, hU, hR, hRo, hbe⟩; have HU := hide hU; have HRO2 := hide hRo; have HRL2 := hide hR; have HBx := hide hbe; clear hU hR hRo hbe; simp only [])
          obtain ⟨R2, hR2⟩ : ∃ R, (RR v').vals vo' vr' vs' = R := ⟨_, rfl⟩
          have HR2l : Hid (R2.length = 70) := by rw [← hR2]; exact Rs.len HRO2.out _ _ _
          have HR21 : Hid (∀ u ∈ R2, u.oneCell' = true) := by
            rw [← hR2]
            obtain ⟨_, _, e1⟩ := own_form HRL2.out.o
            obtain ⟨_, _, e2⟩ := own_form HRL2.out.q
            obtain ⟨_, _, e3⟩ := own_form HRL2.out.s
            exact Rs.one _ (by rw [e1]; rfl) (by rw [e2]; rfl) (by rw [e3]; rfl)
          simp only [hR2]
          clear hR2
          have HUl : Hid (U.length = 667) := HU.out.len
          have HU1 : Hid (∀ u ∈ U, u.oneCell' = true) := HU.out.one
          obtain ⟨q, hq⟩ : ∃ q, x1.heap.size = q := ⟨_, rfl⟩
          obtain ⟨x2, hx2⟩ : ∃ x, (x1.alloc (.cells Try.zeroCells56 56)).alloc (.cells Try.zeroCells65 65) = x := ⟨_, rfl⟩
          have g1 := be1 x1 (.cells Try.zeroCells56 56)
          have g2 := be1 (x1.alloc (.cells Try.zeroCells56 56)) (.cells Try.zeroCells65 65)
          have t1 := newTz x1 Try.zeroCells56 56
          have t2 := newTz (x1.alloc (.cells Try.zeroCells56 56)) Try.zeroCells65 65
          rw [Try.zs56] at t1
          rw [Try.zs65] at t2
          replace t1 := there_below t1 (by simp) g2
          have g3 := lec g1 g2
          have s2 : x2.heap.size = q + 2 := by rw [← hx2, ← hq]; simp
          rw [show (x1.alloc (.cells Try.zeroCells56 56)).heap.size = q + 1 by rw [← hq]; simp, hx2] at t2
          rw [hx2, hq] at t1
          rw [hx2] at g3
          have HT1 := hide t1
          have HT2 := hide t2
          have HB2 := hide (lec HBx.out g3)
          have HQ := hide hq
          have HS2 := hide s2
          have HU2 := hide (HU.out.below g3)
          have HQS : Hid (q ∉ S') := fun e => by have := HU.out.lt e; omega
          clear g1 g2 g3 t1 t2 s2
          try rw [hq]
          try rw [hx2]
          clear hx2 hq
          simp only [Try.sizeOf56, Result.andThen, HUl.out, ↓reduceIte, stC x2 q 0 U (by rw [HUl.out]; exact HT1.out) HU1.out]
          rw [Oper.upon_skip]
          simp only [Act.put]
          have HUr := hide (World.rangeAt_setCells_same x2 q 0 U (by rw [HUl.out]; exact HT1.out))
          have HEa : Hid (Ex (fun j => j = q ∨ j = q + 1) x2 (x2.setCells q 0 U)) := Ex.sets (S := fun j => j = q ∨ j = q + 1) (.inl rfl) U 0 _ (Ex.refl _ _)
          have HTa := hide (And.intro (World.there_setCells HT1.out q 0 U) (World.there_setCells HT2.out q 0 U))
          generalize x2.setCells q 0 U = x3 at *
          go_wp2_with fail
          simp only [Try.sizeOf65, Result.andThen, HR2l.out, ↓reduceIte, stC x3 (q + 1) 0 R2 (by rw [HR2l.out]; exact HTa.out.2) HR21.out]
          rw [Oper.upon_skip]
          simp only [Act.put]
          have HS3 : Hid (x3.heap.size = x3.heap.size ∧ q < x3.heap.size) := ⟨rfl, by have := HS2.out; have := HEa.out.size; omega⟩
          have HUs := hide (range_ex HUr.out HS3.out.2 (Ex.sets (S := fun j => j = q + 1) rfl R2 0 x3 (Ex.refl _ _)) (show ¬ (q = q + 1) by omega))
          have HEb : Hid (Ex (fun j => j = q ∨ j = q + 1) x2 (x3.setCells (q + 1) 0 R2)) := Ex.sets (S := fun j => j = q ∨ j = q + 1) (.inr rfl) R2 0 _ HEa.out
          have HTb := hide (World.there_setCells HTa.out.1 (q + 1) 0 R2)
          generalize x3.setCells (q + 1) 0 R2 = x4 at *
          have HB4 : Hid (Below y9.heap.size y9 x4) := HB2.out.trans (HEb.out.below HB2.out.size (fun j hj e => by
            have := HQ.out
            have := HBx.out.size
            rcases e with e | e <;> omega))
          have HPq : Hid (PP x4 q P2 S') := (HU2.out.ex HEb.out (fun j hj e => by
            have := HU.out.lt hj
            have := HQ.out
            rcases e with e | e <;> omega)).pp HUs.out HTb.out (by have := HS2.out; have := HEb.out.size; omega) HQS.out
          have HH10 := hide (HH9.out.below HB4.out)
          have HPc := hide (HPb.out.below HB4.out)
          have HRs : Hid (x4.rangeAt A4 7 Ra ∧ x4.rangeAt A4 39 Rb) := ⟨range_below HRr.out.1 HZ9.out.2 HB4.out, range_below HRr.out.2 HZ9.out.2 HB4.out⟩
          have HZ10 : Hid (A4 < x4.heap.size) := Nat.lt_of_lt_of_le HZ9.out.2 HB4.out.size
          clear HUr HEa HTa HUs HEb HTb HS3 HB2 HB4 HQ HS2 HU HU2 HQS HT1 HT2 HBx HUl HU1 HR2l HR21 HRL2 HRO2 HCB HG HGr HGl HRr HRA9 HPa HPb HH9 HN9 HZ9
          clear p0 p1 p2 p3 p4 p5 p6 p7
          have HSA : Hid (∀ x, Below x4.heap.size x4 x → Calls Try.prog 23 #[.pointer (some ⟨q, 0, none⟩), .pointer (some ⟨A9, 0, none⟩)] x fun e w' => e = .returned (.bool true) ∧ Below x.heap.size x w') := fun x hx => sameP_any x q A9 P2 S' S9 (HPq.out.below hx) (HPc.out.below hx) HPM2.out
          have HRT : Hid (∀ x, Below x4.heap.size x4 x → Calls Try.prog 24 #[.pointer (some ⟨q, 0, none⟩)] x fun e w' => e = .returned (.agg Ra.toArray) ∧ Below x.heap.size x w') := fun x hx => by
            obtain ⟨B, hB, -⟩ := (HPq.out.below hx).onA
            have := root_any x q 0 P2.la P2.sa B hB
            rw [HRTa.out] at this
            exact this
          have HRU : Hid (∀ x, Below x4.heap.size x4 x → Calls Try.prog 24 #[.pointer (some ⟨q, 326, none⟩)] x fun e w' => e = .returned (.agg Rb.toArray) ∧ Below x.heap.size x w') := fun x hx => by
            obtain ⟨B, hB, -⟩ := (HPq.out.below hx).onB
            have := root_any x q 326 P2.lb P2.sb B hB
            rw [HRTb.out] at this
            exact this
          have hz65 := Try.sizeOf65
          have hz63 := Try.sizeOf63
          go_upto_region 18 with fail
          go_cut [81] (fun s81 wx => s81 = .bool false ∧ Below x4.heap.size x4 wx)
          case first =>
            refine wp_region_held_drew (S := fun w' => w'.rangeAt A4 7 Ra ∧ w'.rangeAt A4 39 Rb) (by kernel_rfl) HRs.out (fun hHeld => ?_)
            have HBz := hide ((Below.refl x4.heap.size x4).drew)
            refine wpAnyH_ready (rs := [0]) (by kernel_rfl) (by simp) ?_
            refine (AllReadyH.cons rfl (fun K hK => ?_) AllReadyH.nil)
            refine step_call rfl 23 #[.pointer (some ⟨q, 0, none⟩), .pointer (some ⟨A9, 0, none⟩)] (by simp [go_sem]) (HSA.out _ HBz.out) ?_
            rintro e u1 ⟨rfl, hbe⟩
            replace HBz := hide (lec HBz.out hbe)
            clear hbe
            refine ⟨_, rfl, ?_⟩
            refine hK.out _ _ ?_ (fun hHeld => ?_)
            · exact ⟨range_below HRs.out.1 HZ10.out HBz.out, range_below HRs.out.2 HZ10.out HBz.out⟩
            clear hK K
            try simp only [Act.put, List.getElem_toArray, List.getElem_cons_zero, List.getElem_cons_succ, List.setIfInBounds_toArray, List.set_cons_zero, List.set_cons_succ]
            refine wpAnyH_take (i := 1) (v := ?_) rfl (by kernel_rfl) (by kernel_rfl) (by kernel_rfl) (fun _ _ _ h => h) (Or.inl ⟨by rfl, ?_⟩) (by assumption) ?_
            rotate_left
            · (intro w hSw; (try dsimp only at hSw); go_simp; try (with_reducible rfl))
            try simp only [Act.put, List.getElem_toArray, List.getElem_cons_zero, List.getElem_cons_succ, List.setIfInBounds_toArray, List.set_cons_zero, List.set_cons_succ]
            refine wpAnyH_take (i := 2) (v := ?_) rfl (by kernel_rfl) (by kernel_rfl) (by kernel_rfl) (fun _ _ _ h => h) (Or.inl ⟨by rfl, ?_⟩) (by assumption) ?_
            rotate_left
            · (intro w hSw; (try dsimp only at hSw); go_simp; try (with_reducible rfl))
            try simp only [Act.put, List.getElem_toArray, List.getElem_cons_zero, List.getElem_cons_succ, List.setIfInBounds_toArray, List.set_cons_zero, List.set_cons_succ]
            refine wpAnyH_take (i := 3) (v := ?_) rfl (by kernel_rfl) (by kernel_rfl) (by kernel_rfl) (fun _ _ _ h => h) (Or.inl ⟨by rfl, ?_⟩) (by assumption) ?_
            rotate_left
            · (intro w hSw; (try dsimp only at hSw); go_simp; try (with_reducible rfl))
            try simp only [Act.put, List.getElem_toArray, List.getElem_cons_zero, List.getElem_cons_succ, List.setIfInBounds_toArray, List.set_cons_zero, List.set_cons_succ]
            refine wpAnyH_take (i := 4) (v := ?_) rfl (by kernel_rfl) (by kernel_rfl) (by kernel_rfl) (fun _ _ _ h => h) (Or.inl ⟨by rfl, ?_⟩) (by assumption) ?_
            rotate_left
            · (intro w hSw; (try dsimp only at hSw); go_simp; try (with_reducible rfl))
            try simp only [Act.put, List.getElem_toArray, List.getElem_cons_zero, List.getElem_cons_succ, List.setIfInBounds_toArray, List.set_cons_zero, List.set_cons_succ]
            refine wpAnyH_take (i := 5) rfl (by kernel_rfl) (by kernel_rfl) (by kernel_rfl) (fun _ _ _ h => h) (yieldsIf_load_mid (by rfl) 63 (.tmp 68) rfl A4 7 rfl Ra _ (fun w hSw => hSw.1) Try.underlying63 rfl (by rw [HRl.out.1]; exact Try.sz63)) (by assumption) ?_
            try simp only [Act.put, List.getElem_toArray, List.getElem_cons_zero, List.getElem_cons_succ, List.setIfInBounds_toArray, List.set_cons_zero, List.set_cons_succ]
            refine wpAnyH_take (i := 6) (v := ?_) rfl (by kernel_rfl) (by kernel_rfl) (by kernel_rfl) (fun _ _ _ h => h) (Or.inl ⟨by rfl, ?_⟩) (by assumption) ?_
            rotate_left
            · (intro w hSw; (try dsimp only at hSw); go_simp; try (with_reducible rfl))
            try simp only [Act.put, List.getElem_toArray, List.getElem_cons_zero, List.getElem_cons_succ, List.setIfInBounds_toArray, List.set_cons_zero, List.set_cons_succ]
            refine wpAnyH_ready (rs := [7]) (by kernel_rfl) (by simp) ?_
            refine (AllReadyH.cons rfl (fun K hK => ?_) AllReadyH.nil)
            refine step_call_g (by rfl) 24 #[.pointer (some ⟨q, 0, none⟩)] (by simp [go_sem]) (HRT.out _ HBz.out) ?_
            rintro e u2 ⟨rfl, hbe⟩
            replace HBz := hide (lec HBz.out hbe)
            clear hbe
            refine ⟨_, rfl, ?_⟩
            refine hK.out _ _ ?_ (fun hHeld => ?_)
            · exact ⟨range_below HRs.out.1 HZ10.out HBz.out, range_below HRs.out.2 HZ10.out HBz.out⟩
            clear hK K
            try simp only [Act.put, List.getElem_toArray, List.getElem_cons_zero, List.getElem_cons_succ, List.setIfInBounds_toArray, List.set_cons_zero, List.set_cons_succ]
            refine wpAnyH_take (i := 8) (v := ?_) rfl (by kernel_rfl) (by kernel_rfl) (by kernel_rfl) (fun _ _ _ h => h) (Or.inl ⟨by rfl, ?_⟩) (by assumption) ?_
            rotate_left
            · (intro w hSw; (try dsimp only at hSw); go_simp; try (with_reducible rfl))
            try simp only [Act.put, List.getElem_toArray, List.getElem_cons_zero, List.getElem_cons_succ, List.setIfInBounds_toArray, List.set_cons_zero, List.set_cons_succ]
            refine wpAnyH_take (i := 9) (v := ?_) rfl (by kernel_rfl) (by kernel_rfl) (by kernel_rfl) (fun _ _ _ h => h) (Or.inl ⟨by rfl, ?_⟩) (by assumption) ?_
            rotate_left
            · (intro w hSw; (try dsimp only at hSw); go_simp; try (with_reducible rfl))
            try simp only [Act.put, List.getElem_toArray, List.getElem_cons_zero, List.getElem_cons_succ, List.setIfInBounds_toArray, List.set_cons_zero, List.set_cons_succ]
            refine wpAnyH_take (i := 10) (v := ?_) rfl (by kernel_rfl) (by kernel_rfl) (by kernel_rfl) (fun _ _ _ h => h) (Or.inl ⟨by rfl, ?_⟩) (by assumption) ?_
            rotate_left
            · (intro w hSw; (try dsimp only at hSw); go_simp; try (with_reducible rfl))
            try simp only [Act.put, List.getElem_toArray, List.getElem_cons_zero, List.getElem_cons_succ, List.setIfInBounds_toArray, List.set_cons_zero, List.set_cons_succ]
            refine wpAnyH_take (i := 11) (v := ?_) rfl (by kernel_rfl) (by kernel_rfl) (by kernel_rfl) (fun _ _ _ h => h) (Or.inl ⟨by rfl, ?_⟩) (by assumption) ?_
            rotate_left
            · (intro w hSw; (try dsimp only at hSw); go_simp; try (with_reducible rfl))
            try simp only [Act.put, List.getElem_toArray, List.getElem_cons_zero, List.getElem_cons_succ, List.setIfInBounds_toArray, List.set_cons_zero, List.set_cons_succ]
            refine wpAnyH_take (i := 12) (v := ?_) rfl (by kernel_rfl) (by kernel_rfl) (by kernel_rfl) (fun _ _ _ h => h) (Or.inl ⟨by rfl, ?_⟩) (by assumption) ?_
            rotate_left
            · (intro w hSw; (try dsimp only at hSw); go_simp; try (with_reducible rfl))
            try simp only [Act.put, List.getElem_toArray, List.getElem_cons_zero, List.getElem_cons_succ, List.setIfInBounds_toArray, List.set_cons_zero, List.set_cons_succ]
            refine wpAnyH_take (i := 13) rfl (by kernel_rfl) (by kernel_rfl) (by kernel_rfl) (fun _ _ _ h => h) (yieldsIf_load_mid (by rfl) 63 (.tmp 76) rfl A4 39 rfl Rb _ (fun w hSw => hSw.2) Try.underlying63 rfl (by rw [HRl.out.2]; exact Try.sz63)) (by assumption) ?_
            try simp only [Act.put, List.getElem_toArray, List.getElem_cons_zero, List.getElem_cons_succ, List.setIfInBounds_toArray, List.set_cons_zero, List.set_cons_succ]
            refine wpAnyH_take (i := 14) (v := ?_) rfl (by kernel_rfl) (by kernel_rfl) (by kernel_rfl) (fun _ _ _ h => h) (Or.inl ⟨by rfl, ?_⟩) (by assumption) ?_
            rotate_left
            · (intro w hSw; (try dsimp only at hSw); go_simp; try (with_reducible rfl))
            try simp only [Act.put, List.getElem_toArray, List.getElem_cons_zero, List.getElem_cons_succ, List.setIfInBounds_toArray, List.set_cons_zero, List.set_cons_succ]
            refine wpAnyH_ready (rs := [15]) (by kernel_rfl) (by simp) ?_
            refine (AllReadyH.cons rfl (fun K hK => ?_) AllReadyH.nil)
            refine step_call_g (by rfl) 24 #[.pointer (some ⟨q, 326, none⟩)] (by simp [go_sem]) (HRU.out _ HBz.out) ?_
            rintro e u3 ⟨rfl, hbe⟩
            replace HBz := hide (lec HBz.out hbe)
            clear hbe
            refine ⟨_, rfl, ?_⟩
            refine hK.out _ _ ?_ (fun hHeld => ?_)
            · exact ⟨range_below HRs.out.1 HZ10.out HBz.out, range_below HRs.out.2 HZ10.out HBz.out⟩
            clear hK K
            try simp only [Act.put, List.getElem_toArray, List.getElem_cons_zero, List.getElem_cons_succ, List.setIfInBounds_toArray, List.set_cons_zero, List.set_cons_succ]
            refine wpAnyH_take (i := 16) (v := ?_) rfl (by kernel_rfl) (by kernel_rfl) (by kernel_rfl) (fun _ _ _ h => h) (Or.inl ⟨by rfl, ?_⟩) (by assumption) ?_
            rotate_left
            · (intro w hSw; (try dsimp only at hSw); go_simp; try (with_reducible rfl))
            try simp only [Act.put, List.getElem_toArray, List.getElem_cons_zero, List.getElem_cons_succ, List.setIfInBounds_toArray, List.set_cons_zero, List.set_cons_succ]
            refine wpAnyH_take (i := 17) (v := ?_) rfl (by kernel_rfl) (by kernel_rfl) (by kernel_rfl) (fun _ _ _ h => h) (Or.inl ⟨by rfl, ?_⟩) (by assumption) ?_
            rotate_left
            · (intro w hSw; (try dsimp only at hSw); go_simp; try (with_reducible rfl))
            try simp only [Act.put, List.getElem_toArray, List.getElem_cons_zero, List.getElem_cons_succ, List.setIfInBounds_toArray, List.set_cons_zero, List.set_cons_succ]
            refine wpAnyH_done (by kernel_rfl) ?_ _
            go_wp2_with fail
            go_meet
            exact ⟨rfl, HBz.out⟩
          obtain ⟨rfl, hbc⟩ := hcut
          have HH11 := hide (HH10.out.below hbc)
          clear hbc HSA HRT HRU HRs HH10 heA heB
          go_wp2_with fail
          go_roundw
          case rel => exact ⟨k + 1, P2, S5, by omega, by go_num, HH11.out⟩
          case measure => simp [intOf]; omega
        · have d0 : (cd != 0) = true := by simp [hc0]
          have eP := HZd.out hc0
          obtain ⟨RF, hRF⟩ : ∃ R : Nat → List Value, (fun o => u8s (rootP (if o = 0 then P.la else P.lb))) = R := ⟨_, rfl⟩
          have HSA : Hid (Calls Try.prog 23 #[.pointer (some ⟨A1, 0, none⟩), .pointer (some ⟨A9, 0, none⟩)] y9 fun e w' => e = .returned (.bool true) ∧ Below y9.heap.size y9 w') := sameP_any y9 A1 A9 P S1 S9 HPa.out (by rw [← eP]; exact HPb.out) HPM.out
          have HRT : ∀ x A o, Below y9.heap.size y9 x → (A = A1 ∨ A = A9) → (o = 0 ∨ o = 326) → Calls Try.prog 24 #[.pointer (some ⟨A, o, none⟩)] x fun e w' => e = .returned (.agg (RF o).toArray) ∧ Below x.heap.size x w' := fun x A o hx hA ho => by
            have key : ∃ SA, PP x A P SA := by
              rcases hA with rfl | rfl
              · exact ⟨_, HPa.out.below hx⟩
              · exact ⟨_, by have := HPb.out.below hx; rw [eP] at this; exact this⟩
            obtain ⟨SA, hp⟩ := key
            rw [← hRF]
            rcases ho with rfl | rfl
            · obtain ⟨B, hB, -⟩ := hp.onA
              exact root_any x A 0 P.la P.sa B hB
            · obtain ⟨B, hB, -⟩ := hp.onB
              exact root_any x A 326 P.lb P.sb B hB
          have heA : ∀ w o, (Op.equalIn 10000 63 (.agg (RF o).toArray) (.agg (RF o).toArray)).run Try.prog w = .ok true w := fun w o => by rw [← hRF]; exact eq63 9998 (rootP_len _)
          clear hRF eP HZc HZd HBG HPa HPb HRA9 HZ9 HFE
          have HBz := hide (Below.refl y9.heap.size y9)
          go_upto_region 15 with fail
          clear c0
          go_upto_region 20 with (first | (go_at_call 23; refine HSA.out.mono ?_; rintro e u1 ⟨rfl, hbe⟩; replace HBz := hide (lec HBz.out hbe); clear hbe; simp only []) | (go_at_call 24; refine (HRT _ _ _ HBz.out (by simp) (by simp)).mono ?_; rintro e u1 ⟨rfl, hbe⟩; replace HBz := hide (lec HBz.out hbe); clear hbe; simp only []))
          have HH11 := hide (HH9.out.below HBz.out)
          clear HSA HRT heA HH9
          go_wp2_with fail
          go_roundw
          case rel => exact ⟨k + 1, P2, S5, by omega, by go_num, HH11.out⟩
          case measure => simp [intOf]; omega
      · have d1 : (kd != 1) = true := by simp [hk1]
        go_wp2_with fail
        go_roundw
        case rel => exact ⟨k + 1, P2, S5, by omega, by go_num, HH6.out⟩
        case measure => simp [intOf]; omega
    · obtain rfl : k = n := by omega
      have d1 : decide ((k : Int) < (k : Int)) = false := by simp
      have HBX := hide HH.out.be
      go_wp2
      go_ret
      exact ⟨rfl, HBX.out⟩
end Go.Proofs.Qxb6500784a
