import Derived.Test.Qxb6500784aSi3
namespace Go.Proofs.Qxb6500784a
open Go.RowKit

attribute [-simp] Try.isAgg65 Try.sizeOf65 Try.typeInfo65 Try.isAgg63 Try.sizeOf63 Try.typeInfo63 Try.isAgg95 Try.sizeOf95 Try.typeInfo95
attribute [local irreducible] rootP shaP
set_option linter.unusedSimpArgs false in
set_option maxRecDepth 100000 in
set_option maxHeartbeats 8000000 in
theorem sim_run (w W : World) (b : Nat) (P : Pr) (S : List Nat) (h : PP w b P S) (hsm : PSm P) (hW : Below W.heap.size W w) (hWb : W.heap.size ≤ b) (hWS : ∀ k, k ∈ S → W.heap.size ≤ k) (kp : Bool) (a : Option Addr) (n cap : Nat) (L : Nat → Leg) (T : Nat → List Int) (hn : n ≤ 9223372036854775807) (hL : LegsAt W a n L) (hV : ∀ i, i < n → LegV (legL (L i)) (L i).ch (T i)) (hc : ordCode n L = 0) (hsh : shallow P) (z : Nat) (hz : Bnd z P) (hzl : z ≤ 800000000000) :
    Calls Try.prog 63 #[.pointer (some ⟨b, 0, none⟩), .agg #[.slice a n cap], .bool kp] w fun e w' => ∃ v, SimPost w b S (simS kp P n L T) (simR P n L T v) e w' := by
  obtain ⟨hn0, hn8, hol, hon, hom, hoc⟩ := ord_facts hc
  obtain ⟨lb, off, ha, -, -⟩ := hL 0 hn0
  subst ha
  have HLW := hide hL
  have HL := hide (hL.below hW)
  have HWW := hide hW
  have HWb := hide hWb
  have HWS := hide hWS
  have HP := hide h
  have HSM := hide hsm
  have HCD := hide hc
  have HSH := hide hsh
  have HBZ0 := hide hz
  have HVV := hide hV
  have HKE : ∀ v, Hid (simK P n L T v = runK L T (ordP n L) (opened P) (res0 (ordI (ordP n L)) v)) := fun v => rfl
  have HKF : ∀ v Q r c f, Hid (simK P n L T v = (Q, r, c, f) → c ≠ 0 → simR P n L T v = refR c f ∧ simS kp P n L T = P) := fun v Q r c f h1 h2 => sim_fail hc hsh h1 h2 kp
  have HKO : ∀ v Q r, Hid (simK P n L T v = (Q, r, 0, -1) → simR P n L T v = { r with ra := rootP Q.la, rb := rootP Q.lb } ∧ simS kp P n L T = if kp = true then kept Q P else P) := fun v Q r h1 => sim_ok hc hsh h1 kp
  have HOV : Hid (∀ {wx : World} {B : Nat} {v : Value}, wx.ownsRow B 3 1 v (sortP n (needM n L)).1.length (vals (sortP n (needM n L)).1) → wx.ownsRow B 3 1 v (ordP n L).length (vals (ordP n L))) := fun h => h
  obtain ⟨ord, ho⟩ : ∃ ord, ordP n L = ord := ⟨_, rfl⟩
  rw [ho] at hol hon hom HOV
  simp only [ho] at HKE
  have HOC := hide hoc
  have HOM := hide hom
  have HOL := hide hol
  have hlo : (ord.length : Int) ≤ 8 := by omega
  obtain ⟨PS, hPS⟩ : ∃ PS, simS kp P n L T = PS := ⟨_, rfl⟩
  obtain ⟨RS, hRS⟩ : ∃ RS, simR P n L T = RS := ⟨_, rfl⟩
  obtain ⟨KS, hKS⟩ : ∃ KS, simK P n L T = KS := ⟨_, rfl⟩
  rw [hPS, hRS]
  simp only [hPS, hRS, hKS] at HKE HKF HKO
  clear hL h hsm hc hsh hWb hWS hW hz hV hoc hom hol hon ho hPS hRS hKS
  obtain ⟨Z, hZ⟩ : ∃ Z, Try.zeroCells65.toList = Z := ⟨_, rfl⟩
  have HZl : Hid (Z.length = 70) := by rw [← hZ]; show Try.zeroCells65.toList.length = 70; rw [Array.length_toList]; exact Try.zs65
  go_enter Try.func63, Try.ntmps63
  go_upto_region 1 with fail
  obtain ⟨g1, g2, g3, g4, g5⟩ := new2 w (.slice (some ⟨lb, off, none⟩) n cap)
  obtain ⟨D, hD⟩ : ∃ D, w.heap.size = D := ⟨_, rfl⟩
  have HD := hide hD
  rw [hD] at g2 g3 g4 g5 ⊢
  clear hD
  have HBE := hide g1
  have cl := g2
  have HT := hide g3
  have HS := hide g4
  have HT1 := hide g5
  clear g1 g2 g3 g4 g5
  have g6 := new2r w (.slice (some ⟨lb, off, none⟩) n cap)
  rw [HD.out] at g6
  have HRA := hide g6
  clear g6
  generalize (w.alloc (.cells #[.slice (some ⟨lb, off, none⟩) n cap] 27)).alloc (.cells Try.zeroCells65 65) = w1 at *
  rw [hZ] at HRA
  clear hZ
  go_upto_region 2 with (go_at_call 13; refine (order_any _ (some ⟨lb, off, none⟩) n cap L hn (HL.out.below HBE.out)).mono ?_; rintro e w2 ⟨v, rfl, hbe, -, hv⟩; have HB2 := hide hbe; have HV := hide (HOV.out (hv HCD.out)); clear hbe hv; rw [HCD.out]; simp only [])
  obtain ⟨g, vc, hv⟩ := own_some HV.out (by have := HOL.out; omega)
  subst hv
  have HP2 := hide (HP.out.below (lec HBE.out HB2.out))
  have HK2 := hide ((Link.refl w b S).below (lec HBE.out HB2.out))
  clear cl HOV
  go_upto_region 7 with (go_at_call 85; refine (open_any _ b P S HP2.out HSM.out).mono ?_; rintro e w3 ⟨rfl, hps⟩; rw [if_pos HSH.out] at hps ⊢; have HPS := hide hps; clear hps; simp only [])
  obtain ⟨S3, hk3, hp3⟩ := HPS.out.to
  have HP3 := hide hp3
  have HK3 := hide hk3
  have HB3 := hide (HK2.out.trans hk3)
  clear hk3 hp3 HPS HP2
  obtain ⟨i3, hi3, hz3, hy3, _⟩ := info_parts Try.inf65
  obtain ⟨F0, hF0⟩ : ∃ F0, (res0 (ordI ord) (.slice (some ⟨g, 0, none⟩) ord.length vc)).vals (.slice (some ⟨g, 0, none⟩) ord.length vc) nilS nilS = F0 := ⟨_, rfl⟩
  have HF0 := hide hF0
  have HF0l : Hid (F0.length = 70) := by rw [← hF0]; exact Rs.len (res0_ok _ _) _ _ _
  have HF01 : Hid (∀ u ∈ F0, u.oneCell' = true) := by rw [← hF0]; exact Rs.one _ rfl rfl rfl
  have HBU : Hid (Try.prog.built 65 [(1, .int .i64 (-1)), (2, .slice (some ⟨g, 0, none⟩) ord.length vc)] = some F0.toArray) := by rw [← hF0]; exact built_res _ _ _ _ _
  clear hF0
  refine wp_region_lit ?_
  refine wpL_run rfl (.slice (some ⟨g, 0, none⟩) ord.length vc) w3 rfl ?_
  refine wpL_build rfl 65 _ rfl F0.toArray (by exact HBU.out) ?_
  refine wpL_alloc rfl 65 rfl i3 hi3 _ hz3 ?_
  rw [show (Value.agg ((refR 0 0).vals nilS nilS nilS).toArray).cells = ((refR 0 0).vals nilS nilS nilS).toArray from rfl]
  obtain ⟨q1, q2, q3, q4⟩ := new_lit w3 ((refR 0 0).vals nilS nilS nilS).toArray 65 F0 (by rw [HF0l.out]; kernel_rfl)
  have hth := newTz w3 ((refR 0 0).vals nilS nilS nilS).toArray 65
  rw [show ((refR 0 0).vals nilS nilS nilS).toArray.size = 70 by kernel_rfl] at hth
  refine wpList_store_mid rfl 65 (.tmp 9) (.tmp 28) rfl w3.heap.size 0 F0.toArray rfl rfl (by simpa [HF0l.out] using hth) (by simpa [HF0l.out] using Try.sz65) (all_oneCell_toArray HF01.out) ?_
  rw [show F0.toArray.toList = F0 by simp]
  rw [HF0l.out] at q2
  obtain ⟨C4, hlw, hC4⟩ := lw_start (P := P) ⟨rfl, fun k hk => by have := HP.out.lt hk; have := HD.out; omega⟩ (by have := HP.out.bl; have := HD.out; omega) HS.out HRA.out.1 HT1.out HRA.out.2 (by rw [HZl.out]; exact HT.out) HB2.out HV.out HK3.out HP3.out F0 HF0.out q1 q2 q3 q4
  have HLW0 := hide hlw
  have HC4 : Hid (∀ k, k ∈ C4 → w.heap.size ≤ k) := fun k hk => by have := hC4 k hk; have := HD.out; omega
  have HB4 : Hid (Link w b S ((w3.alloc (.cells ((refR 0 0).vals nilS nilS nilS).toArray 65)).setCells w3.heap.size 0 F0) S3) := HB3.out.below q3
  have HE : Hid (w.heap.size ≤ w3.heap.size) := HB3.out.1.size
  obtain ⟨E, hE⟩ : ∃ E, w3.heap.size = E := ⟨_, rfl⟩
  rw [hE] at HLW0 HE HB4 ⊢
  clear hlw hC4 q1 q2 q3 q4 hth hE
  generalize (w3.alloc (.cells ((refR 0 0).vals nilS nilS nilS).toArray 65)).setCells E 0 F0 = w4 at *
  clear HP3 HK3 HB3 HRA HT HT1 HV HB2 HK2 HF0 HF0l HF01 HBU
  have HB5 : Hid (Bnd (z + 0) (opened P)) := bnd_open HBZ0.out
  have HS6 : Hid (Same6 (opened P) (opened P)) := ⟨rfl, rfl, rfl, rfl, rfl, rfl⟩
  go_wp2
  go_loopw [31] (fun s31 wr => ∃ (i : Nat) (Pq : Pr) (rq : Rs) (Sq Cq : List Nat), i ≤ ord.length ∧ s31 = .int .i64 i ∧ Hid (KS (.slice (some ⟨g, 0, none⟩) ord.length vc) = runK L T (ord.drop i) Pq rq) ∧ Hid (Bnd (z + i) Pq ∧ rq.rcs.length ≤ i ∧ rq.stm.length ≤ i ∧ rq.ord = ordI ord ∧ rq.vo = .slice (some ⟨g, 0, none⟩) ord.length vc) ∧ Hid (Same6 Pq (opened P)) ∧ LW w4 b E S3 C4 wr Pq Sq rq Cq [(D, [.slice (some ⟨lb, off, none⟩) n cap]), (D + 1, Z)]) (fun s31 _ => ord.length - (intOf s31).toNat)
  case atStart => exact ⟨0, _, _, S3, C4, Nat.zero_le _, rfl, HKE _, ⟨HB5.out, by simp [res0], by simp [res0], rfl, rfl⟩, HS6, HLW0.out⟩
  case round =>
    clear HLW0 HB5 HS6
    obtain ⟨i, Pq, rq, Sq, Cq, hi, rfl, HK, HQ, HS6, hlw⟩ := hrel
    have HX := hide hlw
    clear hlw
    have HWr : Hid (Below W.heap.size W wr) := below_of HWW.out HWb.out HWS.out (HX.out.fin HB4.out HE.out HC4.out).1
    by_cases hlt : i < ord.length
    · have d1 : decide ((i : Int) < (ord.length : Int)) = true := by simp; omega
      have hii : (i : Int) < (ord.length : Int) := by omega
      obtain ⟨x, hx⟩ : ∃ x, ord[i]? = some x := ⟨_, List.getElem?_eq_getElem hlt⟩
      have hxn : x < n := HOM.out x (List.mem_of_getElem? hx)
      have hdr : ord.drop i = x :: ord.drop (i + 1) := by
        rw [List.drop_eq_getElem_cons hlt]
        rw [List.getElem?_eq_getElem hlt] at hx
        injection hx with hx
        rw [hx]
      have HK1 : Hid (KS (.slice (some ⟨g, 0, none⟩) ord.length vc) = if legC Pq (L x).ch (T x) = 0 then runK L T (ord.drop (i + 1)) (legS Pq (L x).ch (T x)) (legR Pq (L x).ch (T x) rq) else (legS Pq (L x).ch (T x), rq, legC Pq (L x).ch (T x), x)) := by
        have := HK.out
        rw [hdr, runK] at this
        exact this
      have cD := HX.out.at' (q := D) (cs := [.slice (some ⟨lb, off, none⟩) n cap]) (by simp) (j := 0) rfl
      have cx : wr.cell? ⟨g, i, none⟩ = some (.int .i64 x) := by
        obtain ⟨vo, vr, vs, _, hrl⟩ := HX.out.rw.rl
        have h1 := hrl.o
        rw [hrl.e, HQ.out.2.2.2.2, HQ.out.2.2.2.1, ordI_vals] at h1
        have := h1.cells rfl i (.int .i64 x) (by simp [vals, hx])
        rw [Addr.add_mid, Nat.zero_add] at this
        exact this
      have hxi : (x : Int) < (n : Int) := by omega
      have HRL : Hid (wr.rangeAt lb (off + x * 86) (legL (L x))) := by
        obtain ⟨b', off', ha, hcells, _⟩ := (HLW.out.below HWr.out) x hxn
        injection ha with ha
        injection ha with h1 h2
        subst h1 h2
        exact legRange hcells
      have HVx := hide (HVV.out x hxn)
      have HSZ : Hid (Sz Pq rq) := by
        have h1 := HQ.out
        have h2 := HOL.out
        exact ⟨fun c => by have := h1.1.m c; omega, fun c => by have := h1.1.o c; omega, fun c => by have := h1.1.i c; omega, by omega, by omega⟩
      have HCH := hide (HOC.out x hxn).1
      clear hx hdr HK
      obtain ⟨Lv, hLv⟩ : ∃ Lv, legL (L x) = Lv := ⟨_, rfl⟩
      have HLv : Hid (Lv.length = 86) := by rw [← hLv]; exact legL_len _
      rw [hLv] at HRL HVx
      clear hLv
      go_upto_region 11 with fail
      go_wp2_with fail
      simp only [Try.sizeOf95, Result.andThen]
      rw [Oper.upon_value]
      go_wp2_with fail
      simp only [Try.isAgg95, Try.sizeOf95, Result.andThen, ↓reduceIte, ldC wr lb (off + x * 86) Lv 86 HLv.out HRL.out]
      rw [Oper.upon_value]
      clear cx cD HRL HLv
      obtain ⟨cd, hcd⟩ : ∃ cd, legC Pq (L x).ch (T x) = cd := ⟨_, rfl⟩
      have HRC : Hid (Calls Try.prog 86 #[.pointer (some ⟨b, 0, none⟩), .agg Lv.toArray, .pointer (some ⟨E, 0, none⟩)] wr fun e w' => e = .returned (.int .i64 cd) ∧ ∃ S' C', LW wr b E Sq Cq w' (legS Pq (L x).ch (T x)) S' (if cd = 0 then legR Pq (L x).ch (T x) rq else rq) C' []) := by
        have := runLeg_any wr b E Pq Sq rq Cq HX.out.rw (L x).ch (T x) Lv HVx.out HSZ.out
        unfold LegPost at this
        rw [hcd] at this
        exact this
      rw [hcd] at HK1
      have HB1 : Hid (Bnd (z + (i + 1)) (legS Pq (L x).ch (T x))) := bnd_step HQ.out.1 _ _
      have HS7 : Hid (Same6 (legS Pq (L x).ch (T x)) (opened P)) := by
        obtain ⟨s1, s2, s3, s4, s5, s6⟩ := legS_keep Pq HCH.out (T x)
        obtain ⟨t1, t2, t3, t4, t5, t6⟩ := HS6.out
        exact ⟨s1.trans t1, s2.trans t2, s3.trans t3, s4.trans t4, s5.trans t5, s6.trans t6⟩
      have HR1 : Hid ((legR Pq (L x).ch (T x) rq).rcs.length ≤ i + 1 ∧ (legR Pq (L x).ch (T x) rq).stm.length ≤ i + 1 ∧ (legR Pq (L x).ch (T x) rq).ord = ordI ord ∧ (legR Pq (L x).ch (T x) rq).vo = .slice (some ⟨g, 0, none⟩) ord.length vc) := by
        obtain ⟨_, z1, z2, z3, z4⟩ := HQ.out
        refine ⟨by simp [legR]; omega, ?_, z3, z4⟩
        unfold legR
        simp only
        split
        · simp; omega
        · omega
      clear hcd HVx HSZ
      generalize legS Pq (L x).ch (T x) = Q1 at *
      generalize legR Pq (L x).ch (T x) rq = r1 at *
      by_cases hz0 : cd = 0
      · subst hz0
        go_wp2_with (go_at_call 86; refine HRC.out.mono ?_; rintro e w5 ⟨rfl, S5, C5, hl⟩; rw [if_pos rfl] at hl; have HX5 := hide (HX.out.trans hl); clear hl; simp only [])
        rw [if_pos rfl] at HK1
        clear HRC HX HQ HS6
        go_roundw
        case rel => exact ⟨i + 1, Q1, r1, S5, C5, by omega, by go_num, HK1, ⟨HB1.out, HR1.out⟩, HS7, HX5.out⟩
        case measure => simp [intOf]; omega
      · have d2 : (cd != 0) = true := by simp [hz0]
        rw [if_neg hz0] at HK1
        obtain ⟨F, hF⟩ : ∃ F, (refR cd x).vals nilS nilS nilS = F := ⟨_, rfl⟩
        have HF := hide hF
        have HFl : Hid (F.length = 70) := by rw [← hF]; exact Rs.len (refR_ok _ _) _ _ _
        have HF1 : Hid (∀ u ∈ F, u.oneCell' = true) := by rw [← hF]; exact Rs.one _ rfl rfl rfl
        clear hF
        go_upto_region 13 with (go_at_call 86; refine HRC.out.mono ?_; rintro e w5 ⟨rfl, S5, C5, hl⟩; rw [if_neg hz0] at hl; have HX5 := hide (HX.out.trans hl); clear hl; simp only [])
        clear HRC HX HQ HS6 HR1 HB1
        go_upto_region 14 with (go_at_call 87; refine (rollP_any _ b Q1 P S5 (by rw [onto_of HS7.out]; exact HX5.out.rw.pp) HSM.out).mono ?_; rintro e w6 ⟨rfl, hps⟩; rw [undone_of HS7.out] at hps; obtain ⟨S6, hx6⟩ := HX5.out.ps hps; have HX6 := hide hx6; clear hps hx6; simp only [])
        go_wp2_with (go_at_call 84; refine (refused_any _ cd x).mono ?_; rintro e wq ⟨rfl, hbe⟩; have HX7 := hide (HX6.out.below hbe); clear hbe; rw [HF.out]; simp only [])
        have HT6 : Hid (wq.there (D + 1) 0 70) := by have := (HX7.out.lo (D + 1, Z) (by simp)).th; rw [HZl.out] at this; exact this
        simp only [Try.sizeOf65, Result.andThen, HFl.out, ↓reduceIte, stC wq (D + 1) 0 F (by rw [HFl.out]; exact HT6.out) HF1.out]
        rw [Oper.upon_skip]
        have HRZ := hide (World.rangeAt_setCells_same wq (D + 1) 0 F (by rw [HFl.out]; exact HT6.out))
        have HEX : Hid (Ex (fun j => j = D + 1) wq (wq.setCells (D + 1) 0 F)) := Ex.sets (S := fun j => j = D + 1) rfl F 0 wq (Ex.refl _ _)
        generalize wq.setCells (D + 1) 0 F = wz at *
        clear HX6 HX5 HT6
        have HPO : Hid (∃ v, SimPost w b S PS (RS v) (.returned (.agg F.toArray)) wz) := by
          obtain ⟨e1, e2⟩ := (HKF _ Q1 rq cd x).out HK1.out hz0
          obtain ⟨k1, _⟩ := HX7.out.fin HB4.out HE.out HC4.out
          have lo := HX7.out.lo (D + 1, Z) (by simp)
          refine ⟨.slice (some ⟨g, 0, none⟩) ord.length vc, nilS, nilS, nilS, [], S6, ?_, ?_, ?_, k1.loc HEX.out (by have := HD.out; omega), ?_, fun k hk => absurd hk (by simp)⟩
          · rw [e1, HF.out]
          · rw [e1]; exact ⟨World.ownsRow_nil _ _ _ _, World.ownsRow_nil _ _ _ _, World.ownsRow_nil _ _ _ _, rfl, List.nodup_nil, rfl⟩
          · rw [e1]; exact refR_ok _ _
          · rw [e2]; exact HX7.out.rw.pp.ex HEX.out (fun e => lo.nb e.symm) (fun k hk e => lo.nS (e ▸ hk))
        go_wp2_with fail
        exact bodyPost_ret (v := .agg F.toArray) (res_cell Try.results63 rfl (run_loadVar_mid wz (D + 1) 0 65 F _ HRZ.out Try.underlying65 rfl (by rw [HFl.out]; exact Try.sz65))) rfl HPO.out
    · obtain rfl : i = ord.length := by omega
      have d1 : decide ((ord.length : Int) < (ord.length : Int)) = false := by simp
      have HK1 : Hid (KS (.slice (some ⟨g, 0, none⟩) ord.length vc) = (Pq, rq, 0, -1)) := by
        have := HK.out
        rw [List.drop_length, runK] at this
        exact this
      have HOK := hide HX.out.rw.ok
      clear HK
      obtain ⟨B16, hla16, -⟩ := HX.out.rw.pp.onA
      have HLA16 := hide hla16
      clear hla16
      obtain ⟨F16, hF16⟩ : ∃ F, u8s (rootP Pq.la) = F := ⟨_, rfl⟩
      have HF16 := hide hF16
      have HFl16 : Hid (F16.length = 32) := by rw [← hF16]; show (u8s (rootP Pq.la)).length = 32; simp [u8s, rootP_len]
      have HFo16 : Hid (∀ u ∈ F16, u.oneCell' = true) := by rw [← hF16]; exact u8s_one _
      clear hF16
      go_upto_region 16 with fail
      go_wp2_with (go_at_call 24; refine (root_any _ b 0 Pq.la Pq.sa B16 HLA16.out).mono ?_; rintro e v16 ⟨rfl, hbe⟩; have HY16 := hide (HX.out.below hbe); clear hbe; rw [HF16.out]; simp only [])
      simp only [Try.sizeOf63, Result.andThen, show ((32 : Nat) = 0) = False from by simp, ↓reduceIte]
      rw [Oper.upon_value]
      go_wp2_with fail
      simp only [Try.sizeOf63, Result.andThen, HFl16.out, ↓reduceIte, stC v16 E 6 F16 (by rw [HFl16.out]; have := there_sub (k := 6) (m := 32) HY16.out.rw.th (by omega); rwa [Nat.zero_add] at this) HFo16.out]
      rw [Oper.upon_skip]
      have HXa := hide (HY16.out.setsR (j := 6) F16 { rq with ra := rootP Pq.la } (fun vo vr vs => ⟨[.int .i64 rq.code, .int .i64 rq.failed, vo, vr, vs, .int .u64 rq.gas], u8s rq.ra, u8s rq.rb, rfl, rfl, by rw [HFl16.out]; simp [u8s, HOK.out.al], by rw [← HF16.out]; rfl⟩) (by rw [HFl16.out]; omega) rfl rfl rfl ⟨by simp [rootP_len, HOK.out.al], by simp [rootP_len, HOK.out.bl], HOK.out.rc, HOK.out.sm⟩)
      generalize v16.setCells E 6 F16 = x16 at *
      clear HY16 HLA16 HX
      obtain ⟨B17, hla17, -⟩ := HXa.out.rw.pp.onB
      have HLA17 := hide hla17
      clear hla17
      obtain ⟨F17, hF17⟩ : ∃ F, u8s (rootP Pq.lb) = F := ⟨_, rfl⟩
      have HF17 := hide hF17
      have HFl17 : Hid (F17.length = 32) := by rw [← hF17]; show (u8s (rootP Pq.lb)).length = 32; simp [u8s, rootP_len]
      have HFo17 : Hid (∀ u ∈ F17, u.oneCell' = true) := by rw [← hF17]; exact u8s_one _
      clear hF17
      go_upto_region 17 with fail
      go_wp2_with (go_at_call 24; refine (root_any _ b 326 Pq.lb Pq.sb B17 HLA17.out).mono ?_; rintro e v17 ⟨rfl, hbe⟩; have HY17 := hide (HXa.out.below hbe); clear hbe; rw [HF17.out]; simp only [])
      simp only [Try.sizeOf63, Result.andThen, show ((32 : Nat) = 0) = False from by simp, ↓reduceIte]
      rw [Oper.upon_value]
      go_wp2_with fail
      simp only [Try.sizeOf63, Result.andThen, HFl17.out, ↓reduceIte, stC v17 E 38 F17 (by rw [HFl17.out]; have := there_sub (k := 38) (m := 32) HY17.out.rw.th (by omega); rwa [Nat.zero_add] at this) HFo17.out]
      rw [Oper.upon_skip]
      have HXb := hide (HY17.out.setsR (j := 38) F17 { rq with ra := rootP Pq.la, rb := rootP Pq.lb } (fun vo vr vs => ⟨[.int .i64 rq.code, .int .i64 rq.failed, vo, vr, vs, .int .u64 rq.gas] ++ u8s (rootP Pq.la), u8s rq.rb, [], by simp [Rs.vals], by simp [u8s, rootP_len], by rw [HFl17.out]; simp [u8s, HOK.out.bl], by rw [← HF17.out]; simp [Rs.vals]⟩) (by rw [HFl17.out]; omega) rfl rfl rfl ⟨by simp [rootP_len, HOK.out.al], by simp [rootP_len, HOK.out.bl], HOK.out.rc, HOK.out.sm⟩)
      generalize v17.setCells E 38 F17 = x17 at *
      clear HY17 HLA17 HXa
      cases kp
      · go_upto_region 20 with fail
        go_upto_region 21 with (go_at_call 87; refine (rollP_any _ b Pq P Sq (by rw [onto_of HS6.out]; exact HXb.out.rw.pp) HSM.out).mono ?_; rintro e w6 ⟨rfl, hps⟩; rw [undone_of HS6.out] at hps; obtain ⟨S6, hx6⟩ := HXb.out.ps hps; have HX6 := hide hx6; clear hps hx6; simp only [])
        obtain ⟨vo, vr, vs, hrg, hrl⟩ := HX6.out.rw.rl
        obtain ⟨F, hF⟩ : ∃ F, ({ rq with ra := rootP Pq.la, rb := rootP Pq.lb } : Rs).vals vo vr vs = F := ⟨_, rfl⟩
        rw [hF] at hrg
        have HF := hide hF
        have HFl : Hid (F.length = 70) := by rw [← hF]; exact Rs.len HX6.out.rw.ok _ _ _
        have HF1 : Hid (∀ u ∈ F, u.oneCell' = true) := by
          rw [← hF]
          obtain ⟨_, _, e1⟩ := own_form hrl.o
          obtain ⟨_, _, e2⟩ := own_form hrl.q
          obtain ⟨_, _, e3⟩ := own_form hrl.s
          exact Rs.one _ (by rw [e1]; rfl) (by rw [e2]; rfl) (by rw [e3]; rfl)
        have HRG := hide hrg
        have HRL := hide hrl
        clear hF hrg hrl
        go_wp2_with fail
        simp only [Try.isAgg65, Try.sizeOf65, Result.andThen, ↓reduceIte, ldC w6 E 0 F 70 HFl.out HRG.out]
        rw [Oper.upon_value]
        go_wp2_with fail
        have HT6 : Hid (w6.there (D + 1) 0 70) := by have := (HX6.out.lo (D + 1, Z) (by simp)).th; rw [HZl.out] at this; exact this
        simp only [Try.sizeOf65, Result.andThen, HFl.out, ↓reduceIte, stC w6 (D + 1) 0 F (by rw [HFl.out]; exact HT6.out) HF1.out]
        rw [Oper.upon_skip]
        have HRZ := hide (World.rangeAt_setCells_same w6 (D + 1) 0 F (by rw [HFl.out]; exact HT6.out))
        have HEX : Hid (Ex (fun j => j = D + 1) w6 (w6.setCells (D + 1) 0 F)) := Ex.sets (S := fun j => j = D + 1) rfl F 0 w6 (Ex.refl _ _)
        generalize w6.setCells (D + 1) 0 F = wz at *
        have HPO : Hid (∃ v, SimPost w b S PS (RS v) (.returned (.agg F.toArray)) wz) := by
          obtain ⟨e1, e2⟩ := (HKO _ Pq rq).out HK1.out
          obtain ⟨k1, k2⟩ := HX6.out.fin HB4.out HE.out HC4.out
          have lo := HX6.out.lo (D + 1, Z) (by simp)
          refine ⟨.slice (some ⟨g, 0, none⟩) ord.length vc, vo, vr, vs, _, S6, ?_, ?_, ?_, k1.loc HEX.out (by have := HD.out; omega), ?_, k2⟩
          · rw [e1, HF.out]
          · rw [e1]; exact HRL.out.keep HEX.out (fun k hk e => lo.nC (e ▸ hk))
          · rw [e1]; exact HX6.out.rw.ok
          · rw [e2]; exact HX6.out.rw.pp.ex HEX.out (fun e => lo.nb e.symm) (fun k hk e => lo.nS (e ▸ hk))
        go_wp2_with fail
        exact bodyPost_ret (v := .agg F.toArray) (res_cell Try.results63 rfl (run_loadVar_mid wz (D + 1) 0 65 F _ HRZ.out Try.underlying65 rfl (by rw [HFl.out]; exact Try.sz65))) rfl HPO.out
      · go_upto_region 19 with fail
        go_upto_region 21 with (go_at_call 88; refine (keepP_any _ b Pq P Sq (by rw [onto_of HS6.out]; exact HXb.out.rw.pp) HSM.out).mono ?_; rintro e w6 ⟨rfl, hps⟩; obtain ⟨S6, hx6⟩ := HXb.out.ps hps; have HX6 := hide hx6; clear hps hx6; simp only [])
        obtain ⟨vo, vr, vs, hrg, hrl⟩ := HX6.out.rw.rl
        obtain ⟨F, hF⟩ : ∃ F, ({ rq with ra := rootP Pq.la, rb := rootP Pq.lb } : Rs).vals vo vr vs = F := ⟨_, rfl⟩
        rw [hF] at hrg
        have HF := hide hF
        have HFl : Hid (F.length = 70) := by rw [← hF]; exact Rs.len HX6.out.rw.ok _ _ _
        have HF1 : Hid (∀ u ∈ F, u.oneCell' = true) := by
          rw [← hF]
          obtain ⟨_, _, e1⟩ := own_form hrl.o
          obtain ⟨_, _, e2⟩ := own_form hrl.q
          obtain ⟨_, _, e3⟩ := own_form hrl.s
          exact Rs.one _ (by rw [e1]; rfl) (by rw [e2]; rfl) (by rw [e3]; rfl)
        have HRG := hide hrg
        have HRL := hide hrl
        clear hF hrg hrl
        go_wp2_with fail
        simp only [Try.isAgg65, Try.sizeOf65, Result.andThen, ↓reduceIte, ldC w6 E 0 F 70 HFl.out HRG.out]
        rw [Oper.upon_value]
        go_wp2_with fail
        have HT6 : Hid (w6.there (D + 1) 0 70) := by have := (HX6.out.lo (D + 1, Z) (by simp)).th; rw [HZl.out] at this; exact this
        simp only [Try.sizeOf65, Result.andThen, HFl.out, ↓reduceIte, stC w6 (D + 1) 0 F (by rw [HFl.out]; exact HT6.out) HF1.out]
        rw [Oper.upon_skip]
        have HRZ := hide (World.rangeAt_setCells_same w6 (D + 1) 0 F (by rw [HFl.out]; exact HT6.out))
        have HEX : Hid (Ex (fun j => j = D + 1) w6 (w6.setCells (D + 1) 0 F)) := Ex.sets (S := fun j => j = D + 1) rfl F 0 w6 (Ex.refl _ _)
        generalize w6.setCells (D + 1) 0 F = wz at *
        have HPO : Hid (∃ v, SimPost w b S PS (RS v) (.returned (.agg F.toArray)) wz) := by
          obtain ⟨e1, e2⟩ := (HKO _ Pq rq).out HK1.out
          obtain ⟨k1, k2⟩ := HX6.out.fin HB4.out HE.out HC4.out
          have lo := HX6.out.lo (D + 1, Z) (by simp)
          refine ⟨.slice (some ⟨g, 0, none⟩) ord.length vc, vo, vr, vs, _, S6, ?_, ?_, ?_, k1.loc HEX.out (by have := HD.out; omega), ?_, k2⟩
          · rw [e1, HF.out]
          · rw [e1]; exact HRL.out.keep HEX.out (fun k hk e => lo.nC (e ▸ hk))
          · rw [e1]; exact HX6.out.rw.ok
          · rw [e2]; exact HX6.out.rw.pp.ex HEX.out (fun e => lo.nb e.symm) (fun k hk e => lo.nS (e ▸ hk))
        go_wp2_with fail
        exact bodyPost_ret (v := .agg F.toArray) (res_cell Try.results63 rfl (run_loadVar_mid wz (D + 1) 0 65 F _ HRZ.out Try.underlying65 rfl (by rw [HFl.out]; exact Try.sz65))) rfl HPO.out
end Go.Proofs.Qxb6500784a
