import Derived.Test.Qxb6500784aBg1
namespace Go.Proofs.Qxb6500784a
open Go.RowKit

attribute [-simp] Try.isAgg56 Try.sizeOf56 Try.typeInfo56 Try.isAgg65 Try.sizeOf65 Try.typeInfo65 Try.isAgg63 Try.sizeOf63 Try.typeInfo63 Try.isAgg68 Try.sizeOf68 Try.typeInfo68 Try.isAgg89 Try.sizeOf89 Try.typeInfo89 Try.isAgg92 Try.sizeOf92 Try.typeInfo92 Try.isAgg95 Try.sizeOf95 Try.typeInfo95
attribute [local irreducible] rootP shaP
set_option linter.unusedSimpArgs false in
set_option maxRecDepth 100000 in
set_option maxHeartbeats 16000000 in
theorem big_run (w : World) (P : Pr) (G : List Value) (S : List Nat) (h : WF w P G S) (hsm : PSm P) (a : Option Addr) (n cap : Nat) (L : Nat → Leg) (T : Nat → List Int) (hn : n ≤ 9223372036854775807) (hL : LegsAt w a n L) (h1 : LegsOne n L) (hV : ∀ i, i < n → LegV (legL (L i)) (L i).ch (T i)) (hc : ordCode n L = 0) (hsh : shallow P) (z : Nat) (hz : Bnd z P) (hzl : z ≤ 800000000000) :
    Calls Try.prog 25 #[.agg G.toArray, .agg #[.slice a n cap]] w (BgPost w P n L T G S) := by
  have HL := hide hL
  have HL1 := hide h1
  have HWF := hide h
  have HSM := hide hsm
  obtain ⟨hn0, hn8, hol, hon, hom, hoc⟩ := ord_facts hc
  obtain ⟨hb0, _⟩ := ord_least hc
  have HB0 := hide hb0
  obtain ⟨lb, off, ha, -, -⟩ := hL 0 hn0
  subst ha
  have HCD := hide hc
  have HSH := hide hsh
  have HBZ0 := hide hz
  have HVV := hide hV
  have HKE : ∀ v, Hid (bigK P n L T v = runK L T (ordP n L) P (res0 (ordI (ordP n L)) v)) := fun v => rfl
  have HKF : ∀ v Q r c f, Hid (bigK P n L T v = (Q, r, c, f) → c ≠ 0 → simR P n L T v = refR c f ∧ simS true P n L T = P) := fun v Q r c f h1 h2 => big_fail hc hsh h1 h2
  have HKO : ∀ v Q r, Hid (bigK P n L T v = (Q, r, 0, -1) → simR P n L T v = { r with ra := rootP Q.la, rb := rootP Q.lb } ∧ simS true P n L T = Q) := fun v Q r h1 => big_ok hc hsh h1
  have HLE : Hid (∀ (W : World), LegsAt W (some ⟨lb, off, none⟩) n L → Calls Try.prog 16 #[.agg #[.slice (some ⟨lb, off, none⟩) n cap]] W fun e w' => ∃ g vc, e = .returned (.tuple #[.slice (some ⟨g, 0, none⟩) (ordP n L).length vc, .bool true]) ∧ Below W.heap.size W w' ∧ w'.ownsRow W.heap.size 3 1 (.slice (some ⟨g, 0, none⟩) (ordP n L).length vc) (ordP n L).length (vals (ordP n L))) := fun W hW => least_run W _ n cap L hW hc
  obtain ⟨ord, ho⟩ : ∃ ord, ordP n L = ord := ⟨_, rfl⟩
  rw [ho] at hol hon hom HLE
  simp only [ho] at HKE
  have HOC := hide hoc
  have HOM := hide hom
  have HOL := hide hol
  have hlo : (ord.length : Int) ≤ 8 := by omega
  obtain ⟨KS, hKS⟩ : ∃ KS, bigK P n L T = KS := ⟨_, rfl⟩
  simp only [hKS] at HKE HKF HKO
  obtain ⟨RR, hRR⟩ : ∃ RR, BgPost w P n L T G S = RR := ⟨_, rfl⟩
  rw [hRR]
  have HRR := hide hRR
  clear hL h hsm hc hsh hz hV hoc hom hol hon ho hKS hRR hb0 h1
  obtain ⟨Z6, hZ6⟩ : ∃ Z, Try.zeroCells56.toList = Z := ⟨_, rfl⟩
  obtain ⟨Z5, hZ5⟩ : ∃ Z, Try.zeroCells65.toList = Z := ⟨_, rfl⟩
  have HZ6 : Hid (Z6.length = 667) := by rw [← hZ6]; show Try.zeroCells56.toList.length = 667; rw [Array.length_toList]; kernel_rfl
  have HZ5 : Hid (Z5.length = 70) := by rw [← hZ5]; show Try.zeroCells65.toList.length = 70; rw [Array.length_toList]; exact Try.zs65
  have eZ6 : Try.zeroCells56 = Z6.toArray := by rw [← hZ6]
  have eZ5 : Try.zeroCells65 = Z5.toArray := by rw [← hZ5]
  clear hZ6 hZ5
  have HGl : Hid (G.length = 667) := HWF.out.len
  have HG1 : Hid (∀ u ∈ G, u.oneCell' = true) := HWF.out.one
  go_enter Try.func25, Try.ntmps25
  go_upto_region 1 with fail
  (try rw [eZ6]); (try rw [eZ5])
  obtain ⟨w1, hw1⟩ : ∃ x, (((w.alloc (.cells G.toArray 56)).alloc (.cells #[.slice (some ⟨lb, off, none⟩) n cap] 27)).alloc (.cells Z6.toArray 56)).alloc (.cells Z5.toArray 65) = x := ⟨_, rfl⟩
  have g4 := new4 w G (.slice (some ⟨lb, off, none⟩) n cap) Z6 Z5 hw1
  rw [hw1]
  clear hw1 eZ6 eZ5
  obtain ⟨B0, hB0⟩ : ∃ D, w.heap.size = D := ⟨_, rfl⟩
  have HBs := hide hB0
  rw [hB0] at g4 ⊢
  have HW1 : Hid (Below w.heap.size w w1) := by rw [hB0]; exact g4.1
  have HS1 : Hid (w1.heap.size = B0 + 4) := g4.2.1
  have HX1 := hide g4.2.2
  have cl : w1.cell? ⟨B0 + 1, 0, none⟩ = some (.slice (some ⟨lb, off, none⟩) n cap) := by have := (g4.2.2 (B0 + 1, [.slice (some ⟨lb, off, none⟩) n cap]) (by simp)).2.2.1 0 _ rfl; simpa using this
  clear g4 hB0
  rw [show B0 + 1 + 1 + 1 = B0 + 3 from rfl, show B0 + 1 + 1 = B0 + 2 from rfl]
  go_upto_region 2 with (go_at_call 15; refine (malformed_any _ (some ⟨lb, off, none⟩) n cap L hn (HL.out.below HW1.out) HL1.out).mono ?_; rintro e w2 ⟨rfl, hbe⟩; have HW2 := hide hbe; clear hbe; rw [HB0.out]; simp only [])
  have cl2 := cellKeep HW2.out cl
  go_upto_region 4 with fail
  go_upto_region 5 with (go_at_call 16; refine (HLE.out _ (HL.out.below (lec HW1.out HW2.out))).mono ?_; rintro e w3 ⟨g, vc, rfl, hbe, hown⟩; have HW3 := hide hbe; have HOR := hide hown; clear hbe hown; simp only [])
  have HW13 : Hid (Below w1.heap.size w1 w3) := lec HW2.out HW3.out
  have HRG : Hid (w3.rangeAt B0 0 G ∧ w3.there B0 0 667) := by
    have q := HX1.out (B0, G) (by simp)
    have q4 := q.2.2.2
    rw [show (B0, G).2.length = 667 from HGl.out] at q4
    exact ⟨range_below q.2.2.1 (by have := HS1.out; show B0 < _; omega) HW13.out, there_below q4 (by have := HS1.out; show B0 < _; omega) HW13.out⟩
  have HPP : Hid (PP w3 B0 P S) := (HWF.out.below (lec HW1.out HW13.out)).pp HRG.out.1 HRG.out.2 (by have := HS1.out; have := HW13.out.size; omega) (fun e => by have := HWF.out.lt e; have := HBs.out; omega)
  have HDL : ∀ o, (o = 0 ∨ o = 326) → Calls Try.prog 50 #[.pointer (some ⟨B0, o, none⟩)] w3 fun e w' => ∃ k : Int, e = .returned (.int .i64 k) ∧ k < 8 ∧ w3 = w' := fun o ho => by
    obtain ⟨s1, s2, s3, s4⟩ := HSH.out
    rcases ho with rfl | rfl
    · obtain ⟨B, hB, -⟩ := HPP.out.onA
      exact (depthL_any w3 B0 0 _ _ _ hB).mono fun e w' he => ⟨_, he.1, by omega, he.2.symm⟩
    · obtain ⟨B, hB, -⟩ := HPP.out.onB
      exact (depthL_any w3 B0 326 _ _ _ hB).mono fun e w' he => ⟨_, he.1, by omega, he.2.symm⟩
  have HDB : ∀ o, (o = 652 ∨ o = 657) → Calls Try.prog 51 #[.pointer (some ⟨B0, o, none⟩)] w3 fun e w' => ∃ k : Int, e = .returned (.int .i64 k) ∧ k < 8 ∧ w3 = w' := fun o ho => by
    obtain ⟨s1, s2, s3, s4⟩ := HSH.out
    rcases ho with rfl | rfl
    · obtain ⟨B, hB, -⟩ := HPP.out.onC
      exact (depthB_any w3 B0 652 _ _ _ hB).mono fun e w' he => ⟨_, he.1, by omega, he.2.symm⟩
    · obtain ⟨B, hB, -⟩ := HPP.out.onD
      exact (depthB_any w3 B0 657 _ _ _ hB).mono fun e w' he => ⟨_, he.1, by omega, he.2.symm⟩
  go_upto_region 7 with fail
  go_upto_region 9 with (first | (go_at_call 50; refine (HDL _ (by simp)).mono ?_; rintro e wq ⟨k, rfl, hk, rfl⟩; have hkk : decide (8 ≤ k) = false := (by simp; omega); simp only []) | (go_at_call 51; refine (HDB _ (by simp)).mono ?_; rintro e wq ⟨k, rfl, hk, rfl⟩; have hkk : decide (8 ≤ k) = false := (by simp; omega); simp only []))
  clear HDL HDB HPP
  go_wp2_with fail
  simp only [Try.isAgg56, Try.sizeOf56, Result.andThen, ↓reduceIte, ldC w3 B0 0 G 667 HGl.out HRG.out.1]
  rw [Oper.upon_value]
  go_wp2_with (go_at_call 49; refine (copyF _ P G S (HWF.out.below (lec HW1.out HW13.out)) HSM.out).mono ?_; rintro e w4 ⟨U0, S4, rfl, hU, hbe, hS4⟩; have HU0 := hide hU; have HW4 := hide hbe; have HS4 := hide hS4; clear hU hbe hS4; simp only [])
  have HU0l : Hid (U0.length = 667) := HU0.out.len
  have HU01 : Hid (∀ u ∈ U0, u.oneCell' = true) := HU0.out.one
  simp only [Try.sizeOf56, Result.andThen, HU0l.out, ↓reduceIte, stNew w4 56 Try.zeroCells56 U0 667 Try.sz56 (by kernel_rfl) HU0l.out HU01.out]
  rw [Oper.upon_skip]
  simp only [Act.put]
  obtain ⟨w5, hw5⟩ : ∃ x, w4.alloc (.cells U0.toArray 56) = x := ⟨_, rfl⟩
  have HW5 := hide hw5
  rw [hw5]
  go_upto_region 10 with fail
  obtain ⟨i3, hi3, hz3, hy3, _⟩ := info_parts Try.inf65
  obtain ⟨F0, hF0⟩ : ∃ F0, (res0 (ordI ord) (.slice (some ⟨g, 0, none⟩) ord.length vc)).vals (.slice (some ⟨g, 0, none⟩) ord.length vc) nilS nilS = F0 := ⟨_, rfl⟩
  have HF0 := hide hF0
  have HF0l : Hid (F0.length = 70) := by rw [← hF0]; exact Rs.len (res0_ok _ _) _ _ _
  have HF01 : Hid (∀ u ∈ F0, u.oneCell' = true) := by rw [← hF0]; exact Rs.one _ rfl rfl rfl
  have HBU : Hid (Try.prog.built 65 [(1, .int .i64 (-1)), (2, .slice (some ⟨g, 0, none⟩) ord.length vc)] = some F0.toArray) := by rw [← hF0]; exact built_res _ _ _ _ _
  clear hF0
  refine wp_region_lit ?_
  refine wpL_run rfl (.slice (some ⟨g, 0, none⟩) ord.length vc) w5 rfl ?_
  refine wpL_build rfl 65 _ rfl F0.toArray (by exact HBU.out) ?_
  refine wpL_alloc rfl 65 rfl i3 hi3 _ hz3 ?_
  rw [show (Value.agg ((refR 0 0).vals nilS nilS nilS).toArray).cells = ((refR 0 0).vals nilS nilS nilS).toArray from rfl]
  obtain ⟨q1, q2, q3, q4⟩ := new_lit w5 ((refR 0 0).vals nilS nilS nilS).toArray 65 F0 (by rw [HF0l.out]; kernel_rfl)
  have hth := newTz w5 ((refR 0 0).vals nilS nilS nilS).toArray 65
  rw [show ((refR 0 0).vals nilS nilS nilS).toArray.size = 70 by kernel_rfl] at hth
  refine wpList_store_mid rfl 65 (.tmp 10) (.tmp 55) rfl w5.heap.size 0 F0.toArray rfl rfl (by simpa [HF0l.out] using hth) (by simpa [HF0l.out] using Try.sz65) (all_oneCell_toArray HF01.out) ?_
  rw [show F0.toArray.toList = F0 by simp]
  rw [HF0l.out] at q2
  obtain ⟨C6, hlw, hC6⟩ := lw_big (P := P) (X := [(B0, G), (B0 + 1, [.slice (some ⟨lb, off, none⟩) n cap]), (B0 + 2, Z6), (B0 + 3, Z5)]) HS1.out HX1.out (by simp) HW13.out (ownsRow_base HOR.out HW2.out.size) HW4.out HU0.out HS4.out F0 HF0.out HW5.out q1 q2 q3 q4
  have HLW0 := hide hlw
  have HC6 : Hid (∀ k, k ∈ C6 → w.heap.size ≤ k) := fun k hk => by have := hC6 k hk; have := HBs.out; omega
  have HB6 : Hid (Below w.heap.size w ((w5.alloc (.cells ((refR 0 0).vals nilS nilS nilS).toArray 65)).setCells w5.heap.size 0 F0)) := lec (lec (lec (lec HW1.out HW13.out) HW4.out) (by rw [← HW5.out]; exact be1 _ _)) q3
  obtain ⟨b, hb⟩ : ∃ E, w4.heap.size = E := ⟨_, rfl⟩
  have z5 : w5.heap.size = b + 1 := by rw [← HW5.out, ← hb]; simp
  have HS46 : Hid (∀ k, k ∈ S4 → w.heap.size ≤ k) := fun k hk => by have := HS4.out k hk; have := (lec HW1.out HW13.out).size; omega
  have HE : Hid (w.heap.size ≤ b) := by rw [← hb]; exact (lec (lec HW1.out HW13.out) HW4.out).size
  rw [z5] at HB6 HLW0 ⊢
  rw [hb] at HLW0 ⊢
  obtain ⟨d, hd⟩ : ∃ d, b + 1 = d := ⟨_, rfl⟩
  have HEd : Hid (w.heap.size ≤ d) := by have := HE.out; show _ ≤ _; omega
  rw [hd] at HLW0 HB6 ⊢
  obtain ⟨X0, hX0⟩ : ∃ X0, [(B0, G), (B0 + 1, [.slice (some ⟨lb, off, none⟩) n cap]), (B0 + 2, Z6), (B0 + 3, Z5)] = X0 := ⟨_, rfl⟩
  rw [hX0] at HLW0
  have HX0 := hide hX0
  clear hlw hC6 q1 q2 q3 q4 hth hd hb z5 hX0
  generalize (w5.alloc (.cells ((refR 0 0).vals nilS nilS nilS).toArray 65)).setCells d 0 F0 = w6 at *
  clear hi3 hz3 hy3
  clear HOR HW4 HU0 HS4 HU0l HU01 HF0 HF0l HF01 HBU HW5 hw5 HW13 HW1 HW2 HW3 HX1 cl cl2 HRG
  have HB5 : Hid (Bnd (z + 0) P) := HBZ0.out
  simp only [Act.put]
  go_wp2
  go_loopw [58] (fun s58 wr => ∃ (i : Nat) (Pq : Pr) (rq : Rs) (Sq Cq : List Nat), i ≤ ord.length ∧ s58 = .int .i64 i ∧ Hid (KS (.slice (some ⟨g, 0, none⟩) ord.length vc) = runK L T (ord.drop i) Pq rq) ∧ Hid (Bnd (z + i) Pq ∧ rq.rcs.length ≤ i ∧ rq.stm.length ≤ i ∧ rq.ord = ordI ord ∧ rq.vo = .slice (some ⟨g, 0, none⟩) ord.length vc) ∧ LW w6 b d S4 C6 wr Pq Sq rq Cq X0) (fun s58 _ => ord.length - (intOf s58).toNat)
  case atStart => exact ⟨0, _, _, S4, C6, Nat.zero_le _, rfl, HKE _, ⟨HB5.out, by simp [res0], by simp [res0], rfl, rfl⟩, HLW0.out⟩
  case round =>
    clear HLW0 HB5
    obtain ⟨i, Pq, rq, Sq, Cq, hi, rfl, HK, HQ, hlw⟩ := hrel
    have HX := hide hlw
    clear hlw
    have HWr : Hid (Below w.heap.size w wr) := HB6.out.trans (HX.out.ex.below HB6.out.size (fun k hk e => by
      rcases e with e | e | e | e
      · have := HE.out; omega
      · have := HS46.out k e; omega
      · have := HEd.out; omega
      · have := HC6.out k e; omega))
    by_cases hlt : i < ord.length
    · have d1 : decide ((i : Int) < (ord.length : Int)) = true := by simp; omega
      have hii : (i : Int) < (ord.length : Int) := by omega
      obtain ⟨x, hx⟩ : ∃ x, ord[i]? = some x := ⟨_, List.getElem?_eq_getElem hlt⟩
      have hxn : x < n := HOM.out x (List.mem_of_getElem? hx)
      have hdr : ord.drop i = x :: ord.drop (i + 1) := by
        rw [List.drop_eq_getElem_cons hlt]
        rw [List.getElem?_eq_getElem hlt] at hx
        injection hx with hx
        rw [hx]
      have HK1 : Hid (KS (.slice (some ⟨g, 0, none⟩) ord.length vc) = if legC Pq (L x).ch (T x) = 0 then runK L T (ord.drop (i + 1)) (legS Pq (L x).ch (T x)) (legR Pq (L x).ch (T x) rq) else (legS Pq (L x).ch (T x), rq, legC Pq (L x).ch (T x), x)) := by
        have := HK.out
        rw [hdr, runK] at this
        exact this
      have cD := HX.out.at' (q := B0 + 1) (cs := [.slice (some ⟨lb, off, none⟩) n cap]) (by rw [← HX0.out]; simp) (j := 0) rfl
      have cx : wr.cell? ⟨g, i, none⟩ = some (.int .i64 x) := by
        obtain ⟨vo, vr, vs, _, hrl⟩ := HX.out.rw.rl
        have h1 := hrl.o
        rw [hrl.e, HQ.out.2.2.2.2, HQ.out.2.2.2.1, ordI_vals] at h1
        have := h1.cells rfl i (.int .i64 x) (by simp [vals, hx])
        rw [Addr.add_mid, Nat.zero_add] at this
        exact this
      have hxi : (x : Int) < (n : Int) := by omega
      have HRL : Hid (wr.rangeAt lb (off + x * 86) (legL (L x))) := by
        obtain ⟨b', off', ha, hcells, _⟩ := (HL.out.below HWr.out) x hxn
        injection ha with ha
        injection ha with h1 h2
        subst h1 h2
        exact legRange hcells
      have HLV := hide (HVV.out x hxn)
      have HSZ : Hid (Sz Pq rq) := by
        have h1 := HQ.out
        have h2 := HOL.out
        exact ⟨fun c => by have := h1.1.m c; omega, fun c => by have := h1.1.o c; omega, fun c => by have := h1.1.i c; omega, by omega, by omega⟩
      clear hx hdr HK
      obtain ⟨Lv, hLv⟩ : ∃ Lv, legL (L x) = Lv := ⟨_, rfl⟩
      rw [hLv] at HRL HLV
      have HLl : Hid (Lv.length = 86) := HLV.out.l
      have HLo : Hid (∀ u ∈ Lv, u.oneCell' = true) := HLV.out.o
      clear hLv
      have HB1 : Hid (Bnd (z + (i + 1)) (legS Pq (L x).ch (T x))) := bnd_step HQ.out.1 _ _
      have HR1 : Hid ((legR Pq (L x).ch (T x) rq).rcs.length ≤ i + 1 ∧ (legR Pq (L x).ch (T x) rq).stm.length ≤ i + 1 ∧ (legR Pq (L x).ch (T x) rq).ord = ordI ord ∧ (legR Pq (L x).ch (T x) rq).vo = .slice (some ⟨g, 0, none⟩) ord.length vc) := by
        obtain ⟨_, z1, z2, z3, z4⟩ := HQ.out
        refine ⟨by simp [legR]; omega, ?_, z3, z4⟩
        unfold legR
        simp only
        split
        · simp; omega
        · omega
      go_upto_region 14 with fail
      go_wp2_with fail
      simp only [Try.sizeOf95, Result.andThen]
      rw [Oper.upon_value]
      go_wp2_with fail
      simp only [Try.isAgg95, Try.sizeOf95, Result.andThen, ↓reduceIte, ldC wr lb (off + x * 86) Lv 86 HLl.out HRL.out]
      rw [Oper.upon_value]
      go_wp2_with fail
      simp only [Try.sizeOf95, Result.andThen, HLl.out, ↓reduceIte, stNew wr 95 Try.zeroCells95 Lv 86 Try.sz95 Try.zs95 HLl.out HLo.out]
      rw [Oper.upon_skip]
      simp only [Act.put]
      clear cx cD HRL
      obtain ⟨c, hcc⟩ : ∃ c, (L x).ch = c := ⟨_, rfl⟩
      obtain ⟨t, htt⟩ : ∃ t, T x = t := ⟨_, rfl⟩
      rw [hcc, htt] at HLV HK1 HB1 HR1
      clear hcc htt
      have HLc := hide (HX.out.alloc Lv 95)
      obtain ⟨A, hA⟩ : ∃ A, wr.heap.size = A := ⟨_, rfl⟩
      rw [hA] at HLc ⊢
      clear hA HX
      generalize wr.alloc (.cells Lv.toArray 95) = w1 at *
      obtain ⟨V, hV⟩ : ∃ V, kvs txk t = V := ⟨_, rfl⟩
      have HV := hide hV
      have HVl : Hid (V.length = 83) := by rw [← hV, kvs_len]; exact HLV.out.k.l
      obtain ⟨F, hF⟩ : ∃ F, Rcp.vals (appR (Pq.led c) t) = F := ⟨_, rfl⟩
      have HF := hide hF
      have HLO : Hid ((Pq.led c).Ok) := by obtain ⟨Bq, hBq, _⟩ := HLc.out.rw.pp.onL c; exact hBq.ok
      have HRO : Hid ((appR (Pq.led c) t).Ok) := appR_ok HLO.out HLV.out.k
      have HFl : Hid (F.length = 87) := by rw [← hF]; exact Rcp.len HRO.out
      have HF1 : Hid (∀ u ∈ F, u.oneCell' = true) := by rw [← hF]; exact Rcp.one _
      clear hV hF
      go_upto_region 15 with fail
      go_cut [14] (fun s14 wx => ∃ D S', s14 = .pointer (some ⟨D, 0, none⟩) ∧ w6.heap.size ≤ D ∧ LW w6 b d S4 C6 wx (Pq.setL c (appL (Pq.led c) t) (Pq.sled c)) S' rq Cq ((D, F) :: (A, Lv) :: X0))
      case first =>
        have hz92 := Try.sizeOf92
        have hHd := legHeld (HLc.out.lo (A, Lv) (by simp)) HLV.out HV.out
        refine wp_region_held_drew (S := fun w' => w'.cell? ⟨A, 1, none⟩ = some (.int .u8 c) ∧ w'.rangeAt A 2 V) (by kernel_rfl) hHd (fun hHeld => ?_)
        replace HLc := hide (HLc.out.below ((Below.refl w1.heap.size w1).drew))
        generalize w1.drew = w2 at *
        refine wpAnyH_take (i := 0) (v := ?_) rfl (by kernel_rfl) (by kernel_rfl) (by kernel_rfl) (fun _ _ _ h => h) (Or.inl ⟨by rfl, ?_⟩) (by assumption) ?_
        rotate_left
        · (intro w hSw; (try dsimp only at hSw); go_simp; try (with_reducible rfl))
        try simp only [Act.put, List.getElem_toArray, List.getElem_cons_zero, List.getElem_cons_succ, List.setIfInBounds_toArray, List.set_cons_zero, List.set_cons_succ]
        refine wpAnyH_take (i := 1) (v := ?_) rfl (by kernel_rfl) (by kernel_rfl) (by kernel_rfl) (fun _ _ _ h => h) (Or.inl ⟨by rfl, ?_⟩) (by assumption) ?_
        rotate_left
        · (intro w hSw; (try dsimp only at hSw); go_simp; try (with_reducible rfl))
        try simp only [Act.put, List.getElem_toArray, List.getElem_cons_zero, List.getElem_cons_succ, List.setIfInBounds_toArray, List.set_cons_zero, List.set_cons_succ]
        refine wpAnyH_take (i := 3) (v := ?_) rfl (by kernel_rfl) (by kernel_rfl) (by kernel_rfl) (fun _ _ _ h => h) (Or.inl ⟨by rfl, ?_⟩) (by assumption) ?_
        rotate_left
        · (intro w hSw; (try dsimp only at hSw); go_simp; try (with_reducible rfl))
        try simp only [Act.put, List.getElem_toArray, List.getElem_cons_zero, List.getElem_cons_succ, List.setIfInBounds_toArray, List.set_cons_zero, List.set_cons_succ]
        refine wpAnyH_take (i := 4) rfl (by kernel_rfl) (by kernel_rfl) (by kernel_rfl) (fun _ _ _ h => h) (yieldsIf_load_mid (by rfl) 92 (.tmp 70) rfl A 2 rfl V _ (fun w hSw => hSw.2) Try.underlying92 rfl (by rw [HVl.out]; exact Try.sz92)) (by assumption) ?_
        try simp only [Act.put, List.getElem_toArray, List.getElem_cons_zero, List.getElem_cons_succ, List.setIfInBounds_toArray, List.set_cons_zero, List.set_cons_succ]
        refine wpAnyH_ready (rs := [2, 6]) (by kernel_rfl) (by simp) ?_
        refine (AllReadyH.cons rfl (fun K hK => ?_) (AllReadyH.cons rfl (fun K hK => ?_) AllReadyH.nil))
        · refine step_call rfl 59 #[.pointer (some ⟨b, 0, none⟩), .int .u8 c] (by simp [go_sem]) (wledger_any _ b c) ?_
          rintro e wq ⟨rfl, rfl⟩
          refine ⟨_, rfl, ?_⟩
          refine hK.out _ _ ?_ (fun hHeld => ?_)
          · exact hHeld
          clear hK K
          try simp only [Act.put, List.getElem_toArray, List.getElem_cons_zero, List.getElem_cons_succ, List.setIfInBounds_toArray, List.set_cons_zero, List.set_cons_succ]
          refine wpAnyH_ready (rs := [5, 6]) (by kernel_rfl) (by simp) ?_
          refine (AllReadyH.cons rfl (fun K hK => ?_) (AllReadyH.cons rfl (fun K hK => ?_) AllReadyH.nil))
          · obtain ⟨Bq, hBq, upq⟩ := HLc.out.rw.pp.onL c
            have hap := apply_any _ b (ledO c) (Pq.led c) (Pq.sled c) Bq t hBq HLV.out.k (by have := HSZ.out.m c; omega)
            rw [HV.out, HF.out] at hap
            refine step_call rfl 60 #[.pointer (some ⟨b, ledO c, none⟩), .agg V.toArray] (by simp [go_sem]) hap ?_
            clear hap
            rintro e w4 hst
            obtain ⟨rfl, hps⟩ := upq _ _ _ _ _ hst
            obtain ⟨S1, hlw⟩ := HLc.out.ps hps
            replace HLc := hide hlw
            clear hst hps hlw upq hBq Bq
            refine ⟨_, rfl, ?_⟩
            refine hK.out _ _ ?_ (fun hHeld => ?_)
            · exact legHeld (HLc.out.lo (A, Lv) (by simp)) HLV.out HV.out
            clear hK K
            try simp only [Act.put, List.getElem_toArray, List.getElem_cons_zero, List.getElem_cons_succ, List.setIfInBounds_toArray, List.set_cons_zero, List.set_cons_succ]
            refine wpAnyH_ready (rs := [6]) (by kernel_rfl) (by simp) ?_
            refine (AllReadyH.cons rfl (fun K hK => ?_) AllReadyH.nil)
            go_simp
            have HDw : Hid (w6.heap.size ≤ w4.heap.size) := HLc.out.ex.size
            replace HLc := hide (HLc.out.alloc rcp0.vals 89)
            rw [← zc89] at HLc
            obtain ⟨D, hDe⟩ : ∃ D, w4.heap.size = D := ⟨_, rfl⟩
            rw [hDe] at HLc HDw
            refine hK.out _ _ ?_ (fun hHeld => ?_)
            · exact legHeld (HLc.out.lo (A, Lv) (by simp)) HLV.out HV.out
            clear hK K
            try simp only [Act.put, List.getElem_toArray, List.getElem_cons_zero, List.getElem_cons_succ, List.setIfInBounds_toArray, List.set_cons_zero, List.set_cons_succ]
            rw [hDe]
            clear hDe
            generalize w4.alloc (.cells Try.zeroCells89 89) = w3 at *
            refine wpAnyH_ready (rs := [7]) (by kernel_rfl) (by simp) ?_
            refine (AllReadyH.cons rfl (fun K hK => ?_) AllReadyH.nil)
            have hth := (HLc.out.lo (D, rcp0.vals) (by simp)).th
            simp only [rcp0_len] at hth
            refine step_storeM rfl 89 (.tmp 14) (.tmp 72) rfl D 0 F rfl rfl (by rw [HFl.out]; exact hth) (by rw [HFl.out]; exact Try.sz89) HF1.out ?_
            replace HLc := hide (HLc.out.setH HDw.out F (by rw [HFl.out, rcp0_len]))
            clear hth
            refine hK.out _ _ ?_ (fun hHeld => ?_)
            · exact legHeld (HLc.out.lo (A, Lv) (by simp)) HLV.out HV.out
            clear hK K
            try simp only [Act.put, List.getElem_toArray, List.getElem_cons_zero, List.getElem_cons_succ, List.setIfInBounds_toArray, List.set_cons_zero, List.set_cons_succ]
            refine wpAnyH_done (by kernel_rfl) ?_ _
            go_wp2_with fail
            go_meet
            exact ⟨D, S1, rfl, HDw.out, HLc.out⟩
          · go_simp
            have HDw : Hid (w6.heap.size ≤ wq.heap.size) := HLc.out.ex.size
            replace HLc := hide (HLc.out.alloc rcp0.vals 89)
            rw [← zc89] at HLc
            obtain ⟨D, hDe⟩ : ∃ D, wq.heap.size = D := ⟨_, rfl⟩
            rw [hDe] at HLc HDw
            refine hK.out _ _ ?_ (fun hHeld => ?_)
            · exact legHeld (HLc.out.lo (A, Lv) (by simp)) HLV.out HV.out
            clear hK K
            try simp only [Act.put, List.getElem_toArray, List.getElem_cons_zero, List.getElem_cons_succ, List.setIfInBounds_toArray, List.set_cons_zero, List.set_cons_succ]
            rw [hDe]
            clear hDe
            generalize wq.alloc (.cells Try.zeroCells89 89) = w3 at *
            refine wpAnyH_ready (rs := [5]) (by kernel_rfl) (by simp) ?_
            refine (AllReadyH.cons rfl (fun K hK => ?_) AllReadyH.nil)
            obtain ⟨Bq, hBq, upq⟩ := HLc.out.rw.pp.onL c
            have hap := apply_any _ b (ledO c) (Pq.led c) (Pq.sled c) Bq t hBq HLV.out.k (by have := HSZ.out.m c; omega)
            rw [HV.out, HF.out] at hap
            refine step_call rfl 60 #[.pointer (some ⟨b, ledO c, none⟩), .agg V.toArray] (by simp [go_sem]) hap ?_
            clear hap
            rintro e w4 hst
            obtain ⟨rfl, hps⟩ := upq _ _ _ _ _ hst
            obtain ⟨S1, hlw⟩ := HLc.out.ps hps
            replace HLc := hide hlw
            clear hst hps hlw upq hBq Bq
            refine ⟨_, rfl, ?_⟩
            refine hK.out _ _ ?_ (fun hHeld => ?_)
            · exact legHeld (HLc.out.lo (A, Lv) (by simp)) HLV.out HV.out
            clear hK K
            try simp only [Act.put, List.getElem_toArray, List.getElem_cons_zero, List.getElem_cons_succ, List.setIfInBounds_toArray, List.set_cons_zero, List.set_cons_succ]
            refine wpAnyH_ready (rs := [7]) (by kernel_rfl) (by simp) ?_
            refine (AllReadyH.cons rfl (fun K hK => ?_) AllReadyH.nil)
            have hth := (HLc.out.lo (D, rcp0.vals) (by simp)).th
            simp only [rcp0_len] at hth
            refine step_storeM rfl 89 (.tmp 14) (.tmp 72) rfl D 0 F rfl rfl (by rw [HFl.out]; exact hth) (by rw [HFl.out]; exact Try.sz89) HF1.out ?_
            replace HLc := hide (HLc.out.setH HDw.out F (by rw [HFl.out, rcp0_len]))
            clear hth
            refine hK.out _ _ ?_ (fun hHeld => ?_)
            · exact legHeld (HLc.out.lo (A, Lv) (by simp)) HLV.out HV.out
            clear hK K
            try simp only [Act.put, List.getElem_toArray, List.getElem_cons_zero, List.getElem_cons_succ, List.setIfInBounds_toArray, List.set_cons_zero, List.set_cons_succ]
            refine wpAnyH_done (by kernel_rfl) ?_ _
            go_wp2_with fail
            go_meet
            exact ⟨D, S1, rfl, HDw.out, HLc.out⟩
        · go_simp
          have HDw : Hid (w6.heap.size ≤ w2.heap.size) := HLc.out.ex.size
          replace HLc := hide (HLc.out.alloc rcp0.vals 89)
          rw [← zc89] at HLc
          obtain ⟨D, hDe⟩ : ∃ D, w2.heap.size = D := ⟨_, rfl⟩
          rw [hDe] at HLc HDw
          refine hK.out _ _ ?_ (fun hHeld => ?_)
          · exact legHeld (HLc.out.lo (A, Lv) (by simp)) HLV.out HV.out
          clear hK K
          try simp only [Act.put, List.getElem_toArray, List.getElem_cons_zero, List.getElem_cons_succ, List.setIfInBounds_toArray, List.set_cons_zero, List.set_cons_succ]
          rw [hDe]
          clear hDe
          generalize w2.alloc (.cells Try.zeroCells89 89) = w3 at *
          refine wpAnyH_ready (rs := [2]) (by kernel_rfl) (by simp) ?_
          refine (AllReadyH.cons rfl (fun K hK => ?_) AllReadyH.nil)
          refine step_call rfl 59 #[.pointer (some ⟨b, 0, none⟩), .int .u8 c] (by simp [go_sem]) (wledger_any _ b c) ?_
          rintro e wq ⟨rfl, rfl⟩
          refine ⟨_, rfl, ?_⟩
          refine hK.out _ _ ?_ (fun hHeld => ?_)
          · exact hHeld
          clear hK K
          try simp only [Act.put, List.getElem_toArray, List.getElem_cons_zero, List.getElem_cons_succ, List.setIfInBounds_toArray, List.set_cons_zero, List.set_cons_succ]
          refine wpAnyH_ready (rs := [5]) (by kernel_rfl) (by simp) ?_
          refine (AllReadyH.cons rfl (fun K hK => ?_) AllReadyH.nil)
          obtain ⟨Bq, hBq, upq⟩ := HLc.out.rw.pp.onL c
          have hap := apply_any _ b (ledO c) (Pq.led c) (Pq.sled c) Bq t hBq HLV.out.k (by have := HSZ.out.m c; omega)
          rw [HV.out, HF.out] at hap
          refine step_call rfl 60 #[.pointer (some ⟨b, ledO c, none⟩), .agg V.toArray] (by simp [go_sem]) hap ?_
          clear hap
          rintro e w4 hst
          obtain ⟨rfl, hps⟩ := upq _ _ _ _ _ hst
          obtain ⟨S1, hlw⟩ := HLc.out.ps hps
          replace HLc := hide hlw
          clear hst hps hlw upq hBq Bq
          refine ⟨_, rfl, ?_⟩
          refine hK.out _ _ ?_ (fun hHeld => ?_)
          · exact legHeld (HLc.out.lo (A, Lv) (by simp)) HLV.out HV.out
          clear hK K
          try simp only [Act.put, List.getElem_toArray, List.getElem_cons_zero, List.getElem_cons_succ, List.setIfInBounds_toArray, List.set_cons_zero, List.set_cons_succ]
          refine wpAnyH_ready (rs := [7]) (by kernel_rfl) (by simp) ?_
          refine (AllReadyH.cons rfl (fun K hK => ?_) AllReadyH.nil)
          have hth := (HLc.out.lo (D, rcp0.vals) (by simp)).th
          simp only [rcp0_len] at hth
          refine step_storeM rfl 89 (.tmp 14) (.tmp 72) rfl D 0 F rfl rfl (by rw [HFl.out]; exact hth) (by rw [HFl.out]; exact Try.sz89) HF1.out ?_
          replace HLc := hide (HLc.out.setH HDw.out F (by rw [HFl.out, rcp0_len]))
          clear hth
          refine hK.out _ _ ?_ (fun hHeld => ?_)
          · exact legHeld (HLc.out.lo (A, Lv) (by simp)) HLV.out HV.out
          clear hK K
          try simp only [Act.put, List.getElem_toArray, List.getElem_cons_zero, List.getElem_cons_succ, List.setIfInBounds_toArray, List.set_cons_zero, List.set_cons_succ]
          refine wpAnyH_done (by kernel_rfl) ?_ _
          go_wp2_with fail
          go_meet
          exact ⟨D, S1, rfl, HDw.out, HLc.out⟩
      obtain ⟨D, S1, rfl, hDw, hlw⟩ := hcut
      have HDw := hide hDw
      replace HLc := hide hlw
      clear hDw hlw
      obtain ⟨w5, hw5⟩ : ∃ W', W' = wc := ⟨_, rfl⟩
      subst hw5
      obtain ⟨tk, sn, k1, P1, r1, hlp⟩ := leg_parts Pq c t rq
      have HLP := hide hlp
      clear hlp
      obtain ⟨k0, hk0⟩ : ∃ k, refP (Pq.led c) t = k := ⟨_, rfl⟩
      have HK0 := hide hk0
      have HC0 : Hid (F[0]? = some (.int .i64 k0)) := by show _ = _; rw [← HF.out, ← hk0, ← HLP.out.code]; rfl
      have HC3 : Hid (F[3]? = some (.bool sn)) := by show _ = _; rw [← HF.out, ← HLP.out.hs]; rfl
      have HC45 : Hid (F[45]? = some (.bool tk)) := by show _ = _; rw [← HF.out, Rcp.at45 HRO.out, HLP.out.ht]
      have HT0 : Hid (tk = true → k0 = 0) := by rw [← hk0]; exact HLP.out.t0
      clear hk0
      have cD0 : w5.cell? ⟨D, 0, none⟩ = some (.int .i64 k0) := HLc.out.at' (q := D) (cs := F) (by simp) HC0.out
      have cD45 : w5.cell? ⟨D, 45, none⟩ = some (.bool tk) := HLc.out.at' (q := D) (cs := F) (by simp) HC45.out
      go_upto_region 17 with fail
      go_cut [80] (fun s80 wx => s80 = .bool tk ∧ w5 = wx)
      case first =>
        by_cases hk : k0 = 0
        · subst hk
          go_wp2_with fail
          go_meet
          exact ⟨rfl, rfl⟩
        · have htk : tk = false := by cases tk; rfl; exact absurd (HT0.out rfl) hk
          have d2 : (k0 == 0) = false := by simpa using hk
          subst htk
          go_wp2_with fail
          go_meet
          exact ⟨rfl, rfl⟩
      obtain ⟨rfl, rfl⟩ := hcut
      clear cD0 cD45
      go_upto_if 80 with fail
      go_cut [6] (fun s6 wx => ∃ S', s6 = .int .i64 k1 ∧ LW w6 b d S4 C6 wx P1 S' rq Cq ((D, F) :: (A, Lv) :: X0))
      case first =>
        cases tk
        · have e1 := HLP.out.t2 rfl
          rw [HK0.out] at e1
          rw [← e1.2] at HLc
          have e2 := e1.1
          clear e1
          subst e2
          go_wp2_with fail
          go_meet
          exact ⟨S1, rfl, HLc.out⟩
        · have e1 := HLP.out.t1 rfl
          obtain ⟨f, hf⟩ : ∃ f, fld t 43 = f := ⟨_, rfl⟩
          rw [hf] at e1
          have HKC := hide e1.2.1.symm
          have HPE := hide e1.2.2.symm
          have HTO := hide e1.1
          clear e1
          obtain ⟨U, hU⟩ : ∃ U, msv (txMsg t) = U := ⟨_, rfl⟩
          have HU := hide hU
          have HMO : Hid (MsgOk (txMsg t)) := txMsg_ok HLV.out.k
          have HUl : Hid (U.length = 41) := by rw [← hU]; exact msv_len HMO.out
          have HFU : Hid (∀ j v, U[j]? = some v → F[46 + j]? = some v) := fun j v hv => by rw [← hU] at hv; rw [← HF.out]; refine Rcp.tookAt HRO.out j v ?_; rw [HTO.out]; exact hv
          have HF47 : Hid (F[47]? = some (.int .u8 f)) := HFU.out 1 _ (by rw [← hU, ← hf, show fld t 43 = fld (txMsg t) 1 from (fld_msg t 1).symm]; exact fld_at HMO.out (by omega))
          clear hU hf
          go_upto_region 18 with fail
          have hz68 := Try.sizeOf68
          have hHd : w5.cell? ⟨A, 1, none⟩ = some (.int .u8 c) ∧ w5.cell? ⟨D, 47, none⟩ = some (.int .u8 f) ∧ w5.rangeAt D 46 U := ⟨(legHeld (HLc.out.lo (A, Lv) (by simp)) HLV.out HV.out).1, HLc.out.at' (q := D) (cs := F) (by simp) HF47.out, range_of (HLc.out.lo (D, F) (by simp)).rg HFU.out⟩
          refine wp_region_held_drew (S := fun w' => w'.cell? ⟨A, 1, none⟩ = some (.int .u8 c) ∧ w'.cell? ⟨D, 47, none⟩ = some (.int .u8 f) ∧ w'.rangeAt D 46 U) (by kernel_rfl) hHd (fun hHeld => ?_)
          replace HLc := hide (HLc.out.below ((Below.refl w5.heap.size w5).drew))
          generalize w5.drew = w7 at *
          refine wpAnyH_take (i := 0) (v := ?_) rfl (by kernel_rfl) (by kernel_rfl) (by kernel_rfl) (fun _ _ _ h => h) (Or.inl ⟨by rfl, ?_⟩) (by assumption) ?_
          rotate_left
          · (intro w hSw; (try dsimp only at hSw); go_simp; try (with_reducible rfl))
          try simp only [Act.put, List.getElem_toArray, List.getElem_cons_zero, List.getElem_cons_succ, List.setIfInBounds_toArray, List.set_cons_zero, List.set_cons_succ]
          refine wpAnyH_take (i := 1) (v := ?_) rfl (by kernel_rfl) (by kernel_rfl) (by kernel_rfl) (fun _ _ _ h => h) (Or.inl ⟨by rfl, ?_⟩) (by assumption) ?_
          rotate_left
          · (intro w hSw; (try dsimp only at hSw); go_simp; try (with_reducible rfl))
          try simp only [Act.put, List.getElem_toArray, List.getElem_cons_zero, List.getElem_cons_succ, List.setIfInBounds_toArray, List.set_cons_zero, List.set_cons_succ]
          refine wpAnyH_take (i := 3) (v := ?_) rfl (by kernel_rfl) (by kernel_rfl) (by kernel_rfl) (fun _ _ _ h => h) (Or.inl ⟨by rfl, ?_⟩) (by assumption) ?_
          rotate_left
          · (intro w hSw; (try dsimp only at hSw); go_simp; try (with_reducible rfl))
          try simp only [Act.put, List.getElem_toArray, List.getElem_cons_zero, List.getElem_cons_succ, List.setIfInBounds_toArray, List.set_cons_zero, List.set_cons_succ]
          refine wpAnyH_take (i := 4) (v := ?_) rfl (by kernel_rfl) (by kernel_rfl) (by kernel_rfl) (fun _ _ _ h => h) (Or.inl ⟨by rfl, ?_⟩) (by assumption) ?_
          rotate_left
          · (intro w hSw; (try dsimp only at hSw); go_simp; try (with_reducible rfl))
          try simp only [Act.put, List.getElem_toArray, List.getElem_cons_zero, List.getElem_cons_succ, List.setIfInBounds_toArray, List.set_cons_zero, List.set_cons_succ]
          refine wpAnyH_take (i := 5) (v := ?_) rfl (by kernel_rfl) (by kernel_rfl) (by kernel_rfl) (fun _ _ _ h => h) (Or.inl ⟨by rfl, ?_⟩) (by assumption) ?_
          rotate_left
          · (intro w hSw; (try dsimp only at hSw); go_simp; try (with_reducible rfl))
          try simp only [Act.put, List.getElem_toArray, List.getElem_cons_zero, List.getElem_cons_succ, List.setIfInBounds_toArray, List.set_cons_zero, List.set_cons_succ]
          refine wpAnyH_take (i := 7) (v := ?_) rfl (by kernel_rfl) (by kernel_rfl) (by kernel_rfl) (fun _ _ _ h => h) (Or.inl ⟨by rfl, ?_⟩) (by assumption) ?_
          rotate_left
          · (intro w hSw; (try dsimp only at hSw); go_simp; try (with_reducible rfl))
          try simp only [Act.put, List.getElem_toArray, List.getElem_cons_zero, List.getElem_cons_succ, List.setIfInBounds_toArray, List.set_cons_zero, List.set_cons_succ]
          refine wpAnyH_take (i := 8) rfl (by kernel_rfl) (by kernel_rfl) (by kernel_rfl) (fun _ _ _ h => h) (yieldsIf_load_mid (by rfl) 68 (.tmp 88) rfl D 46 rfl U _ (fun w hSw => hSw.2.2) Try.underlying68 rfl (by rw [HUl.out]; exact Try.sz68)) (by assumption) ?_
          try simp only [Act.put, List.getElem_toArray, List.getElem_cons_zero, List.getElem_cons_succ, List.setIfInBounds_toArray, List.set_cons_zero, List.set_cons_succ]
          refine wpAnyH_ready (rs := [2]) (by kernel_rfl) (by simp) ?_
          refine (AllReadyH.cons rfl (fun K hK => ?_) AllReadyH.nil)
          refine step_call rfl 36 #[.pointer (some ⟨b, 0, none⟩), .int .u8 c] (by simp [go_sem]) (wbox_any _ b c) ?_
          rintro e wq ⟨rfl, rfl⟩
          refine ⟨_, rfl, ?_⟩
          refine hK.out _ _ ?_ (fun hHeld => ?_)
          · exact hHeld
          clear hK K
          try simp only [Act.put, List.getElem_toArray, List.getElem_cons_zero, List.getElem_cons_succ, List.setIfInBounds_toArray, List.set_cons_zero, List.set_cons_succ]
          refine wpAnyH_ready (rs := [6]) (by kernel_rfl) (by simp) ?_
          refine (AllReadyH.cons rfl (fun K hK => ?_) AllReadyH.nil)
          refine step_call rfl 36 #[.pointer (some ⟨b, 0, none⟩), .int .u8 f] (by simp [go_sem]) (wbox_any _ b f) ?_
          rintro e wq ⟨rfl, rfl⟩
          refine ⟨_, rfl, ?_⟩
          refine hK.out _ _ ?_ (fun hHeld => ?_)
          · exact hHeld
          clear hK K
          try simp only [Act.put, List.getElem_toArray, List.getElem_cons_zero, List.getElem_cons_succ, List.setIfInBounds_toArray, List.set_cons_zero, List.set_cons_succ]
          refine wpAnyH_ready (rs := [9]) (by kernel_rfl) (by simp) ?_
          refine (AllReadyH.cons rfl (fun K hK => ?_) AllReadyH.nil)
          obtain ⟨Bx, hBx, upx⟩ := HLc.out.rw.pp.onX c
          obtain ⟨By, hBy, upy⟩ := HLc.out.rw.pp.onX f
          clear upy
          rw [Pr.setL_box, Pr.setL_sbox] at hBx hBy
          have hcs := consume_any _ b (boxO c) (Pq.box c) (Pq.sbox c) Bx b (boxO f) (Pq.box f) (Pq.sbox f) By (txMsg t) hBx hBy HMO.out (by have := HSZ.out.o f; omega) (HSZ.out.i c)
          rw [HU.out, HKC.out] at hcs
          refine step_call rfl 61 #[.pointer (some ⟨b, boxO c, none⟩), .pointer (some ⟨b, boxO f, none⟩), .agg U.toArray] (by simp [go_sem]) hcs ?_
          clear hcs
          rintro e w8 hst
          obtain ⟨rfl, hps⟩ := upx _ _ _ _ _ hst
          obtain ⟨S2, hlw⟩ := HLc.out.ps hps
          replace HLc := hide hlw
          rw [HPE.out] at HLc
          clear hst hps hlw upx hBx hBy Bx By
          refine ⟨_, rfl, ?_⟩
          refine hK.out _ _ ?_ (fun hHeld => ?_)
          · exact ⟨(legHeld (HLc.out.lo (A, Lv) (by simp)) HLV.out HV.out).1, HLc.out.at' (q := D) (cs := F) (by simp) HF47.out, range_of (HLc.out.lo (D, F) (by simp)).rg HFU.out⟩
          clear hK K
          try simp only [Act.put, List.getElem_toArray, List.getElem_cons_zero, List.getElem_cons_succ, List.setIfInBounds_toArray, List.set_cons_zero, List.set_cons_succ]
          refine wpAnyH_take (i := 10) (v := ?_) rfl (by kernel_rfl) (by kernel_rfl) (by kernel_rfl) (fun _ _ _ h => h) (Or.inl ⟨by rfl, ?_⟩) (by assumption) ?_
          rotate_left
          · (intro w hSw; (try dsimp only at hSw); go_simp; try (with_reducible rfl))
          try simp only [Act.put, List.getElem_toArray, List.getElem_cons_zero, List.getElem_cons_succ, List.setIfInBounds_toArray, List.set_cons_zero, List.set_cons_succ]
          refine wpAnyH_done (by kernel_rfl) ?_ _
          go_wp2_with fail
          go_meet
          exact ⟨S2, rfl, HLc.out⟩
      obtain ⟨S2, rfl, hlw⟩ := hcut
      replace HLc := hide hlw
      clear hlw
      obtain ⟨w7, hw7⟩ : ∃ W', W' = wc := ⟨_, rfl⟩
      subst hw7
      have HS0 : Hid (sn = true → k1 = 0) := fun e => (HLP.out.s0 e).1
      have cD3 : w7.cell? ⟨D, 3, none⟩ = some (.bool sn) := HLc.out.at' (q := D) (cs := F) (by simp) HC3.out
      go_upto_region 19 with fail
      go_cut [96] (fun s96 wx => s96 = .bool sn ∧ w7 = wx)
      case first =>
        by_cases hk : k1 = 0
        · subst hk
          go_wp2_with fail
          go_meet
          exact ⟨rfl, rfl⟩
        · have hsn : sn = false := by cases sn; rfl; exact absurd (HS0.out rfl) hk
          have d2 : (k1 == 0) = false := by simpa using hk
          subst hsn
          go_wp2_with fail
          go_meet
          exact ⟨rfl, rfl⟩
      obtain ⟨rfl, rfl⟩ := hcut
      clear cD3
      obtain ⟨cd, hcd⟩ : ∃ cd, legC Pq c t = cd := ⟨_, rfl⟩
      obtain ⟨Q1, hQ1⟩ : ∃ Q, legS Pq c t = Q := ⟨_, rfl⟩
      have HCDE := hide hcd
      have HQE := hide hQ1
      rw [hcd, hQ1] at HK1
      rw [hQ1] at HB1
      clear hcd hQ1
      have HRC : Hid (r1.rcs = rq.rcs) := by
        cases hs : sn
        · rw [(HLP.out.s2 hs).2.2]; rfl
        · rw [(HLP.out.s1 hs).2.2.2]; rfl
      go_upto_if 96 with fail
      go_cut [6] (fun s6 wx => ∃ S' C' r', s6 = .int .i64 cd ∧ Hid (cd = 0 → r' = r1) ∧ LW w6 b d S4 C6 wx Q1 S' r' C' ((D, F) :: (A, Lv) :: X0))
      case first =>
        cases sn
        · have e1 := HLP.out.s2 rfl
          rw [HCDE.out, HQE.out] at e1
          rw [← e1.2.1] at HLc
          have e2 := e1.1
          have e3 : Hid (cd = 0 → rq = r1) := fun _ => e1.2.2.symm
          clear e1
          subst e2
          go_wp2_with fail
          go_meet
          exact ⟨S2, Cq, rq, rfl, e3, HLc.out⟩
        · have e1 := HLP.out.s1 rfl
          obtain ⟨M, hM⟩ : ∃ M, sntM (Pq.led c) t = M := ⟨_, rfl⟩
          rw [hM, HCDE.out, HQE.out] at e1
          have HKC := hide e1.2.1.symm
          have HPE := hide e1.2.2.1.symm
          have HTO := hide e1.1
          have HR1E := hide e1.2.2.2
          have HMO : Hid (MsgOk M) := by have := HRO.out.s; rw [HTO.out] at this; exact this
          have htf := (HLP.out.s0 rfl).2.2
          have HP1 := hide (HLP.out.t2 htf).2
          have hk1 : k1 = 0 := (HLP.out.s0 rfl).1
          clear e1 hM htf
          subst hk1
          rw [HP1.out] at HLc HPE
          obtain ⟨U, hU⟩ : ∃ U, msv M = U := ⟨_, rfl⟩
          have HU := hide hU
          have HUl : Hid (U.length = 41) := by rw [← hU]; exact msv_len HMO.out
          have HFU : Hid (∀ j v, U[j]? = some v → F[4 + j]? = some v) := fun j v hv => by rw [← hU] at hv; rw [← HF.out]; refine Rcp.sentAt j v ?_; rw [HTO.out]; exact hv
          obtain ⟨Um, hUm⟩ : ∃ U, msv (sndM (Pq.box c) M) = U := ⟨_, rfl⟩
          have HUM := hide hUm
          have HUMl : Hid (Um.length = 41) := by rw [← hUm]; exact msv_len (sndM_ok HMO.out (HSZ.out.o c))
          have HUM1 : Hid (∀ u ∈ Um, u.oneCell' = true) := by rw [← hUm]; exact kvs_one _ _
          clear hU hUm
          go_upto_region 21 with fail
          have HEw : Hid (w6.heap.size ≤ w7.heap.size) := HLc.out.ex.size
          replace HLc := hide (HLc.out.alloc [.int .u8 0, .int .u8 0, .int .u8 0, .int .u8 0, .int .u8 0, .int .u64 0, .int .u8 0, .int .u64 0, .int .u8 0, .int .u8 0, .int .u8 0, .int .u8 0, .int .u8 0, .int .u8 0, .int .u8 0, .int .u8 0, .int .u8 0, .int .u8 0, .int .u8 0, .int .u8 0, .int .u8 0, .int .u8 0, .int .u8 0, .int .u8 0, .int .u8 0, .int .u8 0, .int .u8 0, .int .u8 0, .int .u8 0, .int .u8 0, .int .u8 0, .int .u8 0, .int .u8 0, .int .u8 0, .int .u8 0, .int .u8 0, .int .u8 0, .int .u8 0, .int .u8 0, .int .u8 0, .int .u8 0] 68)
          obtain ⟨E, hE⟩ : ∃ E, w7.heap.size = E := ⟨_, rfl⟩
          rw [hE] at HLc HEw ⊢
          clear hE
          generalize w7.alloc (.cells #[.int .u8 0, .int .u8 0, .int .u8 0, .int .u8 0, .int .u8 0, .int .u64 0, .int .u8 0, .int .u64 0, .int .u8 0, .int .u8 0, .int .u8 0, .int .u8 0, .int .u8 0, .int .u8 0, .int .u8 0, .int .u8 0, .int .u8 0, .int .u8 0, .int .u8 0, .int .u8 0, .int .u8 0, .int .u8 0, .int .u8 0, .int .u8 0, .int .u8 0, .int .u8 0, .int .u8 0, .int .u8 0, .int .u8 0, .int .u8 0, .int .u8 0, .int .u8 0, .int .u8 0, .int .u8 0, .int .u8 0, .int .u8 0, .int .u8 0, .int .u8 0, .int .u8 0, .int .u8 0, .int .u8 0] 68) = w8 at *
          obtain ⟨Z8, hZ8⟩ : ∃ Z : List Value, [.int .u8 0, .int .u8 0, .int .u8 0, .int .u8 0, .int .u8 0, .int .u64 0, .int .u8 0, .int .u64 0, .int .u8 0, .int .u8 0, .int .u8 0, .int .u8 0, .int .u8 0, .int .u8 0, .int .u8 0, .int .u8 0, .int .u8 0, .int .u8 0, .int .u8 0, .int .u8 0, .int .u8 0, .int .u8 0, .int .u8 0, .int .u8 0, .int .u8 0, .int .u8 0, .int .u8 0, .int .u8 0, .int .u8 0, .int .u8 0, .int .u8 0, .int .u8 0, .int .u8 0, .int .u8 0, .int .u8 0, .int .u8 0, .int .u8 0, .int .u8 0, .int .u8 0, .int .u8 0, .int .u8 0] = Z := ⟨_, rfl⟩
          have HZ8 : Hid (Z8.length = 41) := by rw [← hZ8]; rfl
          rw [hZ8] at HLc
          clear hZ8
          go_cut [6] (fun s6 wx => ∃ S', s6 = .int .i64 cd ∧ LW w6 b d S4 C6 wx Q1 S' rq Cq ((E, Um) :: (D, F) :: (A, Lv) :: X0))
          case first =>
            have hz68 := Try.sizeOf68
            have hHd : w8.cell? ⟨A, 1, none⟩ = some (.int .u8 c) ∧ w8.rangeAt D 4 U := ⟨(legHeld (HLc.out.lo (A, Lv) (by simp)) HLV.out HV.out).1, range_of (HLc.out.lo (D, F) (by simp)).rg HFU.out⟩
            refine wp_region_held_drew (S := fun w' => w'.cell? ⟨A, 1, none⟩ = some (.int .u8 c) ∧ w'.rangeAt D 4 U) (by kernel_rfl) hHd (fun hHeld => ?_)
            replace HLc := hide (HLc.out.below ((Below.refl w8.heap.size w8).drew))
            generalize w8.drew = w9 at *
            refine wpAnyH_take (i := 0) (v := ?_) rfl (by kernel_rfl) (by kernel_rfl) (by kernel_rfl) (fun _ _ _ h => h) (Or.inl ⟨by rfl, ?_⟩) (by assumption) ?_
            rotate_left
            · (intro w hSw; (try dsimp only at hSw); go_simp; try (with_reducible rfl))
            try simp only [Act.put, List.getElem_toArray, List.getElem_cons_zero, List.getElem_cons_succ, List.setIfInBounds_toArray, List.set_cons_zero, List.set_cons_succ]
            refine wpAnyH_take (i := 1) (v := ?_) rfl (by kernel_rfl) (by kernel_rfl) (by kernel_rfl) (fun _ _ _ h => h) (Or.inl ⟨by rfl, ?_⟩) (by assumption) ?_
            rotate_left
            · (intro w hSw; (try dsimp only at hSw); go_simp; try (with_reducible rfl))
            try simp only [Act.put, List.getElem_toArray, List.getElem_cons_zero, List.getElem_cons_succ, List.setIfInBounds_toArray, List.set_cons_zero, List.set_cons_succ]
            refine wpAnyH_take (i := 3) (v := ?_) rfl (by kernel_rfl) (by kernel_rfl) (by kernel_rfl) (fun _ _ _ h => h) (Or.inl ⟨by rfl, ?_⟩) (by assumption) ?_
            rotate_left
            · (intro w hSw; (try dsimp only at hSw); go_simp; try (with_reducible rfl))
            try simp only [Act.put, List.getElem_toArray, List.getElem_cons_zero, List.getElem_cons_succ, List.setIfInBounds_toArray, List.set_cons_zero, List.set_cons_succ]
            refine wpAnyH_take (i := 4) rfl (by kernel_rfl) (by kernel_rfl) (by kernel_rfl) (fun _ _ _ h => h) (yieldsIf_load_mid (by rfl) 68 (.tmp 101) rfl D 4 rfl U _ (fun w hSw => hSw.2) Try.underlying68 rfl (by rw [HUl.out]; exact Try.sz68)) (by assumption) ?_
            try simp only [Act.put, List.getElem_toArray, List.getElem_cons_zero, List.getElem_cons_succ, List.setIfInBounds_toArray, List.set_cons_zero, List.set_cons_succ]
            refine wpAnyH_ready (rs := [2]) (by kernel_rfl) (by simp) ?_
            refine (AllReadyH.cons rfl (fun K hK => ?_) AllReadyH.nil)
            refine step_call rfl 36 #[.pointer (some ⟨b, 0, none⟩), .int .u8 c] (by simp [go_sem]) (wbox_any _ b c) ?_
            rintro e wq ⟨rfl, rfl⟩
            refine ⟨_, rfl, ?_⟩
            refine hK.out _ _ ?_ (fun hHeld => ?_)
            · exact hHeld
            clear hK K
            try simp only [Act.put, List.getElem_toArray, List.getElem_cons_zero, List.getElem_cons_succ, List.setIfInBounds_toArray, List.set_cons_zero, List.set_cons_succ]
            refine wpAnyH_ready (rs := [5]) (by kernel_rfl) (by simp) ?_
            refine (AllReadyH.cons rfl (fun K hK => ?_) AllReadyH.nil)
            obtain ⟨Bx, hBx, upx⟩ := HLc.out.rw.pp.onX c
            rw [Pr.setL_box, Pr.setL_sbox] at hBx
            have hcs := send_all _ b (boxO c) (Pq.box c) (Pq.sbox c) Bx M hBx HMO.out (HSZ.out.o c)
            rw [HU.out, HKC.out, HUM.out] at hcs
            refine step_call rfl 62 #[.pointer (some ⟨b, boxO c, none⟩), .agg U.toArray] (by simp [go_sem]) hcs ?_
            clear hcs
            rintro e wy hst
            obtain ⟨rfl, hps⟩ := upx _ _ _ _ _ hst
            obtain ⟨S3, hlw⟩ := HLc.out.ps hps
            replace HLc := hide hlw
            rw [HPE.out] at HLc
            clear hst hps hlw upx hBx Bx
            refine ⟨_, rfl, ?_⟩
            refine hK.out _ _ ?_ (fun hHeld => ?_)
            · exact ⟨(legHeld (HLc.out.lo (A, Lv) (by simp)) HLV.out HV.out).1, range_of (HLc.out.lo (D, F) (by simp)).rg HFU.out⟩
            clear hK K
            try simp only [Act.put, List.getElem_toArray, List.getElem_cons_zero, List.getElem_cons_succ, List.setIfInBounds_toArray, List.set_cons_zero, List.set_cons_succ]
            refine wpAnyH_take (i := 6) (v := ?_) rfl (by kernel_rfl) (by kernel_rfl) (by kernel_rfl) (fun _ _ _ h => h) (Or.inl ⟨by rfl, ?_⟩) (by assumption) ?_
            rotate_left
            · (intro w hSw; (try dsimp only at hSw); go_simp; try (with_reducible rfl))
            try simp only [Act.put, List.getElem_toArray, List.getElem_cons_zero, List.getElem_cons_succ, List.setIfInBounds_toArray, List.set_cons_zero, List.set_cons_succ]
            refine wpAnyH_take (i := 7) (v := ?_) rfl (by kernel_rfl) (by kernel_rfl) (by kernel_rfl) (fun _ _ _ h => h) (Or.inl ⟨by rfl, ?_⟩) (by assumption) ?_
            rotate_left
            · (intro w hSw; (try dsimp only at hSw); go_simp; try (with_reducible rfl))
            try simp only [Act.put, List.getElem_toArray, List.getElem_cons_zero, List.getElem_cons_succ, List.setIfInBounds_toArray, List.set_cons_zero, List.set_cons_succ]
            refine wpAnyH_take (i := 8) (v := ?_) rfl (by kernel_rfl) (by kernel_rfl) (by kernel_rfl) (fun _ _ _ h => h) (Or.inl ⟨by rfl, ?_⟩) (by assumption) ?_
            rotate_left
            · (intro w hSw; (try dsimp only at hSw); go_simp; try (with_reducible rfl))
            try simp only [Act.put, List.getElem_toArray, List.getElem_cons_zero, List.getElem_cons_succ, List.setIfInBounds_toArray, List.set_cons_zero, List.set_cons_succ]
            refine wpAnyH_ready (rs := [9]) (by kernel_rfl) (by simp) ?_
            refine (AllReadyH.cons rfl (fun K hK => ?_) AllReadyH.nil)
            have hth := (HLc.out.lo (E, Z8) (by simp)).th
            simp only [HZ8.out] at hth
            refine step_storeM rfl 68 (.tmp 15) (.tmp 104) rfl E 0 Um rfl rfl (by rw [HUMl.out]; exact hth) (by rw [HUMl.out]; exact Try.sz68) HUM1.out ?_
            replace HLc := hide (HLc.out.setH HEw.out Um (by rw [HUMl.out, HZ8.out]))
            clear hth
            refine hK.out _ _ ?_ (fun hHeld => ?_)
            · exact ⟨(legHeld (HLc.out.lo (A, Lv) (by simp)) HLV.out HV.out).1, range_of (HLc.out.lo (D, F) (by simp)).rg HFU.out⟩
            clear hK K
            try simp only [Act.put, List.getElem_toArray, List.getElem_cons_zero, List.getElem_cons_succ, List.setIfInBounds_toArray, List.set_cons_zero, List.set_cons_succ]
            refine wpAnyH_take (i := 10) (v := ?_) rfl (by kernel_rfl) (by kernel_rfl) (by kernel_rfl) (fun _ _ _ h => h) (Or.inl ⟨by rfl, ?_⟩) (by assumption) ?_
            rotate_left
            · (intro w hSw; (try dsimp only at hSw); go_simp; try (with_reducible rfl))
            try simp only [Act.put, List.getElem_toArray, List.getElem_cons_zero, List.getElem_cons_succ, List.setIfInBounds_toArray, List.set_cons_zero, List.set_cons_succ]
            refine wpAnyH_done (by kernel_rfl) ?_ _
            go_wp2_with fail
            go_meet
            exact ⟨S3, rfl, HLc.out⟩
          obtain ⟨S3, rfl, hlw⟩ := hcut
          replace HLc := hide hlw
          clear hlw
          obtain ⟨w9, hw9⟩ : ∃ W', W' = wc := ⟨_, rfl⟩
          subst hw9
          go_upto_region 22 with fail
          obtain ⟨n1, hn1⟩ : ∃ n, rq.stm.length = n := ⟨_, rfl⟩
          have HN := hide hn1
          have hnl : n1 ≤ 1001 := by rw [← hn1]; have := HSZ.out.s; omega
          clear hn1
          obtain ⟨ua, uc, c1⟩ : ∃ ua uc, w9.cell? ⟨d, 4, none⟩ = some (.slice ua n1 uc) := by
            obtain ⟨vo, vr, vs, hrg, hrl⟩ := HLc.out.rw.rl
            obtain ⟨ua, uc, e⟩ := own_form hrl.s
            refine ⟨ua, uc, ?_⟩
            have := hrg 4 vs rfl
            rw [e, HN.out] at this
            simpa using this
          obtain ⟨i1, hi1, hz1, hy1, hb1⟩ := info_parts Try.inf68
          have HI1 := hide (show Try.prog.info? 68 = some i1 ∧ i1.zero = some (.agg (msv (List.replicate 41 0)).toArray) ∧ i1.size = 41 ∧ i1.bytes = 72 from ⟨hi1, hz1, hy1, hb1⟩)
          clear hi1 hz1 hy1 hb1
          refine wp_region_lit ?_
          refine wpL_run rfl (.pointer (some ⟨d, 4, none⟩)) w9 (by simp [go_sem]) ?_
          try simp only [Act.put, List.getElem_toArray, List.getElem_cons_zero, List.getElem_cons_succ, List.setIfInBounds_toArray, List.set_cons_zero, List.set_cons_succ]
          refine wpL_run rfl (.slice ua n1 uc) w9 (by simp [go_sem, c1]) ?_
          try simp only [Act.put, List.getElem_toArray, List.getElem_cons_zero, List.getElem_cons_succ, List.setIfInBounds_toArray, List.set_cons_zero, List.set_cons_succ]
          refine wpL_load rfl 68 (.tmp 15) rfl E 0 rfl Um _ (HLc.out.lo (E, Um) (by simp)).rg Try.underlying68 rfl (by rw [HUMl.out]; exact Try.sz68) ?_
          try simp only [Act.put, List.getElem_toArray, List.getElem_cons_zero, List.getElem_cons_succ, List.setIfInBounds_toArray, List.set_cons_zero, List.set_cons_succ]
          refine wpList_plain rfl (fun K hK => wp_buildS 51 68 (.tmp 108) rfl Um rfl i1 _ 41 72 Try.underlying51 HI1.out.1 HI1.out.2.1 HI1.out.2.2.1 HI1.out.2.2.2 HUMl.out (by decide) (by decide) (hK _ _ ?_))
          try simp only [Act.put, List.getElem_toArray, List.getElem_cons_zero, List.getElem_cons_succ, List.setIfInBounds_toArray, List.set_cons_zero, List.set_cons_succ]
          have b4 := be1 w9 (.cells Um.toArray 68)
          have HLc4 := hide (HLc.out.below b4)
          have HZ4 := hide (newR w9 Um 68)
          have c4 := cellKeep b4 c1
          clear b4
          obtain ⟨Y, hY⟩ : ∃ Y, w9.heap.size = Y := ⟨_, rfl⟩
          rw [hY] at HZ4 ⊢
          clear hY
          generalize w9.alloc (.cells Um.toArray 68) = u4 at *
          obtain ⟨vo, vr, vs, hrg, hrl⟩ := HLc4.out.rw.rl
          have ev : vs = .slice ua n1 uc := by have := hrg 4 vs rfl; rw [Nat.zero_add, c4] at this; exact (Option.some.inj this).symm
          have hown0 := hrl.s
          rw [ev, HN.out] at hown0
          refine wpList_append_lies _ rfl (.tmp 107) (.tmp 109) 51 rfl 0 68 i1 _ 41 72 Try.underlying51 HI1.out.1 HI1.out.2.1 HI1.out.2.2.1 HI1.out.2.2.2 (by kernel_rfl) (by decide) (.slice ua n1 uc) n1 (rq.stm.flatMap msv) rfl hown0 ⟨Y, 0, none⟩ 1 1 Um rfl (by rw [HUMl.out]) (fun j u hj => by rw [Addr.add_mid]; exact HZ4.out j u hj) HUM1.out (by decide) (by unfold maxLen; omega) (by omega) (Nat.zero_le _) _ rfl ?_
          intro g2 cap2 u5 hown hgrow hat hlt2
          try simp only [Act.put, List.getElem_toArray, List.getElem_cons_zero, List.getElem_cons_succ, List.setIfInBounds_toArray, List.set_cons_zero, List.set_cons_succ]
          have hat2 : ∀ j, (Value.slice (some ⟨g2, 0, none⟩) (n1 + 1) cap2).ownBlock = some j → (Value.slice ua n1 uc).ownBlock = some j ∨ u4.heap.size ≤ j := fun j hj => by
            have e : g2 = j := by simpa [Value.ownBlock] using hj
            subst e
            exact hat.imp id fun z => by rw [z]; exact Nat.le_refl _
          have HGR := hide (HLc4.out.grown hrg hrl (i := 4) (v := .slice ua n1 uc) (v' := .slice (some ⟨g2, 0, none⟩) (n1 + 1) cap2) (.inr ⟨ev.symm, rfl⟩) hgrow hat2 { rq with stm := rq.stm ++ [sndM (Pq.box c) M] } (⟨HLc4.out.rw.ok.al, HLc4.out.rw.ok.bl, HLc4.out.rw.ok.rc, fun x hx => by rcases List.mem_append.1 hx with z | z; exact HLc4.out.rw.ok.sm x z; have e : x = sndM (Pq.box c) M := (by simpa using z); rw [e]; exact sndM_ok HMO.out (HSZ.out.o c)⟩) rfl (fun _ _ _ => rfl) (.inr ⟨rfl, rfl⟩) (.inl (by rw [if_pos rfl]; rw [List.length_append, List.flatMap_append, HN.out, show [sndM (Pq.box c) M].flatMap msv = msv (sndM (Pq.box c) M) by simp, HUM.out]; exact hown)))
          have exg : Ex (fun j => (Value.slice ua n1 uc).ownBlock = some j) u4 u5 := Ex.ofGrown hgrow fun j e => e.symm
          have hsb : ∀ j, (Value.slice ua n1 uc).ownBlock = some j → j ∈ Cq := fun j e => by rw [hrl.c]; exact mem_blks.2 ⟨_, by rw [← ev]; simp, e⟩
          have c5 : u5.cell? ⟨d, 4, none⟩ = some (.slice ua n1 uc) := exg.cell (fun e => HLc4.out.rw.dC (hsb d e)) c4
          have f5 : u5.frozen? ⟨d, 4, none⟩ = false := (exg.frozen (fun e => HLc4.out.rw.dC (hsb d e)) HLc4.out.rw.dl).trans (by have := (HLc4.out.rw.th 4 (by omega)).2; simpa using this)
          clear hown hgrow hat hlt2 hat2 exg hsb c4 hrg hrl ev hown0 vo vr vs HLc4 HZ4 c1
          refine wpL_run rfl (.pointer (some ⟨d, 4, none⟩)) u5 (by simp [go_sem]) ?_
          try simp only [Act.put, List.getElem_toArray, List.getElem_cons_zero, List.getElem_cons_succ, List.setIfInBounds_toArray, List.set_cons_zero, List.set_cons_succ]
          (try simp only [Act.put])
          obtain ⟨C2, HLx⟩ := HGR.out
          replace HLc := hide HLx
          clear HLx HGR
          have HE3 : Hid (cd = 0 → ({ rq with stm := rq.stm ++ [sndM (Pq.box c) M] } : Rs) = r1) := fun e => by
            rw [HR1E.out]
            have : sndM (Pq.box c) M = stamp (Pq.box c) M := by
              rw [sndM, if_neg]
              intro hh
              have h2 := HKC.out
              rw [sndP, if_pos hh, e] at h2
              cases h2
            rw [this]
          go_wp2_with fail
          go_meet
          exact ⟨S3, C2, _, rfl, HE3, HLc.out.drop (by simp)⟩
      obtain ⟨S3, C3, r3, rfl, HR3, hlw⟩ := hcut
      replace HLc := hide hlw
      clear hlw
      obtain ⟨w9, hw9⟩ : ∃ W', W' = wc := ⟨_, rfl⟩
      subst hw9
      by_cases hz0 : cd = 0
      · subst hz0
        have hr3 := HR3.out rfl
        clear HR3
        subst hr3
        go_upto_region 25 with fail
        obtain ⟨n1, hn1⟩ : ∃ n, r3.rcs.length = n := ⟨_, rfl⟩
        have HN := hide hn1
        have hnl : n1 ≤ 1001 := by rw [← hn1]; rw [HRC.out]; have := HSZ.out.q; omega
        clear hn1
        obtain ⟨ua, uc, c1⟩ : ∃ ua uc, w9.cell? ⟨d, 3, none⟩ = some (.slice ua n1 uc) := by
          obtain ⟨vo, vr, vs, hrg, hrl⟩ := HLc.out.rw.rl
          obtain ⟨ua, uc, e⟩ := own_form hrl.q
          refine ⟨ua, uc, ?_⟩
          have := hrg 3 vr rfl
          rw [e, HN.out] at this
          simpa using this
        obtain ⟨i1, hi1, hz1, hy1, hb1⟩ := info_parts Try.inf89
        have HI1 := hide (show Try.prog.info? 89 = some i1 ∧ i1.zero = some (.agg rcp0.vals.toArray) ∧ i1.size = 87 ∧ i1.bytes = 184 from ⟨hi1, hz1, hy1, hb1⟩)
        clear hi1 hz1 hy1 hb1
        refine wp_region_lit ?_
        refine wpL_run rfl (.pointer (some ⟨d, 3, none⟩)) w9 (by simp [go_sem]) ?_
        try simp only [Act.put, List.getElem_toArray, List.getElem_cons_zero, List.getElem_cons_succ, List.setIfInBounds_toArray, List.set_cons_zero, List.set_cons_succ]
        refine wpL_run rfl (.slice ua n1 uc) w9 (by simp [go_sem, c1]) ?_
        try simp only [Act.put, List.getElem_toArray, List.getElem_cons_zero, List.getElem_cons_succ, List.setIfInBounds_toArray, List.set_cons_zero, List.set_cons_succ]
        refine wpL_load rfl 89 (.tmp 14) rfl D 0 rfl F _ (HLc.out.lo (D, F) (by simp)).rg Try.underlying89 rfl (by rw [HFl.out]; exact Try.sz89) ?_
        try simp only [Act.put, List.getElem_toArray, List.getElem_cons_zero, List.getElem_cons_succ, List.setIfInBounds_toArray, List.set_cons_zero, List.set_cons_succ]
        refine wpList_plain rfl (fun K hK => wp_buildS 61 89 (.tmp 120) rfl F rfl i1 _ 87 184 Try.underlying61 HI1.out.1 HI1.out.2.1 HI1.out.2.2.1 HI1.out.2.2.2 HFl.out (by decide) (by decide) (hK _ _ ?_))
        try simp only [Act.put, List.getElem_toArray, List.getElem_cons_zero, List.getElem_cons_succ, List.setIfInBounds_toArray, List.set_cons_zero, List.set_cons_succ]
        have b4 := be1 w9 (.cells F.toArray 89)
        have HLc4 := hide (HLc.out.below b4)
        have HZ4 := hide (newR w9 F 89)
        have c4 := cellKeep b4 c1
        clear b4
        obtain ⟨Y, hY⟩ : ∃ Y, w9.heap.size = Y := ⟨_, rfl⟩
        rw [hY] at HZ4 ⊢
        clear hY
        generalize w9.alloc (.cells F.toArray 89) = v4 at *
        obtain ⟨vo, vr, vs, hrg, hrl⟩ := HLc4.out.rw.rl
        have ev : vr = .slice ua n1 uc := by have := hrg 3 vr rfl; rw [Nat.zero_add, c4] at this; exact (Option.some.inj this).symm
        have hown0 := hrl.q
        rw [ev, HN.out] at hown0
        refine wpList_append_lies _ rfl (.tmp 119) (.tmp 121) 61 rfl 0 89 i1 _ 87 184 Try.underlying61 HI1.out.1 HI1.out.2.1 HI1.out.2.2.1 HI1.out.2.2.2 (by kernel_rfl) (by decide) (.slice ua n1 uc) n1 (r3.rcs.flatMap Rcp.vals) rfl hown0 ⟨Y, 0, none⟩ 1 1 F rfl (by rw [HFl.out]) (fun j u hj => by rw [Addr.add_mid]; exact HZ4.out j u hj) HF1.out (by decide) (by unfold maxLen; omega) (by omega) (Nat.zero_le _) _ rfl ?_
        intro g2 cap2 v5 hown hgrow hat hlt2
        try simp only [Act.put, List.getElem_toArray, List.getElem_cons_zero, List.getElem_cons_succ, List.setIfInBounds_toArray, List.set_cons_zero, List.set_cons_succ]
        have hat2 : ∀ j, (Value.slice (some ⟨g2, 0, none⟩) (n1 + 1) cap2).ownBlock = some j → (Value.slice ua n1 uc).ownBlock = some j ∨ v4.heap.size ≤ j := fun j hj => by
          have e : g2 = j := by simpa [Value.ownBlock] using hj
          subst e
          exact hat.imp id fun z => by rw [z]; exact Nat.le_refl _
        have HGR := hide (HLc4.out.grown hrg hrl (i := 3) (v := .slice ua n1 uc) (v' := .slice (some ⟨g2, 0, none⟩) (n1 + 1) cap2) (.inl ⟨ev.symm, rfl⟩) hgrow hat2 { r3 with rcs := r3.rcs ++ [appR (Pq.led c) t] } (⟨HLc4.out.rw.ok.al, HLc4.out.rw.ok.bl, fun x hx => by rcases List.mem_append.1 hx with z | z; exact HLc4.out.rw.ok.rc x z; have e : x = appR (Pq.led c) t := (by simpa using z); rw [e]; exact HRO.out, HLc4.out.rw.ok.sm⟩) rfl (fun _ _ _ => rfl) (.inl (by rw [if_pos rfl]; rw [List.length_append, List.flatMap_append, HN.out, show [appR (Pq.led c) t].flatMap Rcp.vals = Rcp.vals (appR (Pq.led c) t) by simp, HF.out]; exact hown)) (.inr ⟨rfl, rfl⟩))
        have exg : Ex (fun j => (Value.slice ua n1 uc).ownBlock = some j) v4 v5 := Ex.ofGrown hgrow fun j e => e.symm
        have hsb : ∀ j, (Value.slice ua n1 uc).ownBlock = some j → j ∈ C3 := fun j e => by rw [hrl.c]; exact mem_blks.2 ⟨_, by rw [← ev]; simp, e⟩
        have c5 : v5.cell? ⟨d, 3, none⟩ = some (.slice ua n1 uc) := exg.cell (fun e => HLc4.out.rw.dC (hsb d e)) c4
        have f5 : v5.frozen? ⟨d, 3, none⟩ = false := (exg.frozen (fun e => HLc4.out.rw.dC (hsb d e)) HLc4.out.rw.dl).trans (by have := (HLc4.out.rw.th 3 (by omega)).2; simpa using this)
        clear hown hgrow hat hlt2 hat2 exg hsb c4 hrg hrl ev hown0 vo vr vs HLc4 HZ4 c1
        refine wpL_run rfl (.pointer (some ⟨d, 3, none⟩)) v5 (by simp [go_sem]) ?_
        try simp only [Act.put, List.getElem_toArray, List.getElem_cons_zero, List.getElem_cons_succ, List.setIfInBounds_toArray, List.set_cons_zero, List.set_cons_succ]
        (try simp only [Act.put])
        obtain ⟨C2, HLx⟩ := HGR.out
        replace HLc := hide HLx
        clear HLx HGR
        go_upto_region 26 with fail
        generalize v5.setCell ⟨d, 3, none⟩ (.slice (some ⟨g2, 0, none⟩) (n1 + 1) cap2) = v6 at *
        clear c5 f5
        obtain ⟨g0, hg0⟩ : ∃ g, r3.gas = g := ⟨_, rfl⟩
        have HG0 := hide hg0
        obtain ⟨gp, hgp⟩ : ∃ g, gasP t = g := ⟨_, rfl⟩
        have HGP := hide hgp
        obtain ⟨gt, hgt⟩ : ∃ g, w64 (g0 + gp) = g := ⟨_, rfl⟩
        have HGT := hide hgt
        have hwg : IntKind.u64.wrap (g0 + gp) = gt := by rw [IntKind.wrap_u64, ← hgt]; rfl
        have cg : v6.cell? ⟨d, 5, none⟩ = some (.int .u64 g0) := by
          obtain ⟨vo, vr, vs, hrg, hrl⟩ := HLc.out.rw.rl
          have := hrg 5 (.int .u64 g0) (by rw [← hg0]; rfl)
          simpa using this
        have fg : v6.frozen? ⟨d, 5, none⟩ = false := by have := (HLc.out.rw.th 5 (by omega)).2; simpa using this
        have cD1 : v6.cell? ⟨D, 1, none⟩ = some (.int .u64 gp) := HLc.out.at' (q := D) (cs := F) (by simp) (by rw [← HF.out, ← hgp, ← HLP.out.g HCDE.out]; rfl)
        clear hg0 hgt hgp
        go_upto_region 27 with fail
        rw [if_pos rfl] at HK1
        have HLR := hide (HLP.out.r HCDE.out)
        have HX5 := hide ((HLc.out.setR (j := 5) (.int .u64 gt) (legR Pq c t rq) (fun _ _ _ => by rw [← HGT.out, ← HG0.out, ← HGP.out, HLR.out]; rfl) (by rw [HLR.out]) (by rw [HLR.out]) (by rw [HLR.out]) (by have ok := HLc.out.rw.ok; rw [HLR.out]; exact ⟨ok.al, ok.bl, ok.rc, ok.sm⟩) (by rw [HLR.out])).drop (Y := X0) (by simp))
        generalize v6.setCell ⟨d, 5, none⟩ (.int .u64 gt) = v7 at *
        clear cg fg cD1 hwg HLc HG0 HGP HGT
        generalize legR Pq c t rq = r9 at *
        go_wp2_with fail
        go_roundw
        case rel => exact ⟨i + 1, Q1, r9, S3, C2, by omega, by go_num, HK1, ⟨HB1.out, HR1.out⟩, HX5.out⟩
        case measure => simp [intOf]; omega
      · have d2 : (cd != 0) = true := by simp [hz0]
        rw [if_neg hz0] at HK1
        obtain ⟨R, hR⟩ : ∃ F, (refR cd x).vals nilS nilS nilS = F := ⟨_, rfl⟩
        have HRv := hide hR
        have HRl : Hid (R.length = 70) := by rw [← hR]; exact Rs.len (refR_ok _ _) _ _ _
        have HR1v : Hid (∀ u ∈ R, u.oneCell' = true) := by rw [← hR]; exact Rs.one _ rfl rfl rfl
        have HBU : Hid (Try.prog.built 65 [(0, .int .i64 cd), (1, .int .i64 x)] = some R.toArray) := by rw [← hR]; exact built_ref cd x
        clear hR
        have lo0 := HLc.out.lo (B0, G) (by rw [← HX0.out]; simp)
        have lo2 := HLc.out.lo (B0 + 2, Z6) (by rw [← HX0.out]; simp)
        have lo3 := HLc.out.lo (B0 + 3, Z5) (by rw [← HX0.out]; simp)
        have HRG := hide lo0.rg
        have HT2 : Hid (w9.there (B0 + 2) 0 667) := by have := lo2.th; rw [show (B0 + 2, Z6).2.length = 667 from HZ6.out] at this; exact this
        have HT3 : Hid (w9.there (B0 + 3) 0 70) := by have := lo3.th; rw [show (B0 + 3, Z5).2.length = 70 from HZ5.out] at this; exact this
        have HL2 : Hid (B0 + 2 < w9.heap.size) := lo2.lt
        clear lo0 lo2 lo3
        go_upto_region 24 with fail
        refine wp_region_lit ?_
        refine wpL_load rfl 56 (.tmp 2) rfl B0 0 rfl G _ HRG.out Try.underlying56 rfl (by rw [HGl.out]; exact Try.sz56) ?_
        try simp only [Act.put, List.getElem_toArray, List.getElem_cons_zero, List.getElem_cons_succ, List.setIfInBounds_toArray, List.set_cons_zero, List.set_cons_succ]
        refine wpL_run rfl (.int .i64 cd) w9 rfl ?_
        try simp only [Act.put, List.getElem_toArray, List.getElem_cons_zero, List.getElem_cons_succ, List.setIfInBounds_toArray, List.set_cons_zero, List.set_cons_succ]
        refine wpL_run rfl (.int .i64 x) w9 rfl ?_
        try simp only [Act.put, List.getElem_toArray, List.getElem_cons_zero, List.getElem_cons_succ, List.setIfInBounds_toArray, List.set_cons_zero, List.set_cons_succ]
        refine wpL_build rfl 65 _ rfl R.toArray (by exact HBU.out) ?_
        try simp only [Act.put, List.getElem_toArray, List.getElem_cons_zero, List.getElem_cons_succ, List.setIfInBounds_toArray, List.set_cons_zero, List.set_cons_succ]
        refine wpL_store rfl 56 (.tmp 4) (.tmp 114) rfl (B0 + 2) 0 G rfl rfl (by rw [HGl.out]; exact HT2.out) (by rw [HGl.out]; exact Try.sz56) HG1.out ?_
        try simp only [Act.put, List.getElem_toArray, List.getElem_cons_zero, List.getElem_cons_succ, List.setIfInBounds_toArray, List.set_cons_zero, List.set_cons_succ]
        refine wpL_store rfl 65 (.tmp 5) (.tmp 117) rfl (B0 + 3) 0 R rfl rfl (by rw [HRl.out]; exact World.there_setCells HT3.out _ _ _) (by rw [HRl.out]; exact Try.sz65) HR1v.out ?_
        try simp only [Act.put, List.getElem_toArray, List.getElem_cons_zero, List.getElem_cons_succ, List.setIfInBounds_toArray, List.set_cons_zero, List.set_cons_succ]
        have HZA : Hid (((w9.setCells (B0 + 2) 0 G).setCells (B0 + 3) 0 R).rangeAt (B0 + 2) 0 G) := range_ex (World.rangeAt_setCells_same w9 (B0 + 2) 0 G (by rw [HGl.out]; exact HT2.out)) (Nat.lt_of_lt_of_le HL2.out (Ex.sets (S := fun k => k = B0 + 2) rfl G 0 w9 (Ex.refl _ _)).size) (Ex.sets (S := fun k => k = B0 + 3) rfl R 0 _ (Ex.refl _ _)) (show ¬ (B0 + 2 = B0 + 3) by omega)
        have HZB : Hid (((w9.setCells (B0 + 2) 0 G).setCells (B0 + 3) 0 R).rangeAt (B0 + 3) 0 R) := World.rangeAt_setCells_same _ (B0 + 3) 0 R (by rw [HRl.out]; exact World.there_setCells HT3.out _ _ _)
        have HEX : Hid (Ex (fun j => j = B0 + 2 ∨ j = B0 + 3) w9 ((w9.setCells (B0 + 2) 0 G).setCells (B0 + 3) 0 R)) := Ex.sets (S := fun j => j = B0 + 2 ∨ j = B0 + 3) (.inr rfl) R 0 _ (Ex.sets (S := fun j => j = B0 + 2 ∨ j = B0 + 3) (.inl rfl) G 0 _ (Ex.refl _ _))
        have HPO : Hid (RR (.returned (.tuple #[.agg G.toArray, .agg R.toArray])) ((w9.setCells (B0 + 2) 0 G).setCells (B0 + 3) 0 R)) := by
          obtain ⟨e1, e2⟩ := (HKF _ Q1 rq cd x).out HK1.out hz0
          rw [← HRR.out]
          have hb9 : Below w.heap.size w w9 := HB6.out.trans (HLc.out.ex.below HB6.out.size (fun k hk e => by
            rcases e with e | e | e | e
            · have := HE.out; omega
            · have := HS46.out k e; omega
            · have := HEd.out; omega
            · have := HC6.out k e; omega))
          exact big_refused HWF.out hb9 HRv.out HEX.out (by have := HBs.out; omega) (by have := HBs.out; omega) e1 e2
        generalize (w9.setCells (B0 + 2) 0 G).setCells (B0 + 3) 0 R = wz at *
        repeat go_step
        exact bodyPost_ret (v := .tuple #[.agg G.toArray, .agg R.toArray]) (res_cell_cell Try.results25 rfl (run_loadVar_mid wz (B0 + 2) 0 56 G _ HZA.out Try.underlying56 rfl (by rw [HGl.out]; exact Try.sz56)) rfl (run_loadVar_mid wz (B0 + 3) 0 65 R _ HZB.out Try.underlying65 rfl (by rw [HRl.out]; exact Try.sz65))) rfl HPO.out
    · obtain rfl : i = ord.length := by omega
      have d1 : decide ((ord.length : Int) < (ord.length : Int)) = false := by simp
      have HK1 : Hid (KS (.slice (some ⟨g, 0, none⟩) ord.length vc) = (Pq, rq, 0, -1)) := by
        have := HK.out
        rw [List.drop_length, runK] at this
        exact this
      have HOK := hide HX.out.rw.ok
      clear HK
      obtain ⟨B28, hla28, -⟩ := HX.out.rw.pp.onA
      have HLA28 := hide hla28
      clear hla28
      obtain ⟨F28, hF28⟩ : ∃ F, u8s (rootP Pq.la) = F := ⟨_, rfl⟩
      have HF28 := hide hF28
      have HFl28 : Hid (F28.length = 32) := by rw [← hF28]; show (u8s (rootP Pq.la)).length = 32; simp [u8s, rootP_len]
      have HFo28 : Hid (∀ u ∈ F28, u.oneCell' = true) := by rw [← hF28]; exact u8s_one _
      clear hF28
      go_upto_region 28 with fail
      go_wp2_with (go_at_call 24; refine (root_any _ b 0 Pq.la _ B28 HLA28.out).mono ?_; rintro e v28 ⟨rfl, hbe⟩; have HY28 := hide (HX.out.below hbe); clear hbe; rw [HF28.out]; simp only [])
      simp only [Try.sizeOf63, Result.andThen, show ((32 : Nat) = 0) = False from by simp, ↓reduceIte]
      rw [Oper.upon_value]
      go_wp2_with fail
      simp only [Try.sizeOf63, Result.andThen, HFl28.out, ↓reduceIte, stC v28 d 6 F28 (by rw [HFl28.out]; have := there_sub (k := 6) (m := 32) HY28.out.rw.th (by omega); rwa [Nat.zero_add] at this) HFo28.out]
      rw [Oper.upon_skip]
      simp only [Act.put]
      have HXa := hide (HY28.out.setsR (j := 6) F28 { rq with ra := rootP Pq.la } (fun vo vr vs => ⟨[.int .i64 rq.code, .int .i64 rq.failed, vo, vr, vs, .int .u64 rq.gas], u8s rq.ra, u8s rq.rb, rfl, rfl, by rw [HFl28.out]; simp [u8s, HOK.out.al], by rw [← HF28.out]; rfl⟩) (by rw [HFl28.out]; omega) rfl rfl rfl ⟨by simp [rootP_len, HOK.out.al], by simp [rootP_len, HOK.out.bl], HOK.out.rc, HOK.out.sm⟩)
      generalize v28.setCells d 6 F28 = x28 at *
      clear HY28 HLA28 HX
      obtain ⟨B29, hla29, -⟩ := HXa.out.rw.pp.onB
      have HLA29 := hide hla29
      clear hla29
      obtain ⟨F29, hF29⟩ : ∃ F, u8s (rootP Pq.lb) = F := ⟨_, rfl⟩
      have HF29 := hide hF29
      have HFl29 : Hid (F29.length = 32) := by rw [← hF29]; show (u8s (rootP Pq.lb)).length = 32; simp [u8s, rootP_len]
      have HFo29 : Hid (∀ u ∈ F29, u.oneCell' = true) := by rw [← hF29]; exact u8s_one _
      clear hF29
      go_upto_region 29 with fail
      go_wp2_with (go_at_call 24; refine (root_any _ b 326 Pq.lb _ B29 HLA29.out).mono ?_; rintro e v29 ⟨rfl, hbe⟩; have HY29 := hide (HXa.out.below hbe); clear hbe; rw [HF29.out]; simp only [])
      simp only [Try.sizeOf63, Result.andThen, show ((32 : Nat) = 0) = False from by simp, ↓reduceIte]
      rw [Oper.upon_value]
      go_wp2_with fail
      simp only [Try.sizeOf63, Result.andThen, HFl29.out, ↓reduceIte, stC v29 d 38 F29 (by rw [HFl29.out]; have := there_sub (k := 38) (m := 32) HY29.out.rw.th (by omega); rwa [Nat.zero_add] at this) HFo29.out]
      rw [Oper.upon_skip]
      simp only [Act.put]
      have HXb := hide (HY29.out.setsR (j := 38) F29 { rq with ra := rootP Pq.la, rb := rootP Pq.lb } (fun vo vr vs => ⟨[.int .i64 rq.code, .int .i64 rq.failed, vo, vr, vs, .int .u64 rq.gas] ++ u8s (rootP Pq.la), u8s rq.rb, [], by simp [Rs.vals], by simp [u8s, rootP_len], by rw [HFl29.out]; simp [u8s, HOK.out.bl], by rw [← HF29.out]; simp [Rs.vals]⟩) (by rw [HFl29.out]; omega) rfl rfl rfl ⟨by simp [rootP_len, HOK.out.al], by simp [rootP_len, HOK.out.bl], HOK.out.rc, HOK.out.sm⟩)
      generalize v29.setCells d 38 F29 = x29 at *
      clear HY29 HLA29 HXa
      obtain ⟨vo, vr, vs, hrg, hrl⟩ := HXb.out.rw.rl
      obtain ⟨r2, hr2⟩ : ∃ r2, ({ rq with ra := rootP Pq.la, rb := rootP Pq.lb } : Rs) = r2 := ⟨_, rfl⟩
      have HR2 := hide hr2
      rw [hr2] at hrg hrl HXb
      clear hr2
      obtain ⟨R, hR⟩ : ∃ F, r2.vals vo vr vs = F := ⟨_, rfl⟩
      rw [hR] at hrg
      have HRv := hide hR
      have HRl : Hid (R.length = 70) := by rw [← hR]; exact Rs.len HXb.out.rw.ok _ _ _
      have HR1v : Hid (∀ u ∈ R, u.oneCell' = true) := by
        rw [← hR]
        obtain ⟨_, _, e1⟩ := own_form hrl.o
        obtain ⟨_, _, e2⟩ := own_form hrl.q
        obtain ⟨_, _, e3⟩ := own_form hrl.s
        exact Rs.one _ (by rw [e1]; rfl) (by rw [e2]; rfl) (by rw [e3]; rfl)
      have HRL := hide hrl
      obtain ⟨U, hU, hUr⟩ := HXb.out.rw.pp.wf
      have HU := hide hU
      have HUl : Hid (U.length = 667) := hU.len
      have HU1 : Hid (∀ u ∈ U, u.oneCell' = true) := hU.one
      have HHd : Hid (x29.rangeAt b 0 U ∧ x29.rangeAt d 0 R) := ⟨hUr, hrg⟩
      clear hU hUr hR hrg hrl
      have l2 := HXb.out.lo (B0 + 2, Z6) (by rw [← HX0.out]; simp)
      have l3 := HXb.out.lo (B0 + 3, Z5) (by rw [← HX0.out]; simp)
      have HLa : Hid (B0 + 2 < x29.heap.size ∧ B0 + 2 ≠ b ∧ B0 + 2 ∉ Sq ∧ B0 + 2 ≠ d ∧ B0 + 2 ∉ Cq ∧ x29.there (B0 + 2) 0 667) := ⟨l2.lt, l2.nb, l2.nS, l2.nd, l2.nC, by have := l2.th; rw [show (B0 + 2, Z6).2.length = 667 from HZ6.out] at this; exact this⟩
      have HLb : Hid (B0 + 3 < x29.heap.size ∧ B0 + 3 ≠ b ∧ B0 + 3 ∉ Sq ∧ B0 + 3 ≠ d ∧ B0 + 3 ∉ Cq ∧ x29.there (B0 + 3) 0 70) := ⟨l3.lt, l3.nb, l3.nS, l3.nd, l3.nC, by have := l3.th; rw [show (B0 + 3, Z5).2.length = 70 from HZ5.out] at this; exact this⟩
      clear l2 l3
      go_upto_region 30 with fail
      go_cut [11] (fun _ wx => Ex (fun j => j = B0 + 2 ∨ j = B0 + 3) x29 wx ∧ wx.rangeAt (B0 + 2) 0 U ∧ wx.rangeAt (B0 + 3) 0 R)
      case first =>
        refine wp_region_held_drew (S := fun w' => w'.rangeAt b 0 U ∧ w'.rangeAt d 0 R) (by kernel_rfl) HHd.out (fun hHeld => ?_)
        have HEX : Hid (Ex (fun j => j = B0 + 2 ∨ j = B0 + 3) x29 x29.drew) := (Ex.refl _ _).drew
        have HQA : Hid (x29.drew.there (B0 + 2) 0 667 ∧ x29.drew.there (B0 + 3) 0 70) := ⟨there_ex HLa.out.2.2.2.2.2 HLa.out.1 ((Ex.refl (fun _ => False) x29).drew) (by simp), there_ex HLb.out.2.2.2.2.2 HLb.out.1 ((Ex.refl (fun _ => False) x29).drew) (by simp)⟩
        generalize x29.drew = y0 at *
        refine wpAnyH_take (i := 0) rfl (by kernel_rfl) (by kernel_rfl) (by kernel_rfl) (fun _ _ _ h => h) (yieldsIf_load_mid (by rfl) 56 (.tmp 9) rfl b 0 rfl U _ (fun w hSw => hSw.1) Try.underlying56 rfl (by rw [HUl.out]; exact Try.sz56)) (by assumption) ?_
        try simp only [Act.put, List.getElem_toArray, List.getElem_cons_zero, List.getElem_cons_succ, List.setIfInBounds_toArray, List.set_cons_zero, List.set_cons_succ]
        refine wpAnyH_take (i := 1) rfl (by kernel_rfl) (by kernel_rfl) (by kernel_rfl) (fun _ _ _ h => h) (yieldsIf_load_mid (by rfl) 65 (.tmp 10) rfl d 0 rfl R _ (fun w hSw => hSw.2) Try.underlying65 rfl (by rw [HRl.out]; exact Try.sz65)) (by assumption) ?_
        try simp only [Act.put, List.getElem_toArray, List.getElem_cons_zero, List.getElem_cons_succ, List.setIfInBounds_toArray, List.set_cons_zero, List.set_cons_succ]
        refine wpAnyH_ready (rs := [2]) (by kernel_rfl) (by simp) ?_
        refine (AllReadyH.cons rfl (fun K hK => ?_) AllReadyH.nil)
        refine step_storeM rfl 56 (.tmp 4) (.tmp 137) rfl (B0 + 2) 0 U rfl rfl (by rw [HUl.out]; exact HQA.out.1) (by rw [HUl.out]; exact Try.sz56) HU1.out ?_
        have HA1 := hide (World.rangeAt_setCells_same y0 (B0 + 2) 0 U (by rw [HUl.out]; exact HQA.out.1))
        skip
        replace HQA : Hid ((y0.setCells (B0 + 2) 0 U).there (B0 + 2) 0 667 ∧ (y0.setCells (B0 + 2) 0 U).there (B0 + 3) 0 70) := ⟨World.there_setCells HQA.out.1 _ _ _, World.there_setCells HQA.out.2 _ _ _⟩
        replace HEX : Hid (Ex (fun j => j = B0 + 2 ∨ j = B0 + 3) x29 (y0.setCells (B0 + 2) 0 U)) := Ex.sets (S := fun j => j = B0 + 2 ∨ j = B0 + 3) (.inl rfl) U 0 _ HEX.out
        have HAL : Hid (B0 + 2 < (y0.setCells (B0 + 2) 0 U).heap.size) := Nat.lt_of_lt_of_le HLa.out.1 HEX.out.size
        refine hK.out _ _ ?_ (fun hHeld => ?_)
        · exact ⟨range_ex HHd.out.1 (by have := HXb.out.rw.pp.bl; omega) HEX.out (fun e => by rcases e with e | e; exact HLa.out.2.1 e.symm; exact HLb.out.2.1 e.symm), range_ex HHd.out.2 HXb.out.rw.dl HEX.out (fun e => by rcases e with e | e; exact HLa.out.2.2.2.1 e.symm; exact HLb.out.2.2.2.1 e.symm)⟩
        clear hK K
        try simp only [Act.put, List.getElem_toArray, List.getElem_cons_zero, List.getElem_cons_succ, List.setIfInBounds_toArray, List.set_cons_zero, List.set_cons_succ]
        generalize y0.setCells (B0 + 2) 0 U = ya at *
        refine wpAnyH_ready (rs := [3]) (by kernel_rfl) (by simp) ?_
        refine (AllReadyH.cons rfl (fun K hK => ?_) AllReadyH.nil)
        refine step_storeM rfl 65 (.tmp 5) (.tmp 138) rfl (B0 + 3) 0 R rfl rfl (by rw [HRl.out]; exact HQA.out.2) (by rw [HRl.out]; exact Try.sz65) HR1v.out ?_
        have HB1 := hide (World.rangeAt_setCells_same ya (B0 + 3) 0 R (by rw [HRl.out]; exact HQA.out.2))
        have HA1 := hide (range_ex HA1.out HAL.out (Ex.sets (S := fun k => k = B0 + 3) rfl R 0 ya (Ex.refl _ _)) (by omega))
        replace HQA : Hid ((ya.setCells (B0 + 3) 0 R).there (B0 + 2) 0 667 ∧ (ya.setCells (B0 + 3) 0 R).there (B0 + 3) 0 70) := ⟨World.there_setCells HQA.out.1 _ _ _, World.there_setCells HQA.out.2 _ _ _⟩
        replace HEX : Hid (Ex (fun j => j = B0 + 2 ∨ j = B0 + 3) x29 (ya.setCells (B0 + 3) 0 R)) := Ex.sets (S := fun j => j = B0 + 2 ∨ j = B0 + 3) (.inr rfl) R 0 _ HEX.out
        have HBL : Hid (B0 + 3 < (ya.setCells (B0 + 3) 0 R).heap.size) := Nat.lt_of_lt_of_le HLb.out.1 HEX.out.size
        refine hK.out _ _ ?_ (fun hHeld => ?_)
        · exact ⟨range_ex HHd.out.1 (by have := HXb.out.rw.pp.bl; omega) HEX.out (fun e => by rcases e with e | e; exact HLa.out.2.1 e.symm; exact HLb.out.2.1 e.symm), range_ex HHd.out.2 HXb.out.rw.dl HEX.out (fun e => by rcases e with e | e; exact HLa.out.2.2.2.1 e.symm; exact HLb.out.2.2.2.1 e.symm)⟩
        clear hK K
        try simp only [Act.put, List.getElem_toArray, List.getElem_cons_zero, List.getElem_cons_succ, List.setIfInBounds_toArray, List.set_cons_zero, List.set_cons_succ]
        generalize ya.setCells (B0 + 3) 0 R = yb at *
        refine wpAnyH_done (by kernel_rfl) ?_ _
        go_wp2_with fail
        go_meet
        exact ⟨HEX.out, HA1.out, HB1.out⟩
      obtain ⟨hex, hra, hrb⟩ := hcut
      have HRA := hide hra
      have HRB := hide hrb
      have HPO : Hid (RR (.returned (.tuple #[.agg U.toArray, .agg R.toArray])) wc) := by
        obtain ⟨e1, e2⟩ := (HKO _ Pq rq).out HK1.out
        rw [HR2.out] at e1
        rw [← HRR.out]
        exact big_done HB6.out HXb.out HE.out HEd.out HS46.out HC6.out HU.out HRL.out HRv.out hex ⟨by have := HBs.out; omega, HLa.out.2.2.1, HLa.out.2.2.2.2.1⟩ ⟨by have := HBs.out; omega, HLb.out.2.2.1, HLb.out.2.2.2.2.1⟩ e1 e2
      clear hex hra hrb
      repeat go_step
      exact bodyPost_ret (v := .tuple #[.agg U.toArray, .agg R.toArray]) (res_cell_cell Try.results25 rfl (run_loadVar_mid wc (B0 + 2) 0 56 U _ HRA.out Try.underlying56 rfl (by rw [HUl.out]; exact Try.sz56)) rfl (run_loadVar_mid wc (B0 + 3) 0 65 R _ HRB.out Try.underlying65 rfl (by rw [HRl.out]; exact Try.sz65))) rfl HPO.out
end Go.Proofs.Qxb6500784a
