import Derived.Test.Qxb6500784aIv
import Derived.Test.Qxb6500784aSmall
namespace Go.Proofs.Qxb6500784a
open Go.RowKit

attribute [-simp] Try.isAgg95 Try.sizeOf95 Try.typeInfo95 Try.isAgg70 Try.sizeOf70 Try.typeInfo70
attribute [local irreducible] rootP shaP
set_option maxRecDepth 100000 in
theorem small_n (w : World) (a : Option Addr) (n cap : Nat) (O : Nat → OpR) (hn : n ≤ 9223372036854775807) (hO : OpsAt w a n O) :
    Calls Try.prog 12 #[.slice a n cap] w fun e w' => ∃ b : Bool, (e = .returned (.bool b) ∧ w' = w) ∧ (b = true → n ≤ 65536) := by
  by_cases hbig : (n : Int) > 65536
  · go_enter Try.func12, Try.ntmps12
    go_wp2
    go_ret
    exact ⟨false, ⟨rfl, rfl⟩, fun h => by cases h⟩
  · refine (small_any w a n cap O hn hO).mono ?_
    rintro e w' ⟨b, h1, h2⟩
    exact ⟨b, ⟨h1, h2⟩, fun _ => by omega⟩
def cnt (L : Nat → Leg) (c : Int) : Nat → Nat
  | 0 => 0
  | k + 1 => if (L k).ch = c then cnt L c k + 1 else cnt L c k
theorem cnt_le (L : Nat → Leg) (c : Int) : ∀ k, cnt L c k ≤ k
  | 0 => Nat.le_refl _
  | k + 1 => by have := cnt_le L c k; unfold cnt; split <;> omega
theorem cnt_on (L : Nat → Leg) (c : Int) : ∀ k, onP L c k = decide (0 < cnt L c k)
  | 0 => rfl
  | k + 1 => by
    rw [onP_succ, cnt_on L c k]
    show _ = decide (0 < (if (L k).ch = c then cnt L c k + 1 else cnt L c k))
    by_cases h : (L k).ch = c
    · rw [if_pos h]; simp [h]
    · rw [if_neg h]; simp [h]
theorem sz95 : (Try.prog.info? 95).map (·.size) = some 86 := by kernel_rfl
theorem zs95 : Try.zeroCells95.size = 86 := by kernel_rfl
/-- What the law's loop holds. -/
structure HL (w : World) (b k : Nat) (P : Pr) (S : List Nat) (x : World) : Prop where
  iv : Iv (9 * k) P
  pp : PP x b P S
  be : Below w.heap.size w x
  ge : ∀ j, j ∈ S → w.heap.size ≤ j
theorem HL.below {w : World} {b k : Nat} {P : Pr} {S : List Nat} {x y : World} (h : HL w b k P S x) (j : Below x.heap.size x y) : HL w b k P S y := ⟨h.iv, h.pp.below j, lec h.be j, h.ge⟩
theorem HL.link {w : World} {b k : Nat} {P P' : Pr} {S S' : List Nat} {x y : World} (h : HL w b k P S x) (hb : w.heap.size ≤ b) (l : Link x b S y S') (p : PP y b P' S') (iv : Iv (9 * (k + 1)) P') : HL w b (k + 1) P' S' y :=
  ⟨iv, p, below_of h.be hb h.ge l, fun j hj => by
    rcases l.2 j hj with z | z
    · exact h.ge j z
    · exact Nat.le_trans h.be.size z⟩
set_option linter.unusedSimpArgs false in
set_option maxRecDepth 100000 in
set_option maxHeartbeats 8000000 in
theorem helpers_walk (w : World) (a : Option Addr) (n cap : Nat) (O : Nat → OpR) (hn : n ≤ 9223372036854775807) (ho : OpsAt4 w a n O) :
    Calls Try.prog 11 #[.slice a n cap] w fun e w' => e = .returned (.bool true) ∧ Below w.heap.size w w' := by
  have HO := hide ho.1.1.1
  have HO4 := hide ho.2
  clear ho
  go_enter Try.func11, Try.ntmps11
  go_wp2_with fail
  refine (small_n _ a n cap O hn HO.out).mono ?_
  rintro e w ⟨bb, ⟨rfl, rfl⟩, hsmall⟩
  cases bb
  · go_wp2
    go_ret
    exact ⟨rfl, Below.refl _ _⟩
  have HSM := hide (hsmall rfl)
  clear hsmall
  go_upto_region 4 with (go_at_call 19; refine (newPairL_any _).mono ?_; rintro e w1 ⟨rfl, S0, hp, hb, hg⟩; have HH0 : Hid (HL w w.heap.size 0 pr0 S0 w1) := (⟨iv0, hp, hb, hg⟩ : HL w w.heap.size 0 pr0 S0 w1); clear hp hb hg; simp only [])
  obtain ⟨b, hb⟩ : ∃ b, w.heap.size = b := ⟨_, rfl⟩
  have HBb : Hid (w.heap.size ≤ b) := by rw [← hb]; exact Nat.le_refl _
  simp only [hb] at HH0 ⊢
  clear hb
  go_wp2
  go_loopw [20] (fun s20 wr => ∃ (k : Nat) (P : Pr) (S : List Nat), k ≤ n ∧ s20 = .int .i64 k ∧ HL w b k P S wr) (fun s20 _ => n - (intOf s20).toNat)
  case atStart => exact ⟨0, pr0, S0, Nat.zero_le _, rfl, HH0.out⟩
  case round =>
    clear HH0
    obtain ⟨k, P, S, hk, rfl, hh⟩ := hrel
    have HH := hide hh
    clear hh
    by_cases hlt : k < n
    · have d1 : decide ((k : Int) < (n : Int)) = true := by simp; omega
      have hki : (k : Int) < (n : Int) := by omega
      obtain ⟨lb, off, ha, hc, hop⟩ := (HO.out.below HH.out.be) k hlt
      subst ha
      obtain ⟨⟨kd, ch, pt, gs, ac, tk, am, hv, hr1, hr2, hr3, hr4, hr5⟩⟩ := (HO4.out k hlt).1
      have HRR := hide (And.intro hr1 (And.intro hr2 (And.intro hr3 (And.intro hr4 hr5))))
      have HVV := hide (HO4.out k hlt).2
      have HLN := hide hop.ln
      have HLG : Hid (LegsAt w (O k).la (O k).ln (O k).L) := by
        obtain ⟨_, _, _, _, h5⟩ := HO.out k hlt
        exact h5.legs
      have o0 : wr.cell? ⟨lb, off + k * 8, none⟩ = some (.int .i64 kd) := by have := hc 0 (by omega); rw [hv 0 (by omega)] at this; exact this
      have o1 : wr.cell? ⟨lb, off + k * 8 + 1, none⟩ = some (.slice (O k).la (O k).ln (O k).lc) := by have := hc 1 (by omega); rw [hv 1 (by omega)] at this; exact this
      have o2 : wr.cell? ⟨lb, off + k * 8 + 2, none⟩ = some (.int .u8 ch) := by have := hc 2 (by omega); rw [hv 2 (by omega)] at this; exact this
      have o3 : wr.cell? ⟨lb, off + k * 8 + 3, none⟩ = some (.int .i64 pt) := by have := hc 3 (by omega); rw [hv 3 (by omega)] at this; exact this
      have o4 : wr.cell? ⟨lb, off + k * 8 + 4, none⟩ = some (.int .u64 gs) := by have := hc 4 (by omega); rw [hv 4 (by omega)] at this; exact this
      have o5 : wr.cell? ⟨lb, off + k * 8 + 5, none⟩ = some (.int .u8 ac) := by have := hc 5 (by omega); rw [hv 5 (by omega)] at this; exact this
      have o6 : wr.cell? ⟨lb, off + k * 8 + 6, none⟩ = some (.int .u8 tk) := by have := hc 6 (by omega); rw [hv 6 (by omega)] at this; exact this
      have o7 : wr.cell? ⟨lb, off + k * 8 + 7, none⟩ = some (.int .u64 am) := by have := hc 7 (by omega); rw [hv 7 (by omega)] at this; exact this
      clear hc hop hv hr1 hr2 hr3 hr4 hr5
      generalize (O k).la = la at *
      generalize (O k).ln = ln at *
      generalize (O k).lc = lc at *
      generalize (O k).L = L at *
      have HBE := hide (be1 wr (.cells #[.int .i64 kd, .slice la ln lc, .int .u8 ch, .int .i64 pt, .int .u64 gs, .int .u8 ac, .int .u8 tk, .int .u64 am] 33))
      have HN := hide (newR wr [.int .i64 kd, .slice la ln lc, .int .u8 ch, .int .i64 pt, .int .u64 gs, .int .u8 ac, .int .u8 tk, .int .u64 am] 33)
      go_upto_region 7 with fail
      obtain ⟨D, hD⟩ : ∃ D, wr.heap.size = D := ⟨_, rfl⟩
      have HSZ : Hid ((wr.alloc (.cells #[.int .i64 kd, .slice la ln lc, .int .u8 ch, .int .i64 pt, .int .u64 gs, .int .u8 ac, .int .u8 tk, .int .u64 am] 33)).heap.size = D + 1) := by show _ = _; rw [← hD]; simp
      have HDD : Hid (b < D ∧ ∀ j, j ∈ S → j < D) := by rw [← hD]; exact ⟨HH.out.pp.bl, fun j hj => HH.out.pp.lt hj⟩
      have HH2 := hide (HH.out.below HBE.out)
      rw [hD] at HN ⊢
      clear hD o0 o1 o2 o3 o4 o5 o6 o7 HH
      generalize wr.alloc (.cells #[.int .i64 kd, .slice la ln lc, .int .u8 ch, .int .i64 pt, .int .u64 gs, .int .u8 ac, .int .u8 tk, .int .u64 am] 33) = w2 at *
      clear HBE
      have p0 : w2.cell? ⟨D, 0, none⟩ = some (.int .i64 kd) := by have := HN.out 0 _ rfl; rwa [Nat.zero_add] at this
      have p1 : w2.cell? ⟨D, 1, none⟩ = some (.slice la ln lc) := by have := HN.out 1 _ rfl; rwa [Nat.zero_add] at this
      have p2 : w2.cell? ⟨D, 2, none⟩ = some (.int .u8 ch) := by have := HN.out 2 _ rfl; rwa [Nat.zero_add] at this
      have p3 : w2.cell? ⟨D, 3, none⟩ = some (.int .i64 pt) := by have := HN.out 3 _ rfl; rwa [Nat.zero_add] at this
      have p4 : w2.cell? ⟨D, 4, none⟩ = some (.int .u64 gs) := by have := HN.out 4 _ rfl; rwa [Nat.zero_add] at this
      have p5 : w2.cell? ⟨D, 5, none⟩ = some (.int .u8 ac) := by have := HN.out 5 _ rfl; rwa [Nat.zero_add] at this
      have p6 : w2.cell? ⟨D, 6, none⟩ = some (.int .u8 tk) := by have := HN.out 6 _ rfl; rwa [Nat.zero_add] at this
      have p7 : w2.cell? ⟨D, 7, none⟩ = some (.int .u64 am) := by have := HN.out 7 _ rfl; rwa [Nat.zero_add] at this
      obtain ⟨ga, hga⟩ : ∃ g, gasK L (fun q => txOf (L q)) 1 ln = g := ⟨_, rfl⟩
      obtain ⟨gb, hgb⟩ : ∃ g, gasK L (fun q => txOf (L q)) 2 ln = g := ⟨_, rfl⟩
      have HFC : Hid (∀ x, HL w b k P S x → Calls Try.prog 41 #[.pointer (some ⟨b, 0, none⟩), .agg #[.slice la ln lc]] x fun e w' => e = .returned (.bool (fitP P ga gb)) ∧ Below x.heap.size x w') := fun x hx => by
        have := pfits_any x b P S hx.pp la ln lc L (fun q => txOf (L q)) HLN.out (HLG.out.below hx.be) HVV.out
        rw [hga, hgb] at this
        exact this
      have HGC : Hid (∀ x, HL w b k P S x → Calls Try.prog 42 #[.agg #[.slice la ln lc]] x fun e w' => e = .returned (.tuple #[.int .u64 ga, .int .u64 gb]) ∧ Below x.heap.size x w') := fun x hx => by
        have := gasOf_any x la ln lc L (fun q => txOf (L q)) HLN.out (HLG.out.below hx.be) HVV.out
        rw [hga, hgb] at this
        exact this
      have HZK : Hid (9 * k ≤ 800000000000) := by show 9 * k ≤ _; have := HSM.out; omega
      have HST : Hid (∀ x, HL w b k P S x → Calls Try.prog 22 #[.pointer (some ⟨b, 0, none⟩), .agg #[.int .i64 kd, .slice la ln lc, .int .u8 ch, .int .i64 pt, .int .u64 gs, .int .u8 ac, .int .u8 tk, .int .u64 am]] x fun e w' => ∃ v, StPost x b S (stepS P kd ln L (fun q => txOf (L q)) ch pt gs ac tk am) (stepAn P kd ln L (fun q => txOf (L q)) ch pt gs ac tk am v) e w') := fun x hx =>
        step_any x w b P S hx.pp (hx.iv.psm HZK.out) hx.be HBb.out hx.ge hx.iv.gi.oa hx.iv.gi.ob kd la ln lc L (fun q => txOf (L q)) HLN.out HLG.out (fun _ => HVV.out) (9 * k) hx.iv.bd HZK.out ch pt gs ac tk am HRR.out.1 HRR.out.2.1 HRR.out.2.2.1 HRR.out.2.2.2.1 HRR.out.2.2.2.2
      have HIN : Hid (Iv (9 * (k + 1)) (stepS P kd ln L (fun q => txOf (L q)) ch pt gs ac tk am)) := iv_step HH2.out.iv (fun q hq => (HVV.out q hq).k) HRR.out.2.1
      have HHE : Hid (∀ v, (kd = 1 ∨ kd = 2) → (stepAn P kd ln L (fun q => txOf (L q)) ch pt gs ac tk am v).code = 0 → fitP P ga gb = true ∧ (stepAn P kd ln L (fun q => txOf (L q)) ch pt gs ac tk am v).r.gas = (ga + gb) % 18446744073709551616) := fun v h1 h2 => by
        have e : stepAn P kd ln L (fun q => txOf (L q)) ch pt gs ac tk am v = ⟨(simR P ln L (fun q => txOf (L q)) v).code, simR P ln L (fun q => txOf (L q)) v, msg0⟩ := if_pos h1
        rw [e] at h2 ⊢
        have := helpers_ok (v := v) HH2.out.iv.gi (fun q hq => (HVV.out q hq).k) h2
        rw [hga, hgb] at this
        exact this
      clear hga hgb
      generalize stepS P kd ln L (fun q => txOf (L q)) ch pt gs ac tk am = P2 at *
      generalize stepAn P kd ln L (fun q => txOf (L q)) ch pt gs ac tk am = AN at *
      generalize fitP P ga gb = ft at *
      go_upto_region 8 with (go_at_call 41; refine (HFC.out w2 HH2.out).mono ?_; rintro e y1 ⟨rfl, hbe⟩; have HY1 := hide hbe; clear hbe; simp only [])
      have HH3 := hide (HH2.out.below HY1.out)
      have HN1 := hide (range_below HN.out (by have := HSZ.out; omega) HY1.out)
      have HS1 : Hid (D < y1.heap.size) := by have := HSZ.out; have := HY1.out.size; show D < _; omega
      clear p0 p1 p2 p3 p4 p5 p6 p7
      have p0 : y1.cell? ⟨D, 0, none⟩ = some (.int .i64 kd) := by have := HN1.out 0 _ rfl; rwa [Nat.zero_add] at this
      have p1 : y1.cell? ⟨D, 1, none⟩ = some (.slice la ln lc) := by have := HN1.out 1 _ rfl; rwa [Nat.zero_add] at this
      have p2 : y1.cell? ⟨D, 2, none⟩ = some (.int .u8 ch) := by have := HN1.out 2 _ rfl; rwa [Nat.zero_add] at this
      have p3 : y1.cell? ⟨D, 3, none⟩ = some (.int .i64 pt) := by have := HN1.out 3 _ rfl; rwa [Nat.zero_add] at this
      have p4 : y1.cell? ⟨D, 4, none⟩ = some (.int .u64 gs) := by have := HN1.out 4 _ rfl; rwa [Nat.zero_add] at this
      have p5 : y1.cell? ⟨D, 5, none⟩ = some (.int .u8 ac) := by have := HN1.out 5 _ rfl; rwa [Nat.zero_add] at this
      have p6 : y1.cell? ⟨D, 6, none⟩ = some (.int .u8 tk) := by have := HN1.out 6 _ rfl; rwa [Nat.zero_add] at this
      have p7 : y1.cell? ⟨D, 7, none⟩ = some (.int .u64 am) := by have := HN1.out 7 _ rfl; rwa [Nat.zero_add] at this
      go_upto_region 9 with (go_at_call 42; refine (HGC.out y1 HH3.out).mono ?_; rintro e y2 ⟨rfl, hbe⟩; have HY2 := hide hbe; clear hbe; simp only [])
      have HH4 := hide (HH3.out.below HY2.out)
      have HN2 := hide (range_below HN1.out HS1.out HY2.out)
      have HS2 : Hid (D < y2.heap.size) := Nat.lt_of_lt_of_le HS1.out HY2.out.size
      clear p0 p1 p2 p3 p4 p5 p6 p7
      have p0 : y2.cell? ⟨D, 0, none⟩ = some (.int .i64 kd) := by have := HN2.out 0 _ rfl; rwa [Nat.zero_add] at this
      have p1 : y2.cell? ⟨D, 1, none⟩ = some (.slice la ln lc) := by have := HN2.out 1 _ rfl; rwa [Nat.zero_add] at this
      have p2 : y2.cell? ⟨D, 2, none⟩ = some (.int .u8 ch) := by have := HN2.out 2 _ rfl; rwa [Nat.zero_add] at this
      have p3 : y2.cell? ⟨D, 3, none⟩ = some (.int .i64 pt) := by have := HN2.out 3 _ rfl; rwa [Nat.zero_add] at this
      have p4 : y2.cell? ⟨D, 4, none⟩ = some (.int .u64 gs) := by have := HN2.out 4 _ rfl; rwa [Nat.zero_add] at this
      have p5 : y2.cell? ⟨D, 5, none⟩ = some (.int .u8 ac) := by have := HN2.out 5 _ rfl; rwa [Nat.zero_add] at this
      have p6 : y2.cell? ⟨D, 6, none⟩ = some (.int .u8 tk) := by have := HN2.out 6 _ rfl; rwa [Nat.zero_add] at this
      have p7 : y2.cell? ⟨D, 7, none⟩ = some (.int .u64 am) := by have := HN2.out 7 _ rfl; rwa [Nat.zero_add] at this
      go_wp2_with (go_at_call 22; refine (HST.out y2 HH4.out).mono ?_; rintro e y3 ⟨v, vo, vr, vs, C, S3, rfl, hrl, hok, hmo, hk3, hp3, hC3⟩; have HRL := hide hrl; have HOK := hide hok; have HMO := hide hmo; have HK3 := hide hk3; have HP3 := hide hp3; clear hrl hok hmo hk3 hp3 hC3; simp only [])
      have HH5 := hide (HH4.out.link HBb.out HK3.out HP3.out HIN.out)
      have HN3 := hide (range_ex HN2.out HS2.out HK3.out.1 (fun e => by
        rcases e with z | z
        · have := HDD.out.1; omega
        · have := HDD.out.2 _ z; omega))
      obtain ⟨F, hF⟩ : ∃ F, (AN v).vals vo vr vs = F := ⟨_, rfl⟩
      have HFl : Hid (F.length = 112) := by rw [← hF]; exact An.len HOK.out HMO.out _ _ _
      have HF1 : Hid (∀ u ∈ F, u.oneCell' = true) := by
        rw [← hF]
        obtain ⟨_, _, e1⟩ := own_form HRL.out.o
        obtain ⟨_, _, e2⟩ := own_form HRL.out.q
        obtain ⟨_, _, e3⟩ := own_form HRL.out.s
        exact An.one _ (by rw [e1]; rfl) (by rw [e2]; rfl) (by rw [e3]; rfl)
      have HF0 : Hid (F[0]? = some (.int .i64 (AN v).code) ∧ F[6]? = some (.int .u64 (AN v).r.gas)) := by rw [← hF]; exact ⟨rfl, rfl⟩
      simp only [hF]
      clear hF
      simp only [Try.sizeOf70, Result.andThen, HFl.out, ↓reduceIte, stNew y3 70 Try.zeroCells70 F 112 Try.sz70 Try.zs70 HFl.out HF1.out]
      rw [Oper.upon_skip]
      simp only [Act.put]
      have HY4 := hide (be1 y3 (.cells F.toArray 70))
      have HA := hide (newR y3 F 70)
      have HH6 := hide (HH5.out.below HY4.out)
      have HN4 := hide (range_below HN3.out (Nat.lt_of_lt_of_le HS2.out HK3.out.1.size) HY4.out)
      obtain ⟨A, hA⟩ : ∃ A, y3.heap.size = A := ⟨_, rfl⟩
      rw [hA] at HA ⊢
      have HS4 : Hid (D < (y3.alloc (.cells F.toArray 70)).heap.size) := Nat.lt_of_lt_of_le (Nat.lt_of_lt_of_le HS2.out HK3.out.1.size) HY4.out.size
      generalize y3.alloc (.cells F.toArray 70) = y4 at *
      clear hA
      clear p0 p1 p2 p3 p4 p5 p6 p7
      have p0 : y4.cell? ⟨D, 0, none⟩ = some (.int .i64 kd) := by have := HN4.out 0 _ rfl; rwa [Nat.zero_add] at this
      have p1 : y4.cell? ⟨D, 1, none⟩ = some (.slice la ln lc) := by have := HN4.out 1 _ rfl; rwa [Nat.zero_add] at this
      have p2 : y4.cell? ⟨D, 2, none⟩ = some (.int .u8 ch) := by have := HN4.out 2 _ rfl; rwa [Nat.zero_add] at this
      have p3 : y4.cell? ⟨D, 3, none⟩ = some (.int .i64 pt) := by have := HN4.out 3 _ rfl; rwa [Nat.zero_add] at this
      have p4 : y4.cell? ⟨D, 4, none⟩ = some (.int .u64 gs) := by have := HN4.out 4 _ rfl; rwa [Nat.zero_add] at this
      have p5 : y4.cell? ⟨D, 5, none⟩ = some (.int .u8 ac) := by have := HN4.out 5 _ rfl; rwa [Nat.zero_add] at this
      have p6 : y4.cell? ⟨D, 6, none⟩ = some (.int .u8 tk) := by have := HN4.out 6 _ rfl; rwa [Nat.zero_add] at this
      have p7 : y4.cell? ⟨D, 7, none⟩ = some (.int .u64 am) := by have := HN4.out 7 _ rfl; rwa [Nat.zero_add] at this
      have q0 : y4.cell? ⟨A, 0, none⟩ = some (.int .i64 (AN v).code) := by have := HA.out 0 _ HF0.out.1; rwa [Nat.zero_add] at this
      have q6 : y4.cell? ⟨A, 6, none⟩ = some (.int .u64 (AN v).r.gas) := by have := HA.out 6 _ HF0.out.2; rwa [Nat.zero_add] at this
      have HX := hide (HHE.out v)
      generalize (AN v).code = cd at *
      generalize (AN v).r.gas = gq at *
      clear p1 p2 p3 p4 p5 p6 p7 HHE HIN HST HGC HFC HF0 HF1 HFl HRL HOK HMO HK3 HP3 HN1 HN2 HN3 HH2 HH3 HH4 HH5 HA HY1 HY2 HY4 HN
      go_upto_region 10 with fail
      go_cut [62] (fun s62 wx => s62 = .bool false ∧ wx = y4)
      case first =>
        by_cases hin : kd = 1 ∨ kd = 2
        · by_cases hz : cd = 0
          · obtain ⟨hft, hgq⟩ := HX.out hin hz
            subst hz hft
            have e9 : (gq != IntKind.u64.wrap (ga + gb)) = false := by rw [hgq, IntKind.wrap_u64]; simp
            clear hgq HX
            rcases hin with rfl | rfl
            · go_wp2
              go_meet
              exact ⟨rfl, rfl⟩
            · go_wp2
              go_meet
              exact ⟨rfl, rfl⟩
          · have e9 : (cd == 0) = false := by simp [hz]
            clear HX
            rcases hin with rfl | rfl
            · go_wp2
              go_meet
              exact ⟨rfl, rfl⟩
            · go_wp2
              go_meet
              exact ⟨rfl, rfl⟩
        · have e1 : (kd == 1) = false := by simp; exact fun e => hin (.inl e)
          have e2 : (kd == 2) = false := by simp; exact fun e => hin (.inr e)
          go_wp2
          go_meet
          exact ⟨rfl, rfl⟩
      obtain ⟨rfl, hwc⟩ := hcut
      subst hwc
      clear q0 q6 p0 HX
      have p1 : wc.cell? ⟨D, 1, none⟩ = some (.slice la ln lc) := by have := HN4.out 1 _ rfl; rwa [Nat.zero_add] at this
      have HLNi : Hid ((ln : Int) ≤ 9223372036854775807) := by have := HLN.out; show (ln : Int) ≤ _; omega
      have HIC : Hid (∀ x, HL w b (k + 1) P2 S3 x → Calls Try.prog 43 #[.agg #[.slice la ln lc]] x fun e w' => e = .returned (.bool (decide (0 < cnt L 1 ln) && decide (0 < cnt L 2 ln))) ∧ Below x.heap.size x w') := fun x hx => by
        have := isCross_any x la ln lc L HLN.out (HLG.out.below hx.be)
        rw [cnt_on, cnt_on] at this
        exact this
      go_wp2
      go_loopw [10, 11, 67] (fun s10 s11 s67 wy => ∃ i : Nat, i ≤ ln ∧ s67 = .int .i64 i ∧ s10 = .int .i64 (cnt L 1 i) ∧ s11 = .int .i64 (cnt L 2 i) ∧ Below wc.heap.size wc wy) (fun _ _ s67 _ => ln - (intOf s67).toNat)
      case atStart => exact ⟨0, Nat.zero_le _, rfl, rfl, rfl, Below.refl _ _⟩
      case round =>
        clear p1
        obtain ⟨i, hi, rfl, rfl, rfl, hb⟩ := hrel
        have HBY := hide hb
        clear hb
        have HH7 := hide (HH6.out.below HBY.out)
        by_cases hil : i < ln
        · have d2 : decide ((i : Int) < (ln : Int)) = true := by simp; omega
          have hii : (i : Int) < (ln : Int) := by omega
          obtain ⟨l2, f2, ha2, hcs, -⟩ := (HLG.out.below HH7.out.be) i hil
          subst ha2
          have HRV : Hid (wr.rangeAt l2 (f2 + i * 86) (legL (L i))) := legRange hcs
          have HL1 : Hid ((legL (L i)).length = 86) := legL_len _
          have HLo := hide (HVV.out i hil).o
          have HLc := hide (HVV.out i hil).c
          have HC1 : Hid (cnt L 1 (i + 1) = if (L i).ch = 1 then cnt L 1 i + 1 else cnt L 1 i) := rfl
          have HC2 : Hid (cnt L 2 (i + 1) = if (L i).ch = 2 then cnt L 2 i + 1 else cnt L 2 i) := rfl
          have b1 := cnt_le L 1 i
          have b2 := cnt_le L 2 i
          have hln := HLN.out
          have hln2 : ln ≤ 9223372036854775807 := hln
          generalize cnt L 1 i = n1 at *
          generalize cnt L 2 i = n2 at *
          generalize (L i).ch = cc at *
          generalize legL (L i) = Lv at *
          clear hcs hln
          go_upto_region 15 with fail
          go_wp2_with fail
          simp only [Try.sizeOf95, Result.andThen]
          rw [Oper.upon_value]
          go_wp2_with fail
          simp only [Try.isAgg95, Try.sizeOf95, Result.andThen, ↓reduceIte, ldC wr l2 (f2 + i * 86) Lv 86 HL1.out HRV.out]
          rw [Oper.upon_value]
          go_wp2_with fail
          simp only [Try.sizeOf95, Result.andThen, HL1.out, ↓reduceIte, stNew wr 95 Try.zeroCells95 Lv 86 sz95 zs95 HL1.out HLo.out]
          rw [Oper.upon_skip]
          simp only [Act.put]
          have HBZ := hide (lec HBY.out (be1 wr (.cells Lv.toArray 95)))
          have HNL := hide (newR wr Lv 95 1 _ HLc.out)
          obtain ⟨E, hE⟩ : ∃ E, wr.heap.size = E := ⟨_, rfl⟩
          rw [hE] at HNL ⊢
          clear hE
          generalize wr.alloc (.cells Lv.toArray 95) = wz at *
          have ce : wz.cell? ⟨E, 1, none⟩ = some (.int .u8 cc) := HNL.out
          clear HRV HLo HLc HL1 HBY HNL
          by_cases c1 : cc = 1
          · subst c1
            rw [if_pos rfl] at HC1
            rw [if_neg (by decide)] at HC2
            go_wp2
            go_roundw
            case rel => exact ⟨i + 1, by omega, by go_num, by rw [HC1.out]; go_num, by rw [HC2.out], HBZ.out⟩
            case measure => simp [intOf]; omega
          · have e1 : (cc == 1) = false := by simp [c1]
            rw [if_neg c1] at HC1
            by_cases c2 : cc = 2
            · subst c2
              rw [if_pos rfl] at HC2
              go_wp2
              go_roundw
              case rel => exact ⟨i + 1, by omega, by go_num, by rw [HC1.out], by rw [HC2.out]; go_num, HBZ.out⟩
              case measure => simp [intOf]; omega
            · have e2 : (cc == 2) = false := by simp [c2]
              rw [if_neg c2] at HC2
              go_wp2
              go_roundw
              case rel => exact ⟨i + 1, by omega, by go_num, by rw [HC1.out], by rw [HC2.out], HBZ.out⟩
              case measure => simp [intOf]; omega
        · obtain rfl : i = ln := by omega
          have d2 : decide ((i : Int) < (i : Int)) = false := by simp
          have HNw := hide (range_below HN4.out HS4.out HBY.out)
          have p1 : wr.cell? ⟨D, 1, none⟩ = some (.slice la i lc) := by have := HNw.out 1 _ rfl; rwa [Nat.zero_add] at this
          have HICw := hide (HIC.out wr HH7.out)
          have HM := hide (show n - (((k : Int) + 1).toNat) < n - (k : Int).toNat by omega)
          generalize cnt L 1 i = n1 at *
          generalize cnt L 2 i = n2 at *
          obtain ⟨x1, hx1⟩ : ∃ x, decide (0 < n1) = x := ⟨_, rfl⟩
          obtain ⟨x2, hx2⟩ : ∃ x, decide (0 < n2) = x := ⟨_, rfl⟩
          rw [hx1, hx2] at HICw
          have y1x : decide ((0 : Int) < (n1 : Int)) = x1 := by rw [← hx1]; simp
          have y2x : decide ((0 : Int) < (n2 : Int)) = x2 := by rw [← hx2]; simp
          cases x1 <;> cases x2
          all_goals
            go_wp2_with (go_at_call 43; refine HICw.out.mono ?_; rintro e y9 ⟨rfl, hbe⟩; have HH9 := hide (HH7.out.below hbe); clear hbe; simp only [])
            go_roundw
            case rel => exact ⟨k + 1, P2, S3, by omega, by go_num, HH9.out⟩
            case measure => simp [intOf]; omega
    · obtain rfl : k = n := by omega
      have d1 : decide ((k : Int) < (k : Int)) = false := by simp
      have HBX := hide HH.out.be
      go_wp2
      go_ret
      exact ⟨rfl, HBX.out⟩
end Go.Proofs.Qxb6500784a
