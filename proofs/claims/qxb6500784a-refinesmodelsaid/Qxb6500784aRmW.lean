import Derived.Test.Qxb6500784aMs
import Derived.Test.Qxb6500784aNw
import Derived.Test.Qxb6500784aSn2
import Derived.Test.Qxb6500784aAn0
namespace Go.Proofs.Qxb6500784a
open Go.RowKit

attribute [-simp] Try.isAgg95 Try.sizeOf95 Try.typeInfo95 Try.isAgg70 Try.sizeOf70 Try.typeInfo70 Try.isAgg65 Try.sizeOf65 Try.typeInfo65 Try.isAgg56 Try.sizeOf56 Try.typeInfo56 Try.isAgg63 Try.sizeOf63 Try.typeInfo63
attribute [local irreducible] rootP shaP
/-- The model's world beside the pair. -/
structure RM (w x : World) (b bw : Nat) (P : Pr) (S Sw : List Nat) : Prop where
  pw : PP x bw P Sw
  ge : ∀ j, j ∈ Sw → w.heap.size ≤ j
  gw : w.heap.size ≤ bw
  nb : b ≠ bw ∧ b ∉ Sw
  nw : bw ∉ S
  dj : ∀ j, j ∈ S → j ∉ Sw
theorem RM.below {w x y : World} {b bw : Nat} {P : Pr} {S Sw : List Nat} (h : RM w x b bw P S Sw) (k : Below x.heap.size x y) : RM w y b bw P S Sw := ⟨h.pw.below k, h.ge, h.gw, h.nb, h.nw, h.dj⟩
theorem RM.pair {w x y : World} {b bw : Nat} {P : Pr} {S Sw S' : List Nat} (h : RM w x b bw P S Sw) (l : Link x b S y S') : RM w y b bw P S' Sw := by
  refine ⟨h.pw.ex l.1 (fun e => e.elim (fun z => h.nb.1 z.symm) h.nw) (fun k hk e => e.elim (fun z => h.nb.2 (z ▸ hk)) (fun z => h.dj k z hk)), h.ge, h.gw, h.nb, fun e => ?_, fun j hj hk => ?_⟩
  · rcases l.2 _ e with z | z
    · exact h.nw z
    · have := h.pw.bl; omega
  · rcases l.2 j hj with z | z
    · exact h.dj j z hk
    · have := h.pw.lt hk; omega
theorem RM.world {w x y : World} {b bw k : Nat} {P P' Q : Pr} {S Sw Sw' : List Nat} (h : RM w x b bw P S Sw) (hh : HL w b k Q S x) (l : Link x bw Sw y Sw') (p : PP y bw P' Sw') : RM w y b bw P' S Sw' ∧ HL w b k Q S y := by
  have hx := hh.be.size
  refine ⟨⟨p, fun j hj => ?_, h.gw, ⟨h.nb.1, fun e => ?_⟩, h.nw, fun j hj hk => ?_⟩, ⟨hh.iv, hh.pp.ex l.1 (fun e => e.elim h.nb.1 h.nb.2) (fun k hk e => e.elim (fun z => h.nw (z ▸ hk)) (fun z => h.dj k hk z)), below_of hh.be h.gw h.ge l, hh.ge⟩⟩
  · rcases l.2 j hj with z | z
    · exact h.ge j z
    · omega
  · rcases l.2 _ e with z | z
    · exact h.nb.2 z
    · have := hh.pp.bl; omega
  · rcases l.2 j hk with z | z
    · exact h.dj j hj z
    · have := hh.pp.lt hj; omega
set_option linter.unusedSimpArgs false in
set_option maxRecDepth 100000 in
set_option maxHeartbeats 8000000 in
theorem refinesModel_walk (w : World) (a : Option Addr) (n cap : Nat) (O : Nat → OpR) (hn : n ≤ 9223372036854775807) (ho : OpsAt4 w a n O) :
    Calls Try.prog 6 #[.slice a n cap] w fun e w' => e = .returned (.bool true) ∧ Below w.heap.size w w' := by
  have HO := hide ho.1.1.1
  have HO4 := hide ho.2
  clear ho
  go_enter Try.func6, Try.ntmps6
  go_wp2_with fail
  refine (small_n _ a n cap O hn HO.out).mono ?_
  rintro e w ⟨bb, ⟨rfl, rfl⟩, hsmall⟩
  cases bb
  · go_wp2
    go_ret
    exact ⟨rfl, Below.refl _ _⟩
  have HSM := hide (hsmall rfl)
  clear hsmall
  go_upto_region 4 with (go_at_call 19; refine (newPairL_any _).mono ?_; rintro e w1 ⟨rfl, S0, hp, hb, hg⟩; have HH0 : Hid (HL w w.heap.size 0 pr0 S0 w1) := (⟨iv0, hp, hb, hg⟩ : HL w w.heap.size 0 pr0 S0 w1); clear hp hb hg; simp only [])
  obtain ⟨b, hb⟩ : ∃ b, w.heap.size = b := ⟨_, rfl⟩
  have HBb : Hid (w.heap.size ≤ b) := by rw [← hb]; exact Nat.le_refl _
  simp only [hb] at HH0 ⊢
  clear hb
  go_upto_region 5 with (go_at_call 29; refine (newWorld_any _).mono ?_; rintro e y0 ⟨U, Sw0, rfl, hU, hb, hg⟩; have HU := hide hU; have HB0 := hide hb; have HG0 := hide hg; clear hU hb hg; simp only [])
  have HUl : Hid (U.length = 667) := HU.out.len
  have HU1 : Hid (∀ u ∈ U, u.oneCell' = true) := HU.out.one
  simp only [Try.sizeOf56, Result.andThen, HUl.out, ↓reduceIte, stNew y0 56 Try.zeroCells56 U 667 Try.sz56 Try.zs56 HUl.out HU1.out]
  rw [Oper.upon_skip]
  simp only [Act.put]
  have HB1 := hide (lec HB0.out (be1 y0 (.cells U.toArray 56)))
  obtain ⟨bw, hbw⟩ : ∃ A, y0.heap.size = A := ⟨_, rfl⟩
  have HRM0 : Hid (RM w (y0.alloc (.cells U.toArray 56)) b bw pr0 S0 Sw0) := by
    have q0 := HH0.out.be.size
    have q1 := HB0.out.size
    have q2 := HH0.out.pp.bl
    refine ⟨?_, fun j hj => by have := HG0.out j hj; omega, by omega, ⟨by omega, fun e => by have := HG0.out _ e; omega⟩, fun e => by have := HH0.out.pp.lt e; omega, fun j hj hk => by have := HH0.out.pp.lt hj; have := HG0.out j hk; omega⟩
    rw [← hbw]
    have hth := newT y0 U 56
    rw [HUl.out] at hth
    exact (HU.out.below (be1 y0 (.cells U.toArray 56))).pp (newR y0 U 56) hth (by simp) (fun e => by have := HU.out.lt e; omega)
  replace HH0 := hide (HH0.out.below HB1.out)
  rw [hbw]
  generalize y0.alloc (.cells U.toArray 56) = y1 at *
  clear hbw HU HB0 HG0 HUl HU1 HB1
  go_wp2
  go_loopw [15] (fun s20 wr => ∃ (k : Nat) (P : Pr) (S : List Nat), k ≤ n ∧ s20 = .int .i64 k ∧ HL w b k P S wr ∧ ∃ Sw, RM w wr b bw P S Sw) (fun s20 _ => n - (intOf s20).toNat)
  case atStart => exact ⟨0, pr0, S0, Nat.zero_le _, rfl, HH0.out, Sw0, HRM0.out⟩
  case round =>
    clear HH0 HRM0
    obtain ⟨k, P, S, hk, rfl, hh, Sw, hrm⟩ := hrel
    have HH := hide hh
    clear hh
    have HRM := hide hrm
    clear hrm
    by_cases hlt : k < n
    · have d1 : decide ((k : Int) < (n : Int)) = true := by simp; omega
      have hki : (k : Int) < (n : Int) := by omega
      obtain ⟨lb, off, ha, hc, hop⟩ := (HO.out.below HH.out.be) k hlt
      subst ha
      obtain ⟨⟨kd, ch, pt, gs, ac, tk, am, hv, hr1, hr2, hr3, hr4, hr5⟩⟩ := (HO4.out k hlt).1
      have HRR := hide (And.intro hr1 (And.intro hr2 (And.intro hr3 (And.intro hr4 hr5))))
      have HVV := hide (HO4.out k hlt).2
      have HLN := hide hop.ln
      have HLG : Hid (LegsAt w (O k).la (O k).ln (O k).L) := by
        obtain ⟨_, _, _, _, h5⟩ := HO.out k hlt
        exact h5.legs
      have o0 : wr.cell? ⟨lb, off + k * 8, none⟩ = some (.int .i64 kd) := by have := hc 0 (by omega); rw [hv 0 (by omega)] at this; exact this
      have o1 : wr.cell? ⟨lb, off + k * 8 + 1, none⟩ = some (.slice (O k).la (O k).ln (O k).lc) := by have := hc 1 (by omega); rw [hv 1 (by omega)] at this; exact this
      have o2 : wr.cell? ⟨lb, off + k * 8 + 2, none⟩ = some (.int .u8 ch) := by have := hc 2 (by omega); rw [hv 2 (by omega)] at this; exact this
      have o3 : wr.cell? ⟨lb, off + k * 8 + 3, none⟩ = some (.int .i64 pt) := by have := hc 3 (by omega); rw [hv 3 (by omega)] at this; exact this
      have o4 : wr.cell? ⟨lb, off + k * 8 + 4, none⟩ = some (.int .u64 gs) := by have := hc 4 (by omega); rw [hv 4 (by omega)] at this; exact this
      have o5 : wr.cell? ⟨lb, off + k * 8 + 5, none⟩ = some (.int .u8 ac) := by have := hc 5 (by omega); rw [hv 5 (by omega)] at this; exact this
      have o6 : wr.cell? ⟨lb, off + k * 8 + 6, none⟩ = some (.int .u8 tk) := by have := hc 6 (by omega); rw [hv 6 (by omega)] at this; exact this
      have o7 : wr.cell? ⟨lb, off + k * 8 + 7, none⟩ = some (.int .u64 am) := by have := hc 7 (by omega); rw [hv 7 (by omega)] at this; exact this
      clear hc hop hv hr1 hr2 hr3 hr4 hr5
      generalize (O k).la = la at *
      generalize (O k).ln = ln at *
      generalize (O k).lc = lc at *
      generalize (O k).L = L at *
      have HBE := hide (be1 wr (.cells #[.int .i64 kd, .slice la ln lc, .int .u8 ch, .int .i64 pt, .int .u64 gs, .int .u8 ac, .int .u8 tk, .int .u64 am] 33))
      have HN := hide (newR wr [.int .i64 kd, .slice la ln lc, .int .u8 ch, .int .i64 pt, .int .u64 gs, .int .u8 ac, .int .u8 tk, .int .u64 am] 33)
      go_upto_region 8 with fail
      obtain ⟨D, hD⟩ : ∃ D, wr.heap.size = D := ⟨_, rfl⟩
      have HSZ : Hid ((wr.alloc (.cells #[.int .i64 kd, .slice la ln lc, .int .u8 ch, .int .i64 pt, .int .u64 gs, .int .u8 ac, .int .u8 tk, .int .u64 am] 33)).heap.size = D + 1) := by show _ = _; rw [← hD]; simp
      have HDD : Hid (b < D ∧ ∀ j, j ∈ S → j < D) := by rw [← hD]; exact ⟨HH.out.pp.bl, fun j hj => HH.out.pp.lt hj⟩
      have HH2 := hide (HH.out.below HBE.out)
      have HRM2 := hide (HRM.out.below HBE.out)
      have HBD : Hid (bw < D ∧ ∀ j, j ∈ Sw → j < D) := by rw [← hD]; exact ⟨HRM.out.pw.bl, fun j hj => HRM.out.pw.lt hj⟩
      clear HRM
      rw [hD] at HN ⊢
      clear hD o0 o1 o2 o3 o4 o5 o6 o7 HH
      generalize wr.alloc (.cells #[.int .i64 kd, .slice la ln lc, .int .u8 ch, .int .i64 pt, .int .u64 gs, .int .u8 ac, .int .u8 tk, .int .u64 am] 33) = w2 at *
      clear HBE
      have HZK : Hid (9 * k ≤ 800000000000) := by show 9 * k ≤ _; have := HSM.out; omega
      have HST : Hid (∀ (S : List Nat) (x : World), HL w b k P S x → Calls Try.prog 22 #[.pointer (some ⟨b, 0, none⟩), .agg #[.int .i64 kd, .slice la ln lc, .int .u8 ch, .int .i64 pt, .int .u64 gs, .int .u8 ac, .int .u8 tk, .int .u64 am]] x fun e w' => ∃ v, StPost x b S (stepS P kd ln L (fun q => txOf (L q)) ch pt gs ac tk am) (stepAn P kd ln L (fun q => txOf (L q)) ch pt gs ac tk am v) e w') := fun S x hx =>
        step_any x w b P S hx.pp (hx.iv.psm HZK.out) hx.be HBb.out hx.ge hx.iv.gi.oa hx.iv.gi.ob kd la ln lc L (fun q => txOf (L q)) HLN.out HLG.out (fun _ => HVV.out) (9 * k) hx.iv.bd HZK.out ch pt gs ac tk am HRR.out.1 HRR.out.2.1 HRR.out.2.2.1 HRR.out.2.2.2.1 HRR.out.2.2.2.2
      have HIN : Hid (Iv (9 * (k + 1)) (stepS P kd ln L (fun q => txOf (L q)) ch pt gs ac tk am)) := iv_step HH2.out.iv (fun q hq => (HVV.out q hq).k) HRR.out.2.1
      have p0 : w2.cell? ⟨D, 0, none⟩ = some (.int .i64 kd) := by have := HN.out 0 _ rfl; rwa [Nat.zero_add] at this
      have p1 : w2.cell? ⟨D, 1, none⟩ = some (.slice la ln lc) := by have := HN.out 1 _ rfl; rwa [Nat.zero_add] at this
      have p2 : w2.cell? ⟨D, 2, none⟩ = some (.int .u8 ch) := by have := HN.out 2 _ rfl; rwa [Nat.zero_add] at this
      have p3 : w2.cell? ⟨D, 3, none⟩ = some (.int .i64 pt) := by have := HN.out 3 _ rfl; rwa [Nat.zero_add] at this
      have p4 : w2.cell? ⟨D, 4, none⟩ = some (.int .u64 gs) := by have := HN.out 4 _ rfl; rwa [Nat.zero_add] at this
      have p5 : w2.cell? ⟨D, 5, none⟩ = some (.int .u8 ac) := by have := HN.out 5 _ rfl; rwa [Nat.zero_add] at this
      have p6 : w2.cell? ⟨D, 6, none⟩ = some (.int .u8 tk) := by have := HN.out 6 _ rfl; rwa [Nat.zero_add] at this
      have p7 : w2.cell? ⟨D, 7, none⟩ = some (.int .u64 am) := by have := HN.out 7 _ rfl; rwa [Nat.zero_add] at this
      have HAE : Hid (∀ v v', (stepAn P kd ln L (fun q => txOf (L q)) ch pt gs ac tk am v).code = (stepAn P kd ln L (fun q => txOf (L q)) ch pt gs ac tk am v').code ∧ RsE (stepAn P kd ln L (fun q => txOf (L q)) ch pt gs ac tk am v).r (stepAn P kd ln L (fun q => txOf (L q)) ch pt gs ac tk am v').r ∧ (stepAn P kd ln L (fun q => txOf (L q)) ch pt gs ac tk am v).m = (stepAn P kd ln L (fun q => txOf (L q)) ch pt gs ac tk am v').m) := fun v v' => stepAn_E _ _ _ _ _ _ _ _ _ _ _ v v'
      have HZK2 : Hid (9 * (k + 1) ≤ 800000000000) := by show 9 * (k + 1) ≤ _; have := HSM.out; omega
      have HPM := hide (HH2.out.iv.psm HZK.out)
      have HOA := hide (And.intro HH2.out.iv.gi.oa HH2.out.iv.gi.ob)
      have HMT : Hid (∀ (Sw : List Nat) (x : World), PP x bw P Sw → Below w.heap.size w x → Calls Try.prog 31 #[.pointer (some ⟨bw, 0, none⟩), .agg #[.int .i64 kd, .slice la ln lc, .int .u8 ch, .int .i64 pt, .int .u64 gs, .int .u8 ac, .int .u8 tk, .int .u64 am]] x fun e w' => ∃ v, StPost x bw Sw (stepS P kd ln L (fun q => txOf (L q)) ch pt gs ac tk am) (stepAn P kd ln L (fun q => txOf (L q)) ch pt gs ac tk am v) e w') := fun Sw x hx hb =>
        mstep_any x bw P Sw hx HPM.out HOA.out.1 HOA.out.2 kd la ln lc L (fun q => txOf (L q)) HLN.out (HLG.out.below hb) (legs_one HVV.out) (fun _ => HVV.out) (9 * k) HH2.out.iv.bd HZK.out ch pt gs ac tk am HRR.out.2.1 HRR.out.2.2.1 HRR.out.2.2.2.1 HRR.out.2.2.2.2
      have HPM2 : Hid (PSm (stepS P kd ln L (fun q => txOf (L q)) ch pt gs ac tk am)) := HIN.out.psm HZK2.out
      generalize stepS P kd ln L (fun q => txOf (L q)) ch pt gs ac tk am = P2 at *
      generalize stepAn P kd ln L (fun q => txOf (L q)) ch pt gs ac tk am = AN at *
      clear p0 p1 p2 p3 p4 p5 p6 p7
      have HDW : Hid (bw < D ∧ ∀ j, j ∈ Sw → j < D) := ⟨HBD.out.1, fun j hj => HBD.out.2 j hj⟩
      go_upto_region 8 with fail
      go_cut [25] (fun s25 wx => s25 = .bool false ∧ ∃ S' Sw', HL w b (k + 1) P2 S' wx ∧ RM w wx b bw P2 S' Sw')
      case first =>
        refine wp_region_held_drew (S := fun w' => w'.rangeAt D 0 [.int .i64 kd, .slice la ln lc, .int .u8 ch, .int .i64 pt, .int .u64 gs, .int .u8 ac, .int .u8 tk, .int .u64 am]) (by kernel_rfl) HN.out (fun hHeld => ?_)
        have HH3 := hide (HH2.out.below ((Below.refl w2.heap.size w2).drew))
        have HRM3 := hide (HRM2.out.below ((Below.refl w2.heap.size w2).drew))
        have HZD : Hid (D < w2.drew.heap.size) := by have := ((Below.refl w2.heap.size w2).drew).size; have := HSZ.out; show _ < _; omega
        clear HH2 HRM2 HN
        generalize w2.drew = w4 at *
        refine wpAnyH_take (i := 0) (v := ?_) rfl (by kernel_rfl) (by kernel_rfl) (by kernel_rfl) (fun _ _ _ h => h) (Or.inl ⟨by rfl, ?_⟩) (by assumption) ?_
        rotate_left
        · (intro w hSw; (try dsimp only at hSw); go_simp; try (with_reducible rfl))
        try simp only [Act.put, List.getElem_toArray, List.getElem_cons_zero, List.getElem_cons_succ, List.setIfInBounds_toArray, List.set_cons_zero, List.set_cons_succ]
        refine wpAnyH_take (i := 1) rfl (by kernel_rfl) (by kernel_rfl) (by kernel_rfl) (fun _ _ _ h => h) (yieldsIf_load_mid (by rfl) 33 (.tmp 6) rfl D 0 rfl [.int .i64 kd, .slice la ln lc, .int .u8 ch, .int .i64 pt, .int .u64 gs, .int .u8 ac, .int .u8 tk, .int .u64 am] _ (fun w hSw => hSw) Try.underlying33 rfl (by kernel_rfl)) (by assumption) ?_
        try simp only [Act.put, List.getElem_toArray, List.getElem_cons_zero, List.getElem_cons_succ, List.setIfInBounds_toArray, List.set_cons_zero, List.set_cons_succ]
        refine wpAnyH_take (i := 3) rfl (by kernel_rfl) (by kernel_rfl) (by kernel_rfl) (fun _ _ _ h => h) (yieldsIf_load_mid (by rfl) 33 (.tmp 6) rfl D 0 rfl [.int .i64 kd, .slice la ln lc, .int .u8 ch, .int .i64 pt, .int .u64 gs, .int .u8 ac, .int .u8 tk, .int .u64 am] _ (fun w hSw => hSw) Try.underlying33 rfl (by kernel_rfl)) (by assumption) ?_
        try simp only [Act.put, List.getElem_toArray, List.getElem_cons_zero, List.getElem_cons_succ, List.setIfInBounds_toArray, List.set_cons_zero, List.set_cons_succ]
        refine wpAnyH_ready (rs := [2]) (by kernel_rfl) (by simp) ?_
        refine (AllReadyH.cons rfl (fun K hK => ?_) AllReadyH.nil)
        refine step_call rfl 22 #[.pointer (some ⟨b, 0, none⟩), .agg #[.int .i64 kd, .slice la ln lc, .int .u8 ch, .int .i64 pt, .int .u64 gs, .int .u8 ac, .int .u8 tk, .int .u64 am]] (by simp [go_sem]) (HST.out S w4 HH3.out) ?_
        rintro e y1 ⟨v, vo, vr, vs, C, S5, rfl, hrl, hok, hmo, hk5, hp5, hC5⟩
        have HRL := hide hrl
        have HOK := hide hok
        have HMO := hide hmo
        have HKa := hide hk5
        have HCa := hide hC5
        have HHa := hide (HH3.out.link HBb.out hk5 hp5 HIN.out)
        have HRa := hide (HRM3.out.pair hk5)
        skip
        clear hrl hok hmo hk5 hp5 hC5
        refine ⟨_, rfl, ?_⟩
        refine hK.out _ _ ?_ (fun hHeld => ?_)
        · exact range_ex hHeld (by have := HZD.out; omega) HKa.out.1 (fun e => by
          rcases e with z | z
          · have := HDD.out.1; omega
          · have := HDD.out.2 _ z; omega)
        clear hK K
        try simp only [Act.put, List.getElem_toArray, List.getElem_cons_zero, List.getElem_cons_succ, List.setIfInBounds_toArray, List.set_cons_zero, List.set_cons_succ]
        refine wpAnyH_ready (rs := [4]) (by kernel_rfl) (by simp) ?_
        refine (AllReadyH.cons rfl (fun K hK => ?_) AllReadyH.nil)
        refine step_call rfl 31 #[.pointer (some ⟨bw, 0, none⟩), .agg #[.int .i64 kd, .slice la ln lc, .int .u8 ch, .int .i64 pt, .int .u64 gs, .int .u8 ac, .int .u8 tk, .int .u64 am]] (by simp [go_sem]) (HMT.out Sw y1 HRa.out.pw HHa.out.be) ?_
        rintro e y2 ⟨v', uo, ur, us, C', S6, rfl, hrl, hok, hmo, hk6, hp6, hC6⟩
        have HRLb := hide hrl
        have HOKb := hide hok
        have HKb := hide hk6
        have HCb := hide hC6
        obtain ⟨hrm, hhl⟩ := HRa.out.world HHa.out hk6 hp6
        have HRM4 := hide hrm
        have HH4 := hide hhl
        have HRL2 := hide (HRL.out.keep hk6.1 (fun j hj e => by rcases e with z | z; (have := (HCa.out j hj).1; have := HRM3.out.pw.bl; omega); (have := (HCa.out j hj).1; have := HRM3.out.pw.lt z; omega)))
        clear hrl hok hmo hk6 hp6 hC6 hrm hhl
        refine ⟨_, rfl, ?_⟩
        refine hK.out _ _ ?_ (fun hHeld => ?_)
        · exact range_ex hHeld (by have := HZD.out; have := HKa.out.1.size; omega) HKb.out.1 (fun e => by
          rcases e with z | z
          · have := HDW.out.1; omega
          · have := HDW.out.2 _ z; omega)
        clear hK K
        try simp only [Act.put, List.getElem_toArray, List.getElem_cons_zero, List.getElem_cons_succ, List.setIfInBounds_toArray, List.set_cons_zero, List.set_cons_succ]
        refine wpAnyH_ready (rs := [5]) (by kernel_rfl) (by simp) ?_
        refine (AllReadyH.cons rfl (fun K hK => ?_) AllReadyH.nil)
        refine step_call rfl 30 #[.agg ((AN v).vals vo vr vs).toArray, .agg ((AN v').vals uo ur us).toArray] (by simp [go_sem]) (sameA_any y2 (AN v) (AN v') vo vr vs uo ur us C C' HRL2.out HRLb.out (HAE.out v v').1 (HAE.out v v').2.1 (HAE.out v v').2.2 HOK.out HOKb.out HMO.out) ?_
        rintro e y3 ⟨rfl, hbe⟩
        have HHz := hide (HH4.out.below hbe)
        have HRz := hide (HRM4.out.below hbe)
        have HBy := hide hbe
        clear hbe
        refine ⟨_, rfl, ?_⟩
        refine hK.out _ _ ?_ (fun hHeld => ?_)
        · exact range_below hHeld (by have := HZD.out; have := HKa.out.1.size; have := HKb.out.1.size; omega) HBy.out
        clear hK K
        try simp only [Act.put, List.getElem_toArray, List.getElem_cons_zero, List.getElem_cons_succ, List.setIfInBounds_toArray, List.set_cons_zero, List.set_cons_succ]
        refine wpAnyH_take (i := 6) (v := ?_) rfl (by kernel_rfl) (by kernel_rfl) (by kernel_rfl) (fun _ _ _ h => h) (Or.inl ⟨by rfl, ?_⟩) (by assumption) ?_
        rotate_left
        · (intro w hSw; (try dsimp only at hSw); go_simp; try (with_reducible rfl))
        try simp only [Act.put, List.getElem_toArray, List.getElem_cons_zero, List.getElem_cons_succ, List.setIfInBounds_toArray, List.set_cons_zero, List.set_cons_succ]
        refine wpAnyH_done (by kernel_rfl) ?_ _
        go_wp2_with fail
        go_meet
        exact ⟨rfl, _, _, HHz.out, HRz.out⟩
      obtain ⟨rfl, S5, Sw5, hh5, hr5⟩ := hcut
      obtain ⟨y3, hy3⟩ : ∃ W', W' = wc := ⟨_, rfl⟩
      subst hy3
      have HH5 := hide hh5
      have HRM5 := hide hr5
      clear hh5 hr5 HMT HST HAE HH2 HRM2 HN HDW HBD
      go_upto_region 11 with (go_at_call 20; refine (worldNew y3 b P2 S5 HH5.out.pp HPM2.out).mono ?_; rintro e y7 ⟨F9, S9, rfl, hl1, ho1, hb1, hs1, hp1⟩; have HF9l := hide hl1; have HF91 := hide ho1; have HB7 := hide hb1; have HP9 := hide hp1; clear hl1 ho1 hb1 hs1 hp1; simp only [])
      simp only [Try.sizeOf56, Result.andThen, HF9l.out, ↓reduceIte, stNew y7 56 Try.zeroCells56 F9 667 Try.sz56 Try.zs56 HF9l.out HF91.out]
      rw [Oper.upon_skip]
      simp only [Act.put]
      have HB8 := hide (lec HB7.out (be1 y7 (.cells F9.toArray 56)))
      obtain ⟨A9, hA9⟩ : ∃ A, y7.heap.size = A := ⟨_, rfl⟩
      rw [hA9] at HP9 ⊢
      generalize y7.alloc (.cells F9.toArray 56) = y8 at *
      clear hA9 HF9l HF91 HB7
      have HH8 := hide (HH5.out.below HB8.out)
      have HRM8 := hide (HRM5.out.below HB8.out)
      have HSA : Hid (Calls Try.prog 23 #[.pointer (some ⟨A9, 0, none⟩), .pointer (some ⟨bw, 0, none⟩)] y8 fun e w' => e = .returned (.bool true) ∧ Below y8.heap.size y8 w') := sameP_any y8 A9 bw P2 S9 Sw5 HP9.out HRM8.out.pw HPM2.out
      clear HH5 HRM5 HB8 HP9
      go_upto_region 13 with (go_at_call 23; refine HSA.out.mono ?_; rintro e y9 ⟨rfl, hbe⟩; have HH9 := hide (HH8.out.below hbe); have HRM9 := hide (HRM8.out.below hbe); clear hbe; simp only [])
      clear HSA HH8 HRM8
      go_wp2_with fail
      go_roundw
      case rel => exact ⟨k + 1, P2, S5, by omega, by go_num, HH9.out, Sw5, HRM9.out⟩
      case measure => simp [intOf]; omega
    · obtain rfl : k = n := by omega
      have d1 : decide ((k : Int) < (k : Int)) = false := by simp
      have HBX := hide HH.out.be
      go_wp2
      go_ret
      exact ⟨rfl, HBX.out⟩
end Go.Proofs.Qxb6500784a
