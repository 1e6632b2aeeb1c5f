import Derived.Test.Qxb6500773aGreatYe
import Derived.Test.Qxb6500773aGreatOz
namespace Go.Proofs.Qxb6500773aGreat
open Go.RowKit

/-! ### The two benches hold the same -/
structure Rl (s : St) (t : Mst) : Prop where
  nv : t.nv = s.f.nv
  F : t.F = clsM s.f.L s.f.E
  A : AsR s.a.k s.a.V t.A
  P : t.P = stpM s.p.L s.p.E s.p.D
  sv : t.sv = s.sf.nv
  SF : t.SF = clsM s.sf.L s.sf.E
  SA : AsR s.sa.k s.sa.V t.SA
  SP : t.SP = stpM s.sp.L s.sp.E s.sp.D
theorem in_iff (a : Int) (n : Nat) : inP a n = true ↔ 0 ≤ a ∧ a < n := by
  unfold inP
  rw [Bool.and_eq_true, decide_eq_true_eq, decide_eq_true_eq]
theorem clP_short (L E : List Int) (i : Nat) : (clP L E i).length ≤ L.length := by
  unfold clP
  rw [List.length_drop, List.length_take]
  omega
theorem cls_ok {z : Nat} {F : Fo} (h : FoOk z F) : FOk2 z (clsM F.L F.E) := by
  refine ⟨by rw [clsM_len]; have := h.len; omega, fun C hC => ?_⟩
  unfold clsM at hC
  obtain ⟨i, hi, rfl⟩ := List.mem_map.1 hC
  refine ⟨by rw [List.length_map]; have := clP_short F.L F.E i; have := h.len; omega, fun x hx => ?_⟩
  obtain ⟨l, hl, rfl⟩ := List.mem_map.1 hx
  exact lit_di (clP_ok (fun x hx => (h.lit x hx).1) i l hl)
theorem stp_ok {z : Nat} {F : Pf} (h : PfOk z F) : POk2 z (stpM F.L F.E F.D) := by
  refine ⟨by rw [stpM_len]; have := h.len; omega, fun C hC => ?_⟩
  unfold stpM at hC
  obtain ⟨i, hi, rfl⟩ := List.mem_map.1 hC
  refine ⟨by rw [List.length_map]; have := clP_short F.L F.E i; have := h.len; omega, fun x hx => ?_⟩
  obtain ⟨l, hl, rfl⟩ := List.mem_map.1 hx
  exact lit_di (clP_ok h.lit i l hl)
/-- what the real bench's bounds say of the model's -/
theorem Rl.ok {z : Nat} {s : St} {t : Mst} (h : Rl s t) (hs : StOk z s) : MsOk z t :=
  ⟨by rw [h.nv]; exact hs.f.nv, by rw [h.sv]; exact hs.sf.nv, by rw [h.F]; exact cls_ok hs.f, by rw [h.SF]; exact cls_ok hs.sf, by rw [h.P]; exact stp_ok hs.p, by rw [h.SP]; exact stp_ok hs.sp, ⟨by have := h.A.len; have := hs.ak; omega, h.A.di⟩, ⟨by have := h.SA.len; have := hs.sk; omega, h.SA.di⟩⟩
theorem b01 {p q : Prop} [Decidable p] [Decidable q] (h : p ↔ q) : (if p then (1 : Int) else 0) = if q then 1 else 0 := by
  by_cases hp : p
  · rw [if_pos hp, if_pos (h.1 hp)]
  · rw [if_neg hp, if_neg (fun z => hp (h.2 z))]
set_option maxHeartbeats 4000000 in
theorem st_mt {z n : Nat} {s s' : St} {t : Mst} {a kd : Int} {X Y : List Int} {T : Nat → Int} {b : Ob} (h : StR s a X T n kd s' b) (hok : StOk z s) (hr : Rl s t) (hx : TX T n Y) : (mtF t a X Y kd).2 = b ∧ Rl s' (mtF t a X Y kd).1 := by
  have hV := hok.a
  have hvr := hok.a.rng
  have hfl : ∀ x ∈ s.f.L, LitOk x := fun x hx => (hok.f.lit x hx).1
  have hF := hr.F
  have hA := hr.A
  have hP := hr.P
  have hFl : t.F.length = s.f.E.length := by rw [hF, clsM_len]
  have hPl : t.P.length = s.p.E.length := by rw [hP, stpM_len]
  have hAl : (t.A.length : Int) = s.a.k := hA.len
  cases h with
  | k0 => exact ⟨rfl, ⟨rfl, rfl, hA.clear, rfl, hr.sv, hr.SF, hr.SA, hr.SP⟩⟩
  | k1 =>
    show (_ : Ob) = _ ∧ Rl _ ({ t with nv := _ } : Mst)
    refine ⟨?_, ⟨?_, hF, hA.grow a, hP, hr.sv, hr.SF, hr.SA, hr.SP⟩⟩
    · show ({ ob0 with er := _, n := (if 0 ≤ a ∧ a ≤ 16777215 ∧ t.nv < a then a else t.nv) } : Ob) = _
      rw [hr.nv]
    · show (if 0 ≤ a ∧ a ≤ 16777215 ∧ t.nv < a then a else t.nv) = _
      rw [hr.nv]
  | k2 =>
    have h1 := hok.f.nv
    have h2 := hr.nv
    show (if t.nv = 16777215 then ({ ob0 with er := 3 } : Ob) else { ob0 with n := t.nv + 1 }) = _ ∧ Rl _ (if t.nv = 16777215 then t else { t with nv := t.nv + 1 })
    by_cases hn : t.nv = 16777215
    · rw [if_pos hn, if_pos hn, if_neg (show ¬ s.f.nv < 16777215 by omega), if_neg (show ¬ s.f.nv < 16777215 by omega), if_neg (show ¬ s.f.nv < 16777215 by omega)]
      exact ⟨rfl, hr.nv, hF, hA, hP, hr.sv, hr.SF, hr.SA, hr.SP⟩
    · rw [if_neg hn, if_neg hn, if_pos (show s.f.nv < 16777215 by omega), if_pos (show s.f.nv < 16777215 by omega), if_pos (show s.f.nv < 16777215 by omega), h2]
      exact ⟨rfl, rfl, hF, hA, hP, hr.sv, hr.SF, hr.SA, hr.SP⟩
  | k3 =>
    show (if ncE X = 0 then ({ ob0 with n := (t.F.length : Int), m := mxA t.nv X } : Ob) else { ob0 with er := ncE X, n := -1, m := t.nv }) = _ ∧ Rl _ (if ncE X = 0 then { t with F := t.F ++ [X], nv := mxA t.nv X } else t)
    by_cases hn : ncE X = 0
    · have hl := lits_ok hn
      have hm : mxA t.nv X = mxV s.f.nv (mxP (X.map packP)) := by
        have := mxA_dim hl t.nv
        rw [map_back] at this
        rw [this, hr.nv, mx_nv hok.f.nv.1]
      rw [if_pos hn, if_pos hn, if_pos hn, if_pos hn, map_dim hn, hFl, hm]
      refine ⟨rfl, rfl, ?_, hA, hP, hr.sv, hr.SF, hr.SA, hr.SP⟩
      show t.F ++ [X] = _
      rw [hF]
      have := clsM_push (C := X.map packP) hok.f.eok hok.f.cls
      rw [map_back] at this
      exact this.symm
    · rw [if_neg hn, if_neg hn, if_neg hn, if_neg hn, hr.nv]
      exact ⟨rfl, hr⟩
  | k4 =>
    show (if (fromP a).2 = 0 then ({ ob0 with n := (asgP t.A a).length } : Ob) else { ob0 with er := (fromP a).2, n := t.A.length }) = _ ∧ Rl _ (if (fromP a).2 = 0 then { t with A := asgP t.A a } else t)
    by_cases hn : (fromP a).2 = 0
    · have hd := fromP_di hn
      have hf : (fromP a).1 = packP a := by rw [from_pack hd.2 hd.1]
      have h1 := hA.set hV hd.1 hd.2
      rw [if_pos hn, if_pos hn, if_pos hn, if_pos hn, hn, hf, h1.len]
      exact ⟨rfl, hr.nv, hF, h1, hP, hr.sv, hr.SF, hr.SA, hr.SP⟩
    · rw [if_neg hn, if_neg hn, if_neg hn, if_neg hn, hAl]
      exact ⟨rfl, hr⟩
  | k5 =>
    show (if (1 ≤ a ∧ a ≤ 16777215) then ({ ob0 with n := (t.A.filter (fun y => absP y != a)).length } : Ob) else { ob0 with er := 3, n := t.A.length }) = _ ∧ Rl _ (if (1 ≤ a ∧ a ≤ 16777215) then { t with A := t.A.filter (fun y => absP y != a) } else t)
    by_cases hn : 1 ≤ a ∧ a ≤ 16777215
    · have h1 := hA.unset hV hn.1
      rw [if_pos hn, if_pos hn, if_pos hn, if_pos hn, h1.len]
      exact ⟨rfl, hr.nv, hF, h1, hP, hr.sv, hr.SF, hr.SA, hr.SP⟩
    · rw [if_neg hn, if_neg hn, if_neg hn, if_neg hn, hAl]
      exact ⟨rfl, hr⟩
  | k6 => exact ⟨rfl, ⟨hr.nv, hF, hA.clear, hP, hr.sv, hr.SF, hr.SA, hr.SP⟩⟩
  | k7 =>
    refine ⟨?_, hr⟩
    show (if (fromP a).2 = 0 then ({ ob0 with n := mvP t.A a, m := 2 * absP a + (if a < 0 then 1 else 0) } : Ob) else { ob0 with er := (fromP a).2 }) = _
    by_cases hn : (fromP a).2 = 0
    · have hd := fromP_di hn
      have hf : (fromP a).1 = packP a := by rw [from_pack hd.2 hd.1]
      have hv := lv_mv hA hvr (di_lit hd.1 hd.2)
      rw [dim_pk] at hv
      have hm : 2 * absP a + (if a < 0 then 1 else 0) = packP a := by unfold absP packP; split <;> omega
      rw [if_pos hn, if_pos hn, hn, hf, hv, hm]
      rfl
    · rw [if_neg hn, if_neg hn]
  | k8 =>
    refine ⟨?_, hr⟩
    show (if (0 ≤ a ∧ a < t.F.length) then ({ ob0 with n := emP (t.F.getD a.toNat []) t.A } : Ob) else { ob0 with er := 4 }) = _
    unfold ecP
    rw [hFl]
    by_cases hn : 0 ≤ a ∧ a < s.f.E.length
    · rw [if_pos hn, if_pos ((in_iff _ _).2 hn), hF, cls_at (by omega), em_eq hA hvr (clP_ok hfl _)]
      rfl
    · rw [if_neg hn, if_neg (fun z => hn ((in_iff _ _).1 z))]
      rfl
  | k9 =>
    refine ⟨?_, hr⟩
    show (if (0 ≤ a ∧ a < t.F.length) then ({ ob0 with n := (msP (t.F.getD a.toNat []) t.A).1, m := (msP (t.F.getD a.toNat []) t.A).2 } : Ob) else { ob0 with er := 4 }) = _
    unfold scP
    rw [hFl]
    by_cases hn : 0 ≤ a ∧ a < s.f.E.length
    · rw [if_pos hn, if_pos ((in_iff _ _).2 hn), hF, cls_at (by omega), ms_eq hA hvr (clP_ok hfl _)]
      rfl
    · rw [if_neg hn, if_neg (fun z => hn ((in_iff _ _).1 z))]
      rfl
  | k10 =>
    refine ⟨?_, hr⟩
    show ({ ob0 with n := mefP t.F t.A, m := if mefP t.F t.A = 1 then 1 else 0 } : Ob) = _
    rw [hF, mef_eq hA hvr hfl]
    have e : feP s.a.V s.f.L s.f.E 0 s.f.E.length 1 = 1 ↔ decide (ffP (fun v => v != 1) s.a.V s.f.L s.f.E 0 s.f.E.length < 0) = true := by rw [fe_one, decide_eq_true_eq, sat_eq]
    rw [b01 e]
  | k11 =>
    refine ⟨?_, hr⟩
    show ({ ob0 with n := mffP t.A t.F 0 } : Ob) = _
    rw [hF, mff_eq hA hvr hfl]
  | k12 =>
    refine ⟨?_, hr⟩
    show (if ncE X = 0 then ({ ob0 with n := if X.any (fun d => memP X (-d)) = true then 1 else 0, X := pcP (srP X) } : Ob) else { ob0 with er := ncE X }) = _
    by_cases hn : ncE X = 0
    · rw [if_pos hn, if_pos hn, map_dim hn, clT_pc, nf_sr, tau_eq (ncE_di hn)]
    · rw [if_neg hn, if_neg hn]
  | k13 =>
    refine ⟨?_, hr⟩
    show ({ ob0 with X := pcP (srP t.A) } : Ob) = _
    rw [clT_pc, true_sr hA hvr]
  | k14 _ _ h =>
    show (fm14 t (fmP Y)).2 = b ∧ Rl s' (fm14 t (fmP Y)).1
    have hd := hd_agree hx
    have hrun : ∀ {hv hc : Int} {p : Plc} {st : FSt}, hdP T n ⟨0, 1, 0⟩ = .ok hv hc p → FRun T n hv hc ⟨p, [], []⟩ st → LnI Y st.p ∧ FOk n hv hc st ∧ fmP Y = fmS Y hv hc st := fun {hv hc p st} e hrn => by
      rw [e] at hd
      rcases hdP_ok (T := T) (n := n) (p := ⟨0, 1, 0⟩) ⟨Nat.zero_le _, by decide, Nat.le_refl _⟩ with ⟨er, q, e1, _⟩ | ⟨v, k, q, e1, hp, e2, e3, e4, e5⟩
      · rw [e] at e1; cases e1
      · rw [e] at e1
        cases e1
        obtain ⟨i1, i2, i3⟩ := fm_run hx (fun h1 h2 => (h1.step h2).1) hrn (fst_ok e4 hp) hd.1
        exact ⟨i1, i2, hd.2.trans i3⟩
    rcases h with ⟨er, ln, col, h0, hc, rfl, rfl⟩ | ⟨hv, hc, p, st, h1, h2, h3, h4, rfl, rfl⟩
    · have hb : fmP Y = .bad er ln col := by
        rcases hc with ⟨p, h1, h2, h3⟩ | ⟨hv, hc, p, st, h1, h2, h3, h4⟩
        · rw [h1] at hd
          rw [h2, h3]
          exact hd
        · obtain ⟨i1, i2, i3⟩ := hrun h1 h2
          have h5 := fm_step hx i2 i1
          rw [h4] at h5
          exact i3.trans h5
      rw [hb]
      refine ⟨?_, hr⟩
      show ({ ob0 with er := er, ln := ln, col := col, n := t.F.length, m := t.nv } : Ob) = _
      rw [hFl, hr.nv]
    · have hb : fmP Y = .ok hv (clsM st.L st.E) := by
        obtain ⟨i1, i2, i3⟩ := hrun h1 h2
        have h5 := fm_step hx i2 i1
        rw [h4] at h5
        exact i3.trans h5
      rw [hb]
      refine ⟨?_, rfl, rfl, hA, hP, hr.sv, hr.SF, hr.SA, hr.SP⟩
      show ({ ob0 with n := (clsM st.L st.E).length, m := hv } : Ob) = _
      rw [clsM_len]
  | k15 =>
    refine ⟨?_, hr⟩
    show ({ ob0 with X := pdP t.nv.toNat t.F } : Ob) = _
    rw [hr.nv, hF, fo_eq hok.f.nv.1]
  | k16 =>
    show (if ncE X = 0 then ({ ob0 with n := (t.P.length : Int) + 1 } : Ob) else { ob0 with er := ncE X, n := t.P.length }) = _ ∧ Rl _ (if ncE X = 0 then { t with P := t.P ++ [(false, X)] } else t)
    by_cases hn : ncE X = 0
    · rw [if_pos hn, if_pos hn, if_pos hn, if_pos hn, map_dim hn, hPl]
      refine ⟨by rw [Int.natCast_add]; rfl, hr.nv, hF, hA, ?_, hr.sv, hr.SF, hr.SA, hr.SP⟩
      show t.P ++ [(false, X)] = _
      rw [hP]
      have := stpM_push (C := X.map packP) hok.p.eok hok.p.dl hok.p.cls false
      rw [map_back] at this
      exact this.symm
    · rw [if_neg hn, if_neg hn, if_neg hn, if_neg hn, hPl]
      exact ⟨rfl, hr⟩
  | k17 =>
    show (if ncE X = 0 then ({ ob0 with n := (t.P.length : Int) + 1 } : Ob) else { ob0 with er := ncE X, n := t.P.length }) = _ ∧ Rl _ (if ncE X = 0 then { t with P := t.P ++ [(true, X)] } else t)
    by_cases hn : ncE X = 0
    · rw [if_pos hn, if_pos hn, if_pos hn, if_pos hn, map_dim hn, hPl]
      refine ⟨by rw [Int.natCast_add]; rfl, hr.nv, hF, hA, ?_, hr.sv, hr.SF, hr.SA, hr.SP⟩
      show t.P ++ [(true, X)] = _
      rw [hP]
      have := stpM_push (C := X.map packP) hok.p.eok hok.p.dl hok.p.cls true
      rw [map_back] at this
      exact this.symm
    · rw [if_neg hn, if_neg hn, if_neg hn, if_neg hn, hPl]
      exact ⟨rfl, hr⟩
  | k18 _ _ h =>
    show (dr18 t (drP Y)).2 = b ∧ Rl s' (dr18 t (drP Y)).1
    obtain ⟨st, h1, _, ⟨er, ln, col, h2, _, rfl, rfl⟩ | ⟨h2, rfl, rfl⟩⟩ := h
    · rw [(dr_agree hx h1).2.1 er ln col h2]
      refine ⟨?_, hr⟩
      show ({ ob0 with er := er, ln := ln, col := col, n := t.P.length } : Ob) = _
      rw [hPl]
    · rw [(dr_agree hx h1).2.2 h2]
      refine ⟨?_, hr.nv, hF, hA, rfl, hr.sv, hr.SF, hr.SA, hr.SP⟩
      show ({ ob0 with n := (stpM st.L st.E st.D).length } : Ob) = _
      rw [stpM_len]
  | k19 =>
    refine ⟨?_, hr⟩
    show ({ ob0 with X := ptB t.P } : Ob) = _
    rw [hP, dr_eq]
  | k20 =>
    show (if ncE X = 0 then ({ ob0 with n := (X.foldl asgP t.A).length } : Ob) else { ob0 with er := ncE X, n := t.A.length }) = _ ∧ Rl _ (if ncE X = 0 then { t with A := X.foldl asgP t.A } else t)
    by_cases hn : ncE X = 0
    · have h1 := AsR.sets hA hV (ncE_di hn)
      rw [if_pos hn, if_pos hn, if_pos hn, if_pos hn, map_dim hn, h1.len]
      exact ⟨rfl, hr.nv, hF, h1, hP, hr.sv, hr.SF, hr.SA, hr.SP⟩
    · rw [if_neg hn, if_neg hn, if_neg hn, if_neg hn, hAl]
      exact ⟨rfl, hr⟩
  | k21 =>
    refine ⟨?_, hr⟩
    show ({ ob0 with n := if mtotP t.A 1 a.toNat = true then 1 else 0 } : Ob) = _
    rw [total_eq hA hvr]
  | k22 =>
    refine ⟨?_, hr⟩
    show (if ncE X = 0 then (if (0 ≤ a ∧ a < t.F.length) then ({ ob0 with n := cmP X (t.F.getD a.toNat []), m := if cmP X (t.F.getD a.toNat []) = 0 then 1 else 0 } : Ob) else { ob0 with er := 4 }) else { ob0 with er := ncE X }) = _
    rw [hFl]
    by_cases hn : ncE X = 0
    · rw [if_pos hn, if_pos hn, map_dim hn]
      by_cases hi : 0 ≤ a ∧ a < s.f.E.length
      · have hl := lits_ok hn
        have hc := clP_ok hfl (E := s.f.E) a.toNat
        have e1 : cmP X (t.F.getD a.toNat []) = cmpP (X.map packP) (clZ s.f.L s.f.E a) := by
          unfold clZ
          rw [if_pos ((in_iff _ _).2 hi), hF, cls_at (by omega)]
          have := cm_eq hl hc
          rw [map_back] at this
          exact this
        have e2 : cmP X (t.F.getD a.toNat []) = 0 ↔ ((X.map packP) == clZ s.f.L s.f.E a) = true := by
          unfold clZ
          rw [if_pos ((in_iff _ _).2 hi), hF, cls_at (by omega), cm_zero, beq_iff_eq]
          constructor
          · intro e
            refine map_dim_inj hl hc ?_
            rw [map_back, e]
          · intro e
            rw [← e, map_back]
        rw [if_pos hi, if_pos ((in_iff _ _).2 hi), b01 e2, e1]
      · rw [if_neg hi, if_neg (fun z => hi ((in_iff _ _).1 z))]
    · rw [if_neg hn, if_neg hn]
  | k23 =>
    refine ⟨?_, hr⟩
    show (if (0 ≤ a ∧ a < t.F.length) then ({ ob0 with n := 1, X := pcP (t.F.getD a.toNat []) } : Ob) else { ob0 with X := pcP [] }) = _
    unfold clZ
    rw [hFl, clT_pc]
    by_cases hi : 0 ≤ a ∧ a < s.f.E.length
    · rw [if_pos hi, if_pos ((in_iff _ _).2 hi), if_pos ((in_iff _ _).2 hi), hF, cls_at (by omega)]
    · rw [if_neg hi, if_neg (fun z => hi ((in_iff _ _).1 z)), if_neg (fun z => hi ((in_iff _ _).1 z))]
      rfl
  | k24 =>
    refine ⟨?_, hr⟩
    show (if (0 ≤ a ∧ a < t.P.length) then ({ ob0 with n := 1, X := ptB [t.P.getD a.toNat (false, [])] } : Ob) else { ob0 with X := pcP [] }) = _
    unfold clZ dlZ
    rw [hPl, stT_pt]
    by_cases hi : 0 ≤ a ∧ a < s.p.E.length
    · rw [if_pos hi, if_pos ((in_iff _ _).2 hi), if_pos ((in_iff _ _).2 hi), if_pos ((in_iff _ _).2 hi), hP, stp_at (by omega)]
      congr 1
      unfold ptB
      simp
    · rw [if_neg hi, if_neg (fun z => hi ((in_iff _ _).1 z)), if_neg (fun z => hi ((in_iff _ _).1 z)), if_neg (fun z => hi ((in_iff _ _).1 z))]
      rfl
  | k25 =>
    refine ⟨?_, hr⟩
    show ({ ob0 with n := mxQ 0 t.P, m := emQ t.P } : Ob) = _
    rw [hP, mxQ_eq hok.p.eok hok.p.cls hok.p.lit, emQ_eq]
  | k26 => exact ⟨rfl, ⟨hr.nv, hF, hA, hP, hr.nv, hF, hA, hP⟩⟩
  | k27 => exact ⟨rfl, ⟨hr.sv, hr.SF, hr.SA, hr.SP, hr.sv, hr.SF, hr.SA, hr.SP⟩⟩
  | k28 =>
    refine ⟨?_, hr⟩
    have hsl : ∀ x ∈ s.sf.L, LitOk x := fun x hx => (hok.sf.lit x hx).1
    have e1 : sfP t.nv t.F t.sv t.SF = true ↔ (s.f.nv == s.sf.nv && (s.f.E == s.sf.E && s.f.L == s.sf.L)) = true := by
      rw [sf_iff, hr.nv, hr.sv, hF, hr.SF, clsM_inj hok.f.eok hok.sf.eok hok.f.cls hok.sf.cls hfl hsl]
      simp
    have e2 := eqa_eq hA hr.SA hV hok.sa
    have e3 : ssP t.P t.SP = true ↔ (s.p.E == s.sp.E && s.p.L == s.sp.L && s.p.D == s.sp.D) = true := by
      rw [ss_iff, hP, hr.SP, stpM_inj hok.p.eok hok.sp.eok hok.p.cls hok.sp.cls hok.p.dl hok.sp.dl hok.p.lit hok.sp.lit]
      simp
    have f1 : (s.f.nv == s.sf.nv && (s.f.E == s.sf.E && s.f.L == s.sf.L)) = true ↔ (s.sf.nv == s.f.nv && (s.sf.E == s.f.E && s.sf.L == s.f.L)) = true := by
      simp only [Bool.and_eq_true, beq_iff_eq]
      exact ⟨fun z => ⟨z.1.symm, z.2.1.symm, z.2.2.symm⟩, fun z => ⟨z.1.symm, z.2.1.symm, z.2.2.symm⟩⟩
    have f2 := eqa_eq hr.SA hA hok.sa hV
    have f2' : cmP (srP t.SA) (srP t.A) = 0 ↔ cmP (srP t.A) (srP t.SA) = 0 := by rw [cm_zero, cm_zero]; exact eq_comm
    have f3 : (s.p.E == s.sp.E && s.p.L == s.sp.L && s.p.D == s.sp.D) = true ↔ (s.sp.E == s.p.E && s.sp.L == s.p.L && s.sp.D == s.p.D) = true := by
      simp only [Bool.and_eq_true, beq_iff_eq]
      exact ⟨fun z => ⟨⟨z.1.1.symm, z.1.2.symm⟩, z.2.symm⟩, fun z => ⟨⟨z.1.1.symm, z.1.2.symm⟩, z.2.symm⟩⟩
    show ({ ob0 with n := 4 * (if sfP t.nv t.F t.sv t.SF = true then 1 else 0) + 2 * (if cmP (srP t.A) (srP t.SA) = 0 then 1 else 0) + (if ssP t.P t.SP = true then 1 else 0), m := 4 * (if sfP t.nv t.F t.sv t.SF = true then 1 else 0) + 2 * (if cmP (srP t.A) (srP t.SA) = 0 then 1 else 0) + (if ssP t.P t.SP = true then 1 else 0) } : Ob) = _
    rw [b01 e1, b01 e2.symm, b01 e3]
    congr 1
    rw [b01 f1, b01 (e2.trans (f2'.symm.trans f2.symm)), b01 f3]
  | oth _ hk =>
    have : mtF t a X Y kd = (t, ob0) := if_neg hk
    rw [this]
    exact ⟨rfl, hr⟩
/-- the new benches -/
def mst0 : Mst := ⟨0, [], [], [], 0, [], [], []⟩
theorem rl0 : Rl st0 mst0 := ⟨rfl, rfl, AsR.nil (fun v => by cases v with | zero => rfl | succ v => rfl), rfl, rfl, rfl, AsR.nil (fun v => rfl), rfl⟩
end Go.Proofs.Qxb6500773aGreat
