import Derived.Test.Qxb6500773aGreatYf
import Derived.Test.Qxb6500773aGreatLt0
import Derived.Test.Qxb6500773aGreatOf
namespace Go.Proofs.Qxb6500773aGreat
open Go.RowKit

/-- both benches in memory, as sameState reads them -/
structure SSt (w : World) (B r m fb ab pb : Nat) (va ve vb vc vd vf : Value) (s : St) (fa : Option Addr) (fc : Nat) (aa : Option Addr) (ac : Nat) (pa : Option Addr) (pc : Nat) (t : Mst) : Prop where
  p0 : w.cell? ⟨r, 0, none⟩ = some (.pointer (some ⟨fb, 0, none⟩))
  p1 : w.cell? ⟨r, 1, none⟩ = some (.pointer (some ⟨ab, 0, none⟩))
  p2 : w.cell? ⟨r, 2, none⟩ = some (.pointer (some ⟨pb, 0, none⟩))
  ff : FF w B fb va ve s.f.nv s.f.L s.f.E
  at_ : AT w B ab vb s.a.k s.a.V
  pf : PF w B pb vc vd vf s.p.L s.p.E s.p.D
  m0 : w.cell? ⟨m, 0, none⟩ = some (.int .i64 t.nv)
  m1 : w.cell? ⟨m, 1, none⟩ = some (.slice fa t.F.length fc)
  m2 : w.cell? ⟨m, 2, none⟩ = some (.slice aa t.A.length ac)
  m3 : w.cell? ⟨m, 3, none⟩ = some (.slice pa t.P.length pc)
  fl : FL w fa t.F
  il : IL w aa t.A
  sl : SL w pa t.P
theorem SSt.keep {w w' : World} {B r m fb ab pb : Nat} {va ve vb vc vd vf : Value} {s : St} {fa : Option Addr} {fc : Nat} {aa : Option Addr} {ac : Nat} {pa : Option Addr} {pc : Nat} {t : Mst} (h : SSt w B r m fb ab pb va ve vb vc vd vf s fa fc aa ac pa pc t) (e : Ex (fun _ => False) w w') : SSt w' B r m fb ab pb va ve vb vc vd vf s fa fc aa ac pa pc t :=
  ⟨e.cell (fun z => z) h.p0, e.cell (fun z => z) h.p1, e.cell (fun z => z) h.p2, h.ff.keepZ e (fun z => z) (fun _ _ z => z) (fun _ _ z => z), h.at_.keep e (fun z => z) (fun _ _ z => z), h.pf.keepZ e (fun z => z) (fun _ _ z => z) (fun _ _ z => z) (fun _ _ z => z), e.cell (fun z => z) h.m0, e.cell (fun z => z) h.m1, e.cell (fun z => z) h.m2, e.cell (fun z => z) h.m3, h.fl.keep e, h.il.keep e (fun _ _ _ z => z), h.sl.keep e⟩
theorem sst_of {w : World} {B r m : Nat} {P : Nat → Nat} {S : Nat → Nat → Prop} {s : St} (h : BN w B r P S (QS B s)) {X : Nat → Prop} {V : Nat → Value} {S' : Nat → Nat → Prop} {t : Mst} (hm : MN w B m X V S' (QM B t) t.nv t.sv) :
    ∃ fb ab pb va ve vb vc vd vf fa fc aa ac pa pc, SSt w B r m fb ab pb va ve vb vc vd vf s fa fc aa ac pa pc t := by
  obtain ⟨va, ve, hf, _⟩ := h.ob 0 (by decide)
  obtain ⟨vb, ha, _⟩ := h.ob 1 (by decide)
  obtain ⟨vc, vd, vf, hp, _⟩ := h.ob 2 (by decide)
  obtain ⟨fa, fc, e1, h1, _⟩ := FMq.fl (hm.ob 0 (by decide))
  obtain ⟨pa, pc, e2, h2, _⟩ := PMq.sl (hm.ob 1 (by decide))
  obtain ⟨aa, ac, e3, h3, _⟩ := AMq.il (hm.ob 4 (by decide))
  exact ⟨P 0, P 1, P 2, va, ve, vb, vc, vd, vf, fa, fc, aa, ac, pa, pc, h.ptr 0 (by decide), h.ptr 1 (by decide), h.ptr 2 (by decide), hf, ha, hp, hm.c0, by rw [← e1]; exact hm.c 0 (by decide), by rw [← e3]; exact hm.c 4 (by decide), by rw [← e2]; exact hm.c 1 (by decide), h1, h3, h2⟩
set_option linter.unusedSimpArgs false in
set_option maxRecDepth 100000 in
set_option maxHeartbeats 16000000 in
/-- cnflaw.sameState, at related benches -/
theorem sameState_any (w : World) (B r m z : Nat) {fb ab pb : Nat} {va ve vb vc vd vf : Value} {s : St} {fa : Option Addr} {fc : Nat} {aa : Option Addr} {ac : Nat} {pa : Option Addr} {pc : Nat} {t : Mst} (h : SSt w B r m fb ab pb va ve vb vc vd vf s fa fc aa ac pa pc t) (hok : StOk z s) (hz : z ≤ 65536) (hr : Rl s t) :
    Calls Tryz.prog 11 #[.pointer (some ⟨r, 0, none⟩), .pointer (some ⟨m, 0, none⟩)] w (ExPost w (.bool true)) := by
  have HS := hide h
  have HK := hide hok
  have HR := hide hr
  have HZ := hide hz
  have HFE : Hid (t.F.length = s.f.E.length ∧ s.f.E.length ≤ 65536 ∧ s.f.L.length ≤ 65536) := by have := hok.f.len; exact ⟨by rw [hr.F, clsM_len], by omega, by omega⟩
  have HPE : Hid (t.P.length = s.p.E.length ∧ s.p.E.length ≤ 65536 ∧ s.p.L.length ≤ 65536) := by have := hok.p.len; exact ⟨by rw [hr.P, stpM_len], by omega, by omega⟩
  clear h hok hr hz
  have KE : ∀ w', Ex (fun _ => False) w w' → Hid (SSt w' B r m fb ab pb va ve vb vc vd vf s fa fc aa ac pa pc t) := fun w' e => hide (HS.out.keep e)
  obtain ⟨nv, hnv⟩ : ∃ x, s.f.nv = x := ⟨_, rfl⟩
  obtain ⟨nf, hnf⟩ : ∃ x, s.f.E.length = x := ⟨_, rfl⟩
  have HNV : Hid (s.f.nv = nv ∧ t.nv = nv ∧ s.f.E.length = nf ∧ t.F.length = nf ∧ nf ≤ 65536) := ⟨hnv, by rw [HR.out.nv]; exact hnv, hnf, by rw [HFE.out.1]; exact hnf, by rw [← hnf]; exact HFE.out.2.1⟩
  have c29 : Hid (∀ w', Ex (fun _ => False) w w' → Calls Tryz.prog 29 #[.pointer (some ⟨fb, 0, none⟩)] w' fun e w2 => e = .returned (.int .i64 nv) ∧ w2 = w') := fun w' e => by have := numVars_any w' B fb va ve _ _ _ (KE w' e).out.ff; rw [hnv] at this; exact this
  have c50 : Hid (∀ w', Ex (fun _ => False) w w' → Calls Tryz.prog 50 #[.pointer (some ⟨fb, 0, none⟩)] w' fun e w2 => e = .returned (.int .i64 nf) ∧ w2 = w') := fun w' e => by have := numClauses_any w' B fb va ve _ _ (KE w' e).out.ff.ar; rw [hnf] at this; exact this
  clear hnv hnf
  have p0 := HS.out.p0
  have m0 := HS.out.m0
  have m1 := HS.out.m1
  rw [HNV.out.2.1] at m0
  rw [HNV.out.2.2.2.1] at m1
  have hne : (nv != nv) = false := by simp
  have hne2 : ((nf : Int) != (nf : Int)) = false := by simp
  have HEX0 : Hid (Ex (fun _ => False) w w) := Ex.refl _ _
  go_enter Tryz.func11, Tryz.ntmps11
  go_upto_region 1 with fail
  go_quiet (first | (go_at_call 29; refine Calls.quiet_of_same (c29.out _ (HEX0.out.drewN _))) | (go_at_call 50; refine Calls.quiet_of_same (c50.out _ (HEX0.out.drewN _))))
  rename_i nq
  have HEX1 : Hid (Ex (fun _ => False) w (World.drewN w nq)) := HEX0.out.drewN nq
  clear p0 m0 m1 hne hne2 c29 c50 HEX0
  have m1 : (World.drewN w nq).cell? ⟨m, 1, none⟩ = some (.slice fa nf fc) := by have := (KE _ HEX1.out).out.m1; rw [HNV.out.2.2.2.1] at this; exact this
  generalize World.drewN w nq = w1 at *
  go_upto_region 4 with fail
  clear m1
  go_loopw [5, 6, 42] (fun _ _ s42 wx => ∃ (i : Nat), s42 = .int .i64 i ∧ i ≤ nf ∧ Hid (Ex (fun _ => False) w wx)) (fun _ _ s42 _ => nf - (intOf s42).toNat)
  case atStart => exact ⟨0, rfl, Nat.zero_le _, HEX1⟩
  case round =>
    clear HEX1
    obtain ⟨i, rfl, hi, HE⟩ := hrel
    generalize hgw : wr = wl at *
    clear hgw
    have hw1 : wrap64 ((i : Int) + 1) = ((i + 1 : Nat) : Int) := by have := HNV.out.2.2.2.2; unfold wrap64; omega
    by_cases hlt : i < nf
    · have hib : decide ((i : Int) < (nf : Int)) = true := decide_eq_true (by omega)
      have hii : (i : Int) < (nf : Int) := by omega
      have HIE : Hid (i < s.f.E.length) := by have := HNV.out.2.2.1; show _ < _; omega
      have HCC : Hid (t.F[i]? = some ((clP s.f.L s.f.E i).map dimP)) := by
        show _ = _
        rw [HR.out.F]
        unfold clsM
        rw [List.getElem?_map, List.getElem?_range HIE.out]
        rfl
      have HLO := hide (clP_ok (E := s.f.E) (fun x hx => (HK.out.f.lit x hx).1) i)
      have HLE : Hid ((clP s.f.L s.f.E i).length ≤ 65536) := by have := clP_short s.f.L s.f.E i; have := HFE.out.2.2; show _ ≤ _; omega
      obtain ⟨g, off, a1, c1, eg, x0, hil, -, -⟩ := (KE _ HE.out).out.fl i _ HCC.out
      have HIL := hide hil
      clear hil
      subst eg
      rw [List.length_map] at x0
      have p0 := (KE _ HE.out).out.p0
      have cc := hide (fClause_any wl B fb va ve _ _ (KE _ HE.out).out.ff.ar HK.out.f.eok (by have := HFE.out; omega) i HIE.out)
      generalize clP s.f.L s.f.E i = C at *
      obtain ⟨lc, hlc⟩ : ∃ x, C.length = x := ⟨_, rfl⟩
      rw [hlc] at x0
      have HLC := hide hlc
      clear hlc
      go_upto_region 6 with fail
      go_wp2_with fail
      refine cc.out.mono ?_
      rintro e w3 ⟨a3, c3, rfl, hc3, b3⟩
      have HE3 : Hid (Ex (fun _ => False) w w3) := HE.out.trans2 (Ex.of (S := fun _ => False) b3) (fun _ z => z.elim)
      have c98 := hide (sameLits_any w3 a3 c3 C a1 c1 hc3 (HIL.out.keep (Ex.of (S := fun _ => False) b3) (fun _ _ _ z => z)) HLO.out (by have := HLE.out; omega))
      rw [HLC.out] at c98 ⊢
      clear hc3 b3 cc HE HIL x0 p0
      go_wp2_with fail
      refine c98.out.mono ?_
      rintro e w4 ⟨rfl, b4⟩
      have HE4 : Hid (Ex (fun _ => False) w w4) := HE3.out.trans2 (Ex.of (S := fun _ => False) b4) (fun _ z => z.elim)
      clear b4 HE3 c98 hib hii HCC
      go_wp2
      go_roundw
      case rel => exact ⟨i + 1, by go_num, by omega, HE4⟩
      case measure => exact meas_lt (i := i) (by go_num) rfl hlt
    have hib : decide ((i : Int) < (nf : Int)) = false := decide_eq_false (by omega)
    have hin : ¬ (i : Int) < (nf : Int) := by omega
    clear hw1
    go_upto_region 9 with fail
    clear hib hin hlt hi
    obtain ⟨na, hna⟩ : ∃ x, t.A.length = x := ⟨_, rfl⟩
    have HNA := hide hna
    clear hna
    have HNAL : Hid (na ≤ 65536) := by have h1 := (HR.out.ok HK.out).A.len; have := HZ.out; rw [HNA.out] at h1; show _ ≤ _; omega
    have HTR : Hid ((trueP s.a.V (if s.a.V.length = 0 then 1 else s.a.V.length)).map dimP = srP t.A) := true_sr HR.out.A HK.out.a.rng
    have HTL : Hid (∀ x ∈ trueP s.a.V (if s.a.V.length = 0 then 1 else s.a.V.length), LitOk x) := fun x hx => by
      have h1 : dimP x ∈ srP t.A := by rw [← HTR.out]; exact List.mem_map_of_mem hx
      have h2 := HR.out.A.di _ (((sr_all t.A).1 _).1 h1)
      have h3 : 2 ≤ x := by
        unfold trueP at hx
        obtain ⟨v, hv, e⟩ := List.mem_map.1 hx
        have h4 := of_decide_eq_true (List.mem_filter.1 hv).2
        split at e <;> omega
      have h5 := h2.1
      unfold DI dimP at h5
      unfold LitOk
      split at h5 <;> omega
    have HTN : Hid ((trueP s.a.V (if s.a.V.length = 0 then 1 else s.a.V.length)).length ≤ 65536) := by
      have h1 := congrArg List.length HTR.out
      rw [List.length_map] at h1
      have h2 := srP_len t.A t.A.length
      rw [List.take_length, HNA.out] at h2
      have := HNAL.out
      show _ ≤ _
      omega
    have HE0 : Hid (Ex (fun _ => False) w wl.drew) := HE.out.drew
    have c48 := hide (trueLits_any wl.drew B ab vb _ _ (KE _ HE0.out).out.at_ HK.out.a)
    have KS0 : Hid ((fun w' => w'.cell? ⟨r, 1, none⟩ = some (.pointer (some ⟨ab, 0, none⟩)) ∧ w'.cell? ⟨m, 2, none⟩ = some (.slice aa na ac)) wl.drew) := ⟨(KE _ HE0.out).out.p1, by have := (KE _ HE0.out).out.m2; rw [HNA.out] at this; exact this⟩
    clear HE
    generalize trueP s.a.V (if s.a.V.length = 0 then 1 else s.a.V.length) = TC at *
    obtain ⟨nt, hnt⟩ : ∃ x, TC.length = x := ⟨_, rfl⟩
    have HNT := hide hnt
    clear hnt
    have HNS : Hid ((srP t.A).length = nt) := by show _ = _; rw [← HTR.out, List.length_map, HNT.out]
    refine wp_region_held_drew (S := fun w' => w'.cell? ⟨r, 1, none⟩ = some (.pointer (some ⟨ab, 0, none⟩)) ∧ w'.cell? ⟨m, 2, none⟩ = some (.slice aa na ac)) (by kernel_rfl) KS0.out (fun hHeld => ?_)
    refine wpAnyH_take (i := 0) (v := ?_) rfl (by kernel_rfl) (by kernel_rfl) (by kernel_rfl) (fun _ _ _ h => h) (Or.inl ⟨by rfl, ?_⟩) (by assumption) ?_
    rotate_left
    · (intro w hSw; (try dsimp only at hSw); go_simp; try (with_reducible rfl))
    try simp only [Act.put, List.getElem_toArray, List.getElem_cons_zero, List.getElem_cons_succ, List.setIfInBounds_toArray, List.set_cons_zero, List.set_cons_succ]
    refine wpAnyH_take (i := 1) (v := ?_) rfl (by kernel_rfl) (by kernel_rfl) (by kernel_rfl) (fun _ _ _ h => h) (Or.inl ⟨by rfl, ?_⟩) (by assumption) ?_
    rotate_left
    · (intro w hSw; (try dsimp only at hSw); go_simp; try (with_reducible rfl))
    try simp only [Act.put, List.getElem_toArray, List.getElem_cons_zero, List.getElem_cons_succ, List.setIfInBounds_toArray, List.set_cons_zero, List.set_cons_succ]
    refine wpAnyH_take (i := 2) (v := ?_) rfl (by kernel_rfl) (by kernel_rfl) (by kernel_rfl) (fun _ _ _ h => h) (Or.inl ⟨by rfl, ?_⟩) (by assumption) ?_
    rotate_left
    · (intro w hSw; (try dsimp only at hSw); go_simp; try (with_reducible rfl))
    try simp only [Act.put, List.getElem_toArray, List.getElem_cons_zero, List.getElem_cons_succ, List.setIfInBounds_toArray, List.set_cons_zero, List.set_cons_succ]
    refine wpAnyH_take (i := 3) (v := ?_) rfl (by kernel_rfl) (by kernel_rfl) (by kernel_rfl) (fun _ _ _ h => h) (Or.inl ⟨by rfl, ?_⟩) (by assumption) ?_
    rotate_left
    · (intro w hSw; (try dsimp only at hSw); (obtain ⟨z0, z1⟩ := hSw); go_simp; try (with_reducible rfl))
    try simp only [Act.put, List.getElem_toArray, List.getElem_cons_zero, List.getElem_cons_succ, List.setIfInBounds_toArray, List.set_cons_zero, List.set_cons_succ]
    refine wpAnyH_take (i := 5) (v := ?_) rfl (by kernel_rfl) (by kernel_rfl) (by kernel_rfl) (fun _ _ _ h => h) (Or.inl ⟨by rfl, ?_⟩) (by assumption) ?_
    rotate_left
    · (intro w hSw; (try dsimp only at hSw); go_simp; try (with_reducible rfl))
    try simp only [Act.put, List.getElem_toArray, List.getElem_cons_zero, List.getElem_cons_succ, List.setIfInBounds_toArray, List.set_cons_zero, List.set_cons_succ]
    refine wpAnyH_take (i := 6) (v := ?_) rfl (by kernel_rfl) (by kernel_rfl) (by kernel_rfl) (fun _ _ _ h => h) (Or.inl ⟨by rfl, ?_⟩) (by assumption) ?_
    rotate_left
    · (intro w hSw; (try dsimp only at hSw); go_simp; try (with_reducible rfl))
    try simp only [Act.put, List.getElem_toArray, List.getElem_cons_zero, List.getElem_cons_succ, List.setIfInBounds_toArray, List.set_cons_zero, List.set_cons_succ]
    refine wpAnyH_take (i := 7) (v := ?_) rfl (by kernel_rfl) (by kernel_rfl) (by kernel_rfl) (fun _ _ _ h => h) (Or.inl ⟨by rfl, ?_⟩) (by assumption) ?_
    rotate_left
    · (intro w hSw; (try dsimp only at hSw); go_simp; try (with_reducible rfl))
    try simp only [Act.put, List.getElem_toArray, List.getElem_cons_zero, List.getElem_cons_succ, List.setIfInBounds_toArray, List.set_cons_zero, List.set_cons_succ]
    refine wpAnyH_take (i := 8) (v := ?_) rfl (by kernel_rfl) (by kernel_rfl) (by kernel_rfl) (fun _ _ _ h => h) (Or.inl ⟨by rfl, ?_⟩) (by assumption) ?_
    rotate_left
    · (intro w hSw; (try dsimp only at hSw); (obtain ⟨z0, z1⟩ := hSw); go_simp; try (with_reducible rfl))
    try simp only [Act.put, List.getElem_toArray, List.getElem_cons_zero, List.getElem_cons_succ, List.setIfInBounds_toArray, List.set_cons_zero, List.set_cons_succ]
    refine wpAnyH_ready (rs := [4]) (by kernel_rfl) (by simp) ?_
    refine (AllReadyH.cons rfl (fun K hK => ?_) AllReadyH.nil)
    · refine step_call rfl 48 #[.pointer (some ⟨ab, 0, none⟩)] (by simp [go_sem]) c48.out ?_
      rintro e w3 ⟨a3, c3, rfl, hr3, hx3⟩
      clear c48
      have HE3 : Hid (Ex (fun _ => False) w w3) := HE0.out.trans2 hx3 (fun _ z => z.elim)
      have KS1 : Hid ((fun w' => w'.cell? ⟨r, 1, none⟩ = some (.pointer (some ⟨ab, 0, none⟩)) ∧ w'.cell? ⟨m, 2, none⟩ = some (.slice aa na ac)) w3) := ⟨(KE _ HE3.out).out.p1, by have := (KE _ HE3.out).out.m2; rw [HNA.out] at this; exact this⟩
      have HC3 := hide (row_cl hr3)
      clear hr3 hx3
      rw [HNT.out]
      have c87 : Hid (Calls Tryz.prog 87 #[.slice aa na ac] w3 (MlPost w3 (srP t.A))) := by have := sortedM_any w3 aa ac t.A (KE _ HE3.out).out.il (by rw [HNA.out]; have := HNAL.out; omega) (fun x hx => di_64 (HR.out.A.di x hx).1); rw [HNA.out] at this; exact this
      refine ⟨_, rfl, ?_⟩
      refine hK.out _ _ ?_ (fun hHeld => ?_)
      · (first | with_reducible exact KS0.out | with_reducible exact KS1.out | with_reducible exact KS2.out | with_reducible exact KS3.out)
      clear hK K
      try simp only [Act.put, List.getElem_toArray, List.getElem_cons_zero, List.getElem_cons_succ, List.setIfInBounds_toArray, List.set_cons_zero, List.set_cons_succ]
      refine wpAnyH_ready (rs := [9]) (by kernel_rfl) (by simp) ?_
      refine (AllReadyH.cons rfl (fun K hK => ?_) AllReadyH.nil)
      · refine step_call rfl 87 #[.slice aa na ac] (by simp [go_sem]) c87.out ?_
        rintro e w4 ⟨a4, c4, rfl, hr4, hx4⟩
        clear c87
        have HE4 : Hid (Ex (fun _ => False) w w4) := HE3.out.trans2 hx4 (fun _ z => z.elim)
        have KS2 : Hid ((fun w' => w'.cell? ⟨r, 1, none⟩ = some (.pointer (some ⟨ab, 0, none⟩)) ∧ w'.cell? ⟨m, 2, none⟩ = some (.slice aa na ac)) w4) := ⟨(KE _ HE4.out).out.p1, by have := (KE _ HE4.out).out.m2; rw [HNA.out] at this; exact this⟩
        have HI4 := hide (row_il hr4)
        have HC4 := hide (HC3.out.keep hx4 (fun _ _ _ z => z))
        clear hr4 hx4
        rw [HNS.out]
        have c98 : Hid (Calls Tryz.prog 98 #[.slice a3 nt c3, .slice a4 nt c4] w4 (SaPost w4 true)) := by have := sameLits_any w4 a3 c3 TC a4 c4 HC4.out (by rw [HTR.out]; exact HI4.out) HTL.out (by have := HTN.out; omega); rw [HNT.out] at this; exact this
        refine ⟨_, rfl, ?_⟩
        refine hK.out _ _ ?_ (fun hHeld => ?_)
        · (first | with_reducible exact KS0.out | with_reducible exact KS1.out | with_reducible exact KS2.out | with_reducible exact KS3.out)
        clear hK K
        try simp only [Act.put, List.getElem_toArray, List.getElem_cons_zero, List.getElem_cons_succ, List.setIfInBounds_toArray, List.set_cons_zero, List.set_cons_succ]
        refine wpAnyH_ready (rs := [10]) (by kernel_rfl) (by simp) ?_
        refine (AllReadyH.cons rfl (fun K hK => ?_) AllReadyH.nil)
        · refine step_call rfl 98 #[.slice a3 nt c3, .slice a4 nt c4] (by simp [go_sem]) c98.out ?_
          rintro e w5 ⟨rfl, b5⟩
          clear c98
          have HE5 : Hid (Ex (fun _ => False) w w5) := HE4.out.trans2 (Ex.of (S := fun _ => False) b5) (fun _ z => z.elim)
          have KS3 : Hid ((fun w' => w'.cell? ⟨r, 1, none⟩ = some (.pointer (some ⟨ab, 0, none⟩)) ∧ w'.cell? ⟨m, 2, none⟩ = some (.slice aa na ac)) w5) := ⟨(KE _ HE5.out).out.p1, by have := (KE _ HE5.out).out.m2; rw [HNA.out] at this; exact this⟩
          clear b5
          refine ⟨_, rfl, ?_⟩
          refine hK.out _ _ ?_ (fun hHeld => ?_)
          · (first | with_reducible exact KS0.out | with_reducible exact KS1.out | with_reducible exact KS2.out | with_reducible exact KS3.out)
          clear hK K
          try simp only [Act.put, List.getElem_toArray, List.getElem_cons_zero, List.getElem_cons_succ, List.setIfInBounds_toArray, List.set_cons_zero, List.set_cons_succ]
          refine wpAnyH_take (i := 11) (v := ?_) rfl (by kernel_rfl) (by kernel_rfl) (by kernel_rfl) (fun _ _ _ h => h) (Or.inl ⟨by rfl, ?_⟩) (by assumption) ?_
          rotate_left
          · (intro w hSw; (try dsimp only at hSw); go_simp; try (with_reducible rfl))
          try simp only [Act.put, List.getElem_toArray, List.getElem_cons_zero, List.getElem_cons_succ, List.setIfInBounds_toArray, List.set_cons_zero, List.set_cons_succ]
          refine wpAnyH_done (by kernel_rfl) ?_ _
          clear KS0 KS1 KS2 KS3 HE0 HE3 HE4 HC3 HC4 HI4
          have HE1 := HE5
          clear HE5
          obtain ⟨np, hnp⟩ : ∃ x, s.p.E.length = x := ⟨_, rfl⟩
          have HNP : Hid (s.p.E.length = np ∧ t.P.length = np ∧ np ≤ 65536) := ⟨hnp, by rw [HPE.out.1]; exact hnp, by rw [← hnp]; exact HPE.out.2.1⟩
          have c53 : Hid (∀ w', Ex (fun _ => False) w w' → Calls Tryz.prog 53 #[.pointer (some ⟨pb, 0, none⟩)] w' fun e w2 => e = .returned (.int .i64 np) ∧ w2 = w') := fun w' e => by have := numSteps_any w' B pb vc vd _ _ (KE w' e).out.pf.ar; rw [hnp] at this; exact this
          clear hnp
          have p2 := (KE _ HE1.out).out.p2
          have m3 := (KE _ HE1.out).out.m3
          rw [HNP.out.2.1] at m3
          have hne : ((np : Int) != (np : Int)) = false := by simp
          go_upto_region 11 with fail
          go_quiet (first | (go_at_call 53; refine Calls.quiet_of_same (c53.out _ (HE1.out.drewN _))))
          rename_i nq
          have HE2 : Hid (Ex (fun _ => False) w (World.drewN w5 nq)) := HE1.out.drewN nq
          clear p2 m3 hne c53 HE1
          have m3 : (World.drewN w5 nq).cell? ⟨m, 3, none⟩ = some (.slice pa np pc) := by have := (KE _ HE2.out).out.m3; rw [HNP.out.2.1] at this; exact this
          generalize World.drewN w5 nq = w6 at *
          go_upto_region 14 with fail
          clear m3
          go_loopw [7, 8, 9, 10, 85] (fun _ _ _ _ s85 wx => ∃ (i : Nat), s85 = .int .i64 i ∧ i ≤ np ∧ Hid (Ex (fun _ => False) w wx)) (fun _ _ _ _ s85 _ => np - (intOf s85).toNat)
          case atStart => exact ⟨0, rfl, Nat.zero_le _, HE2⟩
          case round =>
            clear HE2
            obtain ⟨i, rfl, hi, HE⟩ := hrel
            generalize hgw : wr = wk at *
            clear hgw
            have hw1 : wrap64 ((i : Int) + 1) = ((i + 1 : Nat) : Int) := by have := HNP.out.2.2; unfold wrap64; omega
            by_cases hlt : i < np
            · have hib : decide ((i : Int) < (np : Int)) = true := decide_eq_true (by omega)
              have hii : (i : Int) < (np : Int) := by omega
              have HIE : Hid (i < s.p.E.length) := by have := HNP.out.1; show _ < _; omega
              have HCC : Hid (t.P[i]? = some (s.p.D.getD i false, (clP s.p.L s.p.E i).map dimP)) := by
                show _ = _
                rw [HR.out.P]
                unfold stpM
                rw [List.getElem?_map, List.getElem?_range HIE.out]
                rfl
              have HLO := hide (clP_ok (E := s.p.E) HK.out.p.lit i)
              have HLE : Hid ((clP s.p.L s.p.E i).length ≤ 65536) := by have := clP_short s.p.L s.p.E i; have := HPE.out.2.2; show _ ≤ _; omega
              obtain ⟨g, off, a1, c1, eg, x0, x1, hil, -, -⟩ := (KE _ HE.out).out.sl i _ HCC.out
              have HIL := hide hil
              clear hil
              subst eg
              dsimp only at x0 x1 HIL
              rw [List.length_map] at x1
              have c63 := hide (fun w' (e : Ex (fun _ => False) w w') => step_any w' B pb vc vd vf _ _ _ (KE _ e).out.pf HK.out.p.eok HK.out.p.dl (by have := HPE.out; omega) i HIE.out)
              generalize clP s.p.L s.p.E i = C at *
              generalize s.p.D.getD i false = dl at *
              obtain ⟨lc, hlc⟩ : ∃ x, C.length = x := ⟨_, rfl⟩
              rw [hlc] at x1
              have HLC := hide hlc
              clear hlc
              go_upto_region 16 with fail
              have f0 : (wk.alloc (.cells #[.bool dl, .slice a1 lc c1] 136)).cell? ⟨wk.heap.size, 0, none⟩ = some (.bool dl) := new_cells wk [.bool dl, .slice a1 lc c1] 136 0 _ rfl
              have f1 : (wk.alloc (.cells #[.bool dl, .slice a1 lc c1] 136)).cell? ⟨wk.heap.size, 1, none⟩ = some (.slice a1 lc c1) := new_cells wk [.bool dl, .slice a1 lc c1] 136 1 _ rfl
              have HEa : Hid (Ex (fun _ => False) w (wk.alloc (.cells #[.bool dl, .slice a1 lc c1] 136))) := HE.out.alloc _
              have HILa := hide (HIL.out.keep ((Ex.refl (fun _ => False) wk).alloc (.cells #[.bool dl, .slice a1 lc c1] 136)) (fun _ _ _ z => z))
              generalize wk.alloc (.cells #[.bool dl, .slice a1 lc c1] 136) = wa at *
              generalize wk.heap.size = q at *
              clear x0 x1 HE HIL
              have p2 := (KE _ HEa.out).out.p2
              go_wp2_with fail
              refine (c63.out _ HEa.out).mono ?_
              rintro e w3 ⟨a3, c3, rfl, hc3, b3⟩
              have HE3 : Hid (Ex (fun _ => False) w w3) := HEa.out.trans2 (Ex.of (S := fun _ => False) b3) (fun _ z => z.elim)
              have e0 := (Ex.of (S := fun _ => False) b3).cell (fun z => z) f0
              have e1 := (Ex.of (S := fun _ => False) b3).cell (fun z => z) f1
              have c98 := hide (sameLits_any w3 a3 c3 C a1 c1 hc3 (HILa.out.keep (Ex.of (S := fun _ => False) b3) (fun _ _ _ z => z)) HLO.out (by have := HLE.out; omega))
              rw [HLC.out] at c98 ⊢
              clear hc3 b3 c63 HEa HILa p2 f0 f1
              have hdd : (dl == dl) = true := by simp
              have hdn : (dl != dl) = false := by simp
              go_wp2_with fail
              refine c98.out.mono ?_
              rintro e w4 ⟨rfl, b4⟩
              have HE4 : Hid (Ex (fun _ => False) w w4) := HE3.out.trans2 (Ex.of (S := fun _ => False) b4) (fun _ z => z.elim)
              clear b4 HE3 c98 hib hii HCC e0 e1
              go_wp2
              go_roundw
              case rel => exact ⟨i + 1, by go_num, by omega, HE4⟩
              case measure => exact meas_lt (i := i) (by go_num) rfl hlt
            have hib : decide ((i : Int) < (np : Int)) = false := decide_eq_false (by omega)
            have hin : ¬ (i : Int) < (np : Int) := by omega
            clear hw1
            go_wp2_with (with_reducible refine bodyPost_ret (v := .bool true) ?hr ?hd ?hp)
            case hr => simp [results, Tryz.results11, go_sem]
            case hd => rfl
            case hp => exact ⟨rfl, HE.out⟩
end Go.Proofs.Qxb6500773aGreat
