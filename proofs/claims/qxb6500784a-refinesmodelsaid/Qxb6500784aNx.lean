import Derived.Test.Qxb6500784aDp
import Derived.Test.Qxb6500784aNb
namespace Go.Proofs.Qxb6500784a
open Go.RowKit


theorem Try.sz59 : (Try.prog.info? 59).map (·.size) = some 4 := by kernel_rfl
def depV (P : Pr) : List Value := [.int .i64 P.sa.length, .int .i64 P.sb.length, .int .i64 P.ta.length, .int .i64 P.tb.length]
set_option linter.unusedSimpArgs false in
set_option maxRecDepth 100000 in
set_option maxHeartbeats 8000000 in
/-- Pair.Depths -/
theorem depths_any (w : World) (b : Nat) (P : Pr) (S : List Nat) (h : PP w b P S) :
    Calls Try.prog 21 #[.pointer (some ⟨b, 0, none⟩)] w fun e w' => e = .returned (.agg (depV P).toArray) ∧ Below w.heap.size w w' := by
  unfold depV
  have HBE := hide (be1 w (.cells #[.int .i64 0, .int .i64 0, .int .i64 0, .int .i64 0] 59))
  have HP := hide ((h.below HBE.out).below ((Below.refl _ _).drew))
  obtain ⟨_, ha, -⟩ := HP.out.onA
  obtain ⟨_, hb, -⟩ := HP.out.onB
  obtain ⟨_, hc, -⟩ := HP.out.onC
  obtain ⟨_, hd, -⟩ := HP.out.onD
  have HA := hide ha
  have HB := hide hb
  have HC := hide hc
  have HE := hide hd
  clear ha hb hc hd h
  have HT := hide (newTz w #[.int .i64 0, .int .i64 0, .int .i64 0, .int .i64 0] 59)
  go_enter Try.func21, Try.ntmps21
  go_upto_region 1 with fail
  obtain ⟨D, hD⟩ : ∃ D, w.heap.size = D := ⟨_, rfl⟩
  have HD := hide hD
  rw [hD] at HT ⊢
  clear hD
  generalize w.alloc (.cells #[.int .i64 0, .int .i64 0, .int .i64 0, .int .i64 0] 59) = w1 at *
  refine wp_region_held_drew (S := fun w' => True) (by kernel_rfl) trivial (fun hHeld => ?_)
  refine wpAnyH_take (i := 0) (v := ?_) rfl (by kernel_rfl) (by kernel_rfl) (by kernel_rfl) (fun _ _ _ h => h) (Or.inl ⟨by rfl, ?_⟩) (by assumption) ?_
  rotate_left
  · (intro w hSw; (try dsimp only at hSw); go_simp; try (with_reducible rfl))
  try simp only [Act.put, List.getElem_toArray, List.getElem_cons_zero, List.getElem_cons_succ, List.setIfInBounds_toArray, List.set_cons_zero, List.set_cons_succ]
  refine wpAnyH_take (i := 1) (v := ?_) rfl (by kernel_rfl) (by kernel_rfl) (by kernel_rfl) (fun _ _ _ h => h) (Or.inl ⟨by rfl, ?_⟩) (by assumption) ?_
  rotate_left
  · (intro w hSw; (try dsimp only at hSw); go_simp; try (with_reducible rfl))
  try simp only [Act.put, List.getElem_toArray, List.getElem_cons_zero, List.getElem_cons_succ, List.setIfInBounds_toArray, List.set_cons_zero, List.set_cons_succ]
  refine wpAnyH_take (i := 2) (v := ?_) rfl (by kernel_rfl) (by kernel_rfl) (by kernel_rfl) (fun _ _ _ h => h) (Or.inl ⟨by rfl, ?_⟩) (by assumption) ?_
  rotate_left
  · (intro w hSw; (try dsimp only at hSw); go_simp; try (with_reducible rfl))
  try simp only [Act.put, List.getElem_toArray, List.getElem_cons_zero, List.getElem_cons_succ, List.setIfInBounds_toArray, List.set_cons_zero, List.set_cons_succ]
  refine wpAnyH_take (i := 4) (v := ?_) rfl (by kernel_rfl) (by kernel_rfl) (by kernel_rfl) (fun _ _ _ h => h) (Or.inl ⟨by rfl, ?_⟩) (by assumption) ?_
  rotate_left
  · (intro w hSw; (try dsimp only at hSw); go_simp; try (with_reducible rfl))
  try simp only [Act.put, List.getElem_toArray, List.getElem_cons_zero, List.getElem_cons_succ, List.setIfInBounds_toArray, List.set_cons_zero, List.set_cons_succ]
  refine wpAnyH_take (i := 5) (v := ?_) rfl (by kernel_rfl) (by kernel_rfl) (by kernel_rfl) (fun _ _ _ h => h) (Or.inl ⟨by rfl, ?_⟩) (by assumption) ?_
  rotate_left
  · (intro w hSw; (try dsimp only at hSw); go_simp; try (with_reducible rfl))
  try simp only [Act.put, List.getElem_toArray, List.getElem_cons_zero, List.getElem_cons_succ, List.setIfInBounds_toArray, List.set_cons_zero, List.set_cons_succ]
  refine wpAnyH_take (i := 6) (v := ?_) rfl (by kernel_rfl) (by kernel_rfl) (by kernel_rfl) (fun _ _ _ h => h) (Or.inl ⟨by rfl, ?_⟩) (by assumption) ?_
  rotate_left
  · (intro w hSw; (try dsimp only at hSw); go_simp; try (with_reducible rfl))
  try simp only [Act.put, List.getElem_toArray, List.getElem_cons_zero, List.getElem_cons_succ, List.setIfInBounds_toArray, List.set_cons_zero, List.set_cons_succ]
  refine wpAnyH_take (i := 8) (v := ?_) rfl (by kernel_rfl) (by kernel_rfl) (by kernel_rfl) (fun _ _ _ h => h) (Or.inl ⟨by rfl, ?_⟩) (by assumption) ?_
  rotate_left
  · (intro w hSw; (try dsimp only at hSw); go_simp; try (with_reducible rfl))
  try simp only [Act.put, List.getElem_toArray, List.getElem_cons_zero, List.getElem_cons_succ, List.setIfInBounds_toArray, List.set_cons_zero, List.set_cons_succ]
  refine wpAnyH_take (i := 9) (v := ?_) rfl (by kernel_rfl) (by kernel_rfl) (by kernel_rfl) (fun _ _ _ h => h) (Or.inl ⟨by rfl, ?_⟩) (by assumption) ?_
  rotate_left
  · (intro w hSw; (try dsimp only at hSw); go_simp; try (with_reducible rfl))
  try simp only [Act.put, List.getElem_toArray, List.getElem_cons_zero, List.getElem_cons_succ, List.setIfInBounds_toArray, List.set_cons_zero, List.set_cons_succ]
  refine wpAnyH_take (i := 10) (v := ?_) rfl (by kernel_rfl) (by kernel_rfl) (by kernel_rfl) (fun _ _ _ h => h) (Or.inl ⟨by rfl, ?_⟩) (by assumption) ?_
  rotate_left
  · (intro w hSw; (try dsimp only at hSw); go_simp; try (with_reducible rfl))
  try simp only [Act.put, List.getElem_toArray, List.getElem_cons_zero, List.getElem_cons_succ, List.setIfInBounds_toArray, List.set_cons_zero, List.set_cons_succ]
  refine wpAnyH_take (i := 12) (v := ?_) rfl (by kernel_rfl) (by kernel_rfl) (by kernel_rfl) (fun _ _ _ h => h) (Or.inl ⟨by rfl, ?_⟩) (by assumption) ?_
  rotate_left
  · (intro w hSw; (try dsimp only at hSw); go_simp; try (with_reducible rfl))
  try simp only [Act.put, List.getElem_toArray, List.getElem_cons_zero, List.getElem_cons_succ, List.setIfInBounds_toArray, List.set_cons_zero, List.set_cons_succ]
  refine wpAnyH_take (i := 13) (v := ?_) rfl (by kernel_rfl) (by kernel_rfl) (by kernel_rfl) (fun _ _ _ h => h) (Or.inl ⟨by rfl, ?_⟩) (by assumption) ?_
  rotate_left
  · (intro w hSw; (try dsimp only at hSw); go_simp; try (with_reducible rfl))
  try simp only [Act.put, List.getElem_toArray, List.getElem_cons_zero, List.getElem_cons_succ, List.setIfInBounds_toArray, List.set_cons_zero, List.set_cons_succ]
  refine wpAnyH_take (i := 14) (v := ?_) rfl (by kernel_rfl) (by kernel_rfl) (by kernel_rfl) (fun _ _ _ h => h) (Or.inl ⟨by rfl, ?_⟩) (by assumption) ?_
  rotate_left
  · (intro w hSw; (try dsimp only at hSw); go_simp; try (with_reducible rfl))
  try simp only [Act.put, List.getElem_toArray, List.getElem_cons_zero, List.getElem_cons_succ, List.setIfInBounds_toArray, List.set_cons_zero, List.set_cons_succ]
  refine wpAnyH_ready (rs := [3]) (by kernel_rfl) (by simp) ?_
  refine (AllReadyH.cons rfl (fun K hK => ?_) AllReadyH.nil)
  refine step_call rfl 50 #[.pointer (some ⟨b, 0, none⟩)] (by simp [go_sem]) (depthL_any _ b 0 _ _ _ HA.out) ?_
  rintro e wq ⟨rfl, rfl⟩
  refine ⟨_, rfl, ?_⟩
  refine hK.out _ _ ?_ (fun hHeld => ?_)
  · exact hHeld
  clear hK K
  try simp only [Act.put, List.getElem_toArray, List.getElem_cons_zero, List.getElem_cons_succ, List.setIfInBounds_toArray, List.set_cons_zero, List.set_cons_succ]
  refine wpAnyH_ready (rs := [7]) (by kernel_rfl) (by simp) ?_
  refine (AllReadyH.cons rfl (fun K hK => ?_) AllReadyH.nil)
  refine step_call rfl 50 #[.pointer (some ⟨b, 326, none⟩)] (by simp [go_sem]) (depthL_any _ b 326 _ _ _ HB.out) ?_
  rintro e wq ⟨rfl, rfl⟩
  refine ⟨_, rfl, ?_⟩
  refine hK.out _ _ ?_ (fun hHeld => ?_)
  · exact hHeld
  clear hK K
  try simp only [Act.put, List.getElem_toArray, List.getElem_cons_zero, List.getElem_cons_succ, List.setIfInBounds_toArray, List.set_cons_zero, List.set_cons_succ]
  refine wpAnyH_ready (rs := [11]) (by kernel_rfl) (by simp) ?_
  refine (AllReadyH.cons rfl (fun K hK => ?_) AllReadyH.nil)
  refine step_call rfl 51 #[.pointer (some ⟨b, 652, none⟩)] (by simp [go_sem]) (depthB_any _ b 652 _ _ _ HC.out) ?_
  rintro e wq ⟨rfl, rfl⟩
  refine ⟨_, rfl, ?_⟩
  refine hK.out _ _ ?_ (fun hHeld => ?_)
  · exact hHeld
  clear hK K
  try simp only [Act.put, List.getElem_toArray, List.getElem_cons_zero, List.getElem_cons_succ, List.setIfInBounds_toArray, List.set_cons_zero, List.set_cons_succ]
  refine wpAnyH_ready (rs := [15]) (by kernel_rfl) (by simp) ?_
  refine (AllReadyH.cons rfl (fun K hK => ?_) AllReadyH.nil)
  refine step_call rfl 51 #[.pointer (some ⟨b, 657, none⟩)] (by simp [go_sem]) (depthB_any _ b 657 _ _ _ HE.out) ?_
  rintro e wq ⟨rfl, rfl⟩
  refine ⟨_, rfl, ?_⟩
  refine hK.out _ _ ?_ (fun hHeld => ?_)
  · exact hHeld
  clear hK K
  try simp only [Act.put, List.getElem_toArray, List.getElem_cons_zero, List.getElem_cons_succ, List.setIfInBounds_toArray, List.set_cons_zero, List.set_cons_succ]
  refine wpAnyH_take (i := 16) (v := ?_) rfl (by kernel_rfl) (by kernel_rfl) (by kernel_rfl) (fun _ _ _ h => h) (Or.inl ⟨by rfl, ?_⟩) (by assumption) ?_
  rotate_left
  · (intro w hSw; (try dsimp only at hSw); go_simp; try (with_reducible rfl))
  try simp only [Act.put, List.getElem_toArray, List.getElem_cons_zero, List.getElem_cons_succ, List.setIfInBounds_toArray, List.set_cons_zero, List.set_cons_succ]
  refine wpAnyH_ready (rs := [17]) (by kernel_rfl) (by simp) ?_
  refine (AllReadyH.cons rfl (fun K hK => ?_) AllReadyH.nil)
  refine step_storeM rfl 59 (.tmp 2) (.tmp 19) rfl D 0 [.int .i64 P.sa.length, .int .i64 P.sb.length, .int .i64 P.ta.length, .int .i64 P.tb.length] rfl rfl HT.out Try.sz59 (by intro u hu; simp only [List.mem_cons, List.not_mem_nil, or_false] at hu; rcases hu with rfl | rfl | rfl | rfl <;> rfl) ?_
  refine hK.out _ _ ?_ (fun hHeld => ?_)
  · trivial
  clear hK K
  try simp only [Act.put, List.getElem_toArray, List.getElem_cons_zero, List.getElem_cons_succ, List.setIfInBounds_toArray, List.set_cons_zero, List.set_cons_succ]
  refine wpAnyH_done (by kernel_rfl) ?_ _
  have HRZ := hide (World.rangeAt_setCells_same w1.drew D 0 [.int .i64 P.sa.length, .int .i64 P.sb.length, .int .i64 P.ta.length, .int .i64 P.tb.length] HT.out)
  have HBZ : Hid (Below w.heap.size w (w1.drew.setCells D 0 [.int .i64 P.sa.length, .int .i64 P.sb.length, .int .i64 P.ta.length, .int .i64 P.tb.length])) := HBE.out.drew.trans ((Ex.sets (S := fun j => j = D) rfl [.int .i64 P.sa.length, .int .i64 P.sb.length, .int .i64 P.ta.length, .int .i64 P.tb.length] 0 w1.drew (Ex.refl _ _)).below HBE.out.drew.size (fun j hj e => by have := HD.out; omega))
  generalize w1.drew.setCells D 0 [.int .i64 P.sa.length, .int .i64 P.sb.length, .int .i64 P.ta.length, .int .i64 P.tb.length] = wz at *
  go_wp2_with fail
  exact bodyPost_ret (v := .agg #[.int .i64 P.sa.length, .int .i64 P.sb.length, .int .i64 P.ta.length, .int .i64 P.tb.length]) (res_cell Try.results21 rfl (run_loadVar_mid wz D 0 59 [.int .i64 P.sa.length, .int .i64 P.sb.length, .int .i64 P.ta.length, .int .i64 P.tb.length] _ HRZ.out Try.underlying59 rfl Try.sz59)) rfl ⟨rfl, HBZ.out⟩
def nbS (P : Pr) (g : Int) : Pr := { P with la := { P.la with opn := true, gl := g, gu := 0 }, lb := { P.lb with opn := true, gl := g, gu := 0 }, ba := { P.ba with sn := 0 }, bb := { P.bb with sn := 0 }, b1 := { P.b1 with sn := 0 } }
def flat (P : Pr) : Prop := P.sa = [] ∧ P.sb = [] ∧ P.ta = [] ∧ P.tb = []
theorem flatP_len {P : Pr} : flat P ↔ P.sa.length = 0 ∧ P.sb.length = 0 ∧ P.ta.length = 0 ∧ P.tb.length = 0 := by simp [flat]
set_option linter.unusedSimpArgs false in
set_option maxRecDepth 100000 in
set_option maxHeartbeats 8000000 in
theorem next_a (w : World) (b : Nat) (g : Int) (hg : g = 0 ∨ 10000 < g) :
    Calls Try.prog 53 #[.pointer (some ⟨b, 0, none⟩), .int .u64 g] w fun e w' => e = .returned (.int .i64 32) ∧ w' = w := by
  by_cases h0 : g = 0
  · subst h0
    go_enter Try.func53, Try.ntmps53
    go_wp2
    go_ret
    exact ⟨rfl, rfl⟩
  · have h1 : 10000 < g := by omega
    have d0 : (g == 0) = false := by simp [h0]
    have d1 : decide ((10000 : Int) < g) = true := by simp; omega
    go_enter Try.func53, Try.ntmps53
    go_wp2
    go_ret
    exact ⟨rfl, rfl⟩
set_option linter.unusedSimpArgs false in
set_option maxRecDepth 100000 in
set_option maxHeartbeats 8000000 in
theorem next_b (w : World) (b : Nat) (P : Pr) (S : List Nat) (h : PP w b P S) (g : Int) (h0 : 0 < g) (h1 : g ≤ 10000) (hf : ¬ flat P) :
    Calls Try.prog 53 #[.pointer (some ⟨b, 0, none⟩), .int .u64 g] w fun e w' => e = .returned (.int .i64 33) ∧ Below w.heap.size w w' := by
  have d0 : (g == 0) = false := by simp; omega
  have d1 : decide ((10000 : Int) < g) = false := by simp; omega
  have HDP := hide (depths_any w b P S h)
  unfold depV at HDP
  obtain ⟨na, hna⟩ : ∃ n : Nat, P.sa.length = n := ⟨_, rfl⟩
  obtain ⟨nb, hnb⟩ : ∃ n : Nat, P.sb.length = n := ⟨_, rfl⟩
  obtain ⟨nc, hnc⟩ : ∃ n : Nat, P.ta.length = n := ⟨_, rfl⟩
  obtain ⟨nd, hnd⟩ : ∃ n : Nat, P.tb.length = n := ⟨_, rfl⟩
  have hf2 : ¬ (na = 0 ∧ nb = 0 ∧ nc = 0 ∧ nd = 0) := by rw [← hna, ← hnb, ← hnc, ← hnd]; exact fun z => hf (flatP_len.2 z)
  rw [hna, hnb, hnc, hnd] at HDP
  have HF := hide hf2
  clear hna hnb hnc hnd hf hf2 h
  go_enter Try.func53, Try.ntmps53
  go_upto_region 3 with fail
  go_wp2_with (go_at_call 21; refine HDP.out.mono ?_; rintro e w2 ⟨rfl, hbe⟩; have HB2 := hide hbe; clear hbe; simp only [])
  all_goals first | (go_ret; exact ⟨rfl, HB2.out⟩) | (exfalso; have := HF.out; omega)
set_option linter.unusedSimpArgs false in
set_option maxRecDepth 100000 in
set_option maxHeartbeats 8000000 in
theorem next_ok (w : World) (b : Nat) (P : Pr) (S : List Nat) (h : PP w b P S) (g : Int) (h0 : 0 < g) (h1 : g ≤ 10000) (hf : flat P) (hoa : P.la.opn = true) (hob : P.lb.opn = true) :
    Calls Try.prog 53 #[.pointer (some ⟨b, 0, none⟩), .int .u64 g] w fun e w' => e = .returned (.int .i64 0) ∧ PStep w b S (nbS P g) w' := by
  have d0 : (g == 0) = false := by simp; omega
  have d1 : decide ((10000 : Int) < g) = false := by simp; omega
  have HG := hide (And.intro h0 h1)
  obtain ⟨la, sa, lb, sb, ba, ta, bb, tb, b1, t1⟩ := P
  obtain ⟨e1, e2, e3, e4⟩ := hf
  simp only at e1 e2 e3 e4 hoa hob
  subst e1 e2 e3 e4
  have HOA := hide hoa
  have HOB := hide hob
  have HP := hide h
  have HDP : Hid (Calls Try.prog 21 #[.pointer (some ⟨b, 0, none⟩)] w fun e w' => e = .returned (.agg #[.int .i64 0, .int .i64 0, .int .i64 0, .int .i64 0]) ∧ Below w.heap.size w w') := depths_any w b _ S h
  clear h hoa hob h0 h1
  go_enter Try.func53, Try.ntmps53
  go_upto_region 5 with (go_at_call 21; refine HDP.out.mono ?_; rintro e w2 ⟨rfl, hbe⟩; have HB2 := hide hbe; clear hbe; simp only [])
  have HP0 := hide (HP.out.below HB2.out)
  have HKb := hide ((Link.refl w b S).below HB2.out)
  obtain ⟨B0, hla, hst⟩ := HP0.out.onA
  have HL0 := hide hla
  have HST0 := hide hst
  clear hla hst
  go_upto_region 6 with (go_at_call 79; refine (end_any _ b 0 la B0 HL0.out HOA.out).mono ?_; intro e x0 hbs; obtain ⟨he, hps⟩ := HST0.out _ _ _ _ _ hbs; subst he; obtain ⟨S0, hk, hp⟩ := hps.out; have HK0 := hide (HKb.out.trans hk); have HP1 : Hid (PP x0 b ⟨{ la with opn := false, gl := 0, gu := 0 }, [], lb, [], ba, [], bb, [], b1, t1⟩ S0) := hp; clear hbs hps hk hp; simp only [])
  obtain ⟨B1, hla, hst⟩ := HP1.out.onB
  have HL1 := hide hla
  have HST1 := hide hst
  clear hla hst
  go_upto_region 7 with (go_at_call 79; refine (end_any _ b 326 lb B1 HL1.out HOB.out).mono ?_; intro e x1 hbs; obtain ⟨he, hps⟩ := HST1.out _ _ _ _ _ hbs; subst he; obtain ⟨S1, hk, hp⟩ := hps.out; have HK1 := hide (HK0.out.trans hk); have HP2 : Hid (PP x1 b ⟨{ la with opn := false, gl := 0, gu := 0 }, [], { lb with opn := false, gl := 0, gu := 0 }, [], ba, [], bb, [], b1, t1⟩ S1) := hp; clear hbs hps hk hp; simp only [])
  obtain ⟨B2, hla, hst⟩ := HP2.out.onA
  have HL2 := hide hla
  have HST2 := hide hst
  clear hla hst
  go_upto_region 8 with (go_at_call 64; refine (begin_any _ b 0 _ [] B2 g HL2.out rfl HG.out.1 HG.out.2).mono ?_; intro e x2 hbs; obtain ⟨he, hps⟩ := HST2.out _ _ _ _ _ hbs; subst he; obtain ⟨S2, hk, hp⟩ := hps.out; have HK2 := hide (HK1.out.trans hk); have HP3 : Hid (PP x2 b ⟨{ la with opn := true, gl := g, gu := 0 }, [], { lb with opn := false, gl := 0, gu := 0 }, [], ba, [], bb, [], b1, t1⟩ S2) := hp; clear hbs hps hk hp; simp only [])
  obtain ⟨B3, hla, hst⟩ := HP3.out.onB
  have HL3 := hide hla
  have HST3 := hide hst
  clear hla hst
  go_upto_region 9 with (go_at_call 64; refine (begin_any _ b 326 _ [] B3 g HL3.out rfl HG.out.1 HG.out.2).mono ?_; intro e x3 hbs; obtain ⟨he, hps⟩ := HST3.out _ _ _ _ _ hbs; subst he; obtain ⟨S3, hk, hp⟩ := hps.out; have HK3 := hide (HK2.out.trans hk); have HP4 : Hid (PP x3 b ⟨{ la with opn := true, gl := g, gu := 0 }, [], { lb with opn := true, gl := g, gu := 0 }, [], ba, [], bb, [], b1, t1⟩ S3) := hp; clear hbs hps hk hp; simp only [])
  obtain ⟨B4, hla, hst⟩ := HP4.out.onC
  have HL4 := hide hla
  have HST4 := hide hst
  clear hla hst
  go_upto_region 10 with (go_at_call 80; refine (nextB_any _ b 652 ba [] B4 HL4.out).mono ?_; intro e x4 hbs; obtain ⟨he, hps⟩ := HST4.out _ _ _ _ _ hbs; subst he; obtain ⟨S4, hk, hp⟩ := hps.out; have HK4 := hide (HK3.out.trans hk); have HP5 : Hid (PP x4 b ⟨{ la with opn := true, gl := g, gu := 0 }, [], { lb with opn := true, gl := g, gu := 0 }, [], { ba with sn := 0 }, [], bb, [], b1, t1⟩ S4) := hp; clear hbs hps hk hp; simp only [])
  obtain ⟨B5, hla, hst⟩ := HP5.out.onD
  have HL5 := hide hla
  have HST5 := hide hst
  clear hla hst
  go_upto_region 11 with (go_at_call 80; refine (nextB_any _ b 657 bb [] B5 HL5.out).mono ?_; intro e x5 hbs; obtain ⟨he, hps⟩ := HST5.out _ _ _ _ _ hbs; subst he; obtain ⟨S5, hk, hp⟩ := hps.out; have HK5 := hide (HK4.out.trans hk); have HP6 : Hid (PP x5 b ⟨{ la with opn := true, gl := g, gu := 0 }, [], { lb with opn := true, gl := g, gu := 0 }, [], { ba with sn := 0 }, [], { bb with sn := 0 }, [], b1, t1⟩ S5) := hp; clear hbs hps hk hp; simp only [])
  obtain ⟨B6, hla, hst⟩ := HP6.out.onE
  have HL6 := hide hla
  have HST6 := hide hst
  clear hla hst
  go_upto_region 12 with (go_at_call 80; refine (nextB_any _ b 662 b1 t1 B6 HL6.out).mono ?_; intro e x6 hbs; obtain ⟨he, hps⟩ := HST6.out _ _ _ _ _ hbs; subst he; obtain ⟨S6, hk, hp⟩ := hps.out; have HK6 := hide (HK5.out.trans hk); have HP7 : Hid (PP x6 b ⟨{ la with opn := true, gl := g, gu := 0 }, [], { lb with opn := true, gl := g, gu := 0 }, [], { ba with sn := 0 }, [], { bb with sn := 0 }, [], { b1 with sn := 0 }, t1⟩ S6) := hp; clear hbs hps hk hp; simp only [])
  have HPO : Hid (PStep w b S (nbS ⟨la, [], lb, [], ba, [], bb, [], b1, t1⟩ g) x6) := ⟨HK6.out.1, S6, HP7.out, HK6.out.2⟩
  clear HP0 HP1 HP2 HP3 HP4 HP5 HP6 HP7
  go_wp2
  go_ret
  exact ⟨rfl, HPO.out⟩
open Classical in
noncomputable def nextC (P : Pr) (g : Int) : Int := if g = 0 ∨ 10000 < g then 32 else if flat P then 0 else 33
open Classical in
noncomputable def nextS (P : Pr) (g : Int) : Pr := if nextC P g = 0 then nbS P g else P
/-- Pair.NextBlock -/
theorem nextP_any (w : World) (b : Nat) (P : Pr) (S : List Nat) (h : PP w b P S) (g : Int) (h0 : 0 ≤ g) (hoa : P.la.opn = true) (hob : P.lb.opn = true) :
    Calls Try.prog 53 #[.pointer (some ⟨b, 0, none⟩), .int .u64 g] w fun e w' => e = .returned (.int .i64 (nextC P g)) ∧ PStep w b S (nextS P g) w' := by
  by_cases c : g = 0 ∨ 10000 < g
  · have e : nextC P g = 32 := by unfold nextC; rw [if_pos c]
    unfold nextS
    rw [e, if_neg (by decide)]
    refine (next_a w b g c).mono ?_
    rintro e w' ⟨rfl, rfl⟩
    exact ⟨rfl, PStep.refl h⟩
  · by_cases f : flat P
    · have e : nextC P g = 0 := by unfold nextC; rw [if_neg c, if_pos f]
      unfold nextS
      rw [e, if_pos rfl]
      exact next_ok w b P S h g (by omega) (by omega) f hoa hob
    · have e : nextC P g = 33 := by unfold nextC; rw [if_neg c, if_neg f]
      unfold nextS
      rw [e, if_neg (by decide)]
      refine (next_b w b P S h g (by omega) (by omega) f).mono ?_
      rintro e w' ⟨rfl, hb⟩
      exact ⟨rfl, PStep.of h hb⟩
end Go.Proofs.Qxb6500784a
