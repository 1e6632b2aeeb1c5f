import Derived.Test.Qxb6500784aSi4
namespace Go.Proofs.Qxb6500784a
open Go.RowKit

attribute [-simp] Try.isAgg65 Try.sizeOf65 Try.typeInfo65
attribute [local irreducible] rootP shaP
theorem SimPost.nil {w w' : World} {b : Nat} {S S' : List Nat} {P : Pr} {c f : Int} {r : Rs} {e : Ending} (he : e = .returned (.agg ((refR c f).vals nilS nilS nilS).toArray)) (hr : r = refR c f) (k : Link w b S w' S') (hp : PP w' b P S') : SimPost w b S P r e w' := by
  subst hr
  exact ⟨nilS, nilS, nilS, [], S', he, ⟨World.ownsRow_nil _ _ _ _, World.ownsRow_nil _ _ _ _, World.ownsRow_nil _ _ _ _, rfl, List.nodup_nil, rfl⟩, refR_ok _ _, k, hp, fun k hk => absurd hk (by simp)⟩
/-- Pair.simulate -/
theorem sim_any (w W : World) (b : Nat) (P : Pr) (S : List Nat) (h : PP w b P S) (hsm : PSm P) (hW : Below W.heap.size W w) (hWb : W.heap.size ≤ b) (hWS : ∀ k, k ∈ S → W.heap.size ≤ k) (kp : Bool) (a : Option Addr) (n cap : Nat) (L : Nat → Leg) (T : Nat → List Int) (hn : n ≤ 9223372036854775807) (hL : LegsAt W a n L) (hV : ordCode n L = 0 → ∀ i, i < n → LegV (legL (L i)) (L i).ch (T i)) (z : Nat) (hz : Bnd z P) (hzl : z ≤ 800000000000) :
    Calls Try.prog 63 #[.pointer (some ⟨b, 0, none⟩), .agg #[.slice a n cap], .bool kp] w fun e w' => ∃ v, SimPost w b S (simS kp P n L T) (simR P n L T v) e w' := by
  by_cases hc : ordCode n L = 0
  · by_cases hs : shallow P
    · exact sim_run w W b P S h hsm hW hWb hWS kp a n cap L T hn hL (hV hc) hc hs z hz hzl
    · refine (sim_deep w b P S h hsm kp a n cap L hn (hL.below hW) hc hs).mono ?_
      rintro e w' ⟨he, S', k, hp⟩
      have e1 : simS kp P n L T = P := by unfold simS; rw [if_neg (fun z => hs z.2.2.1)]
      have e2 : simR P n L T nilS = refR 34 (-1) := by unfold simR; rw [if_neg (by simp [hc]), if_pos hs]
      exact ⟨nilS, SimPost.nil he e2 k (by rw [e1]; exact hp)⟩
  · refine (sim_bad w b kp a n cap L hn (hL.below hW) hc).mono ?_
    rintro e w' ⟨he, hb⟩
    have e1 : simS kp P n L T = P := by unfold simS; rw [if_neg (fun z => hc z.2.1)]
    have e2 : simR P n L T nilS = refR (ordCode n L) (-1) := by unfold simR; rw [if_pos hc]
    exact ⟨nilS, SimPost.nil he e2 ((Link.refl w b S).below hb) (by rw [e1]; exact h.below hb)⟩
/-- The world from before on. -/
theorem SimPost.from {w0 w w' : World} {b : Nat} {S : List Nat} {P : Pr} {r : Rs} {e : Ending} (k : Below w0.heap.size w0 w) (h : SimPost w b S P r e w') : SimPost w0 b S P r e w' := by
  obtain ⟨vo, vr, vs, C, S', h1, h2, h3, h4, h5, h6⟩ := h
  exact ⟨vo, vr, vs, C, S', h1, h2, h3, ((Link.refl w0 b S).below k).trans h4, h5, fun j hj => ⟨Nat.le_trans k.size (h6 j hj).1, (h6 j hj).2⟩⟩
set_option linter.unusedSimpArgs false in
set_option maxRecDepth 100000 in
set_option maxHeartbeats 8000000 in
/-- Pair.include_any -/
theorem include_any (w W : World) (b : Nat) (P : Pr) (S : List Nat) (h : PP w b P S) (hsm : PSm P) (hW : Below W.heap.size W w) (hWb : W.heap.size ≤ b) (hWS : ∀ k, k ∈ S → W.heap.size ≤ k) (a : Option Addr) (n cap : Nat) (L : Nat → Leg) (T : Nat → List Int) (hn : n ≤ 9223372036854775807) (hL : LegsAt W a n L) (hV : ordCode n L = 0 → ∀ i, i < n → LegV (legL (L i)) (L i).ch (T i)) (z : Nat) (hz : Bnd z P) (hzl : z ≤ 800000000000) :
    Calls Try.prog 28 #[.pointer (some ⟨b, 0, none⟩), .agg #[.slice a n cap]] w fun e w' => ∃ v, SimPost w b S (simS true P n L T) (simR P n L T v) e w' := by
  have HSA := hide (fun (w1 : World) (k : Below w.heap.size w w1) => sim_any w1 W b P S (h.below k) hsm (lec hW k) hWb hWS true a n cap L T hn hL hV z hz hzl)
  obtain ⟨PS, hPS⟩ : ∃ PS, simS true P n L T = PS := ⟨_, rfl⟩
  obtain ⟨RS, hRS⟩ : ∃ RS, simR P n L T = RS := ⟨_, rfl⟩
  rw [hPS, hRS] at HSA ⊢
  have HP := hide h
  clear h hsm hW hWb hWS hn hL hV hz hzl hPS hRS
  go_enter Try.func28, Try.ntmps28
  go_upto_region 1 with fail
  obtain ⟨g1, g2, g3, g4, g5⟩ := new2 w (.slice a n cap)
  obtain ⟨D, hD⟩ : ∃ D, w.heap.size = D := ⟨_, rfl⟩
  have HD := hide hD
  have HBE := hide g1
  rw [hD] at g2 g3 g4 g5 ⊢
  clear hD
  have cl := g2
  have HT := hide g3
  have HS := hide g4
  clear g1 g2 g3 g4 g5
  generalize (w.alloc (.cells #[.slice a n cap] 27)).alloc (.cells Try.zeroCells65 65) = w1 at *
  go_wp2_with (go_at_call 63; refine (HSA.out w1 HBE.out).mono ?_; rintro e wq ⟨v, vo, vr, vs, C, S', rfl, hrl, hok, hk, hp, hC⟩; have HRL := hide hrl; have HOK := hide hok; have HK := hide hk; have HPQ := hide hp; have HCQ := hide hC; clear hrl hok hk hp hC; simp only [])
  obtain ⟨F, hF⟩ : ∃ F, (RS v).vals vo vr vs = F := ⟨_, rfl⟩
  have HF := hide hF
  have HFl : Hid (F.length = 70) := by rw [← hF]; exact Rs.len HOK.out _ _ _
  have HF1 : Hid (∀ u ∈ F, u.oneCell' = true) := by
    rw [← hF]
    obtain ⟨_, _, e1⟩ := own_form HRL.out.o
    obtain ⟨_, _, e2⟩ := own_form HRL.out.q
    obtain ⟨_, _, e3⟩ := own_form HRL.out.s
    exact Rs.one _ (by rw [e1]; rfl) (by rw [e2]; rfl) (by rw [e3]; rfl)
  simp only [hF]
  clear hF
  have HN : Hid (D + 1 < w1.heap.size ∧ D + 1 ≠ b ∧ D + 1 ∉ S ∧ D + 1 ∉ S' ∧ D + 1 ∉ C) := by
    have h1 := HS.out
    have h2 := HD.out
    have h3 := HP.out.bl
    refine ⟨by omega, by omega, fun e => by have := HP.out.lt e; omega, fun e => ?_, fun e => by have := (HCQ.out _ e).1; omega⟩
    rcases HK.out.2 _ e with z | z
    · have := HP.out.lt z; omega
    · omega
  have HT6 : Hid (wq.there (D + 1) 0 70) := there_ex HT.out HN.out.1 HK.out.1 (fun e => e.elim HN.out.2.1 HN.out.2.2.1)
  simp only [Try.sizeOf65, Result.andThen, HFl.out, ↓reduceIte, stC wq (D + 1) 0 F (by rw [HFl.out]; exact HT6.out) HF1.out]
  rw [Oper.upon_skip]
  have HRZ := hide (World.rangeAt_setCells_same wq (D + 1) 0 F (by rw [HFl.out]; exact HT6.out))
  have HEX : Hid (Ex (fun j => j = D + 1) wq (wq.setCells (D + 1) 0 F)) := Ex.sets (S := fun j => j = D + 1) rfl F 0 wq (Ex.refl _ _)
  generalize wq.setCells (D + 1) 0 F = wz at *
  have HPO : Hid (∃ v, SimPost w b S PS (RS v) (.returned (.agg F.toArray)) wz) := by
    obtain ⟨n1, n2, n3, n4, n5⟩ := HN.out
    refine ⟨v, vo, vr, vs, C, S', by rw [HF.out], HRL.out.keep HEX.out (fun k hk e => n5 (e ▸ hk)), HOK.out, (((Link.refl w b S).below HBE.out).trans HK.out).loc HEX.out (by have := HD.out; omega), HPQ.out.ex HEX.out (fun e => n2 e.symm) (fun k hk e => n4 (e ▸ hk)), fun k hk => ⟨?_, (HCQ.out k hk).2⟩⟩
    exact Nat.le_trans HBE.out.size (HCQ.out k hk).1
  clear HRL HOK HK HPQ HCQ HT6 HN
  go_wp2_with fail
  exact bodyPost_ret (v := .agg F.toArray) (res_cell Try.results28 rfl (run_loadVar_mid wz (D + 1) 0 65 F _ HRZ.out Try.underlying65 rfl (by rw [HFl.out]; exact Try.sz65))) rfl HPO.out
set_option linter.unusedSimpArgs false in
set_option maxRecDepth 100000 in
set_option maxHeartbeats 8000000 in
/-- Pair.try_any -/
theorem try_any (w W : World) (b : Nat) (P : Pr) (S : List Nat) (h : PP w b P S) (hsm : PSm P) (hW : Below W.heap.size W w) (hWb : W.heap.size ≤ b) (hWS : ∀ k, k ∈ S → W.heap.size ≤ k) (a : Option Addr) (n cap : Nat) (L : Nat → Leg) (T : Nat → List Int) (hn : n ≤ 9223372036854775807) (hL : LegsAt W a n L) (hV : ordCode n L = 0 → ∀ i, i < n → LegV (legL (L i)) (L i).ch (T i)) (z : Nat) (hz : Bnd z P) (hzl : z ≤ 800000000000) :
    Calls Try.prog 34 #[.pointer (some ⟨b, 0, none⟩), .agg #[.slice a n cap]] w fun e w' => ∃ v, SimPost w b S (simS false P n L T) (simR P n L T v) e w' := by
  have HSA := hide (fun (w1 : World) (k : Below w.heap.size w w1) => sim_any w1 W b P S (h.below k) hsm (lec hW k) hWb hWS false a n cap L T hn hL hV z hz hzl)
  obtain ⟨PS, hPS⟩ : ∃ PS, simS false P n L T = PS := ⟨_, rfl⟩
  obtain ⟨RS, hRS⟩ : ∃ RS, simR P n L T = RS := ⟨_, rfl⟩
  rw [hPS, hRS] at HSA ⊢
  have HP := hide h
  clear h hsm hW hWb hWS hn hL hV hz hzl hPS hRS
  go_enter Try.func34, Try.ntmps34
  go_upto_region 1 with fail
  obtain ⟨g1, g2, g3, g4, g5⟩ := new2 w (.slice a n cap)
  obtain ⟨D, hD⟩ : ∃ D, w.heap.size = D := ⟨_, rfl⟩
  have HD := hide hD
  have HBE := hide g1
  rw [hD] at g2 g3 g4 g5 ⊢
  clear hD
  have cl := g2
  have HT := hide g3
  have HS := hide g4
  clear g1 g2 g3 g4 g5
  generalize (w.alloc (.cells #[.slice a n cap] 27)).alloc (.cells Try.zeroCells65 65) = w1 at *
  go_wp2_with (go_at_call 63; refine (HSA.out w1 HBE.out).mono ?_; rintro e wq ⟨v, vo, vr, vs, C, S', rfl, hrl, hok, hk, hp, hC⟩; have HRL := hide hrl; have HOK := hide hok; have HK := hide hk; have HPQ := hide hp; have HCQ := hide hC; clear hrl hok hk hp hC; simp only [])
  obtain ⟨F, hF⟩ : ∃ F, (RS v).vals vo vr vs = F := ⟨_, rfl⟩
  have HF := hide hF
  have HFl : Hid (F.length = 70) := by rw [← hF]; exact Rs.len HOK.out _ _ _
  have HF1 : Hid (∀ u ∈ F, u.oneCell' = true) := by
    rw [← hF]
    obtain ⟨_, _, e1⟩ := own_form HRL.out.o
    obtain ⟨_, _, e2⟩ := own_form HRL.out.q
    obtain ⟨_, _, e3⟩ := own_form HRL.out.s
    exact Rs.one _ (by rw [e1]; rfl) (by rw [e2]; rfl) (by rw [e3]; rfl)
  simp only [hF]
  clear hF
  have HN : Hid (D + 1 < w1.heap.size ∧ D + 1 ≠ b ∧ D + 1 ∉ S ∧ D + 1 ∉ S' ∧ D + 1 ∉ C) := by
    have h1 := HS.out
    have h2 := HD.out
    have h3 := HP.out.bl
    refine ⟨by omega, by omega, fun e => by have := HP.out.lt e; omega, fun e => ?_, fun e => by have := (HCQ.out _ e).1; omega⟩
    rcases HK.out.2 _ e with z | z
    · have := HP.out.lt z; omega
    · omega
  have HT6 : Hid (wq.there (D + 1) 0 70) := there_ex HT.out HN.out.1 HK.out.1 (fun e => e.elim HN.out.2.1 HN.out.2.2.1)
  simp only [Try.sizeOf65, Result.andThen, HFl.out, ↓reduceIte, stC wq (D + 1) 0 F (by rw [HFl.out]; exact HT6.out) HF1.out]
  rw [Oper.upon_skip]
  have HRZ := hide (World.rangeAt_setCells_same wq (D + 1) 0 F (by rw [HFl.out]; exact HT6.out))
  have HEX : Hid (Ex (fun j => j = D + 1) wq (wq.setCells (D + 1) 0 F)) := Ex.sets (S := fun j => j = D + 1) rfl F 0 wq (Ex.refl _ _)
  generalize wq.setCells (D + 1) 0 F = wz at *
  have HPO : Hid (∃ v, SimPost w b S PS (RS v) (.returned (.agg F.toArray)) wz) := by
    obtain ⟨n1, n2, n3, n4, n5⟩ := HN.out
    refine ⟨v, vo, vr, vs, C, S', by rw [HF.out], HRL.out.keep HEX.out (fun k hk e => n5 (e ▸ hk)), HOK.out, (((Link.refl w b S).below HBE.out).trans HK.out).loc HEX.out (by have := HD.out; omega), HPQ.out.ex HEX.out (fun e => n2 e.symm) (fun k hk e => n4 (e ▸ hk)), fun k hk => ⟨?_, (HCQ.out k hk).2⟩⟩
    exact Nat.le_trans HBE.out.size (HCQ.out k hk).1
  clear HRL HOK HK HPQ HCQ HT6 HN
  go_wp2_with fail
  exact bodyPost_ret (v := .agg F.toArray) (res_cell Try.results34 rfl (run_loadVar_mid wz (D + 1) 0 65 F _ HRZ.out Try.underlying65 rfl (by rw [HFl.out]; exact Try.sz65))) rfl HPO.out
end Go.Proofs.Qxb6500784a
