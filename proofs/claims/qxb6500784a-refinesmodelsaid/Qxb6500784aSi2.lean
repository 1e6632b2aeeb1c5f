import Derived.Test.Qxb6500784aSi1
import Derived.Test.Qxb6500784aRt
namespace Go.Proofs.Qxb6500784a
open Go.RowKit

theorem Try.zs65 : Try.zeroCells65.size = 70 := by kernel_rfl
theorem new2 (w : World) (u : Value) : Below w.heap.size w ((w.alloc (.cells #[u] 27)).alloc (.cells Try.zeroCells65 65)) ∧ ((w.alloc (.cells #[u] 27)).alloc (.cells Try.zeroCells65 65)).cell? ⟨w.heap.size, 0, none⟩ = some u ∧ ((w.alloc (.cells #[u] 27)).alloc (.cells Try.zeroCells65 65)).there (w.heap.size + 1) 0 70 ∧ ((w.alloc (.cells #[u] 27)).alloc (.cells Try.zeroCells65 65)).heap.size = w.heap.size + 2 ∧ ((w.alloc (.cells #[u] 27)).alloc (.cells Try.zeroCells65 65)).there w.heap.size 0 1 := by
  have b1 := be1 w (.cells #[u] 27)
  have b2 := be1 (w.alloc (.cells #[u] 27)) (.cells Try.zeroCells65 65)
  have c := newR w [u] 27 0 u rfl
  have t := newTz (w.alloc (.cells #[u] 27)) Try.zeroCells65 65
  have t1 := newT w [u] 27
  rw [Try.zs65] at t
  refine ⟨lec b1 b2, cellKeep b2 c, ?_, by simp, there_below t1 (by simp) b2⟩
  have e : (w.alloc (.cells #[u] 27)).heap.size = w.heap.size + 1 := by simp
  rw [e] at t
  exact t
attribute [-simp] Try.isAgg65 Try.sizeOf65 Try.typeInfo65 Try.isAgg63 Try.sizeOf63 Try.typeInfo63 Try.isAgg95 Try.sizeOf95 Try.typeInfo95
set_option linter.unusedSimpArgs false in
set_option maxRecDepth 100000 in
set_option maxHeartbeats 8000000 in
theorem sim_bad (w : World) (b : Nat) (kp : Bool) (a : Option Addr) (n cap : Nat) (L : Nat → Leg) (hn : n ≤ 9223372036854775807) (hL : LegsAt w a n L) (hc : ordCode n L ≠ 0) :
    Calls Try.prog 63 #[.pointer (some ⟨b, 0, none⟩), .agg #[.slice a n cap], .bool kp] w fun e w' => e = .returned (.agg ((refR (ordCode n L) (-1)).vals nilS nilS nilS).toArray) ∧ Below w.heap.size w w' := by
  have HL := hide hL
  clear hL
  obtain ⟨cd, hcd⟩ : ∃ cd, ordCode n L = cd := ⟨_, rfl⟩
  have HCD := hide hcd
  rw [hcd] at hc ⊢
  clear hcd
  have d1 : (cd != 0) = true := by simp [hc]
  obtain ⟨F, hF⟩ : ∃ F, (refR cd (-1)).vals nilS nilS nilS = F := ⟨_, rfl⟩
  have HF := hide hF
  have HFl : Hid (F.length = 70) := by rw [← hF]; exact Rs.len (refR_ok _ _) _ _ _
  have HF1 : Hid (∀ u ∈ F, u.oneCell' = true) := by rw [← hF]; exact Rs.one _ rfl rfl rfl
  rw [hF]
  clear hF
  go_enter Try.func63, Try.ntmps63
  go_upto_region 1 with fail
  obtain ⟨g1, g2, g3, g4, g5⟩ := new2 w (.slice a n cap)
  obtain ⟨D, hD⟩ : ∃ D, w.heap.size = D := ⟨_, rfl⟩
  have HD := hide hD
  rw [hD] at g2 g3 g4 g5 ⊢
  clear hD
  have HBE := hide g1
  have cl := g2
  have HT := hide g3
  have HS := hide g4
  have HT1 := hide g5
  clear g1 g2 g3 g4 g5
  generalize (w.alloc (.cells #[.slice a n cap] 27)).alloc (.cells Try.zeroCells65 65) = w1 at *
  go_upto_region 2 with (go_at_call 13; refine (order_any _ a n cap L hn (HL.out.below HBE.out)).mono ?_; rintro e w2 ⟨v, rfl, hbe, -, -⟩; have HB2 := hide hbe; clear hbe; rw [HCD.out]; simp only [])
  have HTX : Hid (w2.there (D + 1) 0 70) := there_below HT.out (by have := HS.out; omega) HB2.out
  have HSX : Hid (D + 1 < w2.heap.size) := by have := HS.out; have := HB2.out.size; simp only [Hid]; omega
  clear cl
  go_wp2_with (go_at_call 84; refine (refused_any _ cd (-1)).mono ?_; rintro e wq ⟨rfl, hbe⟩; have HBQ := hide hbe; clear hbe; rw [HF.out]; simp only [])
  have HT6 : Hid (wq.there (D + 1) 0 70) := there_below HTX.out (by have := HSX.out; omega) HBQ.out
  simp only [Try.sizeOf65, Result.andThen, HFl.out, ↓reduceIte, stC wq (D + 1) 0 F (by rw [HFl.out]; exact HT6.out) HF1.out]
  rw [Oper.upon_skip]
  have HRZ := hide (World.rangeAt_setCells_same wq (D + 1) 0 F (by rw [HFl.out]; exact HT6.out))
  have HEX : Hid (Ex (fun j => j = D + 1) wq (wq.setCells (D + 1) 0 F)) := Ex.sets (S := fun j => j = D + 1) rfl F 0 wq (Ex.refl _ _)
  generalize wq.setCells (D + 1) 0 F = wz at *
  have HBZ : Hid (Below w.heap.size w wz) := (lec (lec HBE.out HB2.out) HBQ.out).trans (HEX.out.below (lec (lec HBE.out HB2.out) HBQ.out).size (fun j hj e => by have := HD.out; omega))
  go_wp2_with fail
  exact bodyPost_ret (v := .agg F.toArray) (res_cell Try.results63 rfl (run_loadVar_mid wz (D + 1) 0 65 F _ HRZ.out Try.underlying65 rfl (by rw [HFl.out]; exact Try.sz65))) rfl ⟨rfl, HBZ.out⟩
theorem Link.loc {w w' w'' : World} {b : Nat} {S S' : List Nat} {q : Nat} (h : Link w b S w' S') (k : Ex (fun j => j = q) w' w'') (hq : w.heap.size ≤ q) : Link w b S w'' S' := ⟨h.1.trans2 k (fun j hj => .inr (by rw [hj]; exact hq)), h.2⟩
theorem PStep.to {w w' : World} {b : Nat} {S : List Nat} {P' : Pr} (h : PStep w b S P' w') : ∃ S', Link w b S w' S' ∧ PP w' b P' S' := h.out
set_option linter.unusedSimpArgs false in
set_option maxRecDepth 100000 in
set_option maxHeartbeats 8000000 in
theorem sim_deep (w : World) (b : Nat) (P : Pr) (S : List Nat) (h : PP w b P S) (hsm : PSm P) (kp : Bool) (a : Option Addr) (n cap : Nat) (L : Nat → Leg) (hn : n ≤ 9223372036854775807) (hL : LegsAt w a n L) (hc : ordCode n L = 0) (hsh : ¬ shallow P) :
    Calls Try.prog 63 #[.pointer (some ⟨b, 0, none⟩), .agg #[.slice a n cap], .bool kp] w fun e w' => e = .returned (.agg ((refR 34 (-1)).vals nilS nilS nilS).toArray) ∧ ∃ S', Link w b S w' S' ∧ PP w' b P S' := by
  have HL := hide hL
  have HP := hide h
  have HSM := hide hsm
  have HCD := hide hc
  have HSH := hide hsh
  clear hL h hsm hc hsh
  obtain ⟨F, hF⟩ : ∃ F, (refR 34 (-1)).vals nilS nilS nilS = F := ⟨_, rfl⟩
  have HF := hide hF
  have HFl : Hid (F.length = 70) := by rw [← hF]; exact Rs.len (refR_ok _ _) _ _ _
  have HF1 : Hid (∀ u ∈ F, u.oneCell' = true) := by rw [← hF]; exact Rs.one _ rfl rfl rfl
  rw [hF]
  clear hF
  go_enter Try.func63, Try.ntmps63
  go_upto_region 1 with fail
  obtain ⟨g1, g2, g3, g4, g5⟩ := new2 w (.slice a n cap)
  obtain ⟨D, hD⟩ : ∃ D, w.heap.size = D := ⟨_, rfl⟩
  have HD := hide hD
  rw [hD] at g2 g3 g4 g5 ⊢
  clear hD
  have HBE := hide g1
  have cl := g2
  have HT := hide g3
  have HS := hide g4
  have HT1 := hide g5
  clear g1 g2 g3 g4 g5
  generalize (w.alloc (.cells #[.slice a n cap] 27)).alloc (.cells Try.zeroCells65 65) = w1 at *
  go_upto_region 2 with (go_at_call 13; refine (order_any _ a n cap L hn (HL.out.below HBE.out)).mono ?_; rintro e w2 ⟨v, rfl, hbe, -, hv⟩; have HB2 := hide hbe; have HV := hide (hv HCD.out); clear hbe hv; rw [HCD.out]; simp only [])
  have HTX : Hid (w2.there (D + 1) 0 70) := there_below HT.out (by have := HS.out; omega) HB2.out
  have HSX : Hid (D + 1 < w2.heap.size) := by have := HS.out; have := HB2.out.size; simp only [Hid]; omega
  have HP2 := hide (HP.out.below (lec HBE.out HB2.out))
  have HK2 := hide ((Link.refl w b S).below (lec HBE.out HB2.out))
  clear cl
  go_upto_region 5 with (go_at_call 85; refine (open_any _ b P S HP2.out HSM.out).mono ?_; rintro e w3 ⟨rfl, hps⟩; rw [if_neg HSH.out] at hps ⊢; have HPS := hide hps; clear hps; simp only [])
  obtain ⟨S3, hk3, hp3⟩ := HPS.out.to
  have HP3 := hide hp3
  have HK3 := hide (HK2.out.trans hk3)
  have HN3 : Hid (D + 1 ≠ b ∧ D + 1 ∉ S3 ∧ D + 1 < w3.heap.size) := by
    have z1 := HD.out
    have z2 := HSX.out
    have z3 := HP.out.bl
    refine ⟨by omega, fun e => ?_, Nat.lt_of_lt_of_le z2 hk3.1.size⟩
    rcases hk3.2 _ e with z | z
    · have := HP.out.lt z; omega
    · omega
  replace HTX : Hid (w3.there (D + 1) 0 70) := there_ex HTX.out HSX.out hk3.1 (fun e => by
    rcases e with z | z
    · exact HN3.out.1 z
    · have := HP.out.lt z; have := HD.out; omega)
  replace HSX : Hid (D + 1 < w3.heap.size) := HN3.out.2.2
  clear hk3 hp3 HPS
  go_wp2_with (go_at_call 84; refine (refused_any _ 34 (-1)).mono ?_; rintro e wq ⟨rfl, hbe⟩; have HBQ := hide hbe; clear hbe; rw [HF.out]; simp only [])
  have HT6 : Hid (wq.there (D + 1) 0 70) := there_below HTX.out (by have := HSX.out; omega) HBQ.out
  simp only [Try.sizeOf65, Result.andThen, HFl.out, ↓reduceIte, stC wq (D + 1) 0 F (by rw [HFl.out]; exact HT6.out) HF1.out]
  rw [Oper.upon_skip]
  have HRZ := hide (World.rangeAt_setCells_same wq (D + 1) 0 F (by rw [HFl.out]; exact HT6.out))
  have HEX : Hid (Ex (fun j => j = D + 1) wq (wq.setCells (D + 1) 0 F)) := Ex.sets (S := fun j => j = D + 1) rfl F 0 wq (Ex.refl _ _)
  generalize wq.setCells (D + 1) 0 F = wz at *
  have HPZ : Hid (PP wz b P S3) := (HP3.out.below HBQ.out).ex HEX.out (fun e => HN3.out.1 e.symm) (fun k hk e => HN3.out.2.1 (e ▸ hk))
  have HKZ : Hid (Link w b S wz S3) := (HK3.out.below HBQ.out).loc HEX.out (by have := HD.out; omega)
  go_wp2_with fail
  exact bodyPost_ret (v := .agg F.toArray) (res_cell Try.results63 rfl (run_loadVar_mid wz (D + 1) 0 65 F _ HRZ.out Try.underlying65 rfl (by rw [HFl.out]; exact Try.sz65))) rfl ⟨rfl, S3, HKZ.out, HPZ.out⟩
end Go.Proofs.Qxb6500784a
