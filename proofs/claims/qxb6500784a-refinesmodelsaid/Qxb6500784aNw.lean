import Derived.Test.Qxb6500784aBg1
namespace Go.Proofs.Qxb6500784a
open Go.RowKit

theorem zc56 : Try.zeroCells56 = (prV (prZ 0 0 0 0 0)).toArray := by kernel_rfl
attribute [-simp] Try.isAgg56 Try.sizeOf56 Try.typeInfo56
set_option linter.unusedSimpArgs false in
set_option maxRecDepth 100000 in
set_option maxHeartbeats 8000000 in
/-- bundlem.NewWorld -/
theorem newWorld_any (w : World) : Calls Try.prog 29 #[.int .u64 10000] w fun e w' => ∃ U S', e = .returned (.agg U.toArray) ∧ WF w' pr0 U S' ∧ Below w.heap.size w w' ∧ ∀ k, k ∈ S' → w.heap.size ≤ k := by
  obtain ⟨Z, hZ⟩ : ∃ Z, prV (prZ 0 0 0 0 0) = Z := ⟨_, rfl⟩
  have HZC := hide zc56
  have HZl := hide prV_len
  have HZS := hide prV_set
  have HZA := hide prV_at
  rw [hZ] at HZC HZl HZS HZA
  clear hZ
  go_enter Try.func29, Try.ntmps29
  go_upto_region 2 with fail
  rw [HZC.out]
  have b1 := be1 w (.cells Z.toArray 56)
  have b2 := be1 (w.alloc (.cells Z.toArray 56)) (.cells Z.toArray 56)
  have z1 : (w.alloc (.cells Z.toArray 56)).heap.size = w.heap.size + 1 := by simp
  have r2 := newR (w.alloc (.cells Z.toArray 56)) Z 56
  have t2 := newT (w.alloc (.cells Z.toArray 56)) Z 56
  have t1 := there_below (newT w Z 56) (by rw [z1]; omega) b2
  rw [z1] at r2 t2
  rw [HZl.out] at t1 t2
  obtain ⟨D, hD⟩ : ∃ D, w.heap.size = D := ⟨_, rfl⟩
  have HD := hide hD
  have HBE := hide (lec b1 b2)
  have HSZ0 : Hid (((w.alloc (.cells Z.toArray 56)).alloc (.cells Z.toArray 56)).heap.size = D + 1 + 1) := by show _ = _; rw [← hD]; simp
  rw [hD] at r2 t2 t1 ⊢
  obtain ⟨E, hE⟩ : ∃ E, D + 1 = E := ⟨_, rfl⟩
  have HDE := hide hE
  rw [hE] at r2 t2 HSZ0 ⊢
  have HR := hide r2
  have HT := hide t2
  have HT0 := hide t1
  have HSZ := HSZ0
  clear hD hE b1 b2 z1 r2 t2 t1 HSZ0
  generalize (w.alloc (.cells Z.toArray 56)).alloc (.cells Z.toArray 56) = w1 at *
  have c0 : w1.cell? ⟨E, 0, none⟩ = some (.int .u8 0) := by have := HR.out 0 _ HZA.out.1; rwa [Nat.zero_add] at this
  have f0 : w1.frozen? ⟨E, 0, none⟩ = false := by have := (HT.out 0 (by omega)).2; rwa [Nat.zero_add] at this
  have c1 : w1.cell? ⟨E, 326, none⟩ = some (.int .u8 0) := by have := HR.out 326 _ HZA.out.2.1; rwa [Nat.zero_add] at this
  have f1 : w1.frozen? ⟨E, 326, none⟩ = false := by have := (HT.out 326 (by omega)).2; rwa [Nat.zero_add] at this
  have c2 : w1.cell? ⟨E, 652, none⟩ = some (.int .u8 0) := by have := HR.out 652 _ HZA.out.2.2.1; rwa [Nat.zero_add] at this
  have f2 : w1.frozen? ⟨E, 652, none⟩ = false := by have := (HT.out 652 (by omega)).2; rwa [Nat.zero_add] at this
  have c3 : w1.cell? ⟨E, 657, none⟩ = some (.int .u8 0) := by have := HR.out 657 _ HZA.out.2.2.2.1; rwa [Nat.zero_add] at this
  have f3 : w1.frozen? ⟨E, 657, none⟩ = false := by have := (HT.out 657 (by omega)).2; rwa [Nat.zero_add] at this
  have c4 : w1.cell? ⟨E, 662, none⟩ = some (.int .u8 0) := by have := HR.out 662 _ HZA.out.2.2.2.2; rwa [Nat.zero_add] at this
  have f4 : w1.frozen? ⟨E, 662, none⟩ = false := by have := (HT.out 662 (by omega)).2; rwa [Nat.zero_add] at this
  go_upto_region 7 with fail
  have HPN : Hid (PP (((((w1.setCell ⟨E, 0, none⟩ (.int .u8 1)).setCell ⟨E, 326, none⟩ (.int .u8 2)).setCell ⟨E, 652, none⟩ (.int .u8 1)).setCell ⟨E, 657, none⟩ (.int .u8 2)).setCell ⟨E, 662, none⟩ (.int .u8 3)) E (prZ 1 2 1 2 3) []) := by
    have r := (range_set (range_set (range_set (range_set (range_set HR.out 0 (.int .u8 1)) 326 (.int .u8 2)) 652 (.int .u8 1)) 657 (.int .u8 2)) 662 (.int .u8 3))
    simp only [Nat.zero_add] at r
    rw [HZS.out] at r
    exact pp_new r (there_set (there_set (there_set (there_set (there_set HT.out _ _) _ _) _ _) _ _) _ _) (by have := HSZ.out; simp; omega)
  have HBN : Hid (Below w.heap.size w (((((w1.setCell ⟨E, 0, none⟩ (.int .u8 1)).setCell ⟨E, 326, none⟩ (.int .u8 2)).setCell ⟨E, 652, none⟩ (.int .u8 1)).setCell ⟨E, 657, none⟩ (.int .u8 2)).setCell ⟨E, 662, none⟩ (.int .u8 3))) := HBE.out.trans (Ex.below ((((((Ex.refl (fun k => k = E) w1).set (j := 0) rfl (.int .u8 1)).set (j := 326) rfl (.int .u8 2)).set (j := 652) rfl (.int .u8 1)).set (j := 657) rfl (.int .u8 2)).set (j := 662) rfl (.int .u8 3)) HBE.out.size (fun j hj e => by have := HD.out; have := HDE.out; omega))
  have HT1 : Hid ((((((w1.setCell ⟨E, 0, none⟩ (.int .u8 1)).setCell ⟨E, 326, none⟩ (.int .u8 2)).setCell ⟨E, 652, none⟩ (.int .u8 1)).setCell ⟨E, 657, none⟩ (.int .u8 2)).setCell ⟨E, 662, none⟩ (.int .u8 3)).there D 0 667) := there_set (there_set (there_set (there_set (there_set HT0.out _ _) _ _) _ _) _ _) _ _
  have HS2 : Hid (E + 1 ≤ (((((w1.setCell ⟨E, 0, none⟩ (.int .u8 1)).setCell ⟨E, 326, none⟩ (.int .u8 2)).setCell ⟨E, 652, none⟩ (.int .u8 1)).setCell ⟨E, 657, none⟩ (.int .u8 2)).setCell ⟨E, 662, none⟩ (.int .u8 3)).heap.size) := by have := HSZ.out; show _ ≤ _; simp; omega
  generalize (((((w1.setCell ⟨E, 0, none⟩ (.int .u8 1)).setCell ⟨E, 326, none⟩ (.int .u8 2)).setCell ⟨E, 652, none⟩ (.int .u8 1)).setCell ⟨E, 657, none⟩ (.int .u8 2)).setCell ⟨E, 662, none⟩ (.int .u8 3)) = w2 at *
  clear c0 c1 c2 c3 c4 f0 f1 f2 f3 f4 HR HT HZA HZS HZl
  obtain ⟨B0, hla, hst⟩ := HPN.out.onA
  have HL0 := hide hla
  have HST0 := hide hst
  clear hla hst
  go_upto_region 8 with (go_at_call 64; refine (begin_any _ E 0 _ _ B0 10000 HL0.out rfl (by decide) (by decide)).mono ?_; intro e x0 hbs; obtain ⟨he, hps⟩ := HST0.out _ _ _ _ _ hbs; subst he; obtain ⟨S0, hk, hp⟩ := hps.out; have HK0 := hide hk; have HP1 := hide hp; clear hbs hps hk hp; simp only [])
  obtain ⟨B1, hla, hst⟩ := HP1.out.onB
  have HL1 := hide hla
  have HST1 := hide hst
  clear hla hst
  go_upto_region 9 with (go_at_call 64; refine (begin_any _ E 326 _ _ B1 10000 HL1.out rfl (by decide) (by decide)).mono ?_; intro e x1 hbs; obtain ⟨he, hps⟩ := HST1.out _ _ _ _ _ hbs; subst he; obtain ⟨Sy, hk, hp⟩ := hps.out; have HK1 := hide (HK0.out.trans hk); have HP2 := hide hp; clear hbs hps hk hp; simp only [])
  obtain ⟨U, hU, hUr⟩ := HP2.out.wf
  have HU : Hid (WF x1 pr0 U Sy) := hU
  have HUr := hide hUr
  have HUl : Hid (U.length = 667) := hU.len
  have HU1 : Hid (∀ u ∈ U, u.oneCell' = true) := hU.one
  have HTx : Hid (x1.there D 0 667) := there_ex HT1.out (by have := HS2.out; have := HDE.out; omega) HK1.out.1 (fun e => by
    rcases e with e | e
    · have := HDE.out; omega
    · cases e)
  have HSy : Hid (∀ k, k ∈ Sy → w.heap.size ≤ k ∧ k ≠ D) := fun k hk => by
    rcases HK1.out.2 k hk with z | z
    · cases z
    · have := HBN.out.size; have := HS2.out; have := HDE.out; have := HD.out; exact ⟨by omega, by omega⟩
  have HBx : Hid (Below w.heap.size w x1) := HBN.out.trans (HK1.out.1.below HBN.out.size (fun j hj e => by
    rcases e with z | z
    · have := HD.out; have := HDE.out; omega
    · cases z))
  clear hU hUr HP1 HP2 HL0 HL1 HK0 HK1 HST0 HST1
  go_wp2_with fail
  simp only [Try.isAgg56, Try.sizeOf56, Result.andThen, ↓reduceIte, ldC x1 E 0 U 667 HUl.out HUr.out]
  rw [Oper.upon_value]
  go_wp2_with fail
  simp only [Try.sizeOf56, Result.andThen, HUl.out, ↓reduceIte, stC x1 D 0 U (by rw [HUl.out]; exact HTx.out) HU1.out]
  rw [Oper.upon_skip]
  have HRZ := hide (World.rangeAt_setCells_same x1 D 0 U (by rw [HUl.out]; exact HTx.out))
  have HEX : Hid (Ex (fun j => j = D) x1 (x1.setCells D 0 U)) := Ex.sets (S := fun j => j = D) rfl U 0 _ (Ex.refl _ _)
  generalize x1.setCells D 0 U = wz at *
  repeat go_step
  exact bodyPost_ret (v := .agg U.toArray) (res_cell Try.results29 rfl (run_loadVar_mid wz D 0 56 U _ HRZ.out Try.underlying56 rfl (by rw [HUl.out]; exact Try.sz56))) rfl ⟨U, Sy, rfl, HU.out.ex HEX.out (fun j hj e => (HSy.out j hj).2 e), by rw [← HD.out] at HEX; exact HBx.out.trans (HEX.out.below HBx.out.size (fun j hj e => by omega)), fun k hk => (HSy.out k hk).1⟩
end Go.Proofs.Qxb6500784a
