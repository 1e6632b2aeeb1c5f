import Derived.Test.Qxb6500784aRfa
import Derived.Test.Qxb6500784aRc
namespace Go.Proofs.Qxb6500784a
open Go.RowKit

theorem AS.fin {w0 w : World} {A : Nat} {V : List Value} {r : Rcp} {b o : Nat} {l : Led0} {sv : List Led0} {B B0 : List Nat} (h : AS w0 w A V r b o l sv B B0) (F : List Value) (v : Value) : LStep w0 b o B0 v l sv (.returned v) (w.setCells (A + 1) 0 F) := by
  have hal := h.al
  have hbA := h.bA
  have heA := h.eA
  have ex : Ex (fun k => k = A + 1) w (w.setCells (A + 1) 0 F) := Ex.sets (S := fun k => k = A + 1) rfl _ _ _ (Ex.refl _ _)
  refine ⟨rfl, h.cg.grown (row := some (A + 1)) ⟨ex.os, ex.tape, ex.output, ex.size, fun k hk hne => ex.block k hk (fun e => hne (by rw [e]))⟩ (fun i hi => ?_) (by omega) (by simp; omega), B, h.la.ex ex (by omega) (fun i hi e => ?_), fun j hj => ?_⟩
  · have : A + 1 = i := by simpa using hi
    right; omega
  · rcases h.sb i hi with z | z <;> omega
  · rcases h.sb j hj with z | z
    · exact .inl z.2
    · right; omega
attribute [-simp] Try.isAgg68 Try.sizeOf68 Try.typeInfo68 Try.isAgg92 Try.sizeOf92 Try.typeInfo92 Try.isAgg89 Try.sizeOf89 Try.typeInfo89
set_option linter.unusedSimpArgs false in
set_option maxRecDepth 100000 in
set_option maxHeartbeats 8000000 in
/-- State.Apply refuses. -/
theorem apply_bad (w : World) (b o : Nat) (l : Led0) (sv : List Led0) (B : List Nat) (t : List Int) (h : LA w b o l sv B) (ht : TxOk t) (hl : l.mks.length ≤ 1000000000000) (hc : refP l t ≠ 0) :
    Calls Try.prog 60 #[.pointer (some ⟨b, o, none⟩), .agg (kvs txk t).toArray] w (LStep w b o B (.agg (Rcp.vals { rcp0 with code := refP l t }).toArray) l sv) := by
  have HC := hide hc
  clear hc
  obtain ⟨R, hR⟩ : ∃ R, LStep w b o B (.agg (Rcp.vals { rcp0 with code := refP l t }).toArray) l sv = R := ⟨_, rfl⟩
  rw [hR]
  have HR := hide hR
  clear hR
  have HT := hide ht
  have HL := hide hl
  have HOK := hide h.ok
  have HBL := hide h.bl
  have HLA := hide h
  clear h ht hl
  obtain ⟨V, hV⟩ : ∃ V, kvs txk t = V := ⟨_, rfl⟩
  have HVl : Hid (V.length = 83) := by rw [← hV, kvs_len]; exact HT.out.l
  have HTV := hide hV
  rw [hV]
  go_enter Try.func60, Try.ntmps60
  go_upto_region 2 with fail
  obtain ⟨A, hA⟩ : ∃ A, w.heap.size = A := ⟨_, rfl⟩
  have HA := hide hA
  have HAS : Hid (AS w (((w.alloc (.cells V.toArray 92)).alloc (.cells Try.zeroCells89 89)).alloc (.cells Try.zeroCells89 89)) A V rcp0 b o l sv B B) := by
    have b1 := be1 w (.cells V.toArray 92)
    have b2 := be1 (w.alloc (.cells V.toArray 92)) (.cells Try.zeroCells89 89)
    have b3 := be1 ((w.alloc (.cells V.toArray 92)).alloc (.cells Try.zeroCells89 89)) (.cells Try.zeroCells89 89)
    have e1 : (w.alloc (.cells V.toArray 92)).heap.size = A + 1 := by simp [hA]
    have e2 : ((w.alloc (.cells V.toArray 92)).alloc (.cells Try.zeroCells89 89)).heap.size = A + 2 := by simp [hA]
    have r1 := newR w V 92
    have t2 := newTz (w.alloc (.cells V.toArray 92)) Try.zeroCells89 89
    have r3 := newR ((w.alloc (.cells V.toArray 92)).alloc (.cells Try.zeroCells89 89)) rcp0.vals 89
    have t3 := newTz ((w.alloc (.cells V.toArray 92)).alloc (.cells Try.zeroCells89 89)) Try.zeroCells89 89
    rw [← zc89] at r3
    rw [show Try.zeroCells89.size = 87 by kernel_rfl] at t2 t3
    rw [e1] at t2
    rw [e2] at r3 t3
    rw [hA] at r1
    have hb := HBL.out
    refine ⟨Cg.below (lec (lec b1 b2) b3) hb.1, World.rangeAt_alloc (World.rangeAt_alloc r1 _) _, World.there_alloc t2 _, r3, t3, HLA.out.below (lec (lec b1 b2) b3), fun j hj => .inl ⟨by have := HLA.out.lt hj; omega, hj⟩, by simp [hA], by have := hb.1; omega, hA.symm⟩
  rw [hA, show A + 1 + 1 = A + 2 from rfl]
  generalize ((w.alloc (.cells V.toArray 92)).alloc (.cells Try.zeroCells89 89)).alloc (.cells Try.zeroCells89 89) = w1 at *
  clear hA hV
  go_wp2_with fail
  simp only [Try.isAgg92, Try.sizeOf92, Result.andThen, ↓reduceIte, ldC w1 A 0 V 83 HVl.out HAS.out.tx]
  rw [Oper.upon_value]
  go_wp2_with fail
  have hrf := refusal_any w1 b o l sv B t HAS.out.la HT.out HL.out
  rw [HTV.out] at hrf
  refine hrf.mono ?_
  clear hrf
  rintro e w2 ⟨rfl, b2⟩
  have HAS2 := hide (HAS.out.below b2)
  clear HAS b2
  obtain ⟨c, hce⟩ : ∃ c, refP l t = c := ⟨_, rfl⟩
  have e0 : (c != 0) = true := by rw [← hce]; simpa using HC.out
  rw [hce] at HR ⊢
  clear hce
  have z0 : w2.cell? ⟨A + 2, 0, none⟩ = some (.int .i64 0) := by have := HAS2.out.rr 0 (.int .i64 0) rfl; simpa using this
  have f0 : w2.frozen? ⟨A + 2, 0, none⟩ = false := by have := (HAS2.out.tr 0 (by omega)).2; simpa using this
  go_upto_region 3 with fail
  have HAS3 := hide (HAS2.out.setR (.int .i64 c) { rcp0 with code := c } (Rcp.set0 rcp0 c))
  generalize w2.setCell ⟨A + 2, 0, none⟩ (.int .i64 c) = w3 at *
  clear HAS2 z0 f0
  have z0 : w3.cell? ⟨A + 2, 0, none⟩ = some (.int .i64 c) := by have := HAS3.out.rr 0 _ rfl; simpa using this
  obtain ⟨F, hF⟩ : ∃ F, Rcp.vals { rcp0 with code := c } = F := ⟨_, rfl⟩
  have HFl : Hid (F.length = 87) := by rw [← hF]; exact Rcp.len ⟨zOk, zOk⟩
  have HF1 : Hid (∀ u ∈ F, u.oneCell' = true) := by rw [← hF]; exact Rcp.one _
  have HFr : Hid (w3.rangeAt (A + 2) 0 F) := by rw [← hF]; exact HAS3.out.rr
  rw [hF] at HR
  clear hF
  go_upto_region 4 with fail
  go_wp2_with fail
  simp only [Try.isAgg89, Try.sizeOf89, Result.andThen, ↓reduceIte, ldC w3 (A + 2) 0 F 87 HFl.out HFr.out]
  rw [Oper.upon_value]
  go_wp2_with fail
  simp only [Try.sizeOf89, Result.andThen, HFl.out, ↓reduceIte, stC w3 (A + 1) 0 F (by rw [HFl.out]; exact HAS3.out.rt) HF1.out]
  rw [Oper.upon_skip]
  have HRZ := hide (World.rangeAt_setCells_same w3 (A + 1) 0 F (by rw [HFl.out]; exact HAS3.out.rt))
  have HRR : Hid (R (.returned (.agg F.toArray)) (w3.setCells (A + 1) 0 F)) := by rw [← HR.out]; exact HAS3.out.fin F _
  generalize w3.setCells (A + 1) 0 F = w8 at *
  go_wp2_with fail
  exact bodyPost_ret (v := .agg F.toArray) (res_cell Try.results60 rfl (run_loadVar_mid w8 (A + 1) 0 89 F _ HRZ.out Try.underlying89 rfl (by rw [HFl.out]; exact Try.sz89))) rfl HRR.out
end Go.Proofs.Qxb6500784a
