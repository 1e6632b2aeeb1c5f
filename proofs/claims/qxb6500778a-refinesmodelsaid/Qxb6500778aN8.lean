import Derived.Test.Qxb6500778aN7
namespace Go.Proofs.Qxb6500778a
open Go.RowKit

theorem flatA_set (M : List Rl) (i : Nat) (x : Rl) (hx : M[i]? = some x) (p : Bool) (a b c : Int) : ((((flatA M).set (i * 4) (.bool p)).set (i * 4 + 1) (.int .i64 a)).set (i * 4 + 2) (.int .i64 b)).set (i * 4 + 3) (.int .i64 c) = flatA (M.set i ⟨p, a, b, c⟩) := by
  have hl : i < M.length := (List.getElem?_eq_some_iff.1 hx).1
  have e0 := flat_set Rl.vals 4 rl_len (.bool p) 0 (by omega) M i x ⟨p, x.pr, x.ln, x.cl⟩ hx rfl
  have hx0 : (M.set i ⟨p, x.pr, x.ln, x.cl⟩)[i]? = some ⟨p, x.pr, x.ln, x.cl⟩ := by rw [List.getElem?_set_self hl]
  have e1 := flat_set Rl.vals 4 rl_len (.int .i64 a) 1 (by omega) _ i _ ⟨p, a, x.ln, x.cl⟩ hx0 rfl
  rw [List.set_set] at e1
  have hx1 : (M.set i ⟨p, a, x.ln, x.cl⟩)[i]? = some ⟨p, a, x.ln, x.cl⟩ := by rw [List.getElem?_set_self hl]
  have e2 := flat_set Rl.vals 4 rl_len (.int .i64 b) 2 (by omega) _ i _ ⟨p, a, b, x.cl⟩ hx1 rfl
  rw [List.set_set] at e2
  have hx2 : (M.set i ⟨p, a, b, x.cl⟩)[i]? = some ⟨p, a, b, x.cl⟩ := by rw [List.getElem?_set_self hl]
  have e3 := flat_set Rl.vals 4 rl_len (.int .i64 c) 3 (by omega) _ i _ ⟨p, a, b, c⟩ hx2 rfl
  rw [List.set_set] at e3
  unfold flatA
  rw [e3, e2, e1, e0]
  rfl
theorem Try.inf81 : (Try.prog.info? 81).map (fun i => (i.zero, i.size, i.bytes)) = some (some (.agg #[.bool false, .int .i64 0, .int .i64 0, .int .i64 0]), 4, 32) := by kernel_rfl
theorem Try.siz81 : (Try.prog.info? 81).map (·.size) = some 4 := by kernel_rfl
set_option linter.unusedSimpArgs false in
set_option maxRecDepth 100000 in
set_option maxHeartbeats 8000000 in
theorem step_ins_miss (w : World) (q o b d : Nat) (N : Nat → Dv) (vr va : Nat → Value) (hp pr ln ix cl : Int) (pm up : Bool) (hc : CO w q o ⟨2, d, hp, pr, ln, ix, cl, pm, up⟩) (hn : NA w b N vr va) (hq : ¬ Foot b vr va q) (hd : d < 16) (i0 : Nat) (hix : ix = (i0 : Int)) (hlt : (N d).ac.length < i0) :
    Calls Try.prog 61 #[.pointer (some ⟨b, 0, none⟩), .pointer (some ⟨q, o, none⟩)] w (NPost w b vr va (.tuple #[chgV ⟨0, d, 0, 0, 0, 0, 0, false, false⟩, .int .i64 7]) N) := by
  have hdi : (d : Int) < 16 := by omega
  subst hix
  have HC := hide hc
  have HN := hide hn
  have c1 := hc.c1
  simp only [] at c1
  clear hc hn
  have c1 := ((Ex.refl (fun _ => False) w).alloc (.cells #[.int .i64 0, .int .i64 0, .int .i64 0, .int .i64 0, .int .i64 0, .int .i64 0, .int .i64 0, .bool false, .bool false] 45)).cell (fun e => e) c1
  go_enter Try.func61, Try.ntmps61
  go_upto_region 1 with fail
  go_quiet (fail)
  have HST := fun W hW => hide (st_new HC.out HN.out hq nq { Chg.zero with dv := d } W hW)
  clear HC HN
  simp only [Chg.vals, Chg.zero] at HST
  go_upto_region 3 with fail
  obtain ⟨W, hW⟩ : ∃ W, W = ((w.alloc (.cells #[.int .i64 0, .int .i64 0, .int .i64 0, .int .i64 0, .int .i64 0, .int .i64 0, .int .i64 0, .bool false, .bool false] 45)).drewN nq).alloc (.cells #[.int .i64 0, .int .i64 d, .int .i64 0, .int .i64 0, .int .i64 0, .int .i64 0, .int .i64 0, .bool false, .bool false] 45) := ⟨_, rfl⟩
  rw [← hW]
  have HS := HST W hW
  clear HST hW c1
  obtain ⟨r1, hr1⟩ : ∃ r, w.heap.size + 1 = r := ⟨_, rfl⟩
  rw [hr1] at HS ⊢
  obtain ⟨r0, hr0⟩ : ∃ r, w.heap.size = r := ⟨_, rfl⟩
  rw [hr0] at HS ⊢
  clear hr0 hr1
  have k0 := HS.out.co.c0
  simp only [] at k0
  go_upto_region 21 with fail
  clear k0
  have k5 := HS.out.co.c5
  have na := HS.out.na.a d hd
  have nf := HS.out.na.fz
  simp only [] at k5
  obtain ⟨sa0, sc0, hv0⟩ := own_len (HS.out.na.ao d hd)
  rw [hv0] at na
  obtain ⟨n0, hn0⟩ : ∃ n, (N d).ac.length = n := ⟨_, rfl⟩
  rw [hn0] at na
  have hcm : decide ((n0 : Int) < (i0 : Int)) = true := decide_eq_true (by omega)
  go_quiet (fail)
  replace HS := hide (HS.out.drewN nq)
  generalize W.drewN nq = W1 at *
  clear k5 na nf hv0
  go_upto_region 22 with fail
  have u0 := HS.out.cu.c0
  have R0 := HS.out.cr.c0
  have u1 := HS.out.cu.c1
  have R1 := HS.out.cr.c1
  have u2 := HS.out.cu.c2
  have R2 := HS.out.cr.c2
  have u3 := HS.out.cu.c3
  have R3 := HS.out.cr.c3
  have u4 := HS.out.cu.c4
  have R4 := HS.out.cr.c4
  have u5 := HS.out.cu.c5
  have R5 := HS.out.cr.c5
  have u6 := HS.out.cu.c6
  have R6 := HS.out.cr.c6
  have u7 := HS.out.cu.c7
  have R7 := HS.out.cr.c7
  have u8 := HS.out.cu.c8
  have R8 := HS.out.cr.c8
  have uf := HS.out.cu.fr
  have Rf := HS.out.cr.fr
  have h01 := HS.out.h1
  simp only [Chg.zero] at u0 R0 u1 R1 u2 R2 u3 R3 u4 R4 u5 R5 u6 R6 u7 R7 u8 R8
  have HFIN := fun (v : Value) (y0 y1 y2 y3 y4 y5 y6 y7 y8 : Value) => hide (HS.out.fin (v := v) y0 y1 y2 y3 y4 y5 y6 y7 y8)
  go_wp2
  refine bodyPost_ret (v := .tuple #[chgV ⟨0, d, 0, 0, 0, 0, 0, false, false⟩, .int .i64 7]) (by simp [results, Try.results61, go_sem, chgV, Chg.vals, R0, R1, R2, R3, R4, R5, R6, R7, R8]) rfl ?_
  exact (HFIN _ _ _ _ _ _ _ _ _ _).out
set_option linter.unusedSimpArgs false in
set_option maxRecDepth 100000 in
set_option maxHeartbeats 8000000 in
theorem step_ins_full (w : World) (q o b d : Nat) (N : Nat → Dv) (vr va : Nat → Value) (hp pr ln ix cl : Int) (pm up : Bool) (hc : CO w q o ⟨2, d, hp, pr, ln, ix, cl, pm, up⟩) (hn : NA w b N vr va) (hq : ¬ Foot b vr va q) (hd : d < 16) (i0 : Nat) (hix : ix = (i0 : Int)) (hle : i0 ≤ (N d).ac.length) (hfull : (N d).rt.length + (N d).ac.length = 64) :
    Calls Try.prog 61 #[.pointer (some ⟨b, 0, none⟩), .pointer (some ⟨q, o, none⟩)] w (NPost w b vr va (.tuple #[chgV ⟨0, d, 0, 0, 0, 0, 0, false, false⟩, .int .i64 8]) N) := by
  have hdi : (d : Int) < 16 := by omega
  subst hix
  have HC := hide hc
  have HN := hide hn
  have c1 := hc.c1
  simp only [] at c1
  clear hc hn
  have c1 := ((Ex.refl (fun _ => False) w).alloc (.cells #[.int .i64 0, .int .i64 0, .int .i64 0, .int .i64 0, .int .i64 0, .int .i64 0, .int .i64 0, .bool false, .bool false] 45)).cell (fun e => e) c1
  go_enter Try.func61, Try.ntmps61
  go_upto_region 1 with fail
  go_quiet (fail)
  have HST := fun W hW => hide (st_new HC.out HN.out hq nq { Chg.zero with dv := d } W hW)
  clear HC HN
  simp only [Chg.vals, Chg.zero] at HST
  go_upto_region 3 with fail
  obtain ⟨W, hW⟩ : ∃ W, W = ((w.alloc (.cells #[.int .i64 0, .int .i64 0, .int .i64 0, .int .i64 0, .int .i64 0, .int .i64 0, .int .i64 0, .bool false, .bool false] 45)).drewN nq).alloc (.cells #[.int .i64 0, .int .i64 d, .int .i64 0, .int .i64 0, .int .i64 0, .int .i64 0, .int .i64 0, .bool false, .bool false] 45) := ⟨_, rfl⟩
  rw [← hW]
  have HS := HST W hW
  clear HST hW c1
  obtain ⟨r1, hr1⟩ : ∃ r, w.heap.size + 1 = r := ⟨_, rfl⟩
  rw [hr1] at HS ⊢
  obtain ⟨r0, hr0⟩ : ∃ r, w.heap.size = r := ⟨_, rfl⟩
  rw [hr0] at HS ⊢
  clear hr0 hr1
  have k0 := HS.out.co.c0
  simp only [] at k0
  go_upto_region 21 with fail
  clear k0
  have k5 := HS.out.co.c5
  have na := HS.out.na.a d hd
  have nf := HS.out.na.fz
  simp only [] at k5
  obtain ⟨sa0, sc0, hv0⟩ := own_len (HS.out.na.ao d hd)
  rw [hv0] at na
  obtain ⟨n0, hn0⟩ : ∃ n, (N d).ac.length = n := ⟨_, rfl⟩
  rw [hn0] at na
  have hcm : decide ((n0 : Int) < (i0 : Int)) = false := decide_eq_false (by omega)
  go_quiet (fail)
  replace HS := hide (HS.out.drewN nq)
  generalize W.drewN nq = W1 at *
  clear k5 na nf hv0
  go_wp2_with fail
  refine (rules_any _ b N vr va HS.out.na d hd (by omega) (by omega)).mono ?_
  rintro e W2 ⟨rfl, mq, rfl⟩
  replace HS := hide (HS.out.drewN mq)
  generalize W1.drewN mq = W2 at *
  have hfb : decide ((64 : Int) ≤ (((N d).rt.length + (N d).ac.length : Nat) : Int)) = true := decide_eq_true (by omega)
  generalize ((N d).rt.length + (N d).ac.length : Nat) = tot at *
  go_upto_region 24 with fail
  have u0 := HS.out.cu.c0
  have R0 := HS.out.cr.c0
  have u1 := HS.out.cu.c1
  have R1 := HS.out.cr.c1
  have u2 := HS.out.cu.c2
  have R2 := HS.out.cr.c2
  have u3 := HS.out.cu.c3
  have R3 := HS.out.cr.c3
  have u4 := HS.out.cu.c4
  have R4 := HS.out.cr.c4
  have u5 := HS.out.cu.c5
  have R5 := HS.out.cr.c5
  have u6 := HS.out.cu.c6
  have R6 := HS.out.cr.c6
  have u7 := HS.out.cu.c7
  have R7 := HS.out.cr.c7
  have u8 := HS.out.cu.c8
  have R8 := HS.out.cr.c8
  have uf := HS.out.cu.fr
  have Rf := HS.out.cr.fr
  have h01 := HS.out.h1
  simp only [Chg.zero] at u0 R0 u1 R1 u2 R2 u3 R3 u4 R4 u5 R5 u6 R6 u7 R7 u8 R8
  have HFIN := fun (v : Value) (y0 y1 y2 y3 y4 y5 y6 y7 y8 : Value) => hide (HS.out.fin (v := v) y0 y1 y2 y3 y4 y5 y6 y7 y8)
  go_wp2
  refine bodyPost_ret (v := .tuple #[chgV ⟨0, d, 0, 0, 0, 0, 0, false, false⟩, .int .i64 8]) (by simp [results, Try.results61, go_sem, chgV, Chg.vals, R0, R1, R2, R3, R4, R5, R6, R7, R8]) rfl ?_
  exact (HFIN _ _ _ _ _ _ _ _ _ _).out
end Go.Proofs.Qxb6500778a
