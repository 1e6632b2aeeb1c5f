import Derived.Test.Qxb6500778aN3
import Derived.Deep.RegionHeld3
namespace Go.Proofs.Qxb6500778a
open Go.RowKit

/-- A change somewhere in memory. -/
structure CO (w : World) (q o : Nat) (c : Chg) : Prop where
  c0 : w.cell? ⟨q, o, none⟩ = some (.int .i64 c.kd)
  c1 : w.cell? ⟨q, o + 1, none⟩ = some (.int .i64 c.dv)
  c2 : w.cell? ⟨q, o + 2, none⟩ = some (.int .i64 c.hp)
  c3 : w.cell? ⟨q, o + 3, none⟩ = some (.int .i64 c.pr)
  c4 : w.cell? ⟨q, o + 4, none⟩ = some (.int .i64 c.ln)
  c5 : w.cell? ⟨q, o + 5, none⟩ = some (.int .i64 c.ix)
  c6 : w.cell? ⟨q, o + 6, none⟩ = some (.int .i64 c.cl)
  c7 : w.cell? ⟨q, o + 7, none⟩ = some (.bool c.pm)
  c8 : w.cell? ⟨q, o + 8, none⟩ = some (.bool c.up)
theorem CO.other {w w' : World} {q o : Nat} {c : Chg} {S : Nat → Prop} (h : CO w q o c) (e : Ex S w w') (hn : ¬ S q) : CO w' q o c :=
  ⟨e.cell hn h.c0, e.cell hn h.c1, e.cell hn h.c2, e.cell hn h.c3, e.cell hn h.c4, e.cell hn h.c5, e.cell hn h.c6, e.cell hn h.c7, e.cell hn h.c8⟩
/-- Network.step at work: the change at q, the network at b, the result r0, the undoing change r1. -/
structure ST (w0 w : World) (q o b r0 r1 : Nat) (vr0 va0 : Nat → Value) (c : Chg) (N : Nat → Dv) (vr va : Nat → Value) (u : Chg) : Prop where
  co : CO w q o c
  na : NA w b N vr va
  cr : CS w r0 .zero
  cu : CS w r1 u
  ex : Ex (Foot b vr0 va0) w0 w
  ft : ∀ k, Foot b vr va k → Foot b vr0 va0 k ∨ (w0.heap.size ≤ k ∧ k ≠ r0 ∧ k ≠ r1)
  fl : ∀ k, Foot b vr0 va0 k → k < w0.heap.size
  h0 : w0.heap.size ≤ r0
  h1 : r0 < r1
  q0 : q < w0.heap.size
  qf : ¬ Foot b vr0 va0 q
section
variable {w0 w w' : World} {q o b r0 r1 : Nat} {vr0 va0 : Nat → Value} {c : Chg} {N N' : Nat → Dv} {vr va vr' va' : Nat → Value} {u : Chg}
theorem ST.nf (h : ST w0 w q o b r0 r1 vr0 va0 c N vr va u) : ¬ Foot b vr va q ∧ ¬ Foot b vr va r0 ∧ ¬ Foot b vr va r1 := by
  have h0 := h.h0
  have h1 := h.h1
  refine ⟨fun hk => ?_, fun hk => ?_, fun hk => ?_⟩
  · rcases h.ft _ hk with z | z
    · exact h.qf z
    · have := h.q0; omega
  · rcases h.ft _ hk with z | z
    · have := h.fl _ z; omega
    · exact z.2.1 rfl
  · rcases h.ft _ hk with z | z
    · have := h.fl _ z; omega
    · exact z.2.2 rfl
/-- the network is turned -/
theorem ST.turn (h : ST w0 w q o b r0 r1 vr0 va0 c N vr va u) (na' : NA w' b N' vr' va') (e : Ex (Foot b vr va) w w') (hf : ∀ k, Foot b vr' va' k → Foot b vr va k ∨ w.heap.size ≤ k) : ST w0 w' q o b r0 r1 vr0 va0 c N' vr' va' u := by
  obtain ⟨n1, n2, n3⟩ := h.nf
  have l0 : r0 < w.heap.size := World.block_lt_of_cell? _ _ h.cr.c0
  have l1 : r1 < w.heap.size := World.block_lt_of_cell? _ _ h.cu.c0
  have sz := h.ex.size
  refine ⟨h.co.other e n1, na', h.cr.other e n2, h.cu.other e n3, h.ex.trans2 e (fun j hj => ?_), fun k hk => ?_, h.fl, h.h0, h.h1, h.q0, h.qf⟩
  · rcases h.ft j hj with z | z
    · exact .inl z
    · exact .inr z.1
  · rcases hf k hk with z | z
    · exact h.ft k z
    · exact .inr ⟨by omega, by omega, by omega⟩
theorem ST.drewN (h : ST w0 w q o b r0 r1 vr0 va0 c N vr va u) (m : Nat) : ST w0 (w.drewN m) q o b r0 r1 vr0 va0 c N vr va u :=
  h.turn (h.na.drewN m) ((Ex.refl _ w).drewN m) (fun _ hk => .inl hk)
theorem ST.un (h : ST w0 w q o b r0 r1 vr0 va0 c N vr va u) {u' : Chg} (e : Ex (fun k => k = r1) w w') (hu : CS w' r1 u') : ST w0 w' q o b r0 r1 vr0 va0 c N vr va u' := by
  obtain ⟨n1, n2, n3⟩ := h.nf
  have h0 := h.h0
  have h1 := h.h1
  have q0 := h.q0
  refine ⟨h.co.other e (by omega), h.na.keep e (fun k hk x => n3 (by rw [← x]; exact hk)), h.cr.other e (by omega), hu, h.ex.trans2 e (fun j hj => .inr (by omega)), h.ft, h.fl, h0, h1, q0, h.qf⟩
/-- what is new is no part of it -/
theorem ST.al (h : ST w0 w q o b r0 r1 vr0 va0 c N vr va u) (ob : Obj) : ST w0 (w.alloc ob) q o b r0 r1 vr0 va0 c N vr va u :=
  h.turn (h.na.new ((Ex.refl _ w).alloc ob)) ((Ex.refl _ w).alloc ob) (fun _ hk => .inl hk)
end
def NPost (w : World) (b : Nat) (vr va : Nat → Value) (v : Value) (N' : Nat → Dv) (e : Ending) (w' : World) : Prop :=
  e = .returned v ∧ ∃ vr' va', NA w' b N' vr' va' ∧ Ex (Foot b vr va) w w' ∧ ∀ k, Foot b vr' va' k → Foot b vr va k ∨ w.heap.size ≤ k
theorem ST.fin {w0 w : World} {q o b r0 r1 : Nat} {vr0 va0 : Nat → Value} {c : Chg} {N : Nat → Dv} {vr va : Nat → Value} {u : Chg} (h : ST w0 w q o b r0 r1 vr0 va0 c N vr va u) {v : Value} (y0 y1 y2 y3 y4 y5 y6 y7 y8 : Value) : NPost w0 b vr0 va0 v N (.returned v) (((((((((w.setCell ⟨r0, 0, none⟩ y0).setCell ⟨r0, 1, none⟩ y1).setCell ⟨r0, 2, none⟩ y2).setCell ⟨r0, 3, none⟩ y3).setCell ⟨r0, 4, none⟩ y4).setCell ⟨r0, 5, none⟩ y5).setCell ⟨r0, 6, none⟩ y6).setCell ⟨r0, 7, none⟩ y7).setCell ⟨r0, 8, none⟩ y8) := by
  have e : Ex (fun k => k = r0) w (((((((((w.setCell ⟨r0, 0, none⟩ y0).setCell ⟨r0, 1, none⟩ y1).setCell ⟨r0, 2, none⟩ y2).setCell ⟨r0, 3, none⟩ y3).setCell ⟨r0, 4, none⟩ y4).setCell ⟨r0, 5, none⟩ y5).setCell ⟨r0, 6, none⟩ y6).setCell ⟨r0, 7, none⟩ y7).setCell ⟨r0, 8, none⟩ y8) := (((((((((Ex.refl (fun k => k = r0) w).set (p := r0) rfl _).set (p := r0) rfl _).set (p := r0) rfl _).set (p := r0) rfl _).set (p := r0) rfl _).set (p := r0) rfl _).set (p := r0) rfl _).set (p := r0) rfl _).set (p := r0) rfl _
  have h0 := h.h0
  obtain ⟨n1, n2, n3⟩ := h.nf
  refine ⟨rfl, vr, va, h.na.keep e (fun k hk x => n2 (by rw [← x]; exact hk)), h.ex.trans2 e (fun j hj => .inr (by omega)), fun k hk => ?_⟩
  rcases h.ft k hk with z | z
  · exact .inl z
  · exact .inr z.1
theorem st_new {w : World} {q o b : Nat} {c : Chg} {N : Nat → Dv} {vr va : Nat → Value} (hc : CO w q o c) (hn : NA w b N vr va) (hq : ¬ Foot b vr va q) (nq : Nat) (u : Chg) (W : World) (hW : W = ((w.alloc (.cells Chg.zero.vals.toArray 45)).drewN nq).alloc (.cells u.vals.toArray 45)) : ST w W q o b w.heap.size (w.heap.size + 1) vr va c N vr va u := by
  subst hW
  have e1 : Ex (fun _ => False) w (((w.alloc (.cells Chg.zero.vals.toArray 45)).drewN nq).alloc (.cells u.vals.toArray 45)) := (((Ex.refl _ w).alloc _).drewN nq).alloc _
  have hq0 : q < w.heap.size := World.block_lt_of_cell? _ _ hc.c0
  refine ⟨hc.other e1 (fun e => e), hn.new e1, ?_, ?_, e1.mono (fun _ x => x.elim), fun k hk => .inl hk, fun k hk => hn.foot_lt hk, Nat.le_refl _, by omega, hq0, hq⟩
  · exact (cs_alloc w .zero 45).other (((Ex.refl (fun _ => False) _).drewN nq).alloc _) (fun e => e)
  · have := cs_alloc ((w.alloc (.cells Chg.zero.vals.toArray 45)).drewN nq) u 45
    rwa [show ((w.alloc (.cells Chg.zero.vals.toArray 45)).drewN nq).heap.size = w.heap.size + 1 by simp [go_sem]] at this
set_option maxRecDepth 100000 in
set_option maxHeartbeats 8000000 in
theorem step_if (w : World) (q o b d : Nat) (N : Nat → Dv) (vr va : Nat → Value) (hp pr ln ix cl : Int) (pm up : Bool) (hc : CO w q o ⟨5, d, hp, pr, ln, ix, cl, pm, up⟩) (hn : NA w b N vr va) (hq : ¬ Foot b vr va q) (hd : d < 16) :
    Calls Try.prog 61 #[.pointer (some ⟨b, 0, none⟩), .pointer (some ⟨q, o, none⟩)] w (NPost w b vr va (.tuple #[chgV ⟨5, d, 0, 0, 0, 0, 0, false, (N d).up⟩, .int .i64 0]) (upd N d { N d with up := up })) := by
  have hdi : (d : Int) < 16 := by omega
  have HC := hide hc
  have HN := hide hn
  have c1 := hc.c1
  simp only [] at c1
  clear hc hn
  have c1 := ((Ex.refl (fun _ => False) w).alloc (.cells #[.int .i64 0, .int .i64 0, .int .i64 0, .int .i64 0, .int .i64 0, .int .i64 0, .int .i64 0, .bool false, .bool false] 45)).cell (fun e => e) c1
  go_enter Try.func61, Try.ntmps61
  go_upto_region 1 with fail
  go_quiet (fail)
  have HST := fun W hW => hide (st_new HC.out HN.out hq nq { Chg.zero with dv := d } W hW)
  clear HC HN
  simp only [Chg.vals, Chg.zero] at HST
  go_upto_region 3 with fail
  obtain ⟨W, hW⟩ : ∃ W, W = ((w.alloc (.cells #[.int .i64 0, .int .i64 0, .int .i64 0, .int .i64 0, .int .i64 0, .int .i64 0, .int .i64 0, .bool false, .bool false] 45)).drewN nq).alloc (.cells #[.int .i64 0, .int .i64 d, .int .i64 0, .int .i64 0, .int .i64 0, .int .i64 0, .int .i64 0, .bool false, .bool false] 45) := ⟨_, rfl⟩
  rw [← hW]
  have HS := HST W hW
  clear HST hW c1
  obtain ⟨r1, hr1⟩ : ∃ r, w.heap.size + 1 = r := ⟨_, rfl⟩
  rw [hr1] at HS ⊢
  obtain ⟨r0, hr0⟩ : ∃ r, w.heap.size = r := ⟨_, rfl⟩
  rw [hr0] at HS ⊢
  clear hr0 hr1
  have k0 := HS.out.co.c0
  simp only [] at k0
  go_upto_region 41 with fail
  clear k0
  have nu := HS.out.na.u d hd
  have nf := HS.out.na.fz
  have u0 := HS.out.cu.c0
  have u8 := HS.out.cu.c8
  have uf := HS.out.cu.fr
  simp only [] at u0 u8
  obtain ⟨uu, huu⟩ : ∃ x, (N d).up = x := ⟨_, rfl⟩
  rw [huu] at nu
  have HU := hide huu
  clear huu
  go_region
  have HS1 := hide ((HS.out.un (((Ex.refl (fun k => k = r1) W).set (p := r1) (j := 0) rfl (.int .i64 5)).set (p := r1) (j := 8) rfl (.bool uu)) ((HS.out.cu.put0 5).put8 uu)).drewN 1)
  clear HS nu nf u0 u8 uf
  have HS := HS1
  clear HS1
  obtain ⟨W1, hW1⟩ : ∃ Z, Z = ((W.setCell ⟨r1, 0, none⟩ (.int .i64 5)).setCell ⟨r1, 8, none⟩ (.bool uu)).drew := ⟨_, rfl⟩
  rw [show ((W.setCell ⟨r1, 0, none⟩ (.int .i64 5)).setCell ⟨r1, 8, none⟩ (.bool uu)).drewN 1 = W1 from hW1.symm] at HS
  rw [← hW1]
  clear hW1
  have k8 := HS.out.co.c8
  have nu := HS.out.na.u d hd
  have nf := HS.out.na.fz
  simp only [] at k8
  go_upto_region 43 with fail
  clear k8 nu nf
  replace HS := hide (HS.out.turn (HS.out.na.setU hd up) (((Ex.refl (fun k => k = b) W1).set (p := b) rfl _).mono (fun k hk => .inl hk)) (fun k hk => .inl hk))
  generalize W1.setCell ⟨b, d * 4 + 2, none⟩ (.bool up) = W2 at *
  have u0 := HS.out.cu.c0
  have R0 := HS.out.cr.c0
  have u1 := HS.out.cu.c1
  have R1 := HS.out.cr.c1
  have u2 := HS.out.cu.c2
  have R2 := HS.out.cr.c2
  have u3 := HS.out.cu.c3
  have R3 := HS.out.cr.c3
  have u4 := HS.out.cu.c4
  have R4 := HS.out.cr.c4
  have u5 := HS.out.cu.c5
  have R5 := HS.out.cr.c5
  have u6 := HS.out.cu.c6
  have R6 := HS.out.cr.c6
  have u7 := HS.out.cu.c7
  have R7 := HS.out.cr.c7
  have u8 := HS.out.cu.c8
  have R8 := HS.out.cr.c8
  have uf := HS.out.cu.fr
  have Rf := HS.out.cr.fr
  have h01 := HS.out.h1
  simp only [Chg.zero] at u0 R0 u1 R1 u2 R2 u3 R3 u4 R4 u5 R5 u6 R6 u7 R7 u8 R8
  have HFIN := fun (v : Value) (y0 y1 y2 y3 y4 y5 y6 y7 y8 : Value) => hide (HS.out.fin (v := v) y0 y1 y2 y3 y4 y5 y6 y7 y8)
  go_wp2
  refine bodyPost_ret (v := .tuple #[chgV ⟨5, d, 0, 0, 0, 0, 0, false, uu⟩, .int .i64 0]) (by simp [results, Try.results61, go_sem, chgV, Chg.vals, R0, R1, R2, R3, R4, R5, R6, R7, R8]) rfl ?_
  rw [HU.out]
  exact (HFIN _ _ _ _ _ _ _ _ _ _).out
end Go.Proofs.Qxb6500778a
