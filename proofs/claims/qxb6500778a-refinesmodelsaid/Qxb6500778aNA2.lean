import Derived.Test.Qxb6500778aN8
import Derived.Test.Qxb6500778aNA1
namespace Go.Proofs.Qxb6500778a
open Go.RowKit

structure OB (w : World) (r : Nat) (pm : Bool) (pr ln cl : Int) : Prop where
  c0 : w.cell? ⟨r, 0, none⟩ = some (.bool pm)
  c1 : w.cell? ⟨r, 1, none⟩ = some (.int .i64 pr)
  c2 : w.cell? ⟨r, 2, none⟩ = some (.int .i64 ln)
  c3 : w.cell? ⟨r, 3, none⟩ = some (.int .i64 cl)
theorem OB.other {w w' : World} {r : Nat} {pm : Bool} {pr ln cl : Int} {S : Nat → Prop} (h : OB w r pm pr ln cl) (e : Ex S w w') (hn : ¬ S r) : OB w' r pm pr ln cl := ⟨e.cell hn h.c0, e.cell hn h.c1, e.cell hn h.c2, e.cell hn h.c3⟩
theorem ob_new (w : World) (pm : Bool) (pr ln cl : Int) : OB (w.alloc (.cells #[.bool pm, .int .i64 pr, .int .i64 ln, .int .i64 cl] 81)) w.heap.size pm pr ln cl := by
  have n := fun j u h => new_cells w [.bool pm, .int .i64 pr, .int .i64 ln, .int .i64 cl] 81 j u h
  exact ⟨n 0 _ rfl, n 1 _ rfl, n 2 _ rfl, n 3 _ rfl⟩
set_option linter.unusedSimpArgs false in
set_option maxRecDepth 100000 in
set_option maxHeartbeats 8000000 in
theorem step_rem_miss (w : World) (q o b d : Nat) (N : Nat → Dv) (vr va : Nat → Value) (hp pr ln ix cl : Int) (pm up : Bool) (hc : CO w q o ⟨3, d, hp, pr, ln, ix, cl, pm, up⟩) (hn : NA w b N vr va) (hq : ¬ Foot b vr va q) (hd : d < 16) (i0 : Nat) (hix : ix = (i0 : Int)) (hlt : (N d).ac.length ≤ i0) :
    Calls Try.prog 61 #[.pointer (some ⟨b, 0, none⟩), .pointer (some ⟨q, o, none⟩)] w (NPost w b vr va (.tuple #[chgV ⟨0, d, 0, 0, 0, 0, 0, false, false⟩, .int .i64 7]) N) := by
  have hdi : (d : Int) < 16 := by omega
  subst hix
  have HC := hide hc
  have HN := hide hn
  have c1 := hc.c1
  simp only [] at c1
  clear hc hn
  have c1 := ((Ex.refl (fun _ => False) w).alloc (.cells #[.int .i64 0, .int .i64 0, .int .i64 0, .int .i64 0, .int .i64 0, .int .i64 0, .int .i64 0, .bool false, .bool false] 45)).cell (fun e => e) c1
  go_enter Try.func61, Try.ntmps61
  go_upto_region 1 with fail
  go_quiet (fail)
  have HST := fun W hW => hide (st_new HC.out HN.out hq nq { Chg.zero with dv := d } W hW)
  clear HC HN
  simp only [Chg.vals, Chg.zero] at HST
  go_upto_region 3 with fail
  obtain ⟨W, hW⟩ : ∃ W, W = ((w.alloc (.cells #[.int .i64 0, .int .i64 0, .int .i64 0, .int .i64 0, .int .i64 0, .int .i64 0, .int .i64 0, .bool false, .bool false] 45)).drewN nq).alloc (.cells #[.int .i64 0, .int .i64 d, .int .i64 0, .int .i64 0, .int .i64 0, .int .i64 0, .int .i64 0, .bool false, .bool false] 45) := ⟨_, rfl⟩
  rw [← hW]
  have HS := HST W hW
  clear HST hW c1
  obtain ⟨r1, hr1⟩ : ∃ r, w.heap.size + 1 = r := ⟨_, rfl⟩
  rw [hr1] at HS ⊢
  obtain ⟨r0, hr0⟩ : ∃ r, w.heap.size = r := ⟨_, rfl⟩
  rw [hr0] at HS ⊢
  clear hr0 hr1
  have k0 := HS.out.co.c0
  simp only [] at k0
  go_upto_region 30 with fail
  clear k0
  have k5 := HS.out.co.c5
  have na := HS.out.na.a d hd
  have nf := HS.out.na.fz
  simp only [] at k5
  obtain ⟨sa0, sc0, hv0⟩ := own_len (HS.out.na.ao d hd)
  rw [hv0] at na
  obtain ⟨n0, hn0⟩ : ∃ n, (N d).ac.length = n := ⟨_, rfl⟩
  rw [hn0] at na
  have hcm : decide ((n0 : Int) ≤ (i0 : Int)) = true := decide_eq_true (by omega)
  go_quiet (fail)
  replace HS := hide (HS.out.drewN nq)
  generalize W.drewN nq = W1 at *
  clear k5 na nf hv0
  go_upto_region 31 with fail
  have u0 := HS.out.cu.c0
  have R0 := HS.out.cr.c0
  have u1 := HS.out.cu.c1
  have R1 := HS.out.cr.c1
  have u2 := HS.out.cu.c2
  have R2 := HS.out.cr.c2
  have u3 := HS.out.cu.c3
  have R3 := HS.out.cr.c3
  have u4 := HS.out.cu.c4
  have R4 := HS.out.cr.c4
  have u5 := HS.out.cu.c5
  have R5 := HS.out.cr.c5
  have u6 := HS.out.cu.c6
  have R6 := HS.out.cr.c6
  have u7 := HS.out.cu.c7
  have R7 := HS.out.cr.c7
  have u8 := HS.out.cu.c8
  have R8 := HS.out.cr.c8
  have uf := HS.out.cu.fr
  have Rf := HS.out.cr.fr
  have h01 := HS.out.h1
  simp only [Chg.zero] at u0 R0 u1 R1 u2 R2 u3 R3 u4 R4 u5 R5 u6 R6 u7 R7 u8 R8
  have HFIN := fun (v : Value) (y0 y1 y2 y3 y4 y5 y6 y7 y8 : Value) => hide (HS.out.fin (v := v) y0 y1 y2 y3 y4 y5 y6 y7 y8)
  go_wp2
  refine bodyPost_ret (v := .tuple #[chgV ⟨0, d, 0, 0, 0, 0, 0, false, false⟩, .int .i64 7]) (by simp [results, Try.results61, go_sem, chgV, Chg.vals, R0, R1, R2, R3, R4, R5, R6, R7, R8]) rfl ?_
  exact (HFIN _ _ _ _ _ _ _ _ _ _).out
set_option linter.unusedSimpArgs false in
set_option maxRecDepth 100000 in
set_option maxHeartbeats 8000000 in
theorem step_rem (w : World) (q o b d : Nat) (N : Nat → Dv) (vr va : Nat → Value) (hp pr ln ix cl : Int) (pm up : Bool) (hc : CO w q o ⟨3, d, hp, pr, ln, ix, cl, pm, up⟩) (hn : NA w b N vr va) (hq : ¬ Foot b vr va q) (hd : d < 16) (i0 : Nat) (hix : ix = (i0 : Int)) (hcap : (N d).rt.length + (N d).ac.length ≤ 64) (opm : Bool) (opr oln ocl : Int) (hhop : (N d).ac[i0]? = some ⟨opm, opr, oln, ocl⟩) :
    Calls Try.prog 61 #[.pointer (some ⟨b, 0, none⟩), .pointer (some ⟨q, o, none⟩)] w (NPost w b vr va (.tuple #[chgV ⟨2, d, 0, opr, oln, i0, ocl, opm, false⟩, .int .i64 0]) (upd N d { N d with ac := (N d).ac.take i0 ++ (N d).ac.drop (i0 + 1) })) := by
  have hdi : (d : Int) < 16 := by omega
  subst hix
  have HC := hide hc
  have HN := hide hn
  have c1 := hc.c1
  simp only [] at c1
  clear hc hn
  have c1 := ((Ex.refl (fun _ => False) w).alloc (.cells #[.int .i64 0, .int .i64 0, .int .i64 0, .int .i64 0, .int .i64 0, .int .i64 0, .int .i64 0, .bool false, .bool false] 45)).cell (fun e => e) c1
  go_enter Try.func61, Try.ntmps61
  go_upto_region 1 with fail
  go_quiet (fail)
  have HST := fun W hW => hide (st_new HC.out HN.out hq nq { Chg.zero with dv := d } W hW)
  clear HC HN
  simp only [Chg.vals, Chg.zero] at HST
  go_upto_region 3 with fail
  obtain ⟨W, hW⟩ : ∃ W, W = ((w.alloc (.cells #[.int .i64 0, .int .i64 0, .int .i64 0, .int .i64 0, .int .i64 0, .int .i64 0, .int .i64 0, .bool false, .bool false] 45)).drewN nq).alloc (.cells #[.int .i64 0, .int .i64 d, .int .i64 0, .int .i64 0, .int .i64 0, .int .i64 0, .int .i64 0, .bool false, .bool false] 45) := ⟨_, rfl⟩
  rw [← hW]
  have HS := HST W hW
  clear HST hW c1
  obtain ⟨r1, hr1⟩ : ∃ r, w.heap.size + 1 = r := ⟨_, rfl⟩
  rw [hr1] at HS ⊢
  obtain ⟨r0, hr0⟩ : ∃ r, w.heap.size = r := ⟨_, rfl⟩
  rw [hr0] at HS ⊢
  clear hr0 hr1
  have k0 := HS.out.co.c0
  simp only [] at k0
  have hlt0 : i0 < (N d).ac.length := (List.getElem?_eq_some_iff.1 hhop).1
  go_upto_region 30 with fail
  clear k0
  have k5 := HS.out.co.c5
  have na := HS.out.na.a d hd
  have nf := HS.out.na.fz
  simp only [] at k5
  obtain ⟨sa0, sc0, hv0⟩ := own_len (HS.out.na.ao d hd)
  rw [hv0] at na
  obtain ⟨n0, hn0⟩ : ∃ n, (N d).ac.length = n := ⟨_, rfl⟩
  rw [hn0] at na
  have hcm : decide ((n0 : Int) ≤ (i0 : Int)) = false := decide_eq_false (by omega)
  go_quiet (fail)
  replace HS := hide (HS.out.drewN nq)
  generalize W.drewN nq = W1 at *
  clear k5 na nf hv0
  go_upto_region 32 with fail
  clear hcm hn0 hlt0
  obtain ⟨i1, hi, hz0, hz1, hz2⟩ := info_parts Try.inf81
  have HI := hide (And.intro hi (And.intro hz0 (And.intro hz1 hz2)))
  clear hi hz0 hz1 hz2
  obtain ⟨L, hL⟩ : ∃ L, (N d).ac = L := ⟨_, rfl⟩
  obtain ⟨n, hn⟩ : ∃ n, L.length = n := ⟨_, rfl⟩
  have hn64 : n ≤ 64 := by rw [← hn, ← hL]; omega
  rw [hL] at hhop
  have hi0 : i0 < n := by rw [← hn]; exact (List.getElem?_eq_some_iff.1 hhop).1
  have nr := HS.out.na.a d hd
  have HO := hide (HS.out.na.ao d hd)
  obtain ⟨g, cap, hv⟩ := own_some HO.out (by rw [hL, hn]; omega)
  rw [hv, hL, hn] at HO nr
  have HRC := hide (rl_cells (L := L) (by rw [hn]; exact HO.out) (by rw [hn]) hhop)
  have HV : Hid (va d = .slice (some ⟨g, 0, none⟩) n cap) := by show _ = _; rw [hv, hL, hn]
  have HL := hide hL
  have HNL := hide hn
  clear hv hL hn hcap hhop
  have hcap := own_cap HO.out
  have hgb : ¬ b = g := fun e => by have := own_row HO.out (k := g) rfl; omega
  have hFg : Foot b vr va g := .inr ⟨d, hd, .inr (by rw [HV.out]; rfl)⟩
  have hqg : ¬ q = g := fun e => HS.out.nf.1 (by rw [e]; exact hFg)
  have hg1 : ¬ g = r1 := fun e => HS.out.nf.2.2 (by rw [← e]; exact hFg)
  have hb1 : ¬ b = r1 := fun e => HS.out.nf.2.2 (.inl e.symm)
  have hii : (i0 : Int) < (n : Int) := by omega
  obtain ⟨g0, g1, g2, g3⟩ := HRC.out
  simp only [] at g0 g1 g2 g3
  have k5 := HS.out.co.c5
  simp only [] at k5
  have hbl := HS.out.na.lt
  have hgl := HS.out.na.foot_lt hFg
  have hql : q < W1.heap.size := World.block_lt_of_cell? _ _ k5
  refine wp_region_held_drew (S := fun w' => w'.cell? ⟨q, o + 5, none⟩ = some (.int .i64 i0) ∧ w'.cell? ⟨b, d * 4 + 1, none⟩ = some (.slice (some ⟨g, 0, none⟩) n cap) ∧ w'.cell? ⟨g, i0 * 4, none⟩ = some (.bool opm) ∧ w'.cell? ⟨g, i0 * 4 + 1, none⟩ = some (.int .i64 opr) ∧ w'.cell? ⟨g, i0 * 4 + 2, none⟩ = some (.int .i64 oln) ∧ w'.cell? ⟨g, i0 * 4 + 3, none⟩ = some (.int .i64 ocl)) (by kernel_rfl) (And.intro k5 (And.intro nr (And.intro g0 (And.intro g1 (And.intro g2 g3))))) (fun hHeld => ?_)
  refine wpAnyH_take (i := 0) (v := ?_) rfl (by kernel_rfl) (by kernel_rfl) (by kernel_rfl) (fun _ _ _ h => h) (Or.inl ⟨by rfl, ?_⟩) (by assumption) ?_
  rotate_left
  · (intro w hSw; (try dsimp only at hSw); go_simp; try (with_reducible rfl))
  try simp only [Act.put, List.getElem_toArray, List.getElem_cons_zero, List.getElem_cons_succ, List.setIfInBounds_toArray, List.set_cons_zero, List.set_cons_succ]
  refine wpAnyH_take (i := 1) (v := ?_) rfl (by kernel_rfl) (by kernel_rfl) (by kernel_rfl) (fun _ _ _ h => h) (Or.inl ⟨by rfl, ?_⟩) (by assumption) ?_
  rotate_left
  · (intro w hSw; (try dsimp only at hSw); go_simp; try (with_reducible rfl))
  try simp only [Act.put, List.getElem_toArray, List.getElem_cons_zero, List.getElem_cons_succ, List.setIfInBounds_toArray, List.set_cons_zero, List.set_cons_succ]
  refine wpAnyH_take (i := 2) (v := ?_) rfl (by kernel_rfl) (by kernel_rfl) (by kernel_rfl) (fun _ _ _ h => h) (Or.inl ⟨by rfl, ?_⟩) (by assumption) ?_
  rotate_left
  · (intro w hSw; (try dsimp only at hSw); go_simp; try (with_reducible rfl))
  try simp only [Act.put, List.getElem_toArray, List.getElem_cons_zero, List.getElem_cons_succ, List.setIfInBounds_toArray, List.set_cons_zero, List.set_cons_succ]
  refine wpAnyH_take (i := 3) (v := ?_) rfl (by kernel_rfl) (by kernel_rfl) (by kernel_rfl) (fun _ _ _ h => h) (Or.inl ⟨by rfl, ?_⟩) (by assumption) ?_
  rotate_left
  · (intro w hSw; (try dsimp only at hSw); go_simp; try (with_reducible rfl))
  try simp only [Act.put, List.getElem_toArray, List.getElem_cons_zero, List.getElem_cons_succ, List.setIfInBounds_toArray, List.set_cons_zero, List.set_cons_succ]
  refine wpAnyH_take (i := 4) (v := ?_) rfl (by kernel_rfl) (by kernel_rfl) (by kernel_rfl) (fun _ _ _ h => h) (Or.inl ⟨by rfl, ?_⟩) (by assumption) ?_
  rotate_left
  · (intro w hSw; (try dsimp only at hSw); go_simp; try (with_reducible rfl))
  try simp only [Act.put, List.getElem_toArray, List.getElem_cons_zero, List.getElem_cons_succ, List.setIfInBounds_toArray, List.set_cons_zero, List.set_cons_succ]
  refine wpAnyH_take (i := 5) (v := ?_) rfl (by kernel_rfl) (by kernel_rfl) (by kernel_rfl) (fun _ _ _ h => h) (Or.inl ⟨by rfl, ?_⟩) (by assumption) ?_
  rotate_left
  · (intro w hSw; (try dsimp only at hSw); go_simp; try (with_reducible rfl))
  try simp only [Act.put, List.getElem_toArray, List.getElem_cons_zero, List.getElem_cons_succ, List.setIfInBounds_toArray, List.set_cons_zero, List.set_cons_succ]
  refine wpAnyH_take (i := 6) (v := ?_) rfl (by kernel_rfl) (by kernel_rfl) (by kernel_rfl) (fun _ _ _ h => h) (Or.inl ⟨by rfl, ?_⟩) (by assumption) ?_
  rotate_left
  · (intro w hSw; (try dsimp only at hSw); go_simp; try (with_reducible rfl))
  try simp only [Act.put, List.getElem_toArray, List.getElem_cons_zero, List.getElem_cons_succ, List.setIfInBounds_toArray, List.set_cons_zero, List.set_cons_succ]
  refine wpAnyH_take (i := 7) (v := ?_) rfl (by kernel_rfl) (by kernel_rfl) (by kernel_rfl) (fun _ _ _ h => h) (Or.inl ⟨by rfl, ?_⟩) (by assumption) ?_
  rotate_left
  · (intro w hSw; (try dsimp only at hSw); go_simp; try (with_reducible rfl))
  try simp only [Act.put, List.getElem_toArray, List.getElem_cons_zero, List.getElem_cons_succ, List.setIfInBounds_toArray, List.set_cons_zero, List.set_cons_succ]
  refine wpAnyH_take (i := 8) (v := ?_) rfl (by kernel_rfl) (by kernel_rfl) (by kernel_rfl) (fun _ _ _ h => h) (Or.inl ⟨by rfl, ?_⟩) (by assumption) ?_
  rotate_left
  · (intro w hSw; (try dsimp only at hSw); go_simp; try (with_reducible rfl))
  try simp only [Act.put, List.getElem_toArray, List.getElem_cons_zero, List.getElem_cons_succ, List.setIfInBounds_toArray, List.set_cons_zero, List.set_cons_succ]
  refine wpAnyH_take (i := 9) (v := ?_) rfl (by kernel_rfl) (by kernel_rfl) (by kernel_rfl) (fun _ _ _ h => h) (Or.inl ⟨by rfl, ?_⟩) (by assumption) ?_
  rotate_left
  · (intro w hSw; (try dsimp only at hSw); go_simp; try (with_reducible rfl))
  try simp only [Act.put, List.getElem_toArray, List.getElem_cons_zero, List.getElem_cons_succ, List.setIfInBounds_toArray, List.set_cons_zero, List.set_cons_succ]
  refine wpAnyH_ready (rs := [10]) (by kernel_rfl) (by simp) ?_
  refine (AllReadyH.cons rfl (fun K hK => ?_) AllReadyH.nil)
  · go_simp
    refine hK.out _ _ ?_ (fun hHeld => ?_)
    · first | exact hHeld | (simp [go_sem, k5, nr, g0, g1, g2, g3, hbl, hgl, hql, Nat.ne_of_lt]; done)
    clear hK K
    try simp only [Act.put, List.getElem_toArray, List.getElem_cons_zero, List.getElem_cons_succ, List.setIfInBounds_toArray, List.set_cons_zero, List.set_cons_succ]
    refine wpAnyH_ready (rs := [11]) (by kernel_rfl) (by simp) ?_
    refine (AllReadyH.cons rfl (fun K hK => ?_) AllReadyH.nil)
    · go_simp
      refine hK.out _ _ ?_ (fun hHeld => ?_)
      · first | exact hHeld | (simp [go_sem, k5, nr, g0, g1, g2, g3, hbl, hgl, hql, Nat.ne_of_lt]; done)
      clear hK K
      try simp only [Act.put, List.getElem_toArray, List.getElem_cons_zero, List.getElem_cons_succ, List.setIfInBounds_toArray, List.set_cons_zero, List.set_cons_succ]
      refine wpAnyH_done (by kernel_rfl) ?_ _
      have hr1l : r1 < W1.heap.size := World.block_lt_of_cell? _ _ HS.out.cu.c0
      replace HS := hide ((HS.out.al (.cells #[.bool opm, .int .i64 opr, .int .i64 oln, .int .i64 ocl] 81)).drewN 1)
      rw [drewN1] at HS
      have HOB := hide ((ob_new W1 opm opr oln ocl).other ((Ex.refl (fun _ => False) _).drew) (fun e => e))
      obtain ⟨r2, hr2⟩ : ∃ r, W1.heap.size = r := ⟨_, rfl⟩
      rw [hr2] at HOB hr1l ⊢
      have hr21 : ¬ r2 = r1 := by omega
      clear k5 nr g0 g1 g2 g3 hbl hgl hql hr2 hHeld
      generalize (W1.alloc (.cells #[.bool opm, .int .i64 opr, .int .i64 oln, .int .i64 ocl] 81)).drew = W2 at *
      have o0 := HOB.out.c0
      have k5 := HS.out.co.c5
      have u0 := HS.out.cu.c0
      have u5 := HS.out.cu.c5
      have u7 := HS.out.cu.c7
      have uf := HS.out.cu.fr
      simp only [] at k5 u0 u5 u7
      have hqr : ¬ q = r1 := by have := HS.out.q0; have := HS.out.h0; have := HS.out.h1; omega
      go_upto_region 33 with fail
      refine wp_region_held_drew (S := fun w' => w'.cell? ⟨q, o + 5, none⟩ = some (.int .i64 i0) ∧ w'.cell? ⟨r2, 0, none⟩ = some (.bool opm)) (by kernel_rfl) (And.intro k5 o0) (fun hHeld => ?_)
      refine wpAnyH_take (i := 0) (v := ?_) rfl (by kernel_rfl) (by kernel_rfl) (by kernel_rfl) (fun _ _ _ h => h) (Or.inl ⟨by rfl, ?_⟩) (by assumption) ?_
      rotate_left
      · (intro w hSw; (try dsimp only at hSw); go_simp; try (with_reducible rfl))
      try simp only [Act.put, List.getElem_toArray, List.getElem_cons_zero, List.getElem_cons_succ, List.setIfInBounds_toArray, List.set_cons_zero, List.set_cons_succ]
      refine wpAnyH_take (i := 1) (v := ?_) rfl (by kernel_rfl) (by kernel_rfl) (by kernel_rfl) (fun _ _ _ h => h) (Or.inl ⟨by rfl, ?_⟩) (by assumption) ?_
      rotate_left
      · (intro w hSw; (try dsimp only at hSw); go_simp; try (with_reducible rfl))
      try simp only [Act.put, List.getElem_toArray, List.getElem_cons_zero, List.getElem_cons_succ, List.setIfInBounds_toArray, List.set_cons_zero, List.set_cons_succ]
      refine wpAnyH_take (i := 2) (v := ?_) rfl (by kernel_rfl) (by kernel_rfl) (by kernel_rfl) (fun _ _ _ h => h) (Or.inl ⟨by rfl, ?_⟩) (by assumption) ?_
      rotate_left
      · (intro w hSw; (try dsimp only at hSw); go_simp; try (with_reducible rfl))
      try simp only [Act.put, List.getElem_toArray, List.getElem_cons_zero, List.getElem_cons_succ, List.setIfInBounds_toArray, List.set_cons_zero, List.set_cons_succ]
      refine wpAnyH_take (i := 3) (v := ?_) rfl (by kernel_rfl) (by kernel_rfl) (by kernel_rfl) (fun _ _ _ h => h) (Or.inl ⟨by rfl, ?_⟩) (by assumption) ?_
      rotate_left
      · (intro w hSw; (try dsimp only at hSw); go_simp; try (with_reducible rfl))
      try simp only [Act.put, List.getElem_toArray, List.getElem_cons_zero, List.getElem_cons_succ, List.setIfInBounds_toArray, List.set_cons_zero, List.set_cons_succ]
      refine wpAnyH_take (i := 4) (v := ?_) rfl (by kernel_rfl) (by kernel_rfl) (by kernel_rfl) (fun _ _ _ h => h) (Or.inl ⟨by rfl, ?_⟩) (by assumption) ?_
      rotate_left
      · (intro w hSw; (try dsimp only at hSw); go_simp; try (with_reducible rfl))
      try simp only [Act.put, List.getElem_toArray, List.getElem_cons_zero, List.getElem_cons_succ, List.setIfInBounds_toArray, List.set_cons_zero, List.set_cons_succ]
      refine wpAnyH_take (i := 5) (v := ?_) rfl (by kernel_rfl) (by kernel_rfl) (by kernel_rfl) (fun _ _ _ h => h) (Or.inl ⟨by rfl, ?_⟩) (by assumption) ?_
      rotate_left
      · (intro w hSw; (try dsimp only at hSw); go_simp; try (with_reducible rfl))
      try simp only [Act.put, List.getElem_toArray, List.getElem_cons_zero, List.getElem_cons_succ, List.setIfInBounds_toArray, List.set_cons_zero, List.set_cons_succ]
      refine wpAnyH_take (i := 6) (v := ?_) rfl (by kernel_rfl) (by kernel_rfl) (by kernel_rfl) (fun _ _ _ h => h) (Or.inl ⟨by rfl, ?_⟩) (by assumption) ?_
      rotate_left
      · (intro w hSw; (try dsimp only at hSw); go_simp; try (with_reducible rfl))
      try simp only [Act.put, List.getElem_toArray, List.getElem_cons_zero, List.getElem_cons_succ, List.setIfInBounds_toArray, List.set_cons_zero, List.set_cons_succ]
      refine wpAnyH_ready (rs := [7]) (by kernel_rfl) (by simp) ?_
      refine (AllReadyH.cons rfl (fun K hK => ?_) AllReadyH.nil)
      · go_simp
        refine hK.out _ _ ?_ (fun hHeld => ?_)
        · first | exact hHeld | (simp [go_sem, k5, o0, hqr, hg1, hb1, hr21]; done)
        clear hK K
        try simp only [Act.put, List.getElem_toArray, List.getElem_cons_zero, List.getElem_cons_succ, List.setIfInBounds_toArray, List.set_cons_zero, List.set_cons_succ]
        refine wpAnyH_take (i := 8) (v := ?_) rfl (by kernel_rfl) (by kernel_rfl) (by kernel_rfl) (fun _ _ _ h => h) (Or.inl ⟨by rfl, ?_⟩) (by assumption) ?_
        rotate_left
        · (intro w hSw; (try dsimp only at hSw); go_simp; try (with_reducible rfl))
        try simp only [Act.put, List.getElem_toArray, List.getElem_cons_zero, List.getElem_cons_succ, List.setIfInBounds_toArray, List.set_cons_zero, List.set_cons_succ]
        refine wpAnyH_ready (rs := [9]) (by kernel_rfl) (by simp) ?_
        refine (AllReadyH.cons rfl (fun K hK => ?_) AllReadyH.nil)
        · go_simp
          refine hK.out _ _ ?_ (fun hHeld => ?_)
          · first | exact hHeld | (simp [go_sem, k5, o0, hqr, hg1, hb1, hr21]; done)
          clear hK K
          try simp only [Act.put, List.getElem_toArray, List.getElem_cons_zero, List.getElem_cons_succ, List.setIfInBounds_toArray, List.set_cons_zero, List.set_cons_succ]
          refine wpAnyH_take (i := 10) (v := ?_) rfl (by kernel_rfl) (by kernel_rfl) (by kernel_rfl) (fun _ _ _ h => h) (Or.inl ⟨by rfl, ?_⟩) (by assumption) ?_
          rotate_left
          · (intro w hSw; (try dsimp only at hSw); go_simp; try (with_reducible rfl))
          try simp only [Act.put, List.getElem_toArray, List.getElem_cons_zero, List.getElem_cons_succ, List.setIfInBounds_toArray, List.set_cons_zero, List.set_cons_succ]
          refine wpAnyH_ready (rs := [11]) (by kernel_rfl) (by simp) ?_
          refine (AllReadyH.cons rfl (fun K hK => ?_) AllReadyH.nil)
          · go_simp
            refine hK.out _ _ ?_ (fun hHeld => ?_)
            · first | exact hHeld | (simp [go_sem, k5, o0, hqr, hg1, hb1, hr21]; done)
            clear hK K
            try simp only [Act.put, List.getElem_toArray, List.getElem_cons_zero, List.getElem_cons_succ, List.setIfInBounds_toArray, List.set_cons_zero, List.set_cons_succ]
            refine wpAnyH_done (by kernel_rfl) ?_ _
            replace HS := hide ((HS.out.un ((((Ex.refl (fun k => k = r1) W2).set (p := r1) (j := 0) rfl (.int .i64 2)).set (p := r1) (j := 5) rfl (.int .i64 i0)).set (p := r1) (j := 7) rfl (.bool opm)) (((HS.out.cu.put0 2).put5 i0).put7 opm)).drewN 1)
            rw [drewN1] at HS
            clear hHeld hqr uf k5 o0 u0 u5 u7
            replace HOB := hide (HOB.out.other (((((Ex.refl (fun k => k = r1) W2).set (p := r1) (j := 0) rfl (.int .i64 2)).set (p := r1) (j := 5) rfl (.int .i64 i0)).set (p := r1) (j := 7) rfl (.bool opm)).drew) hr21)
            generalize (((W2.setCell ⟨r1, 0, none⟩ (.int .i64 2)).setCell ⟨r1, 5, none⟩ (.int .i64 i0)).setCell ⟨r1, 7, none⟩ (.bool opm)).drew = W3 at *
            have o1 := HOB.out.c1
            have o2 := HOB.out.c2
            have o3 := HOB.out.c3
            have u3 := HS.out.cu.c3
            have u4 := HS.out.cu.c4
            have u6 := HS.out.cu.c6
            have uf := HS.out.cu.fr
            simp only [] at u3 u4 u6
            have hqr : ¬ q = r1 := by have := HS.out.q0; have := HS.out.h0; have := HS.out.h1; omega
            go_upto_region 34 with fail
            refine wp_region_held_drew (S := fun w' => w'.cell? ⟨r2, 1, none⟩ = some (.int .i64 opr) ∧ w'.cell? ⟨r2, 2, none⟩ = some (.int .i64 oln) ∧ w'.cell? ⟨r2, 3, none⟩ = some (.int .i64 ocl)) (by kernel_rfl) (And.intro o1 (And.intro o2 o3)) (fun hHeld => ?_)
            refine wpAnyH_take (i := 0) (v := ?_) rfl (by kernel_rfl) (by kernel_rfl) (by kernel_rfl) (fun _ _ _ h => h) (Or.inl ⟨by rfl, ?_⟩) (by assumption) ?_
            rotate_left
            · (intro w hSw; (try dsimp only at hSw); go_simp; try (with_reducible rfl))
            try simp only [Act.put, List.getElem_toArray, List.getElem_cons_zero, List.getElem_cons_succ, List.setIfInBounds_toArray, List.set_cons_zero, List.set_cons_succ]
            refine wpAnyH_take (i := 1) (v := ?_) rfl (by kernel_rfl) (by kernel_rfl) (by kernel_rfl) (fun _ _ _ h => h) (Or.inl ⟨by rfl, ?_⟩) (by assumption) ?_
            rotate_left
            · (intro w hSw; (try dsimp only at hSw); go_simp; try (with_reducible rfl))
            try simp only [Act.put, List.getElem_toArray, List.getElem_cons_zero, List.getElem_cons_succ, List.setIfInBounds_toArray, List.set_cons_zero, List.set_cons_succ]
            refine wpAnyH_take (i := 2) (v := ?_) rfl (by kernel_rfl) (by kernel_rfl) (by kernel_rfl) (fun _ _ _ h => h) (Or.inl ⟨by rfl, ?_⟩) (by assumption) ?_
            rotate_left
            · (intro w hSw; (try dsimp only at hSw); go_simp; try (with_reducible rfl))
            try simp only [Act.put, List.getElem_toArray, List.getElem_cons_zero, List.getElem_cons_succ, List.setIfInBounds_toArray, List.set_cons_zero, List.set_cons_succ]
            refine wpAnyH_take (i := 3) (v := ?_) rfl (by kernel_rfl) (by kernel_rfl) (by kernel_rfl) (fun _ _ _ h => h) (Or.inl ⟨by rfl, ?_⟩) (by assumption) ?_
            rotate_left
            · (intro w hSw; (try dsimp only at hSw); go_simp; try (with_reducible rfl))
            try simp only [Act.put, List.getElem_toArray, List.getElem_cons_zero, List.getElem_cons_succ, List.setIfInBounds_toArray, List.set_cons_zero, List.set_cons_succ]
            refine wpAnyH_take (i := 4) (v := ?_) rfl (by kernel_rfl) (by kernel_rfl) (by kernel_rfl) (fun _ _ _ h => h) (Or.inl ⟨by rfl, ?_⟩) (by assumption) ?_
            rotate_left
            · (intro w hSw; (try dsimp only at hSw); go_simp; try (with_reducible rfl))
            try simp only [Act.put, List.getElem_toArray, List.getElem_cons_zero, List.getElem_cons_succ, List.setIfInBounds_toArray, List.set_cons_zero, List.set_cons_succ]
            refine wpAnyH_take (i := 5) (v := ?_) rfl (by kernel_rfl) (by kernel_rfl) (by kernel_rfl) (fun _ _ _ h => h) (Or.inl ⟨by rfl, ?_⟩) (by assumption) ?_
            rotate_left
            · (intro w hSw; (try dsimp only at hSw); go_simp; try (with_reducible rfl))
            try simp only [Act.put, List.getElem_toArray, List.getElem_cons_zero, List.getElem_cons_succ, List.setIfInBounds_toArray, List.set_cons_zero, List.set_cons_succ]
            refine wpAnyH_take (i := 6) (v := ?_) rfl (by kernel_rfl) (by kernel_rfl) (by kernel_rfl) (fun _ _ _ h => h) (Or.inl ⟨by rfl, ?_⟩) (by assumption) ?_
            rotate_left
            · (intro w hSw; (try dsimp only at hSw); go_simp; try (with_reducible rfl))
            try simp only [Act.put, List.getElem_toArray, List.getElem_cons_zero, List.getElem_cons_succ, List.setIfInBounds_toArray, List.set_cons_zero, List.set_cons_succ]
            refine wpAnyH_ready (rs := [7]) (by kernel_rfl) (by simp) ?_
            refine (AllReadyH.cons rfl (fun K hK => ?_) AllReadyH.nil)
            · go_simp
              refine hK.out _ _ ?_ (fun hHeld => ?_)
              · first | exact hHeld | (simp [go_sem, o1, o2, o3, hqr, hg1, hb1, hr21]; done)
              clear hK K
              try simp only [Act.put, List.getElem_toArray, List.getElem_cons_zero, List.getElem_cons_succ, List.setIfInBounds_toArray, List.set_cons_zero, List.set_cons_succ]
              refine wpAnyH_take (i := 8) (v := ?_) rfl (by kernel_rfl) (by kernel_rfl) (by kernel_rfl) (fun _ _ _ h => h) (Or.inl ⟨by rfl, ?_⟩) (by assumption) ?_
              rotate_left
              · (intro w hSw; (try dsimp only at hSw); go_simp; try (with_reducible rfl))
              try simp only [Act.put, List.getElem_toArray, List.getElem_cons_zero, List.getElem_cons_succ, List.setIfInBounds_toArray, List.set_cons_zero, List.set_cons_succ]
              refine wpAnyH_ready (rs := [9]) (by kernel_rfl) (by simp) ?_
              refine (AllReadyH.cons rfl (fun K hK => ?_) AllReadyH.nil)
              · go_simp
                refine hK.out _ _ ?_ (fun hHeld => ?_)
                · first | exact hHeld | (simp [go_sem, o1, o2, o3, hqr, hg1, hb1, hr21]; done)
                clear hK K
                try simp only [Act.put, List.getElem_toArray, List.getElem_cons_zero, List.getElem_cons_succ, List.setIfInBounds_toArray, List.set_cons_zero, List.set_cons_succ]
                refine wpAnyH_take (i := 10) (v := ?_) rfl (by kernel_rfl) (by kernel_rfl) (by kernel_rfl) (fun _ _ _ h => h) (Or.inl ⟨by rfl, ?_⟩) (by assumption) ?_
                rotate_left
                · (intro w hSw; (try dsimp only at hSw); go_simp; try (with_reducible rfl))
                try simp only [Act.put, List.getElem_toArray, List.getElem_cons_zero, List.getElem_cons_succ, List.setIfInBounds_toArray, List.set_cons_zero, List.set_cons_succ]
                refine wpAnyH_ready (rs := [11]) (by kernel_rfl) (by simp) ?_
                refine (AllReadyH.cons rfl (fun K hK => ?_) AllReadyH.nil)
                · go_simp
                  refine hK.out _ _ ?_ (fun hHeld => ?_)
                  · first | exact hHeld | (simp [go_sem, o1, o2, o3, hqr, hg1, hb1, hr21]; done)
                  clear hK K
                  try simp only [Act.put, List.getElem_toArray, List.getElem_cons_zero, List.getElem_cons_succ, List.setIfInBounds_toArray, List.set_cons_zero, List.set_cons_succ]
                  refine wpAnyH_done (by kernel_rfl) ?_ _
                  replace HS := hide ((HS.out.un ((((Ex.refl (fun k => k = r1) W3).set (p := r1) (j := 3) rfl (.int .i64 opr)).set (p := r1) (j := 4) rfl (.int .i64 oln)).set (p := r1) (j := 6) rfl (.int .i64 ocl)) (((HS.out.cu.put3 opr).put4 oln).put6 ocl)).drewN 1)
                  rw [drewN1] at HS
                  clear hHeld hqr uf o1 o2 o3 u3 u4 u6
                  generalize (((W3.setCell ⟨r1, 3, none⟩ (.int .i64 opr)).setCell ⟨r1, 4, none⟩ (.int .i64 oln)).setCell ⟨r1, 6, none⟩ (.int .i64 ocl)).drew = W4 at *
                  clear HOB
                  have HOn : Hid (W4.ownsRow (b + 1) 81 4 (.slice (some ⟨g, 0, none⟩) n cap) n (flatA L)) := by
                    have h := HS.out.na.ao d hd
                    rw [HV.out, HL.out, HNL.out] at h
                    exact h
                  have nr := HS.out.na.a d hd
                  rw [HV.out] at nr
                  have nf := HS.out.na.fz
                  have k5 := HS.out.co.c5
                  simp only [] at k5
                  have hqb : ¬ q = b := fun e => HS.out.nf.1 (.inl e)
                  have hbl := HS.out.na.lt
                  have HCU := hide (own_cut (own_kept HOn.out ((Ex.refl (fun _ => False) W4).drew) (fun _ _ e => e)) (i := i0) (by omega))
                  have hw1 : IntKind.i64.wrap ((i0 : Int) + 1) = (i0 : Int) + 1 := by rw [IntKind.wrap_i64]; omega
                  have hw2 : ((i0 : Int) + 1).toNat = i0 + 1 := by omega
                  have hw3 : (0 : Int) ≤ (i0 : Int) + 1 := by omega
                  have hw4 : (i0 : Int) + 1 ≤ (n : Int) := by omega
                  have hw5 : (i0 : Int) ≤ (cap : Int) := by omega
                  have hw6 : (i0 : Int) ≤ (i0 : Int) + 1 := by omega
                  go_upto_region 35 with fail
                  by_cases hcc : cap = i0 + 1
                  · obtain rfl : n = i0 + 1 := by omega
                    subst hcc
                    refine wp_region_held_drew (S := fun w' => w'.cell? ⟨q, o + 5, none⟩ = some (.int .i64 i0)) (by kernel_rfl) k5 (fun hHeld => ?_)
                    refine wpAnyH_take (i := 0) (v := ?_) rfl (by kernel_rfl) (by kernel_rfl) (by kernel_rfl) (fun _ _ _ h => h) (Or.inl ⟨by rfl, ?_⟩) (by assumption) ?_
                    rotate_left
                    · (intro w hSw; (try dsimp only at hSw); go_simp; try (with_reducible rfl))
                    try simp only [Act.put, List.getElem_toArray, List.getElem_cons_zero, List.getElem_cons_succ, List.setIfInBounds_toArray, List.set_cons_zero, List.set_cons_succ]
                    refine wpAnyH_take (i := 1) (v := ?_) rfl (by kernel_rfl) (by kernel_rfl) (by kernel_rfl) (fun _ _ _ h => h) (Or.inl ⟨by rfl, ?_⟩) (by assumption) ?_
                    rotate_left
                    · (intro w hSw; (try dsimp only at hSw); go_simp; try (with_reducible rfl))
                    try simp only [Act.put, List.getElem_toArray, List.getElem_cons_zero, List.getElem_cons_succ, List.setIfInBounds_toArray, List.set_cons_zero, List.set_cons_succ]
                    refine wpAnyH_take (i := 2) (v := ?_) rfl (by kernel_rfl) (by kernel_rfl) (by kernel_rfl) (fun _ _ _ h => h) (Or.inl ⟨by rfl, ?_⟩) (by assumption) ?_
                    rotate_left
                    · (intro w hSw; (try dsimp only at hSw); go_simp; try (with_reducible rfl))
                    try simp only [Act.put, List.getElem_toArray, List.getElem_cons_zero, List.getElem_cons_succ, List.setIfInBounds_toArray, List.set_cons_zero, List.set_cons_succ]
                    refine wpAnyH_take (i := 3) (v := ?_) rfl (by kernel_rfl) (by kernel_rfl) (by kernel_rfl) (fun _ _ _ h => h) (Or.inl ⟨by rfl, ?_⟩) (by assumption) ?_
                    rotate_left
                    · (intro w hSw; (try dsimp only at hSw); go_simp; try (with_reducible rfl))
                    try simp only [Act.put, List.getElem_toArray, List.getElem_cons_zero, List.getElem_cons_succ, List.setIfInBounds_toArray, List.set_cons_zero, List.set_cons_succ]
                    refine wpAnyH_take (i := 5) (v := ?_) rfl (by kernel_rfl) (by kernel_rfl) (by kernel_rfl) (fun _ _ _ h => h) (Or.inl ⟨by rfl, ?_⟩) (by assumption) ?_
                    rotate_left
                    · (intro w hSw; (try dsimp only at hSw); go_simp; try (with_reducible rfl))
                    try simp only [Act.put, List.getElem_toArray, List.getElem_cons_zero, List.getElem_cons_succ, List.setIfInBounds_toArray, List.set_cons_zero, List.set_cons_succ]
                    refine wpAnyH_take (i := 6) (v := ?_) rfl (by kernel_rfl) (by kernel_rfl) (by kernel_rfl) (fun _ _ _ h => h) (Or.inl ⟨by rfl, ?_⟩) (by assumption) ?_
                    rotate_left
                    · (intro w hSw; (try dsimp only at hSw); go_simp; try (with_reducible rfl))
                    try simp only [Act.put, List.getElem_toArray, List.getElem_cons_zero, List.getElem_cons_succ, List.setIfInBounds_toArray, List.set_cons_zero, List.set_cons_succ]
                    refine wpAnyH_take (i := 7) (v := ?_) rfl (by kernel_rfl) (by kernel_rfl) (by kernel_rfl) (fun _ _ _ h => h) (Or.inl ⟨by rfl, ?_⟩) (by assumption) ?_
                    rotate_left
                    · (intro w hSw; (try dsimp only at hSw); go_simp; try (with_reducible rfl))
                    try simp only [Act.put, List.getElem_toArray, List.getElem_cons_zero, List.getElem_cons_succ, List.setIfInBounds_toArray, List.set_cons_zero, List.set_cons_succ]
                    refine wpAnyH_take (i := 8) (v := ?_) rfl (by kernel_rfl) (by kernel_rfl) (by kernel_rfl) (fun _ _ _ h => h) (Or.inl ⟨by rfl, ?_⟩) (by assumption) ?_
                    rotate_left
                    · (intro w hSw; (try dsimp only at hSw); go_simp; try (with_reducible rfl))
                    try simp only [Act.put, List.getElem_toArray, List.getElem_cons_zero, List.getElem_cons_succ, List.setIfInBounds_toArray, List.set_cons_zero, List.set_cons_succ]
                    refine wpAnyH_take (i := 10) (v := ?_) rfl (by kernel_rfl) (by kernel_rfl) (by kernel_rfl) (fun _ _ _ h => h) (Or.inl ⟨by rfl, ?_⟩) (by assumption) ?_
                    rotate_left
                    · (intro w hSw; (try dsimp only at hSw); go_simp; try (with_reducible rfl))
                    try simp only [Act.put, List.getElem_toArray, List.getElem_cons_zero, List.getElem_cons_succ, List.setIfInBounds_toArray, List.set_cons_zero, List.set_cons_succ]
                    refine wpAnyH_take (i := 11) (v := ?_) rfl (by kernel_rfl) (by kernel_rfl) (by kernel_rfl) (fun _ _ _ h => h) (Or.inl ⟨by rfl, ?_⟩) (by assumption) ?_
                    rotate_left
                    · (intro w hSw; (try dsimp only at hSw); go_simp; try (with_reducible rfl))
                    try simp only [Act.put, List.getElem_toArray, List.getElem_cons_zero, List.getElem_cons_succ, List.setIfInBounds_toArray, List.set_cons_zero, List.set_cons_succ]
                    refine wpAnyH_take (i := 12) (v := ?_) rfl (by kernel_rfl) (by kernel_rfl) (by kernel_rfl) (fun _ _ _ h => h) (Or.inl ⟨by rfl, ?_⟩) (by assumption) ?_
                    rotate_left
                    · (intro w hSw; (try dsimp only at hSw); go_simp; try (with_reducible rfl))
                    try simp only [Act.put, List.getElem_toArray, List.getElem_cons_zero, List.getElem_cons_succ, List.setIfInBounds_toArray, List.set_cons_zero, List.set_cons_succ]
                    refine wpAnyH_take (i := 14) (v := ?_) rfl (by kernel_rfl) (by kernel_rfl) (by kernel_rfl) (fun _ _ _ h => h) (Or.inl ⟨by rfl, ?_⟩) (by assumption) ?_
                    rotate_left
                    · (intro w hSw; (try dsimp only at hSw); go_simp; try (with_reducible rfl))
                    try simp only [Act.put, List.getElem_toArray, List.getElem_cons_zero, List.getElem_cons_succ, List.setIfInBounds_toArray, List.set_cons_zero, List.set_cons_succ]
                    refine wpAnyH_take (i := 15) (v := ?_) rfl (by kernel_rfl) (by kernel_rfl) (by kernel_rfl) (fun _ _ _ h => h) (Or.inl ⟨by rfl, ?_⟩) (by assumption) ?_
                    rotate_left
                    · (intro w hSw; (try dsimp only at hSw); go_simp; try (with_reducible rfl))
                    try simp only [Act.put, List.getElem_toArray, List.getElem_cons_zero, List.getElem_cons_succ, List.setIfInBounds_toArray, List.set_cons_zero, List.set_cons_succ]
                    refine wpAnyH_take (i := 16) (v := ?_) rfl (by kernel_rfl) (by kernel_rfl) (by kernel_rfl) (fun _ _ _ h => h) (Or.inl ⟨by rfl, ?_⟩) (by assumption) ?_
                    rotate_left
                    · (intro w hSw; (try dsimp only at hSw); go_simp; try (with_reducible rfl))
                    try simp only [Act.put, List.getElem_toArray, List.getElem_cons_zero, List.getElem_cons_succ, List.setIfInBounds_toArray, List.set_cons_zero, List.set_cons_succ]
                    refine wpAnyH_take (i := 17) (v := ?_) rfl (by kernel_rfl) (by kernel_rfl) (by kernel_rfl) (fun _ _ _ h => h) (Or.inl ⟨by rfl, ?_⟩) (by assumption) ?_
                    rotate_left
                    · (intro w hSw; (try dsimp only at hSw); go_simp; try (with_reducible rfl))
                    try simp only [Act.put, List.getElem_toArray, List.getElem_cons_zero, List.getElem_cons_succ, List.setIfInBounds_toArray, List.set_cons_zero, List.set_cons_succ]
                    refine wpAnyH_take (i := 18) (v := ?_) rfl (by kernel_rfl) (by kernel_rfl) (by kernel_rfl) (fun _ _ _ h => h) (Or.inl ⟨by rfl, ?_⟩) (by assumption) ?_
                    rotate_left
                    · (intro w hSw; (try dsimp only at hSw); go_simp; try (with_reducible rfl))
                    try simp only [Act.put, List.getElem_toArray, List.getElem_cons_zero, List.getElem_cons_succ, List.setIfInBounds_toArray, List.set_cons_zero, List.set_cons_succ]
                    refine wpAnyH_ready (rs := [4, 13]) (by kernel_rfl) (by simp) ?_
                    refine (AllReadyH.cons rfl (fun K hK => ?_) (AllReadyH.cons rfl (fun K hK => ?_) AllReadyH.nil))
                    · go_simp
                      refine hK.out _ _ ?_ (fun hHeld => ?_)
                      · first | exact hHeld | exact hgrow2.cell hHeld (fun e => hqg (by injection e)) | (rw [set_cell_ne _ _ _ _ _ _ hqb]; exact hHeld) | (simp [go_sem, k5, hqg, hqb]; done)
                      clear hK K
                      try simp only [Act.put, List.getElem_toArray, List.getElem_cons_zero, List.getElem_cons_succ, List.setIfInBounds_toArray, List.set_cons_zero, List.set_cons_succ]
                      refine wpAnyH_take (i := 9) (v := ?_) rfl (by kernel_rfl) (by kernel_rfl) (by kernel_rfl) (fun _ _ _ h => h) (Or.inl ⟨by rfl, ?_⟩) (by assumption) ?_
                      rotate_left
                      · (intro w hSw; (try dsimp only at hSw); go_simp; try (with_reducible rfl))
                      try simp only [Act.put, List.getElem_toArray, List.getElem_cons_zero, List.getElem_cons_succ, List.setIfInBounds_toArray, List.set_cons_zero, List.set_cons_succ]
                      refine wpAnyH_ready (rs := [13]) (by kernel_rfl) (by simp) ?_
                      refine (AllReadyH.cons rfl (fun K hK => ?_) AllReadyH.nil)
                      · go_simp
                        refine hK.out _ _ ?_ (fun hHeld => ?_)
                        · first | exact hHeld | exact hgrow2.cell hHeld (fun e => hqg (by injection e)) | (rw [set_cell_ne _ _ _ _ _ _ hqb]; exact hHeld) | (simp [go_sem, k5, hqg, hqb]; done)
                        clear hK K
                        try simp only [Act.put, List.getElem_toArray, List.getElem_cons_zero, List.getElem_cons_succ, List.setIfInBounds_toArray, List.set_cons_zero, List.set_cons_succ]
                        refine wpAnyH_take (i := 19) (v := ?_) rfl (by kernel_rfl) (by kernel_rfl) (by kernel_rfl) (fun _ _ _ h => h) (Or.inl ⟨by rfl, ?_⟩) (by assumption) ?_
                        rotate_left
                        · (intro w hSw; (try dsimp only at hSw); go_simp; try (with_reducible rfl))
                        try simp only [Act.put, List.getElem_toArray, List.getElem_cons_zero, List.getElem_cons_succ, List.setIfInBounds_toArray, List.set_cons_zero, List.set_cons_succ]
                        refine wpAnyH_ready (rs := [20]) (by kernel_rfl) (by simp) ?_
                        refine (AllReadyH.cons rfl (fun K hK => ?_) AllReadyH.nil)
                        · refine step_append_at rfl (.tmp 289) (.tmp 299) 29 rfl (b + 1) 81 i1 _ 4 32 Try.underlying29 HI.out.1 HI.out.2.1 HI.out.2.2.1 HI.out.2.2.2 rfl (by decide) (.slice (some ⟨g, 0, none⟩) i0 (i0 + 1)) i0 ((flatA L).take (i0 * 4)) rfl HCU.out ⟨g, 0, none⟩ 0 0 [] rfl rfl (fun j u hj => by simp at hj) (fun u hu => by simp at hu) (by unfold maxLen; omega) (by omega) (by simp; omega) ?_
                          intro v' w4 hown hgrow hat
                          obtain ⟨sa4, sc4, rfl⟩ := own_len hown
                          have HOW4 := hide hown
                          have HGR := hide hgrow
                          have HAT := hide hat
                          have nr4 : w4.cell? ⟨b, d * 4 + 1, none⟩ = some (.slice (some ⟨g, 0, none⟩) (i0 + 1) (i0 + 1)) := hgrow.cell nr (fun e => hgb (by injection e))
                          have nf4 : w4.frozen? ⟨b, d * 4 + 1, none⟩ = false := (hgrow.frozen_far ⟨b, d * 4 + 1, none⟩ (by simp; omega) (fun e => hgb (by injection e))).trans (nf _)
                          have hgrow2 := hgrow; clear hown hgrow hat
                          refine hK.out _ _ ?_ (fun hHeld => ?_)
                          · first | exact hHeld | exact hgrow2.cell hHeld (fun e => hqg (by injection e)) | (rw [set_cell_ne _ _ _ _ _ _ hqb]; exact hHeld) | (simp [go_sem, k5, hqg, hqb]; done)
                          clear hK K
                          try simp only [Act.put, List.getElem_toArray, List.getElem_cons_zero, List.getElem_cons_succ, List.setIfInBounds_toArray, List.set_cons_zero, List.set_cons_succ]
                          refine wpAnyH_take (i := 21) (v := ?_) rfl (by kernel_rfl) (by kernel_rfl) (by kernel_rfl) (fun _ _ _ h => h) (Or.inl ⟨by rfl, ?_⟩) (by assumption) ?_
                          rotate_left
                          · (intro w hSw; (try dsimp only at hSw); go_simp; try (with_reducible rfl))
                          try simp only [Act.put, List.getElem_toArray, List.getElem_cons_zero, List.getElem_cons_succ, List.setIfInBounds_toArray, List.set_cons_zero, List.set_cons_succ]
                          refine wpAnyH_take (i := 22) (v := ?_) rfl (by kernel_rfl) (by kernel_rfl) (by kernel_rfl) (fun _ _ _ h => h) (Or.inl ⟨by rfl, ?_⟩) (by assumption) ?_
                          rotate_left
                          · (intro w hSw; (try dsimp only at hSw); go_simp; try (with_reducible rfl))
                          try simp only [Act.put, List.getElem_toArray, List.getElem_cons_zero, List.getElem_cons_succ, List.setIfInBounds_toArray, List.set_cons_zero, List.set_cons_succ]
                          refine wpAnyH_ready (rs := [23]) (by kernel_rfl) (by simp) ?_
                          refine (AllReadyH.cons rfl (fun K hK => ?_) AllReadyH.nil)
                          · go_simp
                            refine hK.out _ _ ?_ (fun hHeld => ?_)
                            · first | exact hHeld | exact hgrow2.cell hHeld (fun e => hqg (by injection e)) | (rw [set_cell_ne _ _ _ _ _ _ hqb]; exact hHeld) | (simp [go_sem, k5, hqg, hqb]; done)
                            clear hK K
                            try simp only [Act.put, List.getElem_toArray, List.getElem_cons_zero, List.getElem_cons_succ, List.setIfInBounds_toArray, List.set_cons_zero, List.set_cons_succ]
                            refine wpAnyH_done (by kernel_rfl) ?_ _
                            have HS4 : Hid (ST w (w4.setCell ⟨b, d * 4 + 1, none⟩ (.slice sa4 (i0 + 0) sc4)) q o b r0 r1 vr va ⟨3, d, hp, pr, ln, i0, cl, pm, up⟩ (upd N d { N d with ac := L.take i0 ++ L.drop (i0 + 1) }) vr (upd va d (.slice sa4 (i0 + 0) sc4)) ⟨2, d, 0, opr, oln, i0, ocl, opm, false⟩) := by
                              refine (HS.out.drewN 1).growA hd (Ex.ofGrown HGR.out (fun k hk => by rw [HV.out]; exact hk)) ?_ (fun k hk => ?_)
                              · have h := HOW4.out
                                rw [List.append_nil, flatA, fm_take Rl.vals 4 rl_len, show L.take i0 = L.take i0 ++ L.drop (i0 + 1) by rw [List.drop_eq_nil_of_le (by rw [HNL.out]; omega), List.append_nil]] at h
                                rw [show (L.take i0 ++ L.drop (i0 + 1)).length = i0 + 0 by rw [List.length_append, List.length_take, List.length_drop, HNL.out]; omega]
                                exact h
                              · rw [HV.out]
                                rcases HAT.out with z | z
                                · left; rw [← hk]; exact z.symm
                                · right
                                  rw [hk] at z
                                  injection z with z
                                  rw [z]
                                  simp
                            clear k5; clear HS HOn HCU HOW4 HGR HAT nr nr4 nf nf4 hHeld
                            have HS := HS4
                            clear HS4
                            generalize w4.setCell ⟨b, d * 4 + 1, none⟩ (.slice sa4 (i0 + 0) sc4) = W9 at *
                            go_upto_region 43 with fail
                            have u0 := HS.out.cu.c0
                            have R0 := HS.out.cr.c0
                            have u1 := HS.out.cu.c1
                            have R1 := HS.out.cr.c1
                            have u2 := HS.out.cu.c2
                            have R2 := HS.out.cr.c2
                            have u3 := HS.out.cu.c3
                            have R3 := HS.out.cr.c3
                            have u4 := HS.out.cu.c4
                            have R4 := HS.out.cr.c4
                            have u5 := HS.out.cu.c5
                            have R5 := HS.out.cr.c5
                            have u6 := HS.out.cu.c6
                            have R6 := HS.out.cr.c6
                            have u7 := HS.out.cu.c7
                            have R7 := HS.out.cr.c7
                            have u8 := HS.out.cu.c8
                            have R8 := HS.out.cr.c8
                            have uf := HS.out.cu.fr
                            have Rf := HS.out.cr.fr
                            have h01 := HS.out.h1
                            simp only [Chg.zero] at u0 R0 u1 R1 u2 R2 u3 R3 u4 R4 u5 R5 u6 R6 u7 R7 u8 R8
                            have HFIN := fun (v : Value) (y0 y1 y2 y3 y4 y5 y6 y7 y8 : Value) => hide (HS.out.fin (v := v) y0 y1 y2 y3 y4 y5 y6 y7 y8)
                            go_wp2
                            refine bodyPost_ret (v := .tuple #[chgV ⟨2, d, 0, opr, oln, i0, ocl, opm, false⟩, .int .i64 0]) (by simp [results, Try.results61, go_sem, chgV, Chg.vals, R0, R1, R2, R3, R4, R5, R6, R7, R8]) rfl ?_
                            rw [HL.out]
                            exact (HFIN _ _ _ _ _ _ _ _ _ _).out
                    · go_simp
                      refine hK.out _ _ ?_ (fun hHeld => ?_)
                      · first | exact hHeld | exact hgrow2.cell hHeld (fun e => hqg (by injection e)) | (rw [set_cell_ne _ _ _ _ _ _ hqb]; exact hHeld) | (simp [go_sem, k5, hqg, hqb]; done)
                      clear hK K
                      try simp only [Act.put, List.getElem_toArray, List.getElem_cons_zero, List.getElem_cons_succ, List.setIfInBounds_toArray, List.set_cons_zero, List.set_cons_succ]
                      refine wpAnyH_take (i := 19) (v := ?_) rfl (by kernel_rfl) (by kernel_rfl) (by kernel_rfl) (fun _ _ _ h => h) (Or.inl ⟨by rfl, ?_⟩) (by assumption) ?_
                      rotate_left
                      · (intro w hSw; (try dsimp only at hSw); go_simp; try (with_reducible rfl))
                      try simp only [Act.put, List.getElem_toArray, List.getElem_cons_zero, List.getElem_cons_succ, List.setIfInBounds_toArray, List.set_cons_zero, List.set_cons_succ]
                      refine wpAnyH_ready (rs := [4]) (by kernel_rfl) (by simp) ?_
                      refine (AllReadyH.cons rfl (fun K hK => ?_) AllReadyH.nil)
                      · go_simp
                        refine hK.out _ _ ?_ (fun hHeld => ?_)
                        · first | exact hHeld | exact hgrow2.cell hHeld (fun e => hqg (by injection e)) | (rw [set_cell_ne _ _ _ _ _ _ hqb]; exact hHeld) | (simp [go_sem, k5, hqg, hqb]; done)
                        clear hK K
                        try simp only [Act.put, List.getElem_toArray, List.getElem_cons_zero, List.getElem_cons_succ, List.setIfInBounds_toArray, List.set_cons_zero, List.set_cons_succ]
                        refine wpAnyH_take (i := 9) (v := ?_) rfl (by kernel_rfl) (by kernel_rfl) (by kernel_rfl) (fun _ _ _ h => h) (Or.inl ⟨by rfl, ?_⟩) (by assumption) ?_
                        rotate_left
                        · (intro w hSw; (try dsimp only at hSw); go_simp; try (with_reducible rfl))
                        try simp only [Act.put, List.getElem_toArray, List.getElem_cons_zero, List.getElem_cons_succ, List.setIfInBounds_toArray, List.set_cons_zero, List.set_cons_succ]
                        refine wpAnyH_ready (rs := [20]) (by kernel_rfl) (by simp) ?_
                        refine (AllReadyH.cons rfl (fun K hK => ?_) AllReadyH.nil)
                        · refine step_append_at rfl (.tmp 289) (.tmp 299) 29 rfl (b + 1) 81 i1 _ 4 32 Try.underlying29 HI.out.1 HI.out.2.1 HI.out.2.2.1 HI.out.2.2.2 rfl (by decide) (.slice (some ⟨g, 0, none⟩) i0 (i0 + 1)) i0 ((flatA L).take (i0 * 4)) rfl HCU.out ⟨g, 0, none⟩ 0 0 [] rfl rfl (fun j u hj => by simp at hj) (fun u hu => by simp at hu) (by unfold maxLen; omega) (by omega) (by simp; omega) ?_
                          intro v' w4 hown hgrow hat
                          obtain ⟨sa4, sc4, rfl⟩ := own_len hown
                          have HOW4 := hide hown
                          have HGR := hide hgrow
                          have HAT := hide hat
                          have nr4 : w4.cell? ⟨b, d * 4 + 1, none⟩ = some (.slice (some ⟨g, 0, none⟩) (i0 + 1) (i0 + 1)) := hgrow.cell nr (fun e => hgb (by injection e))
                          have nf4 : w4.frozen? ⟨b, d * 4 + 1, none⟩ = false := (hgrow.frozen_far ⟨b, d * 4 + 1, none⟩ (by simp; omega) (fun e => hgb (by injection e))).trans (nf _)
                          have hgrow2 := hgrow; clear hown hgrow hat
                          refine hK.out _ _ ?_ (fun hHeld => ?_)
                          · first | exact hHeld | exact hgrow2.cell hHeld (fun e => hqg (by injection e)) | (rw [set_cell_ne _ _ _ _ _ _ hqb]; exact hHeld) | (simp [go_sem, k5, hqg, hqb]; done)
                          clear hK K
                          try simp only [Act.put, List.getElem_toArray, List.getElem_cons_zero, List.getElem_cons_succ, List.setIfInBounds_toArray, List.set_cons_zero, List.set_cons_succ]
                          refine wpAnyH_take (i := 21) (v := ?_) rfl (by kernel_rfl) (by kernel_rfl) (by kernel_rfl) (fun _ _ _ h => h) (Or.inl ⟨by rfl, ?_⟩) (by assumption) ?_
                          rotate_left
                          · (intro w hSw; (try dsimp only at hSw); go_simp; try (with_reducible rfl))
                          try simp only [Act.put, List.getElem_toArray, List.getElem_cons_zero, List.getElem_cons_succ, List.setIfInBounds_toArray, List.set_cons_zero, List.set_cons_succ]
                          refine wpAnyH_take (i := 22) (v := ?_) rfl (by kernel_rfl) (by kernel_rfl) (by kernel_rfl) (fun _ _ _ h => h) (Or.inl ⟨by rfl, ?_⟩) (by assumption) ?_
                          rotate_left
                          · (intro w hSw; (try dsimp only at hSw); go_simp; try (with_reducible rfl))
                          try simp only [Act.put, List.getElem_toArray, List.getElem_cons_zero, List.getElem_cons_succ, List.setIfInBounds_toArray, List.set_cons_zero, List.set_cons_succ]
                          refine wpAnyH_ready (rs := [23]) (by kernel_rfl) (by simp) ?_
                          refine (AllReadyH.cons rfl (fun K hK => ?_) AllReadyH.nil)
                          · go_simp
                            refine hK.out _ _ ?_ (fun hHeld => ?_)
                            · first | exact hHeld | exact hgrow2.cell hHeld (fun e => hqg (by injection e)) | (rw [set_cell_ne _ _ _ _ _ _ hqb]; exact hHeld) | (simp [go_sem, k5, hqg, hqb]; done)
                            clear hK K
                            try simp only [Act.put, List.getElem_toArray, List.getElem_cons_zero, List.getElem_cons_succ, List.setIfInBounds_toArray, List.set_cons_zero, List.set_cons_succ]
                            refine wpAnyH_done (by kernel_rfl) ?_ _
                            have HS4 : Hid (ST w (w4.setCell ⟨b, d * 4 + 1, none⟩ (.slice sa4 (i0 + 0) sc4)) q o b r0 r1 vr va ⟨3, d, hp, pr, ln, i0, cl, pm, up⟩ (upd N d { N d with ac := L.take i0 ++ L.drop (i0 + 1) }) vr (upd va d (.slice sa4 (i0 + 0) sc4)) ⟨2, d, 0, opr, oln, i0, ocl, opm, false⟩) := by
                              refine (HS.out.drewN 1).growA hd (Ex.ofGrown HGR.out (fun k hk => by rw [HV.out]; exact hk)) ?_ (fun k hk => ?_)
                              · have h := HOW4.out
                                rw [List.append_nil, flatA, fm_take Rl.vals 4 rl_len, show L.take i0 = L.take i0 ++ L.drop (i0 + 1) by rw [List.drop_eq_nil_of_le (by rw [HNL.out]; omega), List.append_nil]] at h
                                rw [show (L.take i0 ++ L.drop (i0 + 1)).length = i0 + 0 by rw [List.length_append, List.length_take, List.length_drop, HNL.out]; omega]
                                exact h
                              · rw [HV.out]
                                rcases HAT.out with z | z
                                · left; rw [← hk]; exact z.symm
                                · right
                                  rw [hk] at z
                                  injection z with z
                                  rw [z]
                                  simp
                            clear k5; clear HS HOn HCU HOW4 HGR HAT nr nr4 nf nf4 hHeld
                            have HS := HS4
                            clear HS4
                            generalize w4.setCell ⟨b, d * 4 + 1, none⟩ (.slice sa4 (i0 + 0) sc4) = W9 at *
                            go_upto_region 43 with fail
                            have u0 := HS.out.cu.c0
                            have R0 := HS.out.cr.c0
                            have u1 := HS.out.cu.c1
                            have R1 := HS.out.cr.c1
                            have u2 := HS.out.cu.c2
                            have R2 := HS.out.cr.c2
                            have u3 := HS.out.cu.c3
                            have R3 := HS.out.cr.c3
                            have u4 := HS.out.cu.c4
                            have R4 := HS.out.cr.c4
                            have u5 := HS.out.cu.c5
                            have R5 := HS.out.cr.c5
                            have u6 := HS.out.cu.c6
                            have R6 := HS.out.cr.c6
                            have u7 := HS.out.cu.c7
                            have R7 := HS.out.cr.c7
                            have u8 := HS.out.cu.c8
                            have R8 := HS.out.cr.c8
                            have uf := HS.out.cu.fr
                            have Rf := HS.out.cr.fr
                            have h01 := HS.out.h1
                            simp only [Chg.zero] at u0 R0 u1 R1 u2 R2 u3 R3 u4 R4 u5 R5 u6 R6 u7 R7 u8 R8
                            have HFIN := fun (v : Value) (y0 y1 y2 y3 y4 y5 y6 y7 y8 : Value) => hide (HS.out.fin (v := v) y0 y1 y2 y3 y4 y5 y6 y7 y8)
                            go_wp2
                            refine bodyPost_ret (v := .tuple #[chgV ⟨2, d, 0, opr, oln, i0, ocl, opm, false⟩, .int .i64 0]) (by simp [results, Try.results61, go_sem, chgV, Chg.vals, R0, R1, R2, R3, R4, R5, R6, R7, R8]) rfl ?_
                            rw [HL.out]
                            exact (HFIN _ _ _ _ _ _ _ _ _ _).out
                  · have HNW : Hid (∀ j u, (flatA (L.drop (i0 + 1)))[j]? = some u → W4.cell? ((⟨g, (i0 + 1) * 4, none⟩ : Addr).add j) = some u) := fun j u hj => by
                      rw [flatA, ← fm_drop Rl.vals 4 rl_len, List.getElem?_drop] at hj
                      have := HOn.out.cells (g := g) rfl _ u hj
                      rw [Addr.add_mid, Nat.zero_add] at this
                      rw [Addr.add_mid]
                      exact this
                    refine wp_region_held_drew (S := fun w' => w'.cell? ⟨q, o + 5, none⟩ = some (.int .i64 i0)) (by kernel_rfl) k5 (fun hHeld => ?_)
                    refine wpAnyH_take (i := 0) (v := ?_) rfl (by kernel_rfl) (by kernel_rfl) (by kernel_rfl) (fun _ _ _ h => h) (Or.inl ⟨by rfl, ?_⟩) (by assumption) ?_
                    rotate_left
                    · (intro w hSw; (try dsimp only at hSw); go_simp; try (with_reducible rfl))
                    try simp only [Act.put, List.getElem_toArray, List.getElem_cons_zero, List.getElem_cons_succ, List.setIfInBounds_toArray, List.set_cons_zero, List.set_cons_succ]
                    refine wpAnyH_take (i := 1) (v := ?_) rfl (by kernel_rfl) (by kernel_rfl) (by kernel_rfl) (fun _ _ _ h => h) (Or.inl ⟨by rfl, ?_⟩) (by assumption) ?_
                    rotate_left
                    · (intro w hSw; (try dsimp only at hSw); go_simp; try (with_reducible rfl))
                    try simp only [Act.put, List.getElem_toArray, List.getElem_cons_zero, List.getElem_cons_succ, List.setIfInBounds_toArray, List.set_cons_zero, List.set_cons_succ]
                    refine wpAnyH_take (i := 2) (v := ?_) rfl (by kernel_rfl) (by kernel_rfl) (by kernel_rfl) (fun _ _ _ h => h) (Or.inl ⟨by rfl, ?_⟩) (by assumption) ?_
                    rotate_left
                    · (intro w hSw; (try dsimp only at hSw); go_simp; try (with_reducible rfl))
                    try simp only [Act.put, List.getElem_toArray, List.getElem_cons_zero, List.getElem_cons_succ, List.setIfInBounds_toArray, List.set_cons_zero, List.set_cons_succ]
                    refine wpAnyH_take (i := 3) (v := ?_) rfl (by kernel_rfl) (by kernel_rfl) (by kernel_rfl) (fun _ _ _ h => h) (Or.inl ⟨by rfl, ?_⟩) (by assumption) ?_
                    rotate_left
                    · (intro w hSw; (try dsimp only at hSw); go_simp; try (with_reducible rfl))
                    try simp only [Act.put, List.getElem_toArray, List.getElem_cons_zero, List.getElem_cons_succ, List.setIfInBounds_toArray, List.set_cons_zero, List.set_cons_succ]
                    refine wpAnyH_take (i := 5) (v := ?_) rfl (by kernel_rfl) (by kernel_rfl) (by kernel_rfl) (fun _ _ _ h => h) (Or.inl ⟨by rfl, ?_⟩) (by assumption) ?_
                    rotate_left
                    · (intro w hSw; (try dsimp only at hSw); go_simp; try (with_reducible rfl))
                    try simp only [Act.put, List.getElem_toArray, List.getElem_cons_zero, List.getElem_cons_succ, List.setIfInBounds_toArray, List.set_cons_zero, List.set_cons_succ]
                    refine wpAnyH_take (i := 6) (v := ?_) rfl (by kernel_rfl) (by kernel_rfl) (by kernel_rfl) (fun _ _ _ h => h) (Or.inl ⟨by rfl, ?_⟩) (by assumption) ?_
                    rotate_left
                    · (intro w hSw; (try dsimp only at hSw); go_simp; try (with_reducible rfl))
                    try simp only [Act.put, List.getElem_toArray, List.getElem_cons_zero, List.getElem_cons_succ, List.setIfInBounds_toArray, List.set_cons_zero, List.set_cons_succ]
                    refine wpAnyH_take (i := 7) (v := ?_) rfl (by kernel_rfl) (by kernel_rfl) (by kernel_rfl) (fun _ _ _ h => h) (Or.inl ⟨by rfl, ?_⟩) (by assumption) ?_
                    rotate_left
                    · (intro w hSw; (try dsimp only at hSw); go_simp; try (with_reducible rfl))
                    try simp only [Act.put, List.getElem_toArray, List.getElem_cons_zero, List.getElem_cons_succ, List.setIfInBounds_toArray, List.set_cons_zero, List.set_cons_succ]
                    refine wpAnyH_take (i := 8) (v := ?_) rfl (by kernel_rfl) (by kernel_rfl) (by kernel_rfl) (fun _ _ _ h => h) (Or.inl ⟨by rfl, ?_⟩) (by assumption) ?_
                    rotate_left
                    · (intro w hSw; (try dsimp only at hSw); go_simp; try (with_reducible rfl))
                    try simp only [Act.put, List.getElem_toArray, List.getElem_cons_zero, List.getElem_cons_succ, List.setIfInBounds_toArray, List.set_cons_zero, List.set_cons_succ]
                    refine wpAnyH_take (i := 10) (v := ?_) rfl (by kernel_rfl) (by kernel_rfl) (by kernel_rfl) (fun _ _ _ h => h) (Or.inl ⟨by rfl, ?_⟩) (by assumption) ?_
                    rotate_left
                    · (intro w hSw; (try dsimp only at hSw); go_simp; try (with_reducible rfl))
                    try simp only [Act.put, List.getElem_toArray, List.getElem_cons_zero, List.getElem_cons_succ, List.setIfInBounds_toArray, List.set_cons_zero, List.set_cons_succ]
                    refine wpAnyH_take (i := 11) (v := ?_) rfl (by kernel_rfl) (by kernel_rfl) (by kernel_rfl) (fun _ _ _ h => h) (Or.inl ⟨by rfl, ?_⟩) (by assumption) ?_
                    rotate_left
                    · (intro w hSw; (try dsimp only at hSw); go_simp; try (with_reducible rfl))
                    try simp only [Act.put, List.getElem_toArray, List.getElem_cons_zero, List.getElem_cons_succ, List.setIfInBounds_toArray, List.set_cons_zero, List.set_cons_succ]
                    refine wpAnyH_take (i := 12) (v := ?_) rfl (by kernel_rfl) (by kernel_rfl) (by kernel_rfl) (fun _ _ _ h => h) (Or.inl ⟨by rfl, ?_⟩) (by assumption) ?_
                    rotate_left
                    · (intro w hSw; (try dsimp only at hSw); go_simp; try (with_reducible rfl))
                    try simp only [Act.put, List.getElem_toArray, List.getElem_cons_zero, List.getElem_cons_succ, List.setIfInBounds_toArray, List.set_cons_zero, List.set_cons_succ]
                    refine wpAnyH_take (i := 14) (v := ?_) rfl (by kernel_rfl) (by kernel_rfl) (by kernel_rfl) (fun _ _ _ h => h) (Or.inl ⟨by rfl, ?_⟩) (by assumption) ?_
                    rotate_left
                    · (intro w hSw; (try dsimp only at hSw); go_simp; try (with_reducible rfl))
                    try simp only [Act.put, List.getElem_toArray, List.getElem_cons_zero, List.getElem_cons_succ, List.setIfInBounds_toArray, List.set_cons_zero, List.set_cons_succ]
                    refine wpAnyH_take (i := 15) (v := ?_) rfl (by kernel_rfl) (by kernel_rfl) (by kernel_rfl) (fun _ _ _ h => h) (Or.inl ⟨by rfl, ?_⟩) (by assumption) ?_
                    rotate_left
                    · (intro w hSw; (try dsimp only at hSw); go_simp; try (with_reducible rfl))
                    try simp only [Act.put, List.getElem_toArray, List.getElem_cons_zero, List.getElem_cons_succ, List.setIfInBounds_toArray, List.set_cons_zero, List.set_cons_succ]
                    refine wpAnyH_take (i := 16) (v := ?_) rfl (by kernel_rfl) (by kernel_rfl) (by kernel_rfl) (fun _ _ _ h => h) (Or.inl ⟨by rfl, ?_⟩) (by assumption) ?_
                    rotate_left
                    · (intro w hSw; (try dsimp only at hSw); go_simp; try (with_reducible rfl))
                    try simp only [Act.put, List.getElem_toArray, List.getElem_cons_zero, List.getElem_cons_succ, List.setIfInBounds_toArray, List.set_cons_zero, List.set_cons_succ]
                    refine wpAnyH_take (i := 17) (v := ?_) rfl (by kernel_rfl) (by kernel_rfl) (by kernel_rfl) (fun _ _ _ h => h) (Or.inl ⟨by rfl, ?_⟩) (by assumption) ?_
                    rotate_left
                    · (intro w hSw; (try dsimp only at hSw); go_simp; try (with_reducible rfl))
                    try simp only [Act.put, List.getElem_toArray, List.getElem_cons_zero, List.getElem_cons_succ, List.setIfInBounds_toArray, List.set_cons_zero, List.set_cons_succ]
                    refine wpAnyH_take (i := 18) (v := ?_) rfl (by kernel_rfl) (by kernel_rfl) (by kernel_rfl) (fun _ _ _ h => h) (Or.inl ⟨by rfl, ?_⟩) (by assumption) ?_
                    rotate_left
                    · (intro w hSw; (try dsimp only at hSw); go_simp; try (with_reducible rfl))
                    try simp only [Act.put, List.getElem_toArray, List.getElem_cons_zero, List.getElem_cons_succ, List.setIfInBounds_toArray, List.set_cons_zero, List.set_cons_succ]
                    refine wpAnyH_ready (rs := [4, 13]) (by kernel_rfl) (by simp) ?_
                    refine (AllReadyH.cons rfl (fun K hK => ?_) (AllReadyH.cons rfl (fun K hK => ?_) AllReadyH.nil))
                    · go_simp
                      refine hK.out _ _ ?_ (fun hHeld => ?_)
                      · first | exact hHeld | exact hgrow2.cell hHeld (fun e => hqg (by injection e)) | (rw [set_cell_ne _ _ _ _ _ _ hqb]; exact hHeld) | (simp [go_sem, k5, hqg, hqb]; done)
                      clear hK K
                      try simp only [Act.put, List.getElem_toArray, List.getElem_cons_zero, List.getElem_cons_succ, List.setIfInBounds_toArray, List.set_cons_zero, List.set_cons_succ]
                      refine wpAnyH_take (i := 9) (v := ?_) rfl (by kernel_rfl) (by kernel_rfl) (by kernel_rfl) (fun _ _ _ h => h) (Or.inl ⟨by rfl, ?_⟩) (by assumption) ?_
                      rotate_left
                      · (intro w hSw; (try dsimp only at hSw); go_simp; try (with_reducible rfl))
                      try simp only [Act.put, List.getElem_toArray, List.getElem_cons_zero, List.getElem_cons_succ, List.setIfInBounds_toArray, List.set_cons_zero, List.set_cons_succ]
                      refine wpAnyH_ready (rs := [13]) (by kernel_rfl) (by simp) ?_
                      refine (AllReadyH.cons rfl (fun K hK => ?_) AllReadyH.nil)
                      · go_simp
                        refine hK.out _ _ ?_ (fun hHeld => ?_)
                        · first | exact hHeld | exact hgrow2.cell hHeld (fun e => hqg (by injection e)) | (rw [set_cell_ne _ _ _ _ _ _ hqb]; exact hHeld) | (simp [go_sem, k5, hqg, hqb]; done)
                        clear hK K
                        try simp only [Act.put, List.getElem_toArray, List.getElem_cons_zero, List.getElem_cons_succ, List.setIfInBounds_toArray, List.set_cons_zero, List.set_cons_succ]
                        refine wpAnyH_take (i := 19) (v := ?_) rfl (by kernel_rfl) (by kernel_rfl) (by kernel_rfl) (fun _ _ _ h => h) (Or.inl ⟨by rfl, ?_⟩) (by assumption) ?_
                        rotate_left
                        · (intro w hSw; (try dsimp only at hSw); go_simp; try (with_reducible rfl))
                        try simp only [Act.put, List.getElem_toArray, List.getElem_cons_zero, List.getElem_cons_succ, List.setIfInBounds_toArray, List.set_cons_zero, List.set_cons_succ]
                        refine wpAnyH_ready (rs := [20]) (by kernel_rfl) (by simp) ?_
                        refine (AllReadyH.cons rfl (fun K hK => ?_) AllReadyH.nil)
                        · refine step_append_at rfl (.tmp 289) (.tmp 299) 29 rfl (b + 1) 81 i1 _ 4 32 Try.underlying29 HI.out.1 HI.out.2.1 HI.out.2.2.1 HI.out.2.2.2 rfl (by decide) (.slice (some ⟨g, 0, none⟩) i0 cap) i0 ((flatA L).take (i0 * 4)) rfl HCU.out ⟨g, (i0 + 1) * 4, none⟩ (n - (i0 + 1)) (cap - (i0 + 1)) (flatA (L.drop (i0 + 1))) rfl (by rw [flatA, flat_len Rl.vals 4 rl_len, List.length_drop, HNL.out]) (fun j u hj => by have := HNW.out j u hj; simpa [go_sem] using this) (rl_one _) (by unfold maxLen; omega) (by omega) (by simp; omega) ?_
                          intro v' w4 hown hgrow hat
                          obtain ⟨sa4, sc4, rfl⟩ := own_len hown
                          have HOW4 := hide hown
                          have HGR := hide hgrow
                          have HAT := hide hat
                          have nr4 : w4.cell? ⟨b, d * 4 + 1, none⟩ = some (.slice (some ⟨g, 0, none⟩) n cap) := hgrow.cell nr (fun e => hgb (by injection e))
                          have nf4 : w4.frozen? ⟨b, d * 4 + 1, none⟩ = false := (hgrow.frozen_far ⟨b, d * 4 + 1, none⟩ (by simp; omega) (fun e => hgb (by injection e))).trans (nf _)
                          have hgrow2 := hgrow; clear hown hgrow hat
                          refine hK.out _ _ ?_ (fun hHeld => ?_)
                          · first | exact hHeld | exact hgrow2.cell hHeld (fun e => hqg (by injection e)) | (rw [set_cell_ne _ _ _ _ _ _ hqb]; exact hHeld) | (simp [go_sem, k5, hqg, hqb]; done)
                          clear hK K
                          try simp only [Act.put, List.getElem_toArray, List.getElem_cons_zero, List.getElem_cons_succ, List.setIfInBounds_toArray, List.set_cons_zero, List.set_cons_succ]
                          refine wpAnyH_take (i := 21) (v := ?_) rfl (by kernel_rfl) (by kernel_rfl) (by kernel_rfl) (fun _ _ _ h => h) (Or.inl ⟨by rfl, ?_⟩) (by assumption) ?_
                          rotate_left
                          · (intro w hSw; (try dsimp only at hSw); go_simp; try (with_reducible rfl))
                          try simp only [Act.put, List.getElem_toArray, List.getElem_cons_zero, List.getElem_cons_succ, List.setIfInBounds_toArray, List.set_cons_zero, List.set_cons_succ]
                          refine wpAnyH_take (i := 22) (v := ?_) rfl (by kernel_rfl) (by kernel_rfl) (by kernel_rfl) (fun _ _ _ h => h) (Or.inl ⟨by rfl, ?_⟩) (by assumption) ?_
                          rotate_left
                          · (intro w hSw; (try dsimp only at hSw); go_simp; try (with_reducible rfl))
                          try simp only [Act.put, List.getElem_toArray, List.getElem_cons_zero, List.getElem_cons_succ, List.setIfInBounds_toArray, List.set_cons_zero, List.set_cons_succ]
                          refine wpAnyH_ready (rs := [23]) (by kernel_rfl) (by simp) ?_
                          refine (AllReadyH.cons rfl (fun K hK => ?_) AllReadyH.nil)
                          · go_simp
                            refine hK.out _ _ ?_ (fun hHeld => ?_)
                            · first | exact hHeld | exact hgrow2.cell hHeld (fun e => hqg (by injection e)) | (rw [set_cell_ne _ _ _ _ _ _ hqb]; exact hHeld) | (simp [go_sem, k5, hqg, hqb]; done)
                            clear hK K
                            try simp only [Act.put, List.getElem_toArray, List.getElem_cons_zero, List.getElem_cons_succ, List.setIfInBounds_toArray, List.set_cons_zero, List.set_cons_succ]
                            refine wpAnyH_done (by kernel_rfl) ?_ _
                            have HS4 : Hid (ST w (w4.setCell ⟨b, d * 4 + 1, none⟩ (.slice sa4 (i0 + (n - (i0 + 1))) sc4)) q o b r0 r1 vr va ⟨3, d, hp, pr, ln, i0, cl, pm, up⟩ (upd N d { N d with ac := L.take i0 ++ L.drop (i0 + 1) }) vr (upd va d (.slice sa4 (i0 + (n - (i0 + 1))) sc4)) ⟨2, d, 0, opr, oln, i0, ocl, opm, false⟩) := by
                              refine (HS.out.drewN 1).growA hd (Ex.ofGrown HGR.out (fun k hk => by rw [HV.out]; exact hk)) ?_ (fun k hk => ?_)
                              · have h := HOW4.out
                                rw [flatA, flatA, fm_take Rl.vals 4 rl_len, ← List.flatMap_append] at h
                                rw [show (L.take i0 ++ L.drop (i0 + 1)).length = i0 + (n - (i0 + 1)) by rw [List.length_append, List.length_take, List.length_drop, HNL.out]; omega]
                                exact h
                              · rw [HV.out]
                                rcases HAT.out with z | z
                                · left; rw [← hk]; exact z.symm
                                · right
                                  rw [hk] at z
                                  injection z with z
                                  rw [z]
                                  simp
                            clear k5; clear HS HOn HCU HOW4 HGR HAT nr nr4 nf nf4 hHeld
                            have HS := HS4
                            clear HS4
                            generalize w4.setCell ⟨b, d * 4 + 1, none⟩ (.slice sa4 (i0 + (n - (i0 + 1))) sc4) = W9 at *
                            go_upto_region 43 with fail
                            have u0 := HS.out.cu.c0
                            have R0 := HS.out.cr.c0
                            have u1 := HS.out.cu.c1
                            have R1 := HS.out.cr.c1
                            have u2 := HS.out.cu.c2
                            have R2 := HS.out.cr.c2
                            have u3 := HS.out.cu.c3
                            have R3 := HS.out.cr.c3
                            have u4 := HS.out.cu.c4
                            have R4 := HS.out.cr.c4
                            have u5 := HS.out.cu.c5
                            have R5 := HS.out.cr.c5
                            have u6 := HS.out.cu.c6
                            have R6 := HS.out.cr.c6
                            have u7 := HS.out.cu.c7
                            have R7 := HS.out.cr.c7
                            have u8 := HS.out.cu.c8
                            have R8 := HS.out.cr.c8
                            have uf := HS.out.cu.fr
                            have Rf := HS.out.cr.fr
                            have h01 := HS.out.h1
                            simp only [Chg.zero] at u0 R0 u1 R1 u2 R2 u3 R3 u4 R4 u5 R5 u6 R6 u7 R7 u8 R8
                            have HFIN := fun (v : Value) (y0 y1 y2 y3 y4 y5 y6 y7 y8 : Value) => hide (HS.out.fin (v := v) y0 y1 y2 y3 y4 y5 y6 y7 y8)
                            go_wp2
                            refine bodyPost_ret (v := .tuple #[chgV ⟨2, d, 0, opr, oln, i0, ocl, opm, false⟩, .int .i64 0]) (by simp [results, Try.results61, go_sem, chgV, Chg.vals, R0, R1, R2, R3, R4, R5, R6, R7, R8]) rfl ?_
                            rw [HL.out]
                            exact (HFIN _ _ _ _ _ _ _ _ _ _).out
                    · go_simp
                      refine hK.out _ _ ?_ (fun hHeld => ?_)
                      · first | exact hHeld | exact hgrow2.cell hHeld (fun e => hqg (by injection e)) | (rw [set_cell_ne _ _ _ _ _ _ hqb]; exact hHeld) | (simp [go_sem, k5, hqg, hqb]; done)
                      clear hK K
                      try simp only [Act.put, List.getElem_toArray, List.getElem_cons_zero, List.getElem_cons_succ, List.setIfInBounds_toArray, List.set_cons_zero, List.set_cons_succ]
                      refine wpAnyH_take (i := 19) (v := ?_) rfl (by kernel_rfl) (by kernel_rfl) (by kernel_rfl) (fun _ _ _ h => h) (Or.inl ⟨by rfl, ?_⟩) (by assumption) ?_
                      rotate_left
                      · (intro w hSw; (try dsimp only at hSw); go_simp; try (with_reducible rfl))
                      try simp only [Act.put, List.getElem_toArray, List.getElem_cons_zero, List.getElem_cons_succ, List.setIfInBounds_toArray, List.set_cons_zero, List.set_cons_succ]
                      refine wpAnyH_ready (rs := [4]) (by kernel_rfl) (by simp) ?_
                      refine (AllReadyH.cons rfl (fun K hK => ?_) AllReadyH.nil)
                      · go_simp
                        refine hK.out _ _ ?_ (fun hHeld => ?_)
                        · first | exact hHeld | exact hgrow2.cell hHeld (fun e => hqg (by injection e)) | (rw [set_cell_ne _ _ _ _ _ _ hqb]; exact hHeld) | (simp [go_sem, k5, hqg, hqb]; done)
                        clear hK K
                        try simp only [Act.put, List.getElem_toArray, List.getElem_cons_zero, List.getElem_cons_succ, List.setIfInBounds_toArray, List.set_cons_zero, List.set_cons_succ]
                        refine wpAnyH_take (i := 9) (v := ?_) rfl (by kernel_rfl) (by kernel_rfl) (by kernel_rfl) (fun _ _ _ h => h) (Or.inl ⟨by rfl, ?_⟩) (by assumption) ?_
                        rotate_left
                        · (intro w hSw; (try dsimp only at hSw); go_simp; try (with_reducible rfl))
                        try simp only [Act.put, List.getElem_toArray, List.getElem_cons_zero, List.getElem_cons_succ, List.setIfInBounds_toArray, List.set_cons_zero, List.set_cons_succ]
                        refine wpAnyH_ready (rs := [20]) (by kernel_rfl) (by simp) ?_
                        refine (AllReadyH.cons rfl (fun K hK => ?_) AllReadyH.nil)
                        · refine step_append_at rfl (.tmp 289) (.tmp 299) 29 rfl (b + 1) 81 i1 _ 4 32 Try.underlying29 HI.out.1 HI.out.2.1 HI.out.2.2.1 HI.out.2.2.2 rfl (by decide) (.slice (some ⟨g, 0, none⟩) i0 cap) i0 ((flatA L).take (i0 * 4)) rfl HCU.out ⟨g, (i0 + 1) * 4, none⟩ (n - (i0 + 1)) (cap - (i0 + 1)) (flatA (L.drop (i0 + 1))) rfl (by rw [flatA, flat_len Rl.vals 4 rl_len, List.length_drop, HNL.out]) (fun j u hj => by have := HNW.out j u hj; simpa [go_sem] using this) (rl_one _) (by unfold maxLen; omega) (by omega) (by simp; omega) ?_
                          intro v' w4 hown hgrow hat
                          obtain ⟨sa4, sc4, rfl⟩ := own_len hown
                          have HOW4 := hide hown
                          have HGR := hide hgrow
                          have HAT := hide hat
                          have nr4 : w4.cell? ⟨b, d * 4 + 1, none⟩ = some (.slice (some ⟨g, 0, none⟩) n cap) := hgrow.cell nr (fun e => hgb (by injection e))
                          have nf4 : w4.frozen? ⟨b, d * 4 + 1, none⟩ = false := (hgrow.frozen_far ⟨b, d * 4 + 1, none⟩ (by simp; omega) (fun e => hgb (by injection e))).trans (nf _)
                          have hgrow2 := hgrow; clear hown hgrow hat
                          refine hK.out _ _ ?_ (fun hHeld => ?_)
                          · first | exact hHeld | exact hgrow2.cell hHeld (fun e => hqg (by injection e)) | (rw [set_cell_ne _ _ _ _ _ _ hqb]; exact hHeld) | (simp [go_sem, k5, hqg, hqb]; done)
                          clear hK K
                          try simp only [Act.put, List.getElem_toArray, List.getElem_cons_zero, List.getElem_cons_succ, List.setIfInBounds_toArray, List.set_cons_zero, List.set_cons_succ]
                          refine wpAnyH_take (i := 21) (v := ?_) rfl (by kernel_rfl) (by kernel_rfl) (by kernel_rfl) (fun _ _ _ h => h) (Or.inl ⟨by rfl, ?_⟩) (by assumption) ?_
                          rotate_left
                          · (intro w hSw; (try dsimp only at hSw); go_simp; try (with_reducible rfl))
                          try simp only [Act.put, List.getElem_toArray, List.getElem_cons_zero, List.getElem_cons_succ, List.setIfInBounds_toArray, List.set_cons_zero, List.set_cons_succ]
                          refine wpAnyH_take (i := 22) (v := ?_) rfl (by kernel_rfl) (by kernel_rfl) (by kernel_rfl) (fun _ _ _ h => h) (Or.inl ⟨by rfl, ?_⟩) (by assumption) ?_
                          rotate_left
                          · (intro w hSw; (try dsimp only at hSw); go_simp; try (with_reducible rfl))
                          try simp only [Act.put, List.getElem_toArray, List.getElem_cons_zero, List.getElem_cons_succ, List.setIfInBounds_toArray, List.set_cons_zero, List.set_cons_succ]
                          refine wpAnyH_ready (rs := [23]) (by kernel_rfl) (by simp) ?_
                          refine (AllReadyH.cons rfl (fun K hK => ?_) AllReadyH.nil)
                          · go_simp
                            refine hK.out _ _ ?_ (fun hHeld => ?_)
                            · first | exact hHeld | exact hgrow2.cell hHeld (fun e => hqg (by injection e)) | (rw [set_cell_ne _ _ _ _ _ _ hqb]; exact hHeld) | (simp [go_sem, k5, hqg, hqb]; done)
                            clear hK K
                            try simp only [Act.put, List.getElem_toArray, List.getElem_cons_zero, List.getElem_cons_succ, List.setIfInBounds_toArray, List.set_cons_zero, List.set_cons_succ]
                            refine wpAnyH_done (by kernel_rfl) ?_ _
                            have HS4 : Hid (ST w (w4.setCell ⟨b, d * 4 + 1, none⟩ (.slice sa4 (i0 + (n - (i0 + 1))) sc4)) q o b r0 r1 vr va ⟨3, d, hp, pr, ln, i0, cl, pm, up⟩ (upd N d { N d with ac := L.take i0 ++ L.drop (i0 + 1) }) vr (upd va d (.slice sa4 (i0 + (n - (i0 + 1))) sc4)) ⟨2, d, 0, opr, oln, i0, ocl, opm, false⟩) := by
                              refine (HS.out.drewN 1).growA hd (Ex.ofGrown HGR.out (fun k hk => by rw [HV.out]; exact hk)) ?_ (fun k hk => ?_)
                              · have h := HOW4.out
                                rw [flatA, flatA, fm_take Rl.vals 4 rl_len, ← List.flatMap_append] at h
                                rw [show (L.take i0 ++ L.drop (i0 + 1)).length = i0 + (n - (i0 + 1)) by rw [List.length_append, List.length_take, List.length_drop, HNL.out]; omega]
                                exact h
                              · rw [HV.out]
                                rcases HAT.out with z | z
                                · left; rw [← hk]; exact z.symm
                                · right
                                  rw [hk] at z
                                  injection z with z
                                  rw [z]
                                  simp
                            clear k5; clear HS HOn HCU HOW4 HGR HAT nr nr4 nf nf4 hHeld
                            have HS := HS4
                            clear HS4
                            generalize w4.setCell ⟨b, d * 4 + 1, none⟩ (.slice sa4 (i0 + (n - (i0 + 1))) sc4) = W9 at *
                            go_upto_region 43 with fail
                            have u0 := HS.out.cu.c0
                            have R0 := HS.out.cr.c0
                            have u1 := HS.out.cu.c1
                            have R1 := HS.out.cr.c1
                            have u2 := HS.out.cu.c2
                            have R2 := HS.out.cr.c2
                            have u3 := HS.out.cu.c3
                            have R3 := HS.out.cr.c3
                            have u4 := HS.out.cu.c4
                            have R4 := HS.out.cr.c4
                            have u5 := HS.out.cu.c5
                            have R5 := HS.out.cr.c5
                            have u6 := HS.out.cu.c6
                            have R6 := HS.out.cr.c6
                            have u7 := HS.out.cu.c7
                            have R7 := HS.out.cr.c7
                            have u8 := HS.out.cu.c8
                            have R8 := HS.out.cr.c8
                            have uf := HS.out.cu.fr
                            have Rf := HS.out.cr.fr
                            have h01 := HS.out.h1
                            simp only [Chg.zero] at u0 R0 u1 R1 u2 R2 u3 R3 u4 R4 u5 R5 u6 R6 u7 R7 u8 R8
                            have HFIN := fun (v : Value) (y0 y1 y2 y3 y4 y5 y6 y7 y8 : Value) => hide (HS.out.fin (v := v) y0 y1 y2 y3 y4 y5 y6 y7 y8)
                            go_wp2
                            refine bodyPost_ret (v := .tuple #[chgV ⟨2, d, 0, opr, oln, i0, ocl, opm, false⟩, .int .i64 0]) (by simp [results, Try.results61, go_sem, chgV, Chg.vals, R0, R1, R2, R3, R4, R5, R6, R7, R8]) rfl ?_
                            rw [HL.out]
                            exact (HFIN _ _ _ _ _ _ _ _ _ _).out
end Go.Proofs.Qxb6500778a
