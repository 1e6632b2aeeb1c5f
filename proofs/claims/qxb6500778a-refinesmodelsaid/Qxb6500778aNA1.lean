import Derived.Test.Qxb6500778aN5
import Derived.Test.Qxb6500778aN6
import Derived.Maps.AppendAt
namespace Go.Proofs.Qxb6500778a
open Go.RowKit

theorem step_append_at {P : Program} {w : World} {ops : Array Oper} {o : Oper} {a : Act} {K : Act → World → Prop} {Q : Exit → Act → World → Prop} {E : Prop} (hgd : o.guard = none) (s x : Operand) (t : TypeId)
    (ho : o.op = .call { callee := .builtin .append, args := #[s, x], argTypes := #[t, t] })
    (base : Nat) (e : TypeId) (i : TypeInfo) (z : Value) (size bytes : Nat) (ht : P.underlying t = some (.slice e)) (hi : P.info? e = some i) (hz : i.zero = some z)
    (hsize : i.size = size) (hby : i.bytes = bytes) (hzs : z.cells.size = size) (hsz : 0 < size)
    (v : Value) (n : Nat) (xs : List Value) (hs : a.eval s = v) (hown : w.ownsRow base e size v n xs)
    (ad : Addr) (m c : Nat) (news : List Value) (hx : a.eval x = .slice (some ad) m c) (hl : news.length = m * size) (hnews : ∀ j u, news[j]? = some u → w.cell? (ad.add j) = some u) (h1 : ∀ u ∈ news, u.oneCell' = true)
    (h63 : n + m ≤ maxLen) (hbytes : (n + m) * bytes ≤ 140737488355328) (hbase : base ≤ w.heap.size)
    (h : ∀ v' w', w'.ownsRow base e size v' (n + m) (xs ++ news) → w.grownBy w' v.ownBlock → (v'.ownBlock = v.ownBlock ∨ v'.ownBlock = some w.heap.size) → K (a.put o.dst v') w') :
    if Region.wanted o (yielded ops a.tmps) = true then Oper.wp P o a w K Q else E := by
  rw [if_pos (by simp [Region.wanted, hgd])]
  obtain ⟨v', w', hr, h2, h3, _, h5⟩ := run_append_own_at (P := P) w base t o.type e i z size bytes ht hi hz hsize hby hzs hsz v n xs hown ad m c news hl hnews h1 h63 hbytes hbase
  unfold Oper.wp execOp
  simp only [ho, resolve, invoke, builtin, Sem.run_bind, Sem.run_pure, Result.andThen_ok, List.map_toArray, List.map_cons, List.map_nil, hs, hx, hr]
  exact h v' w' h2 h3 h5
theorem has_is {L : List Rt} {p l : Int} (h : hasR L p l = true) : ∃ r, L[lowR L p l]? = some r ∧ r.pr = p ∧ r.ln = l := by
  unfold hasR at h
  split at h
  · rename_i r hr
    simp only [Bool.and_eq_true, beq_iff_eq] at h
    exact ⟨r, hr, h.1, h.2⟩
  · cases h
set_option linter.unusedSimpArgs false in
set_option maxRecDepth 100000 in
set_option maxHeartbeats 8000000 in
theorem step_del_miss (w : World) (q o b d : Nat) (N : Nat → Dv) (vr va : Nat → Value) (hp pr ln ix cl : Int) (pm up : Bool) (hc : CO w q o ⟨1, d, hp, pr, ln, ix, cl, pm, up⟩) (hn : NA w b N vr va) (hq : ¬ Foot b vr va q) (hd : d < 16) (hs : SortedR (N d).rt) (hcap : (N d).rt.length + (N d).ac.length ≤ 64) (hfnd : hasR (N d).rt pr ln = false) :
    Calls Try.prog 61 #[.pointer (some ⟨b, 0, none⟩), .pointer (some ⟨q, o, none⟩)] w (NPost w b vr va (.tuple #[chgV ⟨0, d, 0, 0, 0, 0, 0, false, false⟩, .int .i64 7]) N) := by
  have hdi : (d : Int) < 16 := by omega
  have HC := hide hc
  have HN := hide hn
  have c1 := hc.c1
  simp only [] at c1
  clear hc hn
  have c1 := ((Ex.refl (fun _ => False) w).alloc (.cells #[.int .i64 0, .int .i64 0, .int .i64 0, .int .i64 0, .int .i64 0, .int .i64 0, .int .i64 0, .bool false, .bool false] 45)).cell (fun e => e) c1
  go_enter Try.func61, Try.ntmps61
  go_upto_region 1 with fail
  go_quiet (fail)
  have HST := fun W hW => hide (st_new HC.out HN.out hq nq { Chg.zero with dv := d } W hW)
  clear HC HN
  simp only [Chg.vals, Chg.zero] at HST
  go_upto_region 3 with fail
  obtain ⟨W, hW⟩ : ∃ W, W = ((w.alloc (.cells #[.int .i64 0, .int .i64 0, .int .i64 0, .int .i64 0, .int .i64 0, .int .i64 0, .int .i64 0, .bool false, .bool false] 45)).drewN nq).alloc (.cells #[.int .i64 0, .int .i64 d, .int .i64 0, .int .i64 0, .int .i64 0, .int .i64 0, .int .i64 0, .bool false, .bool false] 45) := ⟨_, rfl⟩
  rw [← hW]
  have HS := HST W hW
  clear HST hW c1
  obtain ⟨r1, hr1⟩ : ∃ r, w.heap.size + 1 = r := ⟨_, rfl⟩
  rw [hr1] at HS ⊢
  obtain ⟨r0, hr0⟩ : ∃ r, w.heap.size = r := ⟨_, rfl⟩
  rw [hr0] at HS ⊢
  clear hr0 hr1
  have k0 := HS.out.co.c0
  simp only [] at k0
  go_upto_region 15 with fail
  clear k0
  have k3 := HS.out.co.c3
  have k4 := HS.out.co.c4
  simp only [] at k3 k4
  have HSE : ∀ n, Hid (Calls Try.prog 50 #[.pointer (some ⟨b, d * 4, none⟩), .int .i64 pr, .int .i64 ln] (W.drewN n) fun e w' => e = .returned (.tuple #[.int .i64 (lowR (N d).rt pr ln : Nat), .bool (hasR (N d).rt pr ln)]) ∧ ∃ m, w' = (W.drewN n).drewN m) := fun n => search_any (W.drewN n) b N vr va (HS.out.drewN n).na d hd pr ln hs (by omega)
  rw [hfnd] at HSE
  obtain ⟨i0, hi0⟩ : ∃ x, lowR (N d).rt pr ln = x := ⟨_, rfl⟩
  rw [hi0] at HSE
  go_quiet (first | (go_at_call 50; refine Calls.quiet_of (HSE _).out))
  replace HS := hide (HS.out.drewN nq)
  generalize W.drewN nq = W1 at *
  clear HSE k3 k4
  have H_i0 := hide hi0
  clear hi0
  go_upto_region 17 with fail
  have u0 := HS.out.cu.c0
  have R0 := HS.out.cr.c0
  have u1 := HS.out.cu.c1
  have R1 := HS.out.cr.c1
  have u2 := HS.out.cu.c2
  have R2 := HS.out.cr.c2
  have u3 := HS.out.cu.c3
  have R3 := HS.out.cr.c3
  have u4 := HS.out.cu.c4
  have R4 := HS.out.cr.c4
  have u5 := HS.out.cu.c5
  have R5 := HS.out.cr.c5
  have u6 := HS.out.cu.c6
  have R6 := HS.out.cr.c6
  have u7 := HS.out.cu.c7
  have R7 := HS.out.cr.c7
  have u8 := HS.out.cu.c8
  have R8 := HS.out.cr.c8
  have uf := HS.out.cu.fr
  have Rf := HS.out.cr.fr
  have h01 := HS.out.h1
  simp only [Chg.zero] at u0 R0 u1 R1 u2 R2 u3 R3 u4 R4 u5 R5 u6 R6 u7 R7 u8 R8
  have HFIN := fun (v : Value) (y0 y1 y2 y3 y4 y5 y6 y7 y8 : Value) => hide (HS.out.fin (v := v) y0 y1 y2 y3 y4 y5 y6 y7 y8)
  go_wp2
  refine bodyPost_ret (v := .tuple #[chgV ⟨0, d, 0, 0, 0, 0, 0, false, false⟩, .int .i64 7]) (by simp [results, Try.results61, go_sem, chgV, Chg.vals, R0, R1, R2, R3, R4, R5, R6, R7, R8]) rfl ?_
  exact (HFIN _ _ _ _ _ _ _ _ _ _).out
set_option linter.unusedSimpArgs false in
set_option maxRecDepth 100000 in
set_option maxHeartbeats 8000000 in
theorem step_del (w : World) (q o b d : Nat) (N : Nat → Dv) (vr va : Nat → Value) (hp pr ln ix cl : Int) (pm up : Bool) (hc : CO w q o ⟨1, d, hp, pr, ln, ix, cl, pm, up⟩) (hn : NA w b N vr va) (hq : ¬ Foot b vr va q) (hd : d < 16) (hs : SortedR (N d).rt) (hcap : (N d).rt.length + (N d).ac.length ≤ 64) (hfnd : hasR (N d).rt pr ln = true) (hop : Int) (hhop : (N d).rt[lowR (N d).rt pr ln]? = some ⟨pr, ln, hop⟩) :
    Calls Try.prog 61 #[.pointer (some ⟨b, 0, none⟩), .pointer (some ⟨q, o, none⟩)] w (NPost w b vr va (.tuple #[chgV ⟨0, d, hop, pr, ln, 0, 0, false, false⟩, .int .i64 0]) (upd N d { N d with rt := (N d).rt.take (lowR (N d).rt pr ln) ++ (N d).rt.drop (lowR (N d).rt pr ln + 1) })) := by
  have hdi : (d : Int) < 16 := by omega
  have HC := hide hc
  have HN := hide hn
  have c1 := hc.c1
  simp only [] at c1
  clear hc hn
  have c1 := ((Ex.refl (fun _ => False) w).alloc (.cells #[.int .i64 0, .int .i64 0, .int .i64 0, .int .i64 0, .int .i64 0, .int .i64 0, .int .i64 0, .bool false, .bool false] 45)).cell (fun e => e) c1
  go_enter Try.func61, Try.ntmps61
  go_upto_region 1 with fail
  go_quiet (fail)
  have HST := fun W hW => hide (st_new HC.out HN.out hq nq { Chg.zero with dv := d } W hW)
  clear HC HN
  simp only [Chg.vals, Chg.zero] at HST
  go_upto_region 3 with fail
  obtain ⟨W, hW⟩ : ∃ W, W = ((w.alloc (.cells #[.int .i64 0, .int .i64 0, .int .i64 0, .int .i64 0, .int .i64 0, .int .i64 0, .int .i64 0, .bool false, .bool false] 45)).drewN nq).alloc (.cells #[.int .i64 0, .int .i64 d, .int .i64 0, .int .i64 0, .int .i64 0, .int .i64 0, .int .i64 0, .bool false, .bool false] 45) := ⟨_, rfl⟩
  rw [← hW]
  have HS := HST W hW
  clear HST hW c1
  obtain ⟨r1, hr1⟩ : ∃ r, w.heap.size + 1 = r := ⟨_, rfl⟩
  rw [hr1] at HS ⊢
  obtain ⟨r0, hr0⟩ : ∃ r, w.heap.size = r := ⟨_, rfl⟩
  rw [hr0] at HS ⊢
  clear hr0 hr1
  have k0 := HS.out.co.c0
  simp only [] at k0
  go_upto_region 15 with fail
  clear k0
  have k3 := HS.out.co.c3
  have k4 := HS.out.co.c4
  simp only [] at k3 k4
  have HSE : ∀ n, Hid (Calls Try.prog 50 #[.pointer (some ⟨b, d * 4, none⟩), .int .i64 pr, .int .i64 ln] (W.drewN n) fun e w' => e = .returned (.tuple #[.int .i64 (lowR (N d).rt pr ln : Nat), .bool (hasR (N d).rt pr ln)]) ∧ ∃ m, w' = (W.drewN n).drewN m) := fun n => search_any (W.drewN n) b N vr va (HS.out.drewN n).na d hd pr ln hs (by omega)
  rw [hfnd] at HSE
  obtain ⟨i0, hi0⟩ : ∃ x, lowR (N d).rt pr ln = x := ⟨_, rfl⟩
  rw [hi0] at HSE
  go_quiet (first | (go_at_call 50; refine Calls.quiet_of (HSE _).out))
  replace HS := hide (HS.out.drewN nq)
  generalize W.drewN nq = W1 at *
  clear HSE k3 k4
  have H_i0 := hide hi0
  clear hi0
  obtain ⟨i1, hi, hz0, hz1, hz2⟩ := info_parts Try.inf77
  have HI := hide (And.intro hi (And.intro hz0 (And.intro hz1 hz2)))
  clear hi hz0 hz1 hz2
  obtain ⟨L, hL⟩ : ∃ L, (N d).rt = L := ⟨_, rfl⟩
  obtain ⟨n, hn⟩ : ∃ n, L.length = n := ⟨_, rfl⟩
  have hn64 : n ≤ 64 := by rw [← hn, ← hL]; omega
  rw [H_i0.out, hL] at hhop
  have hi0 : i0 < n := by rw [← hn]; exact (List.getElem?_eq_some_iff.1 hhop).1
  have nr := HS.out.na.r d hd
  have HO := hide (HS.out.na.ro d hd)
  obtain ⟨g, cap, hv⟩ := own_some HO.out (by rw [hL, hn]; omega)
  rw [hv, hL, hn] at HO nr
  have HRC := hide (rt_cells (L := L) (by rw [hn]; exact HO.out) (by rw [hn]) hhop)
  have HV : Hid (vr d = .slice (some ⟨g, 0, none⟩) n cap) := by show _ = _; rw [hv, hL, hn]
  have HL := hide hL
  have HNL := hide hn
  clear hv hL hn hs hcap hfnd hhop
  have hcap := own_cap HO.out
  have hgb : ¬ b = g := fun e => by have := own_row HO.out (k := g) rfl; omega
  have hFg : Foot b vr va g := .inr ⟨d, hd, .inl (by rw [HV.out]; rfl)⟩
  have hqg : ¬ q = g := fun e => HS.out.nf.1 (by rw [e]; exact hFg)
  have hg1 : ¬ g = r1 := fun e => HS.out.nf.2.2 (by rw [← e]; exact hFg)
  have hb1 : ¬ b = r1 := fun e => HS.out.nf.2.2 (.inl e.symm)
  have hii : (i0 : Int) < (n : Int) := by omega
  have ng := HRC.out.2.2
  simp only [] at ng
  have k3 := HS.out.co.c3
  have k4 := HS.out.co.c4
  have u0 := HS.out.cu.c0
  have u3 := HS.out.cu.c3
  have u4 := HS.out.cu.c4
  have u2 := HS.out.cu.c2
  have uf := HS.out.cu.fr
  simp only [] at k3 k4 u0 u3 u4 u2
  have hqr : ¬ q = r1 := by have := HS.out.q0; have := HS.out.h0; have := HS.out.h1; omega
  go_upto_region 18 with fail
  refine wp_region_held_drew (S := fun w' => w'.cell? ⟨q, o + 3, none⟩ = some (.int .i64 pr) ∧ w'.cell? ⟨q, o + 4, none⟩ = some (.int .i64 ln) ∧ w'.cell? ⟨b, d * 4, none⟩ = some (.slice (some ⟨g, 0, none⟩) n cap) ∧ w'.cell? ⟨g, i0 * 3 + 2, none⟩ = some (.int .i64 hop)) (by kernel_rfl) (And.intro k3 (And.intro k4 (And.intro nr ng))) (fun hHeld => ?_)
  refine wpAnyH_take (i := 0) (v := ?_) rfl (by kernel_rfl) (by kernel_rfl) (by kernel_rfl) (fun _ _ _ h => h) (Or.inl ⟨by rfl, ?_⟩) (by assumption) ?_
  rotate_left
  · (intro w hSw; (try dsimp only at hSw); go_simp; try (with_reducible rfl))
  try simp only [Act.put, List.getElem_toArray, List.getElem_cons_zero, List.getElem_cons_succ, List.setIfInBounds_toArray, List.set_cons_zero, List.set_cons_succ]
  refine wpAnyH_take (i := 1) (v := ?_) rfl (by kernel_rfl) (by kernel_rfl) (by kernel_rfl) (fun _ _ _ h => h) (Or.inl ⟨by rfl, ?_⟩) (by assumption) ?_
  rotate_left
  · (intro w hSw; (try dsimp only at hSw); go_simp; try (with_reducible rfl))
  try simp only [Act.put, List.getElem_toArray, List.getElem_cons_zero, List.getElem_cons_succ, List.setIfInBounds_toArray, List.set_cons_zero, List.set_cons_succ]
  refine wpAnyH_take (i := 2) (v := ?_) rfl (by kernel_rfl) (by kernel_rfl) (by kernel_rfl) (fun _ _ _ h => h) (Or.inl ⟨by rfl, ?_⟩) (by assumption) ?_
  rotate_left
  · (intro w hSw; (try dsimp only at hSw); go_simp; try (with_reducible rfl))
  try simp only [Act.put, List.getElem_toArray, List.getElem_cons_zero, List.getElem_cons_succ, List.setIfInBounds_toArray, List.set_cons_zero, List.set_cons_succ]
  refine wpAnyH_take (i := 3) (v := ?_) rfl (by kernel_rfl) (by kernel_rfl) (by kernel_rfl) (fun _ _ _ h => h) (Or.inl ⟨by rfl, ?_⟩) (by assumption) ?_
  rotate_left
  · (intro w hSw; (try dsimp only at hSw); go_simp; try (with_reducible rfl))
  try simp only [Act.put, List.getElem_toArray, List.getElem_cons_zero, List.getElem_cons_succ, List.setIfInBounds_toArray, List.set_cons_zero, List.set_cons_succ]
  refine wpAnyH_take (i := 4) (v := ?_) rfl (by kernel_rfl) (by kernel_rfl) (by kernel_rfl) (fun _ _ _ h => h) (Or.inl ⟨by rfl, ?_⟩) (by assumption) ?_
  rotate_left
  · (intro w hSw; (try dsimp only at hSw); go_simp; try (with_reducible rfl))
  try simp only [Act.put, List.getElem_toArray, List.getElem_cons_zero, List.getElem_cons_succ, List.setIfInBounds_toArray, List.set_cons_zero, List.set_cons_succ]
  refine wpAnyH_take (i := 5) (v := ?_) rfl (by kernel_rfl) (by kernel_rfl) (by kernel_rfl) (fun _ _ _ h => h) (Or.inl ⟨by rfl, ?_⟩) (by assumption) ?_
  rotate_left
  · (intro w hSw; (try dsimp only at hSw); go_simp; try (with_reducible rfl))
  try simp only [Act.put, List.getElem_toArray, List.getElem_cons_zero, List.getElem_cons_succ, List.setIfInBounds_toArray, List.set_cons_zero, List.set_cons_succ]
  refine wpAnyH_take (i := 6) (v := ?_) rfl (by kernel_rfl) (by kernel_rfl) (by kernel_rfl) (fun _ _ _ h => h) (Or.inl ⟨by rfl, ?_⟩) (by assumption) ?_
  rotate_left
  · (intro w hSw; (try dsimp only at hSw); go_simp; try (with_reducible rfl))
  try simp only [Act.put, List.getElem_toArray, List.getElem_cons_zero, List.getElem_cons_succ, List.setIfInBounds_toArray, List.set_cons_zero, List.set_cons_succ]
  refine wpAnyH_take (i := 7) (v := ?_) rfl (by kernel_rfl) (by kernel_rfl) (by kernel_rfl) (fun _ _ _ h => h) (Or.inl ⟨by rfl, ?_⟩) (by assumption) ?_
  rotate_left
  · (intro w hSw; (try dsimp only at hSw); go_simp; try (with_reducible rfl))
  try simp only [Act.put, List.getElem_toArray, List.getElem_cons_zero, List.getElem_cons_succ, List.setIfInBounds_toArray, List.set_cons_zero, List.set_cons_succ]
  refine wpAnyH_take (i := 8) (v := ?_) rfl (by kernel_rfl) (by kernel_rfl) (by kernel_rfl) (fun _ _ _ h => h) (Or.inl ⟨by rfl, ?_⟩) (by assumption) ?_
  rotate_left
  · (intro w hSw; (try dsimp only at hSw); go_simp; try (with_reducible rfl))
  try simp only [Act.put, List.getElem_toArray, List.getElem_cons_zero, List.getElem_cons_succ, List.setIfInBounds_toArray, List.set_cons_zero, List.set_cons_succ]
  refine wpAnyH_take (i := 9) (v := ?_) rfl (by kernel_rfl) (by kernel_rfl) (by kernel_rfl) (fun _ _ _ h => h) (Or.inl ⟨by rfl, ?_⟩) (by assumption) ?_
  rotate_left
  · (intro w hSw; (try dsimp only at hSw); go_simp; try (with_reducible rfl))
  try simp only [Act.put, List.getElem_toArray, List.getElem_cons_zero, List.getElem_cons_succ, List.setIfInBounds_toArray, List.set_cons_zero, List.set_cons_succ]
  refine wpAnyH_take (i := 10) (v := ?_) rfl (by kernel_rfl) (by kernel_rfl) (by kernel_rfl) (fun _ _ _ h => h) (Or.inl ⟨by rfl, ?_⟩) (by assumption) ?_
  rotate_left
  · (intro w hSw; (try dsimp only at hSw); go_simp; try (with_reducible rfl))
  try simp only [Act.put, List.getElem_toArray, List.getElem_cons_zero, List.getElem_cons_succ, List.setIfInBounds_toArray, List.set_cons_zero, List.set_cons_succ]
  refine wpAnyH_take (i := 11) (v := ?_) rfl (by kernel_rfl) (by kernel_rfl) (by kernel_rfl) (fun _ _ _ h => h) (Or.inl ⟨by rfl, ?_⟩) (by assumption) ?_
  rotate_left
  · (intro w hSw; (try dsimp only at hSw); go_simp; try (with_reducible rfl))
  try simp only [Act.put, List.getElem_toArray, List.getElem_cons_zero, List.getElem_cons_succ, List.setIfInBounds_toArray, List.set_cons_zero, List.set_cons_succ]
  refine wpAnyH_take (i := 12) (v := ?_) rfl (by kernel_rfl) (by kernel_rfl) (by kernel_rfl) (fun _ _ _ h => h) (Or.inl ⟨by rfl, ?_⟩) (by assumption) ?_
  rotate_left
  · (intro w hSw; (try dsimp only at hSw); go_simp; try (with_reducible rfl))
  try simp only [Act.put, List.getElem_toArray, List.getElem_cons_zero, List.getElem_cons_succ, List.setIfInBounds_toArray, List.set_cons_zero, List.set_cons_succ]
  refine wpAnyH_take (i := 13) (v := ?_) rfl (by kernel_rfl) (by kernel_rfl) (by kernel_rfl) (fun _ _ _ h => h) (Or.inl ⟨by rfl, ?_⟩) (by assumption) ?_
  rotate_left
  · (intro w hSw; (try dsimp only at hSw); go_simp; try (with_reducible rfl))
  try simp only [Act.put, List.getElem_toArray, List.getElem_cons_zero, List.getElem_cons_succ, List.setIfInBounds_toArray, List.set_cons_zero, List.set_cons_succ]
  refine wpAnyH_take (i := 14) (v := ?_) rfl (by kernel_rfl) (by kernel_rfl) (by kernel_rfl) (fun _ _ _ h => h) (Or.inl ⟨by rfl, ?_⟩) (by assumption) ?_
  rotate_left
  · (intro w hSw; (try dsimp only at hSw); go_simp; try (with_reducible rfl))
  try simp only [Act.put, List.getElem_toArray, List.getElem_cons_zero, List.getElem_cons_succ, List.setIfInBounds_toArray, List.set_cons_zero, List.set_cons_succ]
  refine wpAnyH_take (i := 15) (v := ?_) rfl (by kernel_rfl) (by kernel_rfl) (by kernel_rfl) (fun _ _ _ h => h) (Or.inl ⟨by rfl, ?_⟩) (by assumption) ?_
  rotate_left
  · (intro w hSw; (try dsimp only at hSw); go_simp; try (with_reducible rfl))
  try simp only [Act.put, List.getElem_toArray, List.getElem_cons_zero, List.getElem_cons_succ, List.setIfInBounds_toArray, List.set_cons_zero, List.set_cons_succ]
  refine wpAnyH_take (i := 16) (v := ?_) rfl (by kernel_rfl) (by kernel_rfl) (by kernel_rfl) (fun _ _ _ h => h) (Or.inl ⟨by rfl, ?_⟩) (by assumption) ?_
  rotate_left
  · (intro w hSw; (try dsimp only at hSw); go_simp; try (with_reducible rfl))
  try simp only [Act.put, List.getElem_toArray, List.getElem_cons_zero, List.getElem_cons_succ, List.setIfInBounds_toArray, List.set_cons_zero, List.set_cons_succ]
  refine wpAnyH_ready (rs := [17]) (by kernel_rfl) (by simp) ?_
  refine (AllReadyH.cons rfl (fun K hK => ?_) AllReadyH.nil)
  · go_simp
    refine hK.out _ _ ?_ (fun hHeld => ?_)
    · first | exact hHeld | (simp [go_sem, k3, k4, nr, ng, hqr, hg1, hb1]; done)
    clear hK K
    try simp only [Act.put, List.getElem_toArray, List.getElem_cons_zero, List.getElem_cons_succ, List.setIfInBounds_toArray, List.set_cons_zero, List.set_cons_succ]
    refine wpAnyH_take (i := 18) (v := ?_) rfl (by kernel_rfl) (by kernel_rfl) (by kernel_rfl) (fun _ _ _ h => h) (Or.inl ⟨by rfl, ?_⟩) (by assumption) ?_
    rotate_left
    · (intro w hSw; (try dsimp only at hSw); go_simp; try (with_reducible rfl))
    try simp only [Act.put, List.getElem_toArray, List.getElem_cons_zero, List.getElem_cons_succ, List.setIfInBounds_toArray, List.set_cons_zero, List.set_cons_succ]
    refine wpAnyH_ready (rs := [19]) (by kernel_rfl) (by simp) ?_
    refine (AllReadyH.cons rfl (fun K hK => ?_) AllReadyH.nil)
    · go_simp
      refine hK.out _ _ ?_ (fun hHeld => ?_)
      · first | exact hHeld | (simp [go_sem, k3, k4, nr, ng, hqr, hg1, hb1]; done)
      clear hK K
      try simp only [Act.put, List.getElem_toArray, List.getElem_cons_zero, List.getElem_cons_succ, List.setIfInBounds_toArray, List.set_cons_zero, List.set_cons_succ]
      refine wpAnyH_take (i := 20) (v := ?_) rfl (by kernel_rfl) (by kernel_rfl) (by kernel_rfl) (fun _ _ _ h => h) (Or.inl ⟨by rfl, ?_⟩) (by assumption) ?_
      rotate_left
      · (intro w hSw; (try dsimp only at hSw); go_simp; try (with_reducible rfl))
      try simp only [Act.put, List.getElem_toArray, List.getElem_cons_zero, List.getElem_cons_succ, List.setIfInBounds_toArray, List.set_cons_zero, List.set_cons_succ]
      refine wpAnyH_ready (rs := [21]) (by kernel_rfl) (by simp) ?_
      refine (AllReadyH.cons rfl (fun K hK => ?_) AllReadyH.nil)
      · go_simp
        refine hK.out _ _ ?_ (fun hHeld => ?_)
        · first | exact hHeld | (simp [go_sem, k3, k4, nr, ng, hqr, hg1, hb1]; done)
        clear hK K
        try simp only [Act.put, List.getElem_toArray, List.getElem_cons_zero, List.getElem_cons_succ, List.setIfInBounds_toArray, List.set_cons_zero, List.set_cons_succ]
        refine wpAnyH_take (i := 22) (v := ?_) rfl (by kernel_rfl) (by kernel_rfl) (by kernel_rfl) (fun _ _ _ h => h) (Or.inl ⟨by rfl, ?_⟩) (by assumption) ?_
        rotate_left
        · (intro w hSw; (try dsimp only at hSw); go_simp; try (with_reducible rfl))
        try simp only [Act.put, List.getElem_toArray, List.getElem_cons_zero, List.getElem_cons_succ, List.setIfInBounds_toArray, List.set_cons_zero, List.set_cons_succ]
        refine wpAnyH_ready (rs := [23]) (by kernel_rfl) (by simp) ?_
        refine (AllReadyH.cons rfl (fun K hK => ?_) AllReadyH.nil)
        · go_simp
          refine hK.out _ _ ?_ (fun hHeld => ?_)
          · first | exact hHeld | (simp [go_sem, k3, k4, nr, ng, hqr, hg1, hb1]; done)
          clear hK K
          try simp only [Act.put, List.getElem_toArray, List.getElem_cons_zero, List.getElem_cons_succ, List.setIfInBounds_toArray, List.set_cons_zero, List.set_cons_succ]
          refine wpAnyH_done (by kernel_rfl) ?_ _
          replace HS := hide ((HS.out.un (((((Ex.refl (fun k => k = r1) W1).set (p := r1) (j := 0) rfl (.int .i64 0)).set (p := r1) (j := 3) rfl (.int .i64 pr)).set (p := r1) (j := 4) rfl (.int .i64 ln)).set (p := r1) (j := 2) rfl (.int .i64 hop)) ((((HS.out.cu.put0 0).put3 pr).put4 ln).put2 hop)).drewN 1)
          rw [drewN1] at HS
          clear hHeld hqr uf k3 k4 nr ng u0 u3 u4 u2
          generalize ((((W1.setCell ⟨r1, 0, none⟩ (.int .i64 0)).setCell ⟨r1, 3, none⟩ (.int .i64 pr)).setCell ⟨r1, 4, none⟩ (.int .i64 ln)).setCell ⟨r1, 2, none⟩ (.int .i64 hop)).drew = W2 at *
          have HOn : Hid (W2.ownsRow (b + 1) 77 3 (.slice (some ⟨g, 0, none⟩) n cap) n (flatR L)) := by
            have h := HS.out.na.ro d hd
            rw [HV.out, HL.out, HNL.out] at h
            exact h
          have nr := HS.out.na.r d hd
          rw [HV.out] at nr
          have nf := HS.out.na.fz
          have hbl := HS.out.na.lt
          have HCU := hide (own_cut (own_kept HOn.out ((Ex.refl (fun _ => False) W2).drew) (fun _ _ e => e)) (i := i0) (by omega))
          have hw1 : IntKind.i64.wrap ((i0 : Int) + 1) = (i0 : Int) + 1 := by rw [IntKind.wrap_i64]; omega
          have hw2 : ((i0 : Int) + 1).toNat = i0 + 1 := by omega
          have hw3 : (0 : Int) ≤ (i0 : Int) + 1 := by omega
          have hw4 : (i0 : Int) + 1 ≤ (n : Int) := by omega
          have hw5 : (i0 : Int) ≤ (cap : Int) := by omega
          have hw6 : (i0 : Int) ≤ (i0 : Int) + 1 := by omega
          go_upto_region 19 with fail
          by_cases hcc : cap = i0 + 1
          · obtain rfl : n = i0 + 1 := by omega
            subst hcc
            refine wp_region_held_drew (S := fun w' => True) (by kernel_rfl) trivial (fun hHeld => ?_)
            refine wpAnyH_take (i := 0) (v := ?_) rfl (by kernel_rfl) (by kernel_rfl) (by kernel_rfl) (fun _ _ _ h => h) (Or.inl ⟨by rfl, ?_⟩) (by assumption) ?_
            rotate_left
            · (intro w hSw; (try dsimp only at hSw); go_simp; try (with_reducible rfl))
            try simp only [Act.put, List.getElem_toArray, List.getElem_cons_zero, List.getElem_cons_succ, List.setIfInBounds_toArray, List.set_cons_zero, List.set_cons_succ]
            refine wpAnyH_take (i := 1) (v := ?_) rfl (by kernel_rfl) (by kernel_rfl) (by kernel_rfl) (fun _ _ _ h => h) (Or.inl ⟨by rfl, ?_⟩) (by assumption) ?_
            rotate_left
            · (intro w hSw; (try dsimp only at hSw); go_simp; try (with_reducible rfl))
            try simp only [Act.put, List.getElem_toArray, List.getElem_cons_zero, List.getElem_cons_succ, List.setIfInBounds_toArray, List.set_cons_zero, List.set_cons_succ]
            refine wpAnyH_take (i := 2) (v := ?_) rfl (by kernel_rfl) (by kernel_rfl) (by kernel_rfl) (fun _ _ _ h => h) (Or.inl ⟨by rfl, ?_⟩) (by assumption) ?_
            rotate_left
            · (intro w hSw; (try dsimp only at hSw); go_simp; try (with_reducible rfl))
            try simp only [Act.put, List.getElem_toArray, List.getElem_cons_zero, List.getElem_cons_succ, List.setIfInBounds_toArray, List.set_cons_zero, List.set_cons_succ]
            refine wpAnyH_take (i := 3) (v := ?_) rfl (by kernel_rfl) (by kernel_rfl) (by kernel_rfl) (fun _ _ _ h => h) (Or.inl ⟨by rfl, ?_⟩) (by assumption) ?_
            rotate_left
            · (intro w hSw; (try dsimp only at hSw); go_simp; try (with_reducible rfl))
            try simp only [Act.put, List.getElem_toArray, List.getElem_cons_zero, List.getElem_cons_succ, List.setIfInBounds_toArray, List.set_cons_zero, List.set_cons_succ]
            refine wpAnyH_take (i := 5) (v := ?_) rfl (by kernel_rfl) (by kernel_rfl) (by kernel_rfl) (fun _ _ _ h => h) (Or.inl ⟨by rfl, ?_⟩) (by assumption) ?_
            rotate_left
            · (intro w hSw; (try dsimp only at hSw); go_simp; try (with_reducible rfl))
            try simp only [Act.put, List.getElem_toArray, List.getElem_cons_zero, List.getElem_cons_succ, List.setIfInBounds_toArray, List.set_cons_zero, List.set_cons_succ]
            refine wpAnyH_take (i := 7) (v := ?_) rfl (by kernel_rfl) (by kernel_rfl) (by kernel_rfl) (fun _ _ _ h => h) (Or.inl ⟨by rfl, ?_⟩) (by assumption) ?_
            rotate_left
            · (intro w hSw; (try dsimp only at hSw); go_simp; try (with_reducible rfl))
            try simp only [Act.put, List.getElem_toArray, List.getElem_cons_zero, List.getElem_cons_succ, List.setIfInBounds_toArray, List.set_cons_zero, List.set_cons_succ]
            refine wpAnyH_take (i := 8) (v := ?_) rfl (by kernel_rfl) (by kernel_rfl) (by kernel_rfl) (fun _ _ _ h => h) (Or.inl ⟨by rfl, ?_⟩) (by assumption) ?_
            rotate_left
            · (intro w hSw; (try dsimp only at hSw); go_simp; try (with_reducible rfl))
            try simp only [Act.put, List.getElem_toArray, List.getElem_cons_zero, List.getElem_cons_succ, List.setIfInBounds_toArray, List.set_cons_zero, List.set_cons_succ]
            refine wpAnyH_take (i := 9) (v := ?_) rfl (by kernel_rfl) (by kernel_rfl) (by kernel_rfl) (fun _ _ _ h => h) (Or.inl ⟨by rfl, ?_⟩) (by assumption) ?_
            rotate_left
            · (intro w hSw; (try dsimp only at hSw); go_simp; try (with_reducible rfl))
            try simp only [Act.put, List.getElem_toArray, List.getElem_cons_zero, List.getElem_cons_succ, List.setIfInBounds_toArray, List.set_cons_zero, List.set_cons_succ]
            refine wpAnyH_take (i := 11) (v := ?_) rfl (by kernel_rfl) (by kernel_rfl) (by kernel_rfl) (fun _ _ _ h => h) (Or.inl ⟨by rfl, ?_⟩) (by assumption) ?_
            rotate_left
            · (intro w hSw; (try dsimp only at hSw); go_simp; try (with_reducible rfl))
            try simp only [Act.put, List.getElem_toArray, List.getElem_cons_zero, List.getElem_cons_succ, List.setIfInBounds_toArray, List.set_cons_zero, List.set_cons_succ]
            refine wpAnyH_take (i := 12) (v := ?_) rfl (by kernel_rfl) (by kernel_rfl) (by kernel_rfl) (fun _ _ _ h => h) (Or.inl ⟨by rfl, ?_⟩) (by assumption) ?_
            rotate_left
            · (intro w hSw; (try dsimp only at hSw); go_simp; try (with_reducible rfl))
            try simp only [Act.put, List.getElem_toArray, List.getElem_cons_zero, List.getElem_cons_succ, List.setIfInBounds_toArray, List.set_cons_zero, List.set_cons_succ]
            refine wpAnyH_ready (rs := [4, 10]) (by kernel_rfl) (by simp) ?_
            refine (AllReadyH.cons rfl (fun K hK => ?_) (AllReadyH.cons rfl (fun K hK => ?_) AllReadyH.nil))
            · go_simp
              refine hK.out _ _ ?_ (fun hHeld => ?_)
              · trivial
              clear hK K
              try simp only [Act.put, List.getElem_toArray, List.getElem_cons_zero, List.getElem_cons_succ, List.setIfInBounds_toArray, List.set_cons_zero, List.set_cons_succ]
              refine wpAnyH_take (i := 6) (v := ?_) rfl (by kernel_rfl) (by kernel_rfl) (by kernel_rfl) (fun _ _ _ h => h) (Or.inl ⟨by rfl, ?_⟩) (by assumption) ?_
              rotate_left
              · (intro w hSw; (try dsimp only at hSw); go_simp; try (with_reducible rfl))
              try simp only [Act.put, List.getElem_toArray, List.getElem_cons_zero, List.getElem_cons_succ, List.setIfInBounds_toArray, List.set_cons_zero, List.set_cons_succ]
              refine wpAnyH_ready (rs := [10]) (by kernel_rfl) (by simp) ?_
              refine (AllReadyH.cons rfl (fun K hK => ?_) AllReadyH.nil)
              · go_simp
                refine hK.out _ _ ?_ (fun hHeld => ?_)
                · trivial
                clear hK K
                try simp only [Act.put, List.getElem_toArray, List.getElem_cons_zero, List.getElem_cons_succ, List.setIfInBounds_toArray, List.set_cons_zero, List.set_cons_succ]
                refine wpAnyH_take (i := 13) (v := ?_) rfl (by kernel_rfl) (by kernel_rfl) (by kernel_rfl) (fun _ _ _ h => h) (Or.inl ⟨by rfl, ?_⟩) (by assumption) ?_
                rotate_left
                · (intro w hSw; (try dsimp only at hSw); go_simp; try (with_reducible rfl))
                try simp only [Act.put, List.getElem_toArray, List.getElem_cons_zero, List.getElem_cons_succ, List.setIfInBounds_toArray, List.set_cons_zero, List.set_cons_succ]
                refine wpAnyH_ready (rs := [14]) (by kernel_rfl) (by simp) ?_
                refine (AllReadyH.cons rfl (fun K hK => ?_) AllReadyH.nil)
                · refine step_append_at rfl (.tmp 149) (.tmp 156) 27 rfl (b + 1) 77 i1 _ 3 24 Try.underlying27 HI.out.1 HI.out.2.1 HI.out.2.2.1 HI.out.2.2.2 rfl (by decide) (.slice (some ⟨g, 0, none⟩) i0 (i0 + 1)) i0 ((flatR L).take (i0 * 3)) rfl HCU.out ⟨g, 0, none⟩ 0 0 [] rfl rfl (fun j u hj => by simp at hj) (fun u hu => by simp at hu) (by unfold maxLen; omega) (by omega) (by simp; omega) ?_
                  intro v' w4 hown hgrow hat
                  obtain ⟨sa4, sc4, rfl⟩ := own_len hown
                  have HOW4 := hide hown
                  have HGR := hide hgrow
                  have HAT := hide hat
                  have nr4 : w4.cell? ⟨b, d * 4, none⟩ = some (.slice (some ⟨g, 0, none⟩) (i0 + 1) (i0 + 1)) := hgrow.cell nr (fun e => hgb (by injection e))
                  have nf4 : w4.frozen? ⟨b, d * 4, none⟩ = false := (hgrow.frozen_far ⟨b, d * 4, none⟩ (by simp; omega) (fun e => hgb (by injection e))).trans (nf _)
                  clear hown hgrow hat
                  refine hK.out _ _ ?_ (fun hHeld => ?_)
                  · trivial
                  clear hK K
                  try simp only [Act.put, List.getElem_toArray, List.getElem_cons_zero, List.getElem_cons_succ, List.setIfInBounds_toArray, List.set_cons_zero, List.set_cons_succ]
                  refine wpAnyH_take (i := 15) (v := ?_) rfl (by kernel_rfl) (by kernel_rfl) (by kernel_rfl) (fun _ _ _ h => h) (Or.inl ⟨by rfl, ?_⟩) (by assumption) ?_
                  rotate_left
                  · (intro w hSw; (try dsimp only at hSw); go_simp; try (with_reducible rfl))
                  try simp only [Act.put, List.getElem_toArray, List.getElem_cons_zero, List.getElem_cons_succ, List.setIfInBounds_toArray, List.set_cons_zero, List.set_cons_succ]
                  refine wpAnyH_take (i := 16) (v := ?_) rfl (by kernel_rfl) (by kernel_rfl) (by kernel_rfl) (fun _ _ _ h => h) (Or.inl ⟨by rfl, ?_⟩) (by assumption) ?_
                  rotate_left
                  · (intro w hSw; (try dsimp only at hSw); go_simp; try (with_reducible rfl))
                  try simp only [Act.put, List.getElem_toArray, List.getElem_cons_zero, List.getElem_cons_succ, List.setIfInBounds_toArray, List.set_cons_zero, List.set_cons_succ]
                  refine wpAnyH_ready (rs := [17]) (by kernel_rfl) (by simp) ?_
                  refine (AllReadyH.cons rfl (fun K hK => ?_) AllReadyH.nil)
                  · go_simp
                    refine hK.out _ _ ?_ (fun hHeld => ?_)
                    · trivial
                    clear hK K
                    try simp only [Act.put, List.getElem_toArray, List.getElem_cons_zero, List.getElem_cons_succ, List.setIfInBounds_toArray, List.set_cons_zero, List.set_cons_succ]
                    refine wpAnyH_done (by kernel_rfl) ?_ _
                    have HS4 : Hid (ST w (w4.setCell ⟨b, d * 4, none⟩ (.slice sa4 (i0 + 0) sc4)) q o b r0 r1 vr va ⟨1, d, hp, pr, ln, ix, cl, pm, up⟩ (upd N d { N d with rt := L.take i0 ++ L.drop (i0 + 1) }) (upd vr d (.slice sa4 (i0 + 0) sc4)) va ⟨0, d, hop, pr, ln, 0, 0, false, false⟩) := by
                      refine (HS.out.drewN 1).growR hd (Ex.ofGrown HGR.out (fun k hk => by rw [HV.out]; exact hk)) ?_ (fun k hk => ?_)
                      · have h := HOW4.out
                        rw [List.append_nil, flatR, fm_take Rt.vals 3 rt_len, show L.take i0 = L.take i0 ++ L.drop (i0 + 1) by rw [List.drop_eq_nil_of_le (by rw [HNL.out]; omega), List.append_nil]] at h
                        rw [show (L.take i0 ++ L.drop (i0 + 1)).length = i0 + 0 by rw [List.length_append, List.length_take, List.length_drop, HNL.out]; omega]
                        exact h
                      · rw [HV.out]
                        rcases HAT.out with z | z
                        · left; rw [← hk]; exact z.symm
                        · right
                          rw [hk] at z
                          injection z with z
                          rw [z]
                          simp
                    clear HS HOn HCU HOW4 HGR HAT nr nr4 nf nf4 hHeld
                    have HS := HS4
                    clear HS4
                    generalize w4.setCell ⟨b, d * 4, none⟩ (.slice sa4 (i0 + 0) sc4) = W9 at *
                    go_upto_region 43 with fail
                    have u0 := HS.out.cu.c0
                    have R0 := HS.out.cr.c0
                    have u1 := HS.out.cu.c1
                    have R1 := HS.out.cr.c1
                    have u2 := HS.out.cu.c2
                    have R2 := HS.out.cr.c2
                    have u3 := HS.out.cu.c3
                    have R3 := HS.out.cr.c3
                    have u4 := HS.out.cu.c4
                    have R4 := HS.out.cr.c4
                    have u5 := HS.out.cu.c5
                    have R5 := HS.out.cr.c5
                    have u6 := HS.out.cu.c6
                    have R6 := HS.out.cr.c6
                    have u7 := HS.out.cu.c7
                    have R7 := HS.out.cr.c7
                    have u8 := HS.out.cu.c8
                    have R8 := HS.out.cr.c8
                    have uf := HS.out.cu.fr
                    have Rf := HS.out.cr.fr
                    have h01 := HS.out.h1
                    simp only [Chg.zero] at u0 R0 u1 R1 u2 R2 u3 R3 u4 R4 u5 R5 u6 R6 u7 R7 u8 R8
                    have HFIN := fun (v : Value) (y0 y1 y2 y3 y4 y5 y6 y7 y8 : Value) => hide (HS.out.fin (v := v) y0 y1 y2 y3 y4 y5 y6 y7 y8)
                    go_wp2
                    refine bodyPost_ret (v := .tuple #[chgV ⟨0, d, hop, pr, ln, 0, 0, false, false⟩, .int .i64 0]) (by simp [results, Try.results61, go_sem, chgV, Chg.vals, R0, R1, R2, R3, R4, R5, R6, R7, R8]) rfl ?_
                    rw [H_i0.out, HL.out]
                    exact (HFIN _ _ _ _ _ _ _ _ _ _).out
            · go_simp
              refine hK.out _ _ ?_ (fun hHeld => ?_)
              · trivial
              clear hK K
              try simp only [Act.put, List.getElem_toArray, List.getElem_cons_zero, List.getElem_cons_succ, List.setIfInBounds_toArray, List.set_cons_zero, List.set_cons_succ]
              refine wpAnyH_take (i := 13) (v := ?_) rfl (by kernel_rfl) (by kernel_rfl) (by kernel_rfl) (fun _ _ _ h => h) (Or.inl ⟨by rfl, ?_⟩) (by assumption) ?_
              rotate_left
              · (intro w hSw; (try dsimp only at hSw); go_simp; try (with_reducible rfl))
              try simp only [Act.put, List.getElem_toArray, List.getElem_cons_zero, List.getElem_cons_succ, List.setIfInBounds_toArray, List.set_cons_zero, List.set_cons_succ]
              refine wpAnyH_ready (rs := [4]) (by kernel_rfl) (by simp) ?_
              refine (AllReadyH.cons rfl (fun K hK => ?_) AllReadyH.nil)
              · go_simp
                refine hK.out _ _ ?_ (fun hHeld => ?_)
                · trivial
                clear hK K
                try simp only [Act.put, List.getElem_toArray, List.getElem_cons_zero, List.getElem_cons_succ, List.setIfInBounds_toArray, List.set_cons_zero, List.set_cons_succ]
                refine wpAnyH_take (i := 6) (v := ?_) rfl (by kernel_rfl) (by kernel_rfl) (by kernel_rfl) (fun _ _ _ h => h) (Or.inl ⟨by rfl, ?_⟩) (by assumption) ?_
                rotate_left
                · (intro w hSw; (try dsimp only at hSw); go_simp; try (with_reducible rfl))
                try simp only [Act.put, List.getElem_toArray, List.getElem_cons_zero, List.getElem_cons_succ, List.setIfInBounds_toArray, List.set_cons_zero, List.set_cons_succ]
                refine wpAnyH_ready (rs := [14]) (by kernel_rfl) (by simp) ?_
                refine (AllReadyH.cons rfl (fun K hK => ?_) AllReadyH.nil)
                · refine step_append_at rfl (.tmp 149) (.tmp 156) 27 rfl (b + 1) 77 i1 _ 3 24 Try.underlying27 HI.out.1 HI.out.2.1 HI.out.2.2.1 HI.out.2.2.2 rfl (by decide) (.slice (some ⟨g, 0, none⟩) i0 (i0 + 1)) i0 ((flatR L).take (i0 * 3)) rfl HCU.out ⟨g, 0, none⟩ 0 0 [] rfl rfl (fun j u hj => by simp at hj) (fun u hu => by simp at hu) (by unfold maxLen; omega) (by omega) (by simp; omega) ?_
                  intro v' w4 hown hgrow hat
                  obtain ⟨sa4, sc4, rfl⟩ := own_len hown
                  have HOW4 := hide hown
                  have HGR := hide hgrow
                  have HAT := hide hat
                  have nr4 : w4.cell? ⟨b, d * 4, none⟩ = some (.slice (some ⟨g, 0, none⟩) (i0 + 1) (i0 + 1)) := hgrow.cell nr (fun e => hgb (by injection e))
                  have nf4 : w4.frozen? ⟨b, d * 4, none⟩ = false := (hgrow.frozen_far ⟨b, d * 4, none⟩ (by simp; omega) (fun e => hgb (by injection e))).trans (nf _)
                  clear hown hgrow hat
                  refine hK.out _ _ ?_ (fun hHeld => ?_)
                  · trivial
                  clear hK K
                  try simp only [Act.put, List.getElem_toArray, List.getElem_cons_zero, List.getElem_cons_succ, List.setIfInBounds_toArray, List.set_cons_zero, List.set_cons_succ]
                  refine wpAnyH_take (i := 15) (v := ?_) rfl (by kernel_rfl) (by kernel_rfl) (by kernel_rfl) (fun _ _ _ h => h) (Or.inl ⟨by rfl, ?_⟩) (by assumption) ?_
                  rotate_left
                  · (intro w hSw; (try dsimp only at hSw); go_simp; try (with_reducible rfl))
                  try simp only [Act.put, List.getElem_toArray, List.getElem_cons_zero, List.getElem_cons_succ, List.setIfInBounds_toArray, List.set_cons_zero, List.set_cons_succ]
                  refine wpAnyH_take (i := 16) (v := ?_) rfl (by kernel_rfl) (by kernel_rfl) (by kernel_rfl) (fun _ _ _ h => h) (Or.inl ⟨by rfl, ?_⟩) (by assumption) ?_
                  rotate_left
                  · (intro w hSw; (try dsimp only at hSw); go_simp; try (with_reducible rfl))
                  try simp only [Act.put, List.getElem_toArray, List.getElem_cons_zero, List.getElem_cons_succ, List.setIfInBounds_toArray, List.set_cons_zero, List.set_cons_succ]
                  refine wpAnyH_ready (rs := [17]) (by kernel_rfl) (by simp) ?_
                  refine (AllReadyH.cons rfl (fun K hK => ?_) AllReadyH.nil)
                  · go_simp
                    refine hK.out _ _ ?_ (fun hHeld => ?_)
                    · trivial
                    clear hK K
                    try simp only [Act.put, List.getElem_toArray, List.getElem_cons_zero, List.getElem_cons_succ, List.setIfInBounds_toArray, List.set_cons_zero, List.set_cons_succ]
                    refine wpAnyH_done (by kernel_rfl) ?_ _
                    have HS4 : Hid (ST w (w4.setCell ⟨b, d * 4, none⟩ (.slice sa4 (i0 + 0) sc4)) q o b r0 r1 vr va ⟨1, d, hp, pr, ln, ix, cl, pm, up⟩ (upd N d { N d with rt := L.take i0 ++ L.drop (i0 + 1) }) (upd vr d (.slice sa4 (i0 + 0) sc4)) va ⟨0, d, hop, pr, ln, 0, 0, false, false⟩) := by
                      refine (HS.out.drewN 1).growR hd (Ex.ofGrown HGR.out (fun k hk => by rw [HV.out]; exact hk)) ?_ (fun k hk => ?_)
                      · have h := HOW4.out
                        rw [List.append_nil, flatR, fm_take Rt.vals 3 rt_len, show L.take i0 = L.take i0 ++ L.drop (i0 + 1) by rw [List.drop_eq_nil_of_le (by rw [HNL.out]; omega), List.append_nil]] at h
                        rw [show (L.take i0 ++ L.drop (i0 + 1)).length = i0 + 0 by rw [List.length_append, List.length_take, List.length_drop, HNL.out]; omega]
                        exact h
                      · rw [HV.out]
                        rcases HAT.out with z | z
                        · left; rw [← hk]; exact z.symm
                        · right
                          rw [hk] at z
                          injection z with z
                          rw [z]
                          simp
                    clear HS HOn HCU HOW4 HGR HAT nr nr4 nf nf4 hHeld
                    have HS := HS4
                    clear HS4
                    generalize w4.setCell ⟨b, d * 4, none⟩ (.slice sa4 (i0 + 0) sc4) = W9 at *
                    go_upto_region 43 with fail
                    have u0 := HS.out.cu.c0
                    have R0 := HS.out.cr.c0
                    have u1 := HS.out.cu.c1
                    have R1 := HS.out.cr.c1
                    have u2 := HS.out.cu.c2
                    have R2 := HS.out.cr.c2
                    have u3 := HS.out.cu.c3
                    have R3 := HS.out.cr.c3
                    have u4 := HS.out.cu.c4
                    have R4 := HS.out.cr.c4
                    have u5 := HS.out.cu.c5
                    have R5 := HS.out.cr.c5
                    have u6 := HS.out.cu.c6
                    have R6 := HS.out.cr.c6
                    have u7 := HS.out.cu.c7
                    have R7 := HS.out.cr.c7
                    have u8 := HS.out.cu.c8
                    have R8 := HS.out.cr.c8
                    have uf := HS.out.cu.fr
                    have Rf := HS.out.cr.fr
                    have h01 := HS.out.h1
                    simp only [Chg.zero] at u0 R0 u1 R1 u2 R2 u3 R3 u4 R4 u5 R5 u6 R6 u7 R7 u8 R8
                    have HFIN := fun (v : Value) (y0 y1 y2 y3 y4 y5 y6 y7 y8 : Value) => hide (HS.out.fin (v := v) y0 y1 y2 y3 y4 y5 y6 y7 y8)
                    go_wp2
                    refine bodyPost_ret (v := .tuple #[chgV ⟨0, d, hop, pr, ln, 0, 0, false, false⟩, .int .i64 0]) (by simp [results, Try.results61, go_sem, chgV, Chg.vals, R0, R1, R2, R3, R4, R5, R6, R7, R8]) rfl ?_
                    rw [H_i0.out, HL.out]
                    exact (HFIN _ _ _ _ _ _ _ _ _ _).out
          · have HNW : Hid (∀ j u, (flatR (L.drop (i0 + 1)))[j]? = some u → W2.cell? ((⟨g, (i0 + 1) * 3, none⟩ : Addr).add j) = some u) := fun j u hj => by
              rw [flatR, ← fm_drop Rt.vals 3 rt_len, List.getElem?_drop] at hj
              have := HOn.out.cells (g := g) rfl _ u hj
              rw [Addr.add_mid, Nat.zero_add] at this
              rw [Addr.add_mid]
              exact this
            refine wp_region_held_drew (S := fun w' => True) (by kernel_rfl) trivial (fun hHeld => ?_)
            refine wpAnyH_take (i := 0) (v := ?_) rfl (by kernel_rfl) (by kernel_rfl) (by kernel_rfl) (fun _ _ _ h => h) (Or.inl ⟨by rfl, ?_⟩) (by assumption) ?_
            rotate_left
            · (intro w hSw; (try dsimp only at hSw); go_simp; try (with_reducible rfl))
            try simp only [Act.put, List.getElem_toArray, List.getElem_cons_zero, List.getElem_cons_succ, List.setIfInBounds_toArray, List.set_cons_zero, List.set_cons_succ]
            refine wpAnyH_take (i := 1) (v := ?_) rfl (by kernel_rfl) (by kernel_rfl) (by kernel_rfl) (fun _ _ _ h => h) (Or.inl ⟨by rfl, ?_⟩) (by assumption) ?_
            rotate_left
            · (intro w hSw; (try dsimp only at hSw); go_simp; try (with_reducible rfl))
            try simp only [Act.put, List.getElem_toArray, List.getElem_cons_zero, List.getElem_cons_succ, List.setIfInBounds_toArray, List.set_cons_zero, List.set_cons_succ]
            refine wpAnyH_take (i := 2) (v := ?_) rfl (by kernel_rfl) (by kernel_rfl) (by kernel_rfl) (fun _ _ _ h => h) (Or.inl ⟨by rfl, ?_⟩) (by assumption) ?_
            rotate_left
            · (intro w hSw; (try dsimp only at hSw); go_simp; try (with_reducible rfl))
            try simp only [Act.put, List.getElem_toArray, List.getElem_cons_zero, List.getElem_cons_succ, List.setIfInBounds_toArray, List.set_cons_zero, List.set_cons_succ]
            refine wpAnyH_take (i := 3) (v := ?_) rfl (by kernel_rfl) (by kernel_rfl) (by kernel_rfl) (fun _ _ _ h => h) (Or.inl ⟨by rfl, ?_⟩) (by assumption) ?_
            rotate_left
            · (intro w hSw; (try dsimp only at hSw); go_simp; try (with_reducible rfl))
            try simp only [Act.put, List.getElem_toArray, List.getElem_cons_zero, List.getElem_cons_succ, List.setIfInBounds_toArray, List.set_cons_zero, List.set_cons_succ]
            refine wpAnyH_take (i := 5) (v := ?_) rfl (by kernel_rfl) (by kernel_rfl) (by kernel_rfl) (fun _ _ _ h => h) (Or.inl ⟨by rfl, ?_⟩) (by assumption) ?_
            rotate_left
            · (intro w hSw; (try dsimp only at hSw); go_simp; try (with_reducible rfl))
            try simp only [Act.put, List.getElem_toArray, List.getElem_cons_zero, List.getElem_cons_succ, List.setIfInBounds_toArray, List.set_cons_zero, List.set_cons_succ]
            refine wpAnyH_take (i := 7) (v := ?_) rfl (by kernel_rfl) (by kernel_rfl) (by kernel_rfl) (fun _ _ _ h => h) (Or.inl ⟨by rfl, ?_⟩) (by assumption) ?_
            rotate_left
            · (intro w hSw; (try dsimp only at hSw); go_simp; try (with_reducible rfl))
            try simp only [Act.put, List.getElem_toArray, List.getElem_cons_zero, List.getElem_cons_succ, List.setIfInBounds_toArray, List.set_cons_zero, List.set_cons_succ]
            refine wpAnyH_take (i := 8) (v := ?_) rfl (by kernel_rfl) (by kernel_rfl) (by kernel_rfl) (fun _ _ _ h => h) (Or.inl ⟨by rfl, ?_⟩) (by assumption) ?_
            rotate_left
            · (intro w hSw; (try dsimp only at hSw); go_simp; try (with_reducible rfl))
            try simp only [Act.put, List.getElem_toArray, List.getElem_cons_zero, List.getElem_cons_succ, List.setIfInBounds_toArray, List.set_cons_zero, List.set_cons_succ]
            refine wpAnyH_take (i := 9) (v := ?_) rfl (by kernel_rfl) (by kernel_rfl) (by kernel_rfl) (fun _ _ _ h => h) (Or.inl ⟨by rfl, ?_⟩) (by assumption) ?_
            rotate_left
            · (intro w hSw; (try dsimp only at hSw); go_simp; try (with_reducible rfl))
            try simp only [Act.put, List.getElem_toArray, List.getElem_cons_zero, List.getElem_cons_succ, List.setIfInBounds_toArray, List.set_cons_zero, List.set_cons_succ]
            refine wpAnyH_take (i := 11) (v := ?_) rfl (by kernel_rfl) (by kernel_rfl) (by kernel_rfl) (fun _ _ _ h => h) (Or.inl ⟨by rfl, ?_⟩) (by assumption) ?_
            rotate_left
            · (intro w hSw; (try dsimp only at hSw); go_simp; try (with_reducible rfl))
            try simp only [Act.put, List.getElem_toArray, List.getElem_cons_zero, List.getElem_cons_succ, List.setIfInBounds_toArray, List.set_cons_zero, List.set_cons_succ]
            refine wpAnyH_take (i := 12) (v := ?_) rfl (by kernel_rfl) (by kernel_rfl) (by kernel_rfl) (fun _ _ _ h => h) (Or.inl ⟨by rfl, ?_⟩) (by assumption) ?_
            rotate_left
            · (intro w hSw; (try dsimp only at hSw); go_simp; try (with_reducible rfl))
            try simp only [Act.put, List.getElem_toArray, List.getElem_cons_zero, List.getElem_cons_succ, List.setIfInBounds_toArray, List.set_cons_zero, List.set_cons_succ]
            refine wpAnyH_ready (rs := [4, 10]) (by kernel_rfl) (by simp) ?_
            refine (AllReadyH.cons rfl (fun K hK => ?_) (AllReadyH.cons rfl (fun K hK => ?_) AllReadyH.nil))
            · go_simp
              refine hK.out _ _ ?_ (fun hHeld => ?_)
              · trivial
              clear hK K
              try simp only [Act.put, List.getElem_toArray, List.getElem_cons_zero, List.getElem_cons_succ, List.setIfInBounds_toArray, List.set_cons_zero, List.set_cons_succ]
              refine wpAnyH_take (i := 6) (v := ?_) rfl (by kernel_rfl) (by kernel_rfl) (by kernel_rfl) (fun _ _ _ h => h) (Or.inl ⟨by rfl, ?_⟩) (by assumption) ?_
              rotate_left
              · (intro w hSw; (try dsimp only at hSw); go_simp; try (with_reducible rfl))
              try simp only [Act.put, List.getElem_toArray, List.getElem_cons_zero, List.getElem_cons_succ, List.setIfInBounds_toArray, List.set_cons_zero, List.set_cons_succ]
              refine wpAnyH_ready (rs := [10]) (by kernel_rfl) (by simp) ?_
              refine (AllReadyH.cons rfl (fun K hK => ?_) AllReadyH.nil)
              · go_simp
                refine hK.out _ _ ?_ (fun hHeld => ?_)
                · trivial
                clear hK K
                try simp only [Act.put, List.getElem_toArray, List.getElem_cons_zero, List.getElem_cons_succ, List.setIfInBounds_toArray, List.set_cons_zero, List.set_cons_succ]
                refine wpAnyH_take (i := 13) (v := ?_) rfl (by kernel_rfl) (by kernel_rfl) (by kernel_rfl) (fun _ _ _ h => h) (Or.inl ⟨by rfl, ?_⟩) (by assumption) ?_
                rotate_left
                · (intro w hSw; (try dsimp only at hSw); go_simp; try (with_reducible rfl))
                try simp only [Act.put, List.getElem_toArray, List.getElem_cons_zero, List.getElem_cons_succ, List.setIfInBounds_toArray, List.set_cons_zero, List.set_cons_succ]
                refine wpAnyH_ready (rs := [14]) (by kernel_rfl) (by simp) ?_
                refine (AllReadyH.cons rfl (fun K hK => ?_) AllReadyH.nil)
                · refine step_append_at rfl (.tmp 149) (.tmp 156) 27 rfl (b + 1) 77 i1 _ 3 24 Try.underlying27 HI.out.1 HI.out.2.1 HI.out.2.2.1 HI.out.2.2.2 rfl (by decide) (.slice (some ⟨g, 0, none⟩) i0 cap) i0 ((flatR L).take (i0 * 3)) rfl HCU.out ⟨g, (i0 + 1) * 3, none⟩ (n - (i0 + 1)) (cap - (i0 + 1)) (flatR (L.drop (i0 + 1))) rfl (by rw [flatR, flat_len Rt.vals 3 rt_len, List.length_drop, HNL.out]) (fun j u hj => by have := HNW.out j u hj; simpa [go_sem] using this) (rt_one _) (by unfold maxLen; omega) (by omega) (by simp; omega) ?_
                  intro v' w4 hown hgrow hat
                  obtain ⟨sa4, sc4, rfl⟩ := own_len hown
                  have HOW4 := hide hown
                  have HGR := hide hgrow
                  have HAT := hide hat
                  have nr4 : w4.cell? ⟨b, d * 4, none⟩ = some (.slice (some ⟨g, 0, none⟩) n cap) := hgrow.cell nr (fun e => hgb (by injection e))
                  have nf4 : w4.frozen? ⟨b, d * 4, none⟩ = false := (hgrow.frozen_far ⟨b, d * 4, none⟩ (by simp; omega) (fun e => hgb (by injection e))).trans (nf _)
                  clear hown hgrow hat
                  refine hK.out _ _ ?_ (fun hHeld => ?_)
                  · trivial
                  clear hK K
                  try simp only [Act.put, List.getElem_toArray, List.getElem_cons_zero, List.getElem_cons_succ, List.setIfInBounds_toArray, List.set_cons_zero, List.set_cons_succ]
                  refine wpAnyH_take (i := 15) (v := ?_) rfl (by kernel_rfl) (by kernel_rfl) (by kernel_rfl) (fun _ _ _ h => h) (Or.inl ⟨by rfl, ?_⟩) (by assumption) ?_
                  rotate_left
                  · (intro w hSw; (try dsimp only at hSw); go_simp; try (with_reducible rfl))
                  try simp only [Act.put, List.getElem_toArray, List.getElem_cons_zero, List.getElem_cons_succ, List.setIfInBounds_toArray, List.set_cons_zero, List.set_cons_succ]
                  refine wpAnyH_take (i := 16) (v := ?_) rfl (by kernel_rfl) (by kernel_rfl) (by kernel_rfl) (fun _ _ _ h => h) (Or.inl ⟨by rfl, ?_⟩) (by assumption) ?_
                  rotate_left
                  · (intro w hSw; (try dsimp only at hSw); go_simp; try (with_reducible rfl))
                  try simp only [Act.put, List.getElem_toArray, List.getElem_cons_zero, List.getElem_cons_succ, List.setIfInBounds_toArray, List.set_cons_zero, List.set_cons_succ]
                  refine wpAnyH_ready (rs := [17]) (by kernel_rfl) (by simp) ?_
                  refine (AllReadyH.cons rfl (fun K hK => ?_) AllReadyH.nil)
                  · go_simp
                    refine hK.out _ _ ?_ (fun hHeld => ?_)
                    · trivial
                    clear hK K
                    try simp only [Act.put, List.getElem_toArray, List.getElem_cons_zero, List.getElem_cons_succ, List.setIfInBounds_toArray, List.set_cons_zero, List.set_cons_succ]
                    refine wpAnyH_done (by kernel_rfl) ?_ _
                    have HS4 : Hid (ST w (w4.setCell ⟨b, d * 4, none⟩ (.slice sa4 (i0 + (n - (i0 + 1))) sc4)) q o b r0 r1 vr va ⟨1, d, hp, pr, ln, ix, cl, pm, up⟩ (upd N d { N d with rt := L.take i0 ++ L.drop (i0 + 1) }) (upd vr d (.slice sa4 (i0 + (n - (i0 + 1))) sc4)) va ⟨0, d, hop, pr, ln, 0, 0, false, false⟩) := by
                      refine (HS.out.drewN 1).growR hd (Ex.ofGrown HGR.out (fun k hk => by rw [HV.out]; exact hk)) ?_ (fun k hk => ?_)
                      · have h := HOW4.out
                        rw [flatR, flatR, fm_take Rt.vals 3 rt_len, ← List.flatMap_append] at h
                        rw [show (L.take i0 ++ L.drop (i0 + 1)).length = i0 + (n - (i0 + 1)) by rw [List.length_append, List.length_take, List.length_drop, HNL.out]; omega]
                        exact h
                      · rw [HV.out]
                        rcases HAT.out with z | z
                        · left; rw [← hk]; exact z.symm
                        · right
                          rw [hk] at z
                          injection z with z
                          rw [z]
                          simp
                    clear HS HOn HCU HOW4 HGR HAT nr nr4 nf nf4 hHeld
                    have HS := HS4
                    clear HS4
                    generalize w4.setCell ⟨b, d * 4, none⟩ (.slice sa4 (i0 + (n - (i0 + 1))) sc4) = W9 at *
                    go_upto_region 43 with fail
                    have u0 := HS.out.cu.c0
                    have R0 := HS.out.cr.c0
                    have u1 := HS.out.cu.c1
                    have R1 := HS.out.cr.c1
                    have u2 := HS.out.cu.c2
                    have R2 := HS.out.cr.c2
                    have u3 := HS.out.cu.c3
                    have R3 := HS.out.cr.c3
                    have u4 := HS.out.cu.c4
                    have R4 := HS.out.cr.c4
                    have u5 := HS.out.cu.c5
                    have R5 := HS.out.cr.c5
                    have u6 := HS.out.cu.c6
                    have R6 := HS.out.cr.c6
                    have u7 := HS.out.cu.c7
                    have R7 := HS.out.cr.c7
                    have u8 := HS.out.cu.c8
                    have R8 := HS.out.cr.c8
                    have uf := HS.out.cu.fr
                    have Rf := HS.out.cr.fr
                    have h01 := HS.out.h1
                    simp only [Chg.zero] at u0 R0 u1 R1 u2 R2 u3 R3 u4 R4 u5 R5 u6 R6 u7 R7 u8 R8
                    have HFIN := fun (v : Value) (y0 y1 y2 y3 y4 y5 y6 y7 y8 : Value) => hide (HS.out.fin (v := v) y0 y1 y2 y3 y4 y5 y6 y7 y8)
                    go_wp2
                    refine bodyPost_ret (v := .tuple #[chgV ⟨0, d, hop, pr, ln, 0, 0, false, false⟩, .int .i64 0]) (by simp [results, Try.results61, go_sem, chgV, Chg.vals, R0, R1, R2, R3, R4, R5, R6, R7, R8]) rfl ?_
                    rw [H_i0.out, HL.out]
                    exact (HFIN _ _ _ _ _ _ _ _ _ _).out
            · go_simp
              refine hK.out _ _ ?_ (fun hHeld => ?_)
              · trivial
              clear hK K
              try simp only [Act.put, List.getElem_toArray, List.getElem_cons_zero, List.getElem_cons_succ, List.setIfInBounds_toArray, List.set_cons_zero, List.set_cons_succ]
              refine wpAnyH_take (i := 13) (v := ?_) rfl (by kernel_rfl) (by kernel_rfl) (by kernel_rfl) (fun _ _ _ h => h) (Or.inl ⟨by rfl, ?_⟩) (by assumption) ?_
              rotate_left
              · (intro w hSw; (try dsimp only at hSw); go_simp; try (with_reducible rfl))
              try simp only [Act.put, List.getElem_toArray, List.getElem_cons_zero, List.getElem_cons_succ, List.setIfInBounds_toArray, List.set_cons_zero, List.set_cons_succ]
              refine wpAnyH_ready (rs := [4]) (by kernel_rfl) (by simp) ?_
              refine (AllReadyH.cons rfl (fun K hK => ?_) AllReadyH.nil)
              · go_simp
                refine hK.out _ _ ?_ (fun hHeld => ?_)
                · trivial
                clear hK K
                try simp only [Act.put, List.getElem_toArray, List.getElem_cons_zero, List.getElem_cons_succ, List.setIfInBounds_toArray, List.set_cons_zero, List.set_cons_succ]
                refine wpAnyH_take (i := 6) (v := ?_) rfl (by kernel_rfl) (by kernel_rfl) (by kernel_rfl) (fun _ _ _ h => h) (Or.inl ⟨by rfl, ?_⟩) (by assumption) ?_
                rotate_left
                · (intro w hSw; (try dsimp only at hSw); go_simp; try (with_reducible rfl))
                try simp only [Act.put, List.getElem_toArray, List.getElem_cons_zero, List.getElem_cons_succ, List.setIfInBounds_toArray, List.set_cons_zero, List.set_cons_succ]
                refine wpAnyH_ready (rs := [14]) (by kernel_rfl) (by simp) ?_
                refine (AllReadyH.cons rfl (fun K hK => ?_) AllReadyH.nil)
                · refine step_append_at rfl (.tmp 149) (.tmp 156) 27 rfl (b + 1) 77 i1 _ 3 24 Try.underlying27 HI.out.1 HI.out.2.1 HI.out.2.2.1 HI.out.2.2.2 rfl (by decide) (.slice (some ⟨g, 0, none⟩) i0 cap) i0 ((flatR L).take (i0 * 3)) rfl HCU.out ⟨g, (i0 + 1) * 3, none⟩ (n - (i0 + 1)) (cap - (i0 + 1)) (flatR (L.drop (i0 + 1))) rfl (by rw [flatR, flat_len Rt.vals 3 rt_len, List.length_drop, HNL.out]) (fun j u hj => by have := HNW.out j u hj; simpa [go_sem] using this) (rt_one _) (by unfold maxLen; omega) (by omega) (by simp; omega) ?_
                  intro v' w4 hown hgrow hat
                  obtain ⟨sa4, sc4, rfl⟩ := own_len hown
                  have HOW4 := hide hown
                  have HGR := hide hgrow
                  have HAT := hide hat
                  have nr4 : w4.cell? ⟨b, d * 4, none⟩ = some (.slice (some ⟨g, 0, none⟩) n cap) := hgrow.cell nr (fun e => hgb (by injection e))
                  have nf4 : w4.frozen? ⟨b, d * 4, none⟩ = false := (hgrow.frozen_far ⟨b, d * 4, none⟩ (by simp; omega) (fun e => hgb (by injection e))).trans (nf _)
                  clear hown hgrow hat
                  refine hK.out _ _ ?_ (fun hHeld => ?_)
                  · trivial
                  clear hK K
                  try simp only [Act.put, List.getElem_toArray, List.getElem_cons_zero, List.getElem_cons_succ, List.setIfInBounds_toArray, List.set_cons_zero, List.set_cons_succ]
                  refine wpAnyH_take (i := 15) (v := ?_) rfl (by kernel_rfl) (by kernel_rfl) (by kernel_rfl) (fun _ _ _ h => h) (Or.inl ⟨by rfl, ?_⟩) (by assumption) ?_
                  rotate_left
                  · (intro w hSw; (try dsimp only at hSw); go_simp; try (with_reducible rfl))
                  try simp only [Act.put, List.getElem_toArray, List.getElem_cons_zero, List.getElem_cons_succ, List.setIfInBounds_toArray, List.set_cons_zero, List.set_cons_succ]
                  refine wpAnyH_take (i := 16) (v := ?_) rfl (by kernel_rfl) (by kernel_rfl) (by kernel_rfl) (fun _ _ _ h => h) (Or.inl ⟨by rfl, ?_⟩) (by assumption) ?_
                  rotate_left
                  · (intro w hSw; (try dsimp only at hSw); go_simp; try (with_reducible rfl))
                  try simp only [Act.put, List.getElem_toArray, List.getElem_cons_zero, List.getElem_cons_succ, List.setIfInBounds_toArray, List.set_cons_zero, List.set_cons_succ]
                  refine wpAnyH_ready (rs := [17]) (by kernel_rfl) (by simp) ?_
                  refine (AllReadyH.cons rfl (fun K hK => ?_) AllReadyH.nil)
                  · go_simp
                    refine hK.out _ _ ?_ (fun hHeld => ?_)
                    · trivial
                    clear hK K
                    try simp only [Act.put, List.getElem_toArray, List.getElem_cons_zero, List.getElem_cons_succ, List.setIfInBounds_toArray, List.set_cons_zero, List.set_cons_succ]
                    refine wpAnyH_done (by kernel_rfl) ?_ _
                    have HS4 : Hid (ST w (w4.setCell ⟨b, d * 4, none⟩ (.slice sa4 (i0 + (n - (i0 + 1))) sc4)) q o b r0 r1 vr va ⟨1, d, hp, pr, ln, ix, cl, pm, up⟩ (upd N d { N d with rt := L.take i0 ++ L.drop (i0 + 1) }) (upd vr d (.slice sa4 (i0 + (n - (i0 + 1))) sc4)) va ⟨0, d, hop, pr, ln, 0, 0, false, false⟩) := by
                      refine (HS.out.drewN 1).growR hd (Ex.ofGrown HGR.out (fun k hk => by rw [HV.out]; exact hk)) ?_ (fun k hk => ?_)
                      · have h := HOW4.out
                        rw [flatR, flatR, fm_take Rt.vals 3 rt_len, ← List.flatMap_append] at h
                        rw [show (L.take i0 ++ L.drop (i0 + 1)).length = i0 + (n - (i0 + 1)) by rw [List.length_append, List.length_take, List.length_drop, HNL.out]; omega]
                        exact h
                      · rw [HV.out]
                        rcases HAT.out with z | z
                        · left; rw [← hk]; exact z.symm
                        · right
                          rw [hk] at z
                          injection z with z
                          rw [z]
                          simp
                    clear HS HOn HCU HOW4 HGR HAT nr nr4 nf nf4 hHeld
                    have HS := HS4
                    clear HS4
                    generalize w4.setCell ⟨b, d * 4, none⟩ (.slice sa4 (i0 + (n - (i0 + 1))) sc4) = W9 at *
                    go_upto_region 43 with fail
                    have u0 := HS.out.cu.c0
                    have R0 := HS.out.cr.c0
                    have u1 := HS.out.cu.c1
                    have R1 := HS.out.cr.c1
                    have u2 := HS.out.cu.c2
                    have R2 := HS.out.cr.c2
                    have u3 := HS.out.cu.c3
                    have R3 := HS.out.cr.c3
                    have u4 := HS.out.cu.c4
                    have R4 := HS.out.cr.c4
                    have u5 := HS.out.cu.c5
                    have R5 := HS.out.cr.c5
                    have u6 := HS.out.cu.c6
                    have R6 := HS.out.cr.c6
                    have u7 := HS.out.cu.c7
                    have R7 := HS.out.cr.c7
                    have u8 := HS.out.cu.c8
                    have R8 := HS.out.cr.c8
                    have uf := HS.out.cu.fr
                    have Rf := HS.out.cr.fr
                    have h01 := HS.out.h1
                    simp only [Chg.zero] at u0 R0 u1 R1 u2 R2 u3 R3 u4 R4 u5 R5 u6 R6 u7 R7 u8 R8
                    have HFIN := fun (v : Value) (y0 y1 y2 y3 y4 y5 y6 y7 y8 : Value) => hide (HS.out.fin (v := v) y0 y1 y2 y3 y4 y5 y6 y7 y8)
                    go_wp2
                    refine bodyPost_ret (v := .tuple #[chgV ⟨0, d, hop, pr, ln, 0, 0, false, false⟩, .int .i64 0]) (by simp [results, Try.results61, go_sem, chgV, Chg.vals, R0, R1, R2, R3, R4, R5, R6, R7, R8]) rfl ?_
                    rw [H_i0.out, HL.out]
                    exact (HFIN _ _ _ _ _ _ _ _ _ _).out
end Go.Proofs.Qxb6500778a
