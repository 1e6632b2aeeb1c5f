import Derived.Test.Qxb6500778aN5
import Derived.Test.Qxb6500778aN6
import Derived.Deep.AppendLies
namespace Go.Proofs.Qxb6500778a
open Go.RowKit

set_option linter.unusedSimpArgs false in
set_option maxRecDepth 100000 in
set_option maxHeartbeats 8000000 in
theorem step_add (w : World) (q o b d : Nat) (N : Nat → Dv) (vr va : Nat → Value) (hp pr ln ix cl : Int) (pm up : Bool) (hc : CO w q o ⟨0, d, hp, pr, ln, ix, cl, pm, up⟩) (hn : NA w b N vr va) (hq : ¬ Foot b vr va q) (hd : d < 16) (hs : SortedR (N d).rt) (hfnd : hasR (N d).rt pr ln = false) (hroom : (N d).rt.length + (N d).ac.length < 64) :
    Calls Try.prog 61 #[.pointer (some ⟨b, 0, none⟩), .pointer (some ⟨q, o, none⟩)] w (NPost w b vr va (.tuple #[chgV ⟨1, d, 0, pr, ln, 0, 0, false, false⟩, .int .i64 0]) (upd N d { N d with rt := (N d).rt.take (lowR (N d).rt pr ln) ++ ⟨pr, ln, hp⟩ :: (N d).rt.drop (lowR (N d).rt pr ln) })) := by
  have hdi : (d : Int) < 16 := by omega
  have HC := hide hc
  have HN := hide hn
  have c1 := hc.c1
  simp only [] at c1
  clear hc hn
  have c1 := ((Ex.refl (fun _ => False) w).alloc (.cells #[.int .i64 0, .int .i64 0, .int .i64 0, .int .i64 0, .int .i64 0, .int .i64 0, .int .i64 0, .bool false, .bool false] 45)).cell (fun e => e) c1
  go_enter Try.func61, Try.ntmps61
  go_upto_region 1 with fail
  go_quiet (fail)
  have HST := fun W hW => hide (st_new HC.out HN.out hq nq { Chg.zero with dv := d } W hW)
  clear HC HN
  simp only [Chg.vals, Chg.zero] at HST
  go_upto_region 3 with fail
  obtain ⟨W, hW⟩ : ∃ W, W = ((w.alloc (.cells #[.int .i64 0, .int .i64 0, .int .i64 0, .int .i64 0, .int .i64 0, .int .i64 0, .int .i64 0, .bool false, .bool false] 45)).drewN nq).alloc (.cells #[.int .i64 0, .int .i64 d, .int .i64 0, .int .i64 0, .int .i64 0, .int .i64 0, .int .i64 0, .bool false, .bool false] 45) := ⟨_, rfl⟩
  rw [← hW]
  have HS := HST W hW
  clear HST hW c1
  obtain ⟨r1, hr1⟩ : ∃ r, w.heap.size + 1 = r := ⟨_, rfl⟩
  rw [hr1] at HS ⊢
  obtain ⟨r0, hr0⟩ : ∃ r, w.heap.size = r := ⟨_, rfl⟩
  rw [hr0] at HS ⊢
  clear hr0 hr1
  have k0 := HS.out.co.c0
  simp only [] at k0
  go_upto_region 5 with fail
  clear k0
  have k3 := HS.out.co.c3
  have k4 := HS.out.co.c4
  simp only [] at k3 k4
  have HSE : ∀ n, Hid (Calls Try.prog 50 #[.pointer (some ⟨b, d * 4, none⟩), .int .i64 pr, .int .i64 ln] (W.drewN n) fun e w' => e = .returned (.tuple #[.int .i64 (lowR (N d).rt pr ln : Nat), .bool (hasR (N d).rt pr ln)]) ∧ ∃ m, w' = (W.drewN n).drewN m) := fun n => search_any (W.drewN n) b N vr va (HS.out.drewN n).na d hd pr ln hs (by omega)
  rw [hfnd] at HSE
  obtain ⟨i0, hi0⟩ : ∃ x, lowR (N d).rt pr ln = x := ⟨_, rfl⟩
  rw [hi0] at HSE
  go_quiet (first | (go_at_call 50; refine Calls.quiet_of (HSE _).out))
  replace HS := hide (HS.out.drewN nq)
  generalize W.drewN nq = W1 at *
  clear HSE k3 k4
  have H_i0 := hide hi0
  clear hi0
  go_wp2_with fail
  refine (rules_any _ b N vr va HS.out.na d hd (by omega) (by omega)).mono ?_
  rintro e W2 ⟨rfl, mq, rfl⟩
  replace HS := hide (HS.out.drewN mq)
  generalize W1.drewN mq = W2 at *
  have hfb : decide ((64 : Int) ≤ (((N d).rt.length + (N d).ac.length : Nat) : Int)) = false := decide_eq_false (by omega)
  obtain ⟨tot, htot⟩ : ∃ t, ((N d).rt.length + (N d).ac.length : Nat) = t := ⟨_, rfl⟩
  rw [htot] at hfb ⊢
  obtain ⟨i1, hi, hz0, hz1, hz2⟩ := info_parts Try.inf77
  have HI := hide (And.intro hi (And.intro hz0 (And.intro hz1 hz2)))
  clear hi hz0 hz1 hz2
  obtain ⟨L, hL⟩ : ∃ L, (N d).rt = L := ⟨_, rfl⟩
  obtain ⟨n, hn⟩ : ∃ n, L.length = n := ⟨_, rfl⟩
  have nr := HS.out.na.r d hd
  have nf := HS.out.na.fz
  obtain ⟨sa, sc, hv⟩ := own_len (HS.out.na.ro d hd)
  have hi0 : i0 ≤ n := by rw [← H_i0.out, ← hn, ← hL]; exact lowR_le _ _ _
  have HOW := hide ((HS.out.na.ro d hd).alloc (.cells #[.int .i64 0, .int .i64 0, .int .i64 0] 77))
  rw [hv, hL, hn] at HOW
  have hbl := HS.out.na.lt
  have HSZ : Hid (b + 1 ≤ (W2.alloc (.cells #[.int .i64 0, .int .i64 0, .int .i64 0] 77)).heap.size) := by show _ ≤ _; simp; omega
  rw [hv, hL, hn] at nr
  have hn64 : n ≤ 64 := by rw [← hn, ← hL]; omega
  have nr2 := ((Ex.refl (fun _ => False) W2).alloc (.cells #[.int .i64 0, .int .i64 0, .int .i64 0] 77)).cell (fun e => e) nr
  have HV := hide hv
  have HL := hide hL
  have HNL := hide hn
  clear hv hL hn htot hs hroom hfnd
  have nf2 : (W2.alloc (.cells #[.int .i64 0, .int .i64 0, .int .i64 0] 77)).frozen? ⟨b, d * 4, none⟩ = false := (((Ex.refl (fun _ => False) W2).alloc _).frozen (fun e => e) hbl).trans (nf _)
  go_upto_region 10 with fail
  go_upto_region 11 with (at_builtin; go_loud (refine wpList_append_lies _ rfl (.tmp 55) (.tmp 57) 27 rfl (b + 1) 77 i1 _ 3 24 Try.underlying27 HI.out.1 HI.out.2.1 HI.out.2.2.1 HI.out.2.2.2 rfl (by decide) (.slice sa n sc) n (flatR L) rfl HOW.out ⟨W2.heap.size, 0, none⟩ 1 1 [.int .i64 0, .int .i64 0, .int .i64 0] rfl rfl (fun j u hj => new_cells W2 [.int .i64 0, .int .i64 0, .int .i64 0] 77 j u hj) (fun u hu => by simp at hu; subst hu; rfl) (by decide) (by unfold maxLen; omega) (by omega) HSZ.out _ rfl ?_; intro g cap w3 hown hgrow hg hlt; have HOW3 := hide hown; have HGR := hide hgrow; have HG := hide hg; have nr3 : w3.cell? ⟨b, d * 4, none⟩ = some (.slice sa n sc) := hgrow.cell nr2 (fun e => Nat.not_succ_le_self b (own_row HOW.out e.symm)); have nf3 : w3.frozen? ⟨b, d * 4, none⟩ = false := (hgrow.frozen_far ⟨b, d * 4, none⟩ (by simp; omega) (fun e => Nat.not_succ_le_self b (own_row HOW.out e.symm))).trans nf2; clear hown hgrow hg))
  have HS3 : Hid (ST w (w3.setCell ⟨b, d * 4, none⟩ (.slice (some ⟨g, 0, none⟩) (n + 1) cap)) q o b r0 r1 vr va ⟨0, d, hp, pr, ln, ix, cl, pm, up⟩ (upd N d { N d with rt := L ++ [(⟨0, 0, 0⟩ : Rt)] }) (upd vr d (.slice (some ⟨g, 0, none⟩) (n + 1) cap)) va ⟨0, d, 0, 0, 0, 0, 0, false, false⟩) := by
    refine (HS.out.al (.cells #[.int .i64 0, .int .i64 0, .int .i64 0] 77)).growR hd (Ex.ofGrown HGR.out (fun k hk => by rw [HV.out]; simpa [HL.out, HNL.out] using hk)) ?_ (fun k hk => ?_)
    · have := HOW3.out
      rw [show (L ++ [(⟨0, 0, 0⟩ : Rt)]).length = n + 1 by rw [List.length_append, HNL.out]; rfl]
      rw [show flatR (L ++ [(⟨0, 0, 0⟩ : Rt)]) = flatR L ++ [.int .i64 0, .int .i64 0, .int .i64 0] by unfold flatR; rw [List.flatMap_append]; rfl]
      exact this
    · rw [HV.out]
      rcases HG.out with z | z
      · left
        have : k = g := by simpa [Value.ownBlock] using hk.symm
        subst this
        simpa [HL.out, HNL.out] using z
      · right
        have : k = g := by simpa [Value.ownBlock] using hk.symm
        omega
  clear HS HOW HOW3 HGR HG nr nr2 nr3 nf nf2 nf3 HSZ hbl
  generalize w3.setCell ⟨b, d * 4, none⟩ (.slice (some ⟨g, 0, none⟩) (n + 1) cap) = W3 at *
  have HO : Hid (W3.ownsRow (b + 1) 77 3 (.slice (some ⟨g, 0, none⟩) (n + 1) cap) (n + 1) (flatR (L ++ [(⟨0, 0, 0⟩ : Rt)]))) := by
    have h := HS3.out.na.ro d hd
    rw [upd_same, upd_same] at h
    rwa [show (L ++ [(⟨0, 0, 0⟩ : Rt)]).length = n + 1 by rw [List.length_append, HNL.out]; rfl] at h
  have nr := HS3.out.na.r d hd
  rw [upd_same] at nr
  have hcap := own_cap HO.out
  have hgb : ¬ b = g := fun e => by have := own_row HO.out (k := g) rfl; omega
  have HOd : Hid (W3.drew.ownsRow (b + 1) 77 3 (.slice (some ⟨g, 0, none⟩) (n + 1) cap) (n + 1) (flatR (L ++ [(⟨0, 0, 0⟩ : Rt)]))) := own_kept HO.out ((Ex.refl (fun _ => False) W3).drew) (fun _ _ e => e)
  have hw1 : IntKind.i64.wrap ((i0 : Int) + 1) = (i0 : Int) + 1 := by rw [IntKind.wrap_i64]; omega
  have hw2 : ((i0 : Int) + 1).toNat = i0 + 1 := by omega
  have hw3 : (0 : Int) ≤ (i0 : Int) + 1 := by omega
  have hw4 : (i0 : Int) ≤ (n : Int) + 1 := by omega
  by_cases hcc : cap = i0 + 1
  · obtain rfl : n = i0 := by omega
    subst hcc
    refine wp_region_held_drew (S := fun w' => w'.cell? ⟨b, d * 4, none⟩ = some (.slice (some ⟨g, 0, none⟩) (n + 1) (n + 1))) (by kernel_rfl) nr (fun hHeld => ?_)
    refine wpAnyH_take (i := 0) (v := ?_) rfl (by kernel_rfl) (by kernel_rfl) (by kernel_rfl) (fun _ _ _ h => h) (Or.inl ⟨by rfl, ?_⟩) (by assumption) ?_
    rotate_left
    · (intro w hSw; (try dsimp only at hSw); go_simp; try (with_reducible rfl))
    try simp only [Act.put, List.getElem_toArray, List.getElem_cons_zero, List.getElem_cons_succ, List.setIfInBounds_toArray, List.set_cons_zero, List.set_cons_succ]
    refine wpAnyH_take (i := 1) (v := ?_) rfl (by kernel_rfl) (by kernel_rfl) (by kernel_rfl) (fun _ _ _ h => h) (Or.inl ⟨by rfl, ?_⟩) (by assumption) ?_
    rotate_left
    · (intro w hSw; (try dsimp only at hSw); go_simp; try (with_reducible rfl))
    try simp only [Act.put, List.getElem_toArray, List.getElem_cons_zero, List.getElem_cons_succ, List.setIfInBounds_toArray, List.set_cons_zero, List.set_cons_succ]
    refine wpAnyH_take (i := 2) (v := ?_) rfl (by kernel_rfl) (by kernel_rfl) (by kernel_rfl) (fun _ _ _ h => h) (Or.inl ⟨by rfl, ?_⟩) (by assumption) ?_
    rotate_left
    · (intro w hSw; (try dsimp only at hSw); go_simp; try (with_reducible rfl))
    try simp only [Act.put, List.getElem_toArray, List.getElem_cons_zero, List.getElem_cons_succ, List.setIfInBounds_toArray, List.set_cons_zero, List.set_cons_succ]
    refine wpAnyH_take (i := 3) (v := ?_) rfl (by kernel_rfl) (by kernel_rfl) (by kernel_rfl) (fun _ _ _ h => h) (Or.inl ⟨by rfl, ?_⟩) (by assumption) ?_
    rotate_left
    · (intro w hSw; (try dsimp only at hSw); go_simp; try (with_reducible rfl))
    try simp only [Act.put, List.getElem_toArray, List.getElem_cons_zero, List.getElem_cons_succ, List.setIfInBounds_toArray, List.set_cons_zero, List.set_cons_succ]
    refine wpAnyH_take (i := 4) (v := ?_) rfl (by kernel_rfl) (by kernel_rfl) (by kernel_rfl) (fun _ _ _ h => h) (Or.inl ⟨by rfl, ?_⟩) (by assumption) ?_
    rotate_left
    · (intro w hSw; (try dsimp only at hSw); go_simp; try (with_reducible rfl))
    try simp only [Act.put, List.getElem_toArray, List.getElem_cons_zero, List.getElem_cons_succ, List.setIfInBounds_toArray, List.set_cons_zero, List.set_cons_succ]
    refine wpAnyH_take (i := 5) (v := ?_) rfl (by kernel_rfl) (by kernel_rfl) (by kernel_rfl) (fun _ _ _ h => h) (Or.inl ⟨by rfl, ?_⟩) (by assumption) ?_
    rotate_left
    · (intro w hSw; (try dsimp only at hSw); go_simp; try (with_reducible rfl))
    try simp only [Act.put, List.getElem_toArray, List.getElem_cons_zero, List.getElem_cons_succ, List.setIfInBounds_toArray, List.set_cons_zero, List.set_cons_succ]
    refine wpAnyH_take (i := 6) (v := ?_) rfl (by kernel_rfl) (by kernel_rfl) (by kernel_rfl) (fun _ _ _ h => h) (Or.inl ⟨by rfl, ?_⟩) (by assumption) ?_
    rotate_left
    · (intro w hSw; (try dsimp only at hSw); go_simp; try (with_reducible rfl))
    try simp only [Act.put, List.getElem_toArray, List.getElem_cons_zero, List.getElem_cons_succ, List.setIfInBounds_toArray, List.set_cons_zero, List.set_cons_succ]
    refine wpAnyH_take (i := 7) (v := ?_) rfl (by kernel_rfl) (by kernel_rfl) (by kernel_rfl) (fun _ _ _ h => h) (Or.inl ⟨by rfl, ?_⟩) (by assumption) ?_
    rotate_left
    · (intro w hSw; (try dsimp only at hSw); go_simp; try (with_reducible rfl))
    try simp only [Act.put, List.getElem_toArray, List.getElem_cons_zero, List.getElem_cons_succ, List.setIfInBounds_toArray, List.set_cons_zero, List.set_cons_succ]
    refine wpAnyH_take (i := 8) (v := ?_) rfl (by kernel_rfl) (by kernel_rfl) (by kernel_rfl) (fun _ _ _ h => h) (Or.inl ⟨by rfl, ?_⟩) (by assumption) ?_
    rotate_left
    · (intro w hSw; (try dsimp only at hSw); go_simp; try (with_reducible rfl))
    try simp only [Act.put, List.getElem_toArray, List.getElem_cons_zero, List.getElem_cons_succ, List.setIfInBounds_toArray, List.set_cons_zero, List.set_cons_succ]
    refine wpAnyH_take (i := 9) (v := ?_) rfl (by kernel_rfl) (by kernel_rfl) (by kernel_rfl) (fun _ _ _ h => h) (Or.inl ⟨by rfl, ?_⟩) (by assumption) ?_
    rotate_left
    · (intro w hSw; (try dsimp only at hSw); go_simp; try (with_reducible rfl))
    try simp only [Act.put, List.getElem_toArray, List.getElem_cons_zero, List.getElem_cons_succ, List.setIfInBounds_toArray, List.set_cons_zero, List.set_cons_succ]
    refine wpAnyH_take (i := 10) (v := ?_) rfl (by kernel_rfl) (by kernel_rfl) (by kernel_rfl) (fun _ _ _ h => h) (Or.inl ⟨by rfl, ?_⟩) (by assumption) ?_
    rotate_left
    · (intro w hSw; (try dsimp only at hSw); go_simp; try (with_reducible rfl))
    try simp only [Act.put, List.getElem_toArray, List.getElem_cons_zero, List.getElem_cons_succ, List.setIfInBounds_toArray, List.set_cons_zero, List.set_cons_succ]
    refine wpAnyH_take (i := 11) (v := ?_) rfl (by kernel_rfl) (by kernel_rfl) (by kernel_rfl) (fun _ _ _ h => h) (Or.inl ⟨by rfl, ?_⟩) (by assumption) ?_
    rotate_left
    · (intro w hSw; (try dsimp only at hSw); go_simp; try (with_reducible rfl))
    try simp only [Act.put, List.getElem_toArray, List.getElem_cons_zero, List.getElem_cons_succ, List.setIfInBounds_toArray, List.set_cons_zero, List.set_cons_succ]
    refine wpAnyH_take (i := 12) (v := ?_) rfl (by kernel_rfl) (by kernel_rfl) (by kernel_rfl) (fun _ _ _ h => h) (Or.inl ⟨by rfl, ?_⟩) (by assumption) ?_
    rotate_left
    · (intro w hSw; (try dsimp only at hSw); go_simp; try (with_reducible rfl))
    try simp only [Act.put, List.getElem_toArray, List.getElem_cons_zero, List.getElem_cons_succ, List.setIfInBounds_toArray, List.set_cons_zero, List.set_cons_succ]
    refine wpAnyH_ready (rs := [13]) (by kernel_rfl) (by simp) ?_
    refine (AllReadyH.cons rfl (fun K hK => ?_) AllReadyH.nil)
    · refine step_copy_shift rfl (.tmp 67) (.tmp 73) 27 27 rfl 77 3 Try.underlying27 Try.siz77 (b + 1) g n (n + 1) n (flatR (L ++ [(⟨0, 0, 0⟩ : Rt)])) HOd.out hi0 _ _ _ _ _ rfl (by omega) (fun h => by first | rfl | omega) rfl (by omega) (rt_one _) ?_
      intro w4 hown hex
      have HOW4 := hide hown
      have HEX := hide hex
      clear hown hex
      refine hK.out _ _ ?_ (fun hHeld => ?_)
      · first | exact hHeld | exact HEX.out.cell hgb hHeld
      clear hK K
      try simp only [Act.put, List.getElem_toArray, List.getElem_cons_zero, List.getElem_cons_succ, List.setIfInBounds_toArray, List.set_cons_zero, List.set_cons_succ]
      refine wpAnyH_done (by kernel_rfl) ?_ _
      have HML : Hid (((L ++ [(⟨0, 0, 0⟩ : Rt)]).take (n + 1) ++ ((L ++ [(⟨0, 0, 0⟩ : Rt)]).drop n).take (n - n)).length = n + 1) := by
        have hl : (L ++ [(⟨0, 0, 0⟩ : Rt)]).length = n + 1 := by rw [List.length_append, HNL.out]; rfl
        show _ = _
        rw [List.length_append, List.length_take, List.length_take, List.length_drop, hl]
        omega
      have HS4 : Hid (ST w w4 q o b r0 r1 vr va ⟨0, d, hp, pr, ln, ix, cl, pm, up⟩ (upd N d { N d with rt := (L ++ [(⟨0, 0, 0⟩ : Rt)]).take (n + 1) ++ ((L ++ [(⟨0, 0, 0⟩ : Rt)]).drop n).take (n - n) }) (upd vr d (.slice (some ⟨g, 0, none⟩) (n + 1) (n + 1))) va ⟨0, d, 0, 0, 0, 0, 0, false, false⟩) := by
        have h := (HS3.out.drewN 1).rowR (w' := w4) hd (L := (L ++ [(⟨0, 0, 0⟩ : Rt)]).take (n + 1) ++ ((L ++ [(⟨0, 0, 0⟩ : Rt)]).drop n).take (n - n)) (HEX.out.mono (fun k hk => by rw [hk, upd_same]; rfl)) (by
          rw [upd_same, HML.out, flatR, ← fm_shift Rt.vals 3 rt_len]
          exact HOW4.out)
        rwa [upd_same, upd_upd] at h
      have HO4 := HOW4
      rw [flatR, fm_shift Rt.vals 3 rt_len] at HO4
      obtain ⟨M, hM⟩ : ∃ M, (L ++ [(⟨0, 0, 0⟩ : Rt)]).take (n + 1) ++ ((L ++ [(⟨0, 0, 0⟩ : Rt)]).drop n).take (n - n) = M := ⟨_, rfl⟩
      rw [hM] at HS4 HO4 HML
      have HMI : Hid (M.set n ⟨pr, ln, hp⟩ = L.take n ++ ⟨pr, ln, hp⟩ :: L.drop n) := by
        have := ins_eq L ⟨0, 0, 0⟩ ⟨pr, ln, hp⟩ n (by rw [HNL.out]; omega)
        rw [HNL.out, hM] at this
        exact this
      clear hM
      clear HS3 HO HOd HOW4 HEX nr hHeld
      obtain ⟨y, hy⟩ : ∃ y, M[n]? = some y := ⟨_, List.getElem?_eq_getElem (by rw [HML.out]; omega)⟩
      have hx0 := HO4.out.cellAt (n * 3) (by omega)
      have hx1 := HO4.out.cellAt (n * 3 + 1) (by omega)
      have hx2 := HO4.out.cellAt (n * 3 + 2) (by omega)
      have f0 := flat_at Rt.vals 3 rt_len M n y hy 0 (by omega)
      have f1 := flat_at Rt.vals 3 rt_len M n y hy 1 (by omega)
      have f2 := flat_at Rt.vals 3 rt_len M n y hy 2 (by omega)
      rw [Nat.add_zero] at f0
      rw [f0] at hx0
      rw [f1] at hx1
      rw [f2] at hx2
      obtain ⟨y0, y1, y2⟩ := y
      simp only [Rt.vals, List.getElem?_cons_zero, List.getElem?_cons_succ] at hx0 hx1 hx2
      clear f0 f1 f2
      have hf := HO4.out.frozenAt
      have HS5 : Hid (ST w (((w4.setCell ⟨g, n * 3, none⟩ (.int .i64 pr)).setCell ⟨g, n * 3 + 1, none⟩ (.int .i64 ln)).setCell ⟨g, n * 3 + 2, none⟩ (.int .i64 hp)) q o b r0 r1 vr va ⟨0, d, hp, pr, ln, ix, cl, pm, up⟩ (upd N d { N d with rt := L.take n ++ ⟨pr, ln, hp⟩ :: L.drop n }) (upd vr d (.slice (some ⟨g, 0, none⟩) (n + 1) (n + 1))) va ⟨0, d, 0, 0, 0, 0, 0, false, false⟩) := by
        have hst := (((HO4.out.stored (n * 3) (.int .i64 pr)).1.stored (n * 3 + 1) (.int .i64 ln)).1.stored (n * 3 + 2) (.int .i64 hp)).1
        have hfs := flatR_set M n _ hy pr ln hp
        unfold flatR at hfs
        rw [hfs] at hst
        have h := HS4.out.rowR hd (L := M.set n ⟨pr, ln, hp⟩) (w' := ((w4.setCell ⟨g, n * 3, none⟩ (.int .i64 pr)).setCell ⟨g, n * 3 + 1, none⟩ (.int .i64 ln)).setCell ⟨g, n * 3 + 2, none⟩ (.int .i64 hp)) (((((Ex.refl (fun k => k = g) w4).set (p := g) rfl _).set (p := g) rfl _).set (p := g) rfl _).mono (fun k hk => by rw [hk, upd_same]; rfl)) (by
          rw [upd_same, List.length_set, HML.out]
          exact hst)
        rw [upd_same, upd_upd, HMI.out] at h
        exact h
      clear HMI HML hy
      have nr := HS4.out.na.r d hd
      rw [upd_same] at nr
      have k2 := HS4.out.co.c2
      have k3 := HS4.out.co.c3
      have k4 := HS4.out.co.c4
      simp only [] at k2 k3 k4
      have hqg : ¬ q = g := fun e => HS4.out.nf.1 (.inr ⟨d, hd, .inl (by rw [upd_same, e]; rfl)⟩)
      have hii : (n : Int) < (n : Int) + 1 := by omega
      clear HS4 HO4
      go_upto_region 12 with fail
      refine wp_region_held_drew (S := fun w' => w'.cell? ⟨b, d * 4, none⟩ = some (.slice (some ⟨g, 0, none⟩) (n + 1) (n + 1)) ∧ w'.cell? ⟨q, o + 2, none⟩ = some (.int .i64 hp) ∧ w'.cell? ⟨q, o + 3, none⟩ = some (.int .i64 pr) ∧ w'.cell? ⟨q, o + 4, none⟩ = some (.int .i64 ln)) (by kernel_rfl) (And.intro nr (And.intro k2 (And.intro k3 k4))) (fun hHeld => ?_)
      refine wpAnyH_take (i := 0) (v := ?_) rfl (by kernel_rfl) (by kernel_rfl) (by kernel_rfl) (fun _ _ _ h => h) (Or.inl ⟨by rfl, ?_⟩) (by assumption) ?_
      rotate_left
      · (intro w hSw; (try dsimp only at hSw); go_simp; try (with_reducible rfl))
      try simp only [Act.put, List.getElem_toArray, List.getElem_cons_zero, List.getElem_cons_succ, List.setIfInBounds_toArray, List.set_cons_zero, List.set_cons_succ]
      refine wpAnyH_take (i := 1) (v := ?_) rfl (by kernel_rfl) (by kernel_rfl) (by kernel_rfl) (fun _ _ _ h => h) (Or.inl ⟨by rfl, ?_⟩) (by assumption) ?_
      rotate_left
      · (intro w hSw; (try dsimp only at hSw); go_simp; try (with_reducible rfl))
      try simp only [Act.put, List.getElem_toArray, List.getElem_cons_zero, List.getElem_cons_succ, List.setIfInBounds_toArray, List.set_cons_zero, List.set_cons_succ]
      refine wpAnyH_take (i := 2) (v := ?_) rfl (by kernel_rfl) (by kernel_rfl) (by kernel_rfl) (fun _ _ _ h => h) (Or.inl ⟨by rfl, ?_⟩) (by assumption) ?_
      rotate_left
      · (intro w hSw; (try dsimp only at hSw); go_simp; try (with_reducible rfl))
      try simp only [Act.put, List.getElem_toArray, List.getElem_cons_zero, List.getElem_cons_succ, List.setIfInBounds_toArray, List.set_cons_zero, List.set_cons_succ]
      refine wpAnyH_take (i := 3) (v := ?_) rfl (by kernel_rfl) (by kernel_rfl) (by kernel_rfl) (fun _ _ _ h => h) (Or.inl ⟨by rfl, ?_⟩) (by assumption) ?_
      rotate_left
      · (intro w hSw; (try dsimp only at hSw); go_simp; try (with_reducible rfl))
      try simp only [Act.put, List.getElem_toArray, List.getElem_cons_zero, List.getElem_cons_succ, List.setIfInBounds_toArray, List.set_cons_zero, List.set_cons_succ]
      refine wpAnyH_take (i := 4) (v := ?_) rfl (by kernel_rfl) (by kernel_rfl) (by kernel_rfl) (fun _ _ _ h => h) (Or.inl ⟨by rfl, ?_⟩) (by assumption) ?_
      rotate_left
      · (intro w hSw; (try dsimp only at hSw); go_simp; try (with_reducible rfl))
      try simp only [Act.put, List.getElem_toArray, List.getElem_cons_zero, List.getElem_cons_succ, List.setIfInBounds_toArray, List.set_cons_zero, List.set_cons_succ]
      refine wpAnyH_take (i := 5) (v := ?_) rfl (by kernel_rfl) (by kernel_rfl) (by kernel_rfl) (fun _ _ _ h => h) (Or.inl ⟨by rfl, ?_⟩) (by assumption) ?_
      rotate_left
      · (intro w hSw; (try dsimp only at hSw); go_simp; try (with_reducible rfl))
      try simp only [Act.put, List.getElem_toArray, List.getElem_cons_zero, List.getElem_cons_succ, List.setIfInBounds_toArray, List.set_cons_zero, List.set_cons_succ]
      refine wpAnyH_take (i := 6) (v := ?_) rfl (by kernel_rfl) (by kernel_rfl) (by kernel_rfl) (fun _ _ _ h => h) (Or.inl ⟨by rfl, ?_⟩) (by assumption) ?_
      rotate_left
      · (intro w hSw; (try dsimp only at hSw); go_simp; try (with_reducible rfl))
      try simp only [Act.put, List.getElem_toArray, List.getElem_cons_zero, List.getElem_cons_succ, List.setIfInBounds_toArray, List.set_cons_zero, List.set_cons_succ]
      refine wpAnyH_take (i := 7) (v := ?_) rfl (by kernel_rfl) (by kernel_rfl) (by kernel_rfl) (fun _ _ _ h => h) (Or.inl ⟨by rfl, ?_⟩) (by assumption) ?_
      rotate_left
      · (intro w hSw; (try dsimp only at hSw); go_simp; try (with_reducible rfl))
      try simp only [Act.put, List.getElem_toArray, List.getElem_cons_zero, List.getElem_cons_succ, List.setIfInBounds_toArray, List.set_cons_zero, List.set_cons_succ]
      refine wpAnyH_take (i := 8) (v := ?_) rfl (by kernel_rfl) (by kernel_rfl) (by kernel_rfl) (fun _ _ _ h => h) (Or.inl ⟨by rfl, ?_⟩) (by assumption) ?_
      rotate_left
      · (intro w hSw; (try dsimp only at hSw); go_simp; try (with_reducible rfl))
      try simp only [Act.put, List.getElem_toArray, List.getElem_cons_zero, List.getElem_cons_succ, List.setIfInBounds_toArray, List.set_cons_zero, List.set_cons_succ]
      refine wpAnyH_take (i := 9) (v := ?_) rfl (by kernel_rfl) (by kernel_rfl) (by kernel_rfl) (fun _ _ _ h => h) (Or.inl ⟨by rfl, ?_⟩) (by assumption) ?_
      rotate_left
      · (intro w hSw; (try dsimp only at hSw); go_simp; try (with_reducible rfl))
      try simp only [Act.put, List.getElem_toArray, List.getElem_cons_zero, List.getElem_cons_succ, List.setIfInBounds_toArray, List.set_cons_zero, List.set_cons_succ]
      refine wpAnyH_take (i := 10) (v := ?_) rfl (by kernel_rfl) (by kernel_rfl) (by kernel_rfl) (fun _ _ _ h => h) (Or.inl ⟨by rfl, ?_⟩) (by assumption) ?_
      rotate_left
      · (intro w hSw; (try dsimp only at hSw); go_simp; try (with_reducible rfl))
      try simp only [Act.put, List.getElem_toArray, List.getElem_cons_zero, List.getElem_cons_succ, List.setIfInBounds_toArray, List.set_cons_zero, List.set_cons_succ]
      refine wpAnyH_take (i := 11) (v := ?_) rfl (by kernel_rfl) (by kernel_rfl) (by kernel_rfl) (fun _ _ _ h => h) (Or.inl ⟨by rfl, ?_⟩) (by assumption) ?_
      rotate_left
      · (intro w hSw; (try dsimp only at hSw); go_simp; try (with_reducible rfl))
      try simp only [Act.put, List.getElem_toArray, List.getElem_cons_zero, List.getElem_cons_succ, List.setIfInBounds_toArray, List.set_cons_zero, List.set_cons_succ]
      refine wpAnyH_take (i := 12) (v := ?_) rfl (by kernel_rfl) (by kernel_rfl) (by kernel_rfl) (fun _ _ _ h => h) (Or.inl ⟨by rfl, ?_⟩) (by assumption) ?_
      rotate_left
      · (intro w hSw; (try dsimp only at hSw); go_simp; try (with_reducible rfl))
      try simp only [Act.put, List.getElem_toArray, List.getElem_cons_zero, List.getElem_cons_succ, List.setIfInBounds_toArray, List.set_cons_zero, List.set_cons_succ]
      refine wpAnyH_take (i := 13) (v := ?_) rfl (by kernel_rfl) (by kernel_rfl) (by kernel_rfl) (fun _ _ _ h => h) (Or.inl ⟨by rfl, ?_⟩) (by assumption) ?_
      rotate_left
      · (intro w hSw; (try dsimp only at hSw); go_simp; try (with_reducible rfl))
      try simp only [Act.put, List.getElem_toArray, List.getElem_cons_zero, List.getElem_cons_succ, List.setIfInBounds_toArray, List.set_cons_zero, List.set_cons_succ]
      refine wpAnyH_take (i := 14) (v := ?_) rfl (by kernel_rfl) (by kernel_rfl) (by kernel_rfl) (fun _ _ _ h => h) (Or.inl ⟨by rfl, ?_⟩) (by assumption) ?_
      rotate_left
      · (intro w hSw; (try dsimp only at hSw); go_simp; try (with_reducible rfl))
      try simp only [Act.put, List.getElem_toArray, List.getElem_cons_zero, List.getElem_cons_succ, List.setIfInBounds_toArray, List.set_cons_zero, List.set_cons_succ]
      refine wpAnyH_take (i := 15) (v := ?_) rfl (by kernel_rfl) (by kernel_rfl) (by kernel_rfl) (fun _ _ _ h => h) (Or.inl ⟨by rfl, ?_⟩) (by assumption) ?_
      rotate_left
      · (intro w hSw; (try dsimp only at hSw); go_simp; try (with_reducible rfl))
      try simp only [Act.put, List.getElem_toArray, List.getElem_cons_zero, List.getElem_cons_succ, List.setIfInBounds_toArray, List.set_cons_zero, List.set_cons_succ]
      refine wpAnyH_take (i := 16) (v := ?_) rfl (by kernel_rfl) (by kernel_rfl) (by kernel_rfl) (fun _ _ _ h => h) (Or.inl ⟨by rfl, ?_⟩) (by assumption) ?_
      rotate_left
      · (intro w hSw; (try dsimp only at hSw); go_simp; try (with_reducible rfl))
      try simp only [Act.put, List.getElem_toArray, List.getElem_cons_zero, List.getElem_cons_succ, List.setIfInBounds_toArray, List.set_cons_zero, List.set_cons_succ]
      refine wpAnyH_take (i := 17) (v := ?_) rfl (by kernel_rfl) (by kernel_rfl) (by kernel_rfl) (fun _ _ _ h => h) (Or.inl ⟨by rfl, ?_⟩) (by assumption) ?_
      rotate_left
      · (intro w hSw; (try dsimp only at hSw); go_simp; try (with_reducible rfl))
      try simp only [Act.put, List.getElem_toArray, List.getElem_cons_zero, List.getElem_cons_succ, List.setIfInBounds_toArray, List.set_cons_zero, List.set_cons_succ]
      refine wpAnyH_take (i := 18) (v := ?_) rfl (by kernel_rfl) (by kernel_rfl) (by kernel_rfl) (fun _ _ _ h => h) (Or.inl ⟨by rfl, ?_⟩) (by assumption) ?_
      rotate_left
      · (intro w hSw; (try dsimp only at hSw); go_simp; try (with_reducible rfl))
      try simp only [Act.put, List.getElem_toArray, List.getElem_cons_zero, List.getElem_cons_succ, List.setIfInBounds_toArray, List.set_cons_zero, List.set_cons_succ]
      refine wpAnyH_ready (rs := [19]) (by kernel_rfl) (by simp) ?_
      refine (AllReadyH.cons rfl (fun K hK => ?_) AllReadyH.nil)
      · go_simp
        refine hK.out _ _ ?_ (fun hHeld => ?_)
        · first | exact hHeld | (simp [go_sem, nr, k2, k3, k4, hgb, hqg]; done)
        clear hK K
        try simp only [Act.put, List.getElem_toArray, List.getElem_cons_zero, List.getElem_cons_succ, List.setIfInBounds_toArray, List.set_cons_zero, List.set_cons_succ]
        refine wpAnyH_done (by kernel_rfl) ?_ _
        replace HS5 := hide (HS5.out.drewN 1)
        rw [drewN1] at HS5
        clear nr k2 k3 k4 hx0 hx1 hx2 hf hHeld
        generalize (((w4.setCell ⟨g, n * 3, none⟩ (.int .i64 pr)).setCell ⟨g, n * 3 + 1, none⟩ (.int .i64 ln)).setCell ⟨g, n * 3 + 2, none⟩ (.int .i64 hp)).drew = W5 at *
        have HS := HS5
        clear HS5
        have k3 := HS.out.co.c3
        have k4 := HS.out.co.c4
        have u0 := HS.out.cu.c0
        have u3 := HS.out.cu.c3
        have u4 := HS.out.cu.c4
        have uf := HS.out.cu.fr
        simp only [] at k3 k4 u0 u3 u4
        have hqr : ¬ q = r1 := by have := HS.out.q0; have := HS.out.h0; have := HS.out.h1; omega
        go_upto_region 13 with fail
        refine wp_region_held_drew (S := fun w' => w'.cell? ⟨q, o + 3, none⟩ = some (.int .i64 pr) ∧ w'.cell? ⟨q, o + 4, none⟩ = some (.int .i64 ln)) (by kernel_rfl) (And.intro k3 k4) (fun hHeld => ?_)
        refine wpAnyH_take (i := 0) (v := ?_) rfl (by kernel_rfl) (by kernel_rfl) (by kernel_rfl) (fun _ _ _ h => h) (Or.inl ⟨by rfl, ?_⟩) (by assumption) ?_
        rotate_left
        · (intro w hSw; (try dsimp only at hSw); go_simp; try (with_reducible rfl))
        try simp only [Act.put, List.getElem_toArray, List.getElem_cons_zero, List.getElem_cons_succ, List.setIfInBounds_toArray, List.set_cons_zero, List.set_cons_succ]
        refine wpAnyH_take (i := 1) (v := ?_) rfl (by kernel_rfl) (by kernel_rfl) (by kernel_rfl) (fun _ _ _ h => h) (Or.inl ⟨by rfl, ?_⟩) (by assumption) ?_
        rotate_left
        · (intro w hSw; (try dsimp only at hSw); go_simp; try (with_reducible rfl))
        try simp only [Act.put, List.getElem_toArray, List.getElem_cons_zero, List.getElem_cons_succ, List.setIfInBounds_toArray, List.set_cons_zero, List.set_cons_succ]
        refine wpAnyH_take (i := 2) (v := ?_) rfl (by kernel_rfl) (by kernel_rfl) (by kernel_rfl) (fun _ _ _ h => h) (Or.inl ⟨by rfl, ?_⟩) (by assumption) ?_
        rotate_left
        · (intro w hSw; (try dsimp only at hSw); go_simp; try (with_reducible rfl))
        try simp only [Act.put, List.getElem_toArray, List.getElem_cons_zero, List.getElem_cons_succ, List.setIfInBounds_toArray, List.set_cons_zero, List.set_cons_succ]
        refine wpAnyH_take (i := 3) (v := ?_) rfl (by kernel_rfl) (by kernel_rfl) (by kernel_rfl) (fun _ _ _ h => h) (Or.inl ⟨by rfl, ?_⟩) (by assumption) ?_
        rotate_left
        · (intro w hSw; (try dsimp only at hSw); go_simp; try (with_reducible rfl))
        try simp only [Act.put, List.getElem_toArray, List.getElem_cons_zero, List.getElem_cons_succ, List.setIfInBounds_toArray, List.set_cons_zero, List.set_cons_succ]
        refine wpAnyH_take (i := 4) (v := ?_) rfl (by kernel_rfl) (by kernel_rfl) (by kernel_rfl) (fun _ _ _ h => h) (Or.inl ⟨by rfl, ?_⟩) (by assumption) ?_
        rotate_left
        · (intro w hSw; (try dsimp only at hSw); go_simp; try (with_reducible rfl))
        try simp only [Act.put, List.getElem_toArray, List.getElem_cons_zero, List.getElem_cons_succ, List.setIfInBounds_toArray, List.set_cons_zero, List.set_cons_succ]
        refine wpAnyH_take (i := 5) (v := ?_) rfl (by kernel_rfl) (by kernel_rfl) (by kernel_rfl) (fun _ _ _ h => h) (Or.inl ⟨by rfl, ?_⟩) (by assumption) ?_
        rotate_left
        · (intro w hSw; (try dsimp only at hSw); go_simp; try (with_reducible rfl))
        try simp only [Act.put, List.getElem_toArray, List.getElem_cons_zero, List.getElem_cons_succ, List.setIfInBounds_toArray, List.set_cons_zero, List.set_cons_succ]
        refine wpAnyH_take (i := 6) (v := ?_) rfl (by kernel_rfl) (by kernel_rfl) (by kernel_rfl) (fun _ _ _ h => h) (Or.inl ⟨by rfl, ?_⟩) (by assumption) ?_
        rotate_left
        · (intro w hSw; (try dsimp only at hSw); go_simp; try (with_reducible rfl))
        try simp only [Act.put, List.getElem_toArray, List.getElem_cons_zero, List.getElem_cons_succ, List.setIfInBounds_toArray, List.set_cons_zero, List.set_cons_succ]
        refine wpAnyH_take (i := 7) (v := ?_) rfl (by kernel_rfl) (by kernel_rfl) (by kernel_rfl) (fun _ _ _ h => h) (Or.inl ⟨by rfl, ?_⟩) (by assumption) ?_
        rotate_left
        · (intro w hSw; (try dsimp only at hSw); go_simp; try (with_reducible rfl))
        try simp only [Act.put, List.getElem_toArray, List.getElem_cons_zero, List.getElem_cons_succ, List.setIfInBounds_toArray, List.set_cons_zero, List.set_cons_succ]
        refine wpAnyH_take (i := 8) (v := ?_) rfl (by kernel_rfl) (by kernel_rfl) (by kernel_rfl) (fun _ _ _ h => h) (Or.inl ⟨by rfl, ?_⟩) (by assumption) ?_
        rotate_left
        · (intro w hSw; (try dsimp only at hSw); go_simp; try (with_reducible rfl))
        try simp only [Act.put, List.getElem_toArray, List.getElem_cons_zero, List.getElem_cons_succ, List.setIfInBounds_toArray, List.set_cons_zero, List.set_cons_succ]
        refine wpAnyH_ready (rs := [9]) (by kernel_rfl) (by simp) ?_
        refine (AllReadyH.cons rfl (fun K hK => ?_) AllReadyH.nil)
        · go_simp
          refine hK.out _ _ ?_ (fun hHeld => ?_)
          · first | exact hHeld | (simp [go_sem, k3, k4, hqr]; done)
          clear hK K
          try simp only [Act.put, List.getElem_toArray, List.getElem_cons_zero, List.getElem_cons_succ, List.setIfInBounds_toArray, List.set_cons_zero, List.set_cons_succ]
          refine wpAnyH_take (i := 10) (v := ?_) rfl (by kernel_rfl) (by kernel_rfl) (by kernel_rfl) (fun _ _ _ h => h) (Or.inl ⟨by rfl, ?_⟩) (by assumption) ?_
          rotate_left
          · (intro w hSw; (try dsimp only at hSw); go_simp; try (with_reducible rfl))
          try simp only [Act.put, List.getElem_toArray, List.getElem_cons_zero, List.getElem_cons_succ, List.setIfInBounds_toArray, List.set_cons_zero, List.set_cons_succ]
          refine wpAnyH_ready (rs := [11]) (by kernel_rfl) (by simp) ?_
          refine (AllReadyH.cons rfl (fun K hK => ?_) AllReadyH.nil)
          · go_simp
            refine hK.out _ _ ?_ (fun hHeld => ?_)
            · first | exact hHeld | (simp [go_sem, k3, k4, hqr]; done)
            clear hK K
            try simp only [Act.put, List.getElem_toArray, List.getElem_cons_zero, List.getElem_cons_succ, List.setIfInBounds_toArray, List.set_cons_zero, List.set_cons_succ]
            refine wpAnyH_take (i := 12) (v := ?_) rfl (by kernel_rfl) (by kernel_rfl) (by kernel_rfl) (fun _ _ _ h => h) (Or.inl ⟨by rfl, ?_⟩) (by assumption) ?_
            rotate_left
            · (intro w hSw; (try dsimp only at hSw); go_simp; try (with_reducible rfl))
            try simp only [Act.put, List.getElem_toArray, List.getElem_cons_zero, List.getElem_cons_succ, List.setIfInBounds_toArray, List.set_cons_zero, List.set_cons_succ]
            refine wpAnyH_ready (rs := [13]) (by kernel_rfl) (by simp) ?_
            refine (AllReadyH.cons rfl (fun K hK => ?_) AllReadyH.nil)
            · go_simp
              refine hK.out _ _ ?_ (fun hHeld => ?_)
              · first | exact hHeld | (simp [go_sem, k3, k4, hqr]; done)
              clear hK K
              try simp only [Act.put, List.getElem_toArray, List.getElem_cons_zero, List.getElem_cons_succ, List.setIfInBounds_toArray, List.set_cons_zero, List.set_cons_succ]
              refine wpAnyH_done (by kernel_rfl) ?_ _
              replace HS := hide ((HS.out.un ((((Ex.refl (fun k => k = r1) W5).set (p := r1) (j := 0) rfl (.int .i64 1)).set (p := r1) (j := 3) rfl (.int .i64 pr)).set (p := r1) (j := 4) rfl (.int .i64 ln)) (((HS.out.cu.put0 1).put3 pr).put4 ln)).drewN 1)
              rw [drewN1] at HS
              clear hHeld hqr uf k3 k4 u0 u3 u4
              generalize (((W5.setCell ⟨r1, 0, none⟩ (.int .i64 1)).setCell ⟨r1, 3, none⟩ (.int .i64 pr)).setCell ⟨r1, 4, none⟩ (.int .i64 ln)).drew = W6 at *
              have u0 := HS.out.cu.c0
              have R0 := HS.out.cr.c0
              have u1 := HS.out.cu.c1
              have R1 := HS.out.cr.c1
              have u2 := HS.out.cu.c2
              have R2 := HS.out.cr.c2
              have u3 := HS.out.cu.c3
              have R3 := HS.out.cr.c3
              have u4 := HS.out.cu.c4
              have R4 := HS.out.cr.c4
              have u5 := HS.out.cu.c5
              have R5 := HS.out.cr.c5
              have u6 := HS.out.cu.c6
              have R6 := HS.out.cr.c6
              have u7 := HS.out.cu.c7
              have R7 := HS.out.cr.c7
              have u8 := HS.out.cu.c8
              have R8 := HS.out.cr.c8
              have uf := HS.out.cu.fr
              have Rf := HS.out.cr.fr
              have h01 := HS.out.h1
              simp only [Chg.zero] at u0 R0 u1 R1 u2 R2 u3 R3 u4 R4 u5 R5 u6 R6 u7 R7 u8 R8
              have HFIN := fun (v : Value) (y0 y1 y2 y3 y4 y5 y6 y7 y8 : Value) => hide (HS.out.fin (v := v) y0 y1 y2 y3 y4 y5 y6 y7 y8)
              go_wp2
              refine bodyPost_ret (v := .tuple #[chgV ⟨1, d, 0, pr, ln, 0, 0, false, false⟩, .int .i64 0]) (by simp [results, Try.results61, go_sem, chgV, Chg.vals, R0, R1, R2, R3, R4, R5, R6, R7, R8]) rfl ?_
              rw [H_i0.out, HL.out]
              exact (HFIN _ _ _ _ _ _ _ _ _ _).out
  · have hcc2 : ¬ cap = i0 := by omega
    refine wp_region_held_drew (S := fun w' => w'.cell? ⟨b, d * 4, none⟩ = some (.slice (some ⟨g, 0, none⟩) (n + 1) cap)) (by kernel_rfl) nr (fun hHeld => ?_)
    refine wpAnyH_take (i := 0) (v := ?_) rfl (by kernel_rfl) (by kernel_rfl) (by kernel_rfl) (fun _ _ _ h => h) (Or.inl ⟨by rfl, ?_⟩) (by assumption) ?_
    rotate_left
    · (intro w hSw; (try dsimp only at hSw); go_simp; try (with_reducible rfl))
    try simp only [Act.put, List.getElem_toArray, List.getElem_cons_zero, List.getElem_cons_succ, List.setIfInBounds_toArray, List.set_cons_zero, List.set_cons_succ]
    refine wpAnyH_take (i := 1) (v := ?_) rfl (by kernel_rfl) (by kernel_rfl) (by kernel_rfl) (fun _ _ _ h => h) (Or.inl ⟨by rfl, ?_⟩) (by assumption) ?_
    rotate_left
    · (intro w hSw; (try dsimp only at hSw); go_simp; try (with_reducible rfl))
    try simp only [Act.put, List.getElem_toArray, List.getElem_cons_zero, List.getElem_cons_succ, List.setIfInBounds_toArray, List.set_cons_zero, List.set_cons_succ]
    refine wpAnyH_take (i := 2) (v := ?_) rfl (by kernel_rfl) (by kernel_rfl) (by kernel_rfl) (fun _ _ _ h => h) (Or.inl ⟨by rfl, ?_⟩) (by assumption) ?_
    rotate_left
    · (intro w hSw; (try dsimp only at hSw); go_simp; try (with_reducible rfl))
    try simp only [Act.put, List.getElem_toArray, List.getElem_cons_zero, List.getElem_cons_succ, List.setIfInBounds_toArray, List.set_cons_zero, List.set_cons_succ]
    refine wpAnyH_take (i := 3) (v := ?_) rfl (by kernel_rfl) (by kernel_rfl) (by kernel_rfl) (fun _ _ _ h => h) (Or.inl ⟨by rfl, ?_⟩) (by assumption) ?_
    rotate_left
    · (intro w hSw; (try dsimp only at hSw); go_simp; try (with_reducible rfl))
    try simp only [Act.put, List.getElem_toArray, List.getElem_cons_zero, List.getElem_cons_succ, List.setIfInBounds_toArray, List.set_cons_zero, List.set_cons_succ]
    refine wpAnyH_take (i := 4) (v := ?_) rfl (by kernel_rfl) (by kernel_rfl) (by kernel_rfl) (fun _ _ _ h => h) (Or.inl ⟨by rfl, ?_⟩) (by assumption) ?_
    rotate_left
    · (intro w hSw; (try dsimp only at hSw); go_simp; try (with_reducible rfl))
    try simp only [Act.put, List.getElem_toArray, List.getElem_cons_zero, List.getElem_cons_succ, List.setIfInBounds_toArray, List.set_cons_zero, List.set_cons_succ]
    refine wpAnyH_take (i := 5) (v := ?_) rfl (by kernel_rfl) (by kernel_rfl) (by kernel_rfl) (fun _ _ _ h => h) (Or.inl ⟨by rfl, ?_⟩) (by assumption) ?_
    rotate_left
    · (intro w hSw; (try dsimp only at hSw); go_simp; try (with_reducible rfl))
    try simp only [Act.put, List.getElem_toArray, List.getElem_cons_zero, List.getElem_cons_succ, List.setIfInBounds_toArray, List.set_cons_zero, List.set_cons_succ]
    refine wpAnyH_take (i := 6) (v := ?_) rfl (by kernel_rfl) (by kernel_rfl) (by kernel_rfl) (fun _ _ _ h => h) (Or.inl ⟨by rfl, ?_⟩) (by assumption) ?_
    rotate_left
    · (intro w hSw; (try dsimp only at hSw); go_simp; try (with_reducible rfl))
    try simp only [Act.put, List.getElem_toArray, List.getElem_cons_zero, List.getElem_cons_succ, List.setIfInBounds_toArray, List.set_cons_zero, List.set_cons_succ]
    refine wpAnyH_take (i := 7) (v := ?_) rfl (by kernel_rfl) (by kernel_rfl) (by kernel_rfl) (fun _ _ _ h => h) (Or.inl ⟨by rfl, ?_⟩) (by assumption) ?_
    rotate_left
    · (intro w hSw; (try dsimp only at hSw); go_simp; try (with_reducible rfl))
    try simp only [Act.put, List.getElem_toArray, List.getElem_cons_zero, List.getElem_cons_succ, List.setIfInBounds_toArray, List.set_cons_zero, List.set_cons_succ]
    refine wpAnyH_take (i := 8) (v := ?_) rfl (by kernel_rfl) (by kernel_rfl) (by kernel_rfl) (fun _ _ _ h => h) (Or.inl ⟨by rfl, ?_⟩) (by assumption) ?_
    rotate_left
    · (intro w hSw; (try dsimp only at hSw); go_simp; try (with_reducible rfl))
    try simp only [Act.put, List.getElem_toArray, List.getElem_cons_zero, List.getElem_cons_succ, List.setIfInBounds_toArray, List.set_cons_zero, List.set_cons_succ]
    refine wpAnyH_take (i := 9) (v := ?_) rfl (by kernel_rfl) (by kernel_rfl) (by kernel_rfl) (fun _ _ _ h => h) (Or.inl ⟨by rfl, ?_⟩) (by assumption) ?_
    rotate_left
    · (intro w hSw; (try dsimp only at hSw); go_simp; try (with_reducible rfl))
    try simp only [Act.put, List.getElem_toArray, List.getElem_cons_zero, List.getElem_cons_succ, List.setIfInBounds_toArray, List.set_cons_zero, List.set_cons_succ]
    refine wpAnyH_take (i := 10) (v := ?_) rfl (by kernel_rfl) (by kernel_rfl) (by kernel_rfl) (fun _ _ _ h => h) (Or.inl ⟨by rfl, ?_⟩) (by assumption) ?_
    rotate_left
    · (intro w hSw; (try dsimp only at hSw); go_simp; try (with_reducible rfl))
    try simp only [Act.put, List.getElem_toArray, List.getElem_cons_zero, List.getElem_cons_succ, List.setIfInBounds_toArray, List.set_cons_zero, List.set_cons_succ]
    refine wpAnyH_take (i := 11) (v := ?_) rfl (by kernel_rfl) (by kernel_rfl) (by kernel_rfl) (fun _ _ _ h => h) (Or.inl ⟨by rfl, ?_⟩) (by assumption) ?_
    rotate_left
    · (intro w hSw; (try dsimp only at hSw); go_simp; try (with_reducible rfl))
    try simp only [Act.put, List.getElem_toArray, List.getElem_cons_zero, List.getElem_cons_succ, List.setIfInBounds_toArray, List.set_cons_zero, List.set_cons_succ]
    refine wpAnyH_take (i := 12) (v := ?_) rfl (by kernel_rfl) (by kernel_rfl) (by kernel_rfl) (fun _ _ _ h => h) (Or.inl ⟨by rfl, ?_⟩) (by assumption) ?_
    rotate_left
    · (intro w hSw; (try dsimp only at hSw); go_simp; try (with_reducible rfl))
    try simp only [Act.put, List.getElem_toArray, List.getElem_cons_zero, List.getElem_cons_succ, List.setIfInBounds_toArray, List.set_cons_zero, List.set_cons_succ]
    refine wpAnyH_ready (rs := [13]) (by kernel_rfl) (by simp) ?_
    refine (AllReadyH.cons rfl (fun K hK => ?_) AllReadyH.nil)
    · refine step_copy_shift rfl (.tmp 67) (.tmp 73) 27 27 rfl 77 3 Try.underlying27 Try.siz77 (b + 1) g n cap i0 (flatR (L ++ [(⟨0, 0, 0⟩ : Rt)])) HOd.out hi0 _ _ _ _ _ rfl (by omega) (fun h => by first | rfl | omega) rfl (by omega) (rt_one _) ?_
      intro w4 hown hex
      have HOW4 := hide hown
      have HEX := hide hex
      clear hown hex
      refine hK.out _ _ ?_ (fun hHeld => ?_)
      · first | exact hHeld | exact HEX.out.cell hgb hHeld
      clear hK K
      try simp only [Act.put, List.getElem_toArray, List.getElem_cons_zero, List.getElem_cons_succ, List.setIfInBounds_toArray, List.set_cons_zero, List.set_cons_succ]
      refine wpAnyH_done (by kernel_rfl) ?_ _
      have HML : Hid (((L ++ [(⟨0, 0, 0⟩ : Rt)]).take (i0 + 1) ++ ((L ++ [(⟨0, 0, 0⟩ : Rt)]).drop i0).take (n - i0)).length = n + 1) := by
        have hl : (L ++ [(⟨0, 0, 0⟩ : Rt)]).length = n + 1 := by rw [List.length_append, HNL.out]; rfl
        show _ = _
        rw [List.length_append, List.length_take, List.length_take, List.length_drop, hl]
        omega
      have HS4 : Hid (ST w w4 q o b r0 r1 vr va ⟨0, d, hp, pr, ln, ix, cl, pm, up⟩ (upd N d { N d with rt := (L ++ [(⟨0, 0, 0⟩ : Rt)]).take (i0 + 1) ++ ((L ++ [(⟨0, 0, 0⟩ : Rt)]).drop i0).take (n - i0) }) (upd vr d (.slice (some ⟨g, 0, none⟩) (n + 1) cap)) va ⟨0, d, 0, 0, 0, 0, 0, false, false⟩) := by
        have h := (HS3.out.drewN 1).rowR (w' := w4) hd (L := (L ++ [(⟨0, 0, 0⟩ : Rt)]).take (i0 + 1) ++ ((L ++ [(⟨0, 0, 0⟩ : Rt)]).drop i0).take (n - i0)) (HEX.out.mono (fun k hk => by rw [hk, upd_same]; rfl)) (by
          rw [upd_same, HML.out, flatR, ← fm_shift Rt.vals 3 rt_len]
          exact HOW4.out)
        rwa [upd_same, upd_upd] at h
      have HO4 := HOW4
      rw [flatR, fm_shift Rt.vals 3 rt_len] at HO4
      obtain ⟨M, hM⟩ : ∃ M, (L ++ [(⟨0, 0, 0⟩ : Rt)]).take (i0 + 1) ++ ((L ++ [(⟨0, 0, 0⟩ : Rt)]).drop i0).take (n - i0) = M := ⟨_, rfl⟩
      rw [hM] at HS4 HO4 HML
      have HMI : Hid (M.set i0 ⟨pr, ln, hp⟩ = L.take i0 ++ ⟨pr, ln, hp⟩ :: L.drop i0) := by
        have := ins_eq L ⟨0, 0, 0⟩ ⟨pr, ln, hp⟩ i0 (by rw [HNL.out]; omega)
        rw [HNL.out, hM] at this
        exact this
      clear hM
      clear HS3 HO HOd HOW4 HEX nr hHeld
      obtain ⟨y, hy⟩ : ∃ y, M[i0]? = some y := ⟨_, List.getElem?_eq_getElem (by rw [HML.out]; omega)⟩
      have hx0 := HO4.out.cellAt (i0 * 3) (by omega)
      have hx1 := HO4.out.cellAt (i0 * 3 + 1) (by omega)
      have hx2 := HO4.out.cellAt (i0 * 3 + 2) (by omega)
      have f0 := flat_at Rt.vals 3 rt_len M i0 y hy 0 (by omega)
      have f1 := flat_at Rt.vals 3 rt_len M i0 y hy 1 (by omega)
      have f2 := flat_at Rt.vals 3 rt_len M i0 y hy 2 (by omega)
      rw [Nat.add_zero] at f0
      rw [f0] at hx0
      rw [f1] at hx1
      rw [f2] at hx2
      obtain ⟨y0, y1, y2⟩ := y
      simp only [Rt.vals, List.getElem?_cons_zero, List.getElem?_cons_succ] at hx0 hx1 hx2
      clear f0 f1 f2
      have hf := HO4.out.frozenAt
      have HS5 : Hid (ST w (((w4.setCell ⟨g, i0 * 3, none⟩ (.int .i64 pr)).setCell ⟨g, i0 * 3 + 1, none⟩ (.int .i64 ln)).setCell ⟨g, i0 * 3 + 2, none⟩ (.int .i64 hp)) q o b r0 r1 vr va ⟨0, d, hp, pr, ln, ix, cl, pm, up⟩ (upd N d { N d with rt := L.take i0 ++ ⟨pr, ln, hp⟩ :: L.drop i0 }) (upd vr d (.slice (some ⟨g, 0, none⟩) (n + 1) cap)) va ⟨0, d, 0, 0, 0, 0, 0, false, false⟩) := by
        have hst := (((HO4.out.stored (i0 * 3) (.int .i64 pr)).1.stored (i0 * 3 + 1) (.int .i64 ln)).1.stored (i0 * 3 + 2) (.int .i64 hp)).1
        have hfs := flatR_set M i0 _ hy pr ln hp
        unfold flatR at hfs
        rw [hfs] at hst
        have h := HS4.out.rowR hd (L := M.set i0 ⟨pr, ln, hp⟩) (w' := ((w4.setCell ⟨g, i0 * 3, none⟩ (.int .i64 pr)).setCell ⟨g, i0 * 3 + 1, none⟩ (.int .i64 ln)).setCell ⟨g, i0 * 3 + 2, none⟩ (.int .i64 hp)) (((((Ex.refl (fun k => k = g) w4).set (p := g) rfl _).set (p := g) rfl _).set (p := g) rfl _).mono (fun k hk => by rw [hk, upd_same]; rfl)) (by
          rw [upd_same, List.length_set, HML.out]
          exact hst)
        rw [upd_same, upd_upd, HMI.out] at h
        exact h
      clear HMI HML hy
      have nr := HS4.out.na.r d hd
      rw [upd_same] at nr
      have k2 := HS4.out.co.c2
      have k3 := HS4.out.co.c3
      have k4 := HS4.out.co.c4
      simp only [] at k2 k3 k4
      have hqg : ¬ q = g := fun e => HS4.out.nf.1 (.inr ⟨d, hd, .inl (by rw [upd_same, e]; rfl)⟩)
      have hii : (i0 : Int) < (n : Int) + 1 := by omega
      clear HS4 HO4
      go_upto_region 12 with fail
      refine wp_region_held_drew (S := fun w' => w'.cell? ⟨b, d * 4, none⟩ = some (.slice (some ⟨g, 0, none⟩) (n + 1) cap) ∧ w'.cell? ⟨q, o + 2, none⟩ = some (.int .i64 hp) ∧ w'.cell? ⟨q, o + 3, none⟩ = some (.int .i64 pr) ∧ w'.cell? ⟨q, o + 4, none⟩ = some (.int .i64 ln)) (by kernel_rfl) (And.intro nr (And.intro k2 (And.intro k3 k4))) (fun hHeld => ?_)
      refine wpAnyH_take (i := 0) (v := ?_) rfl (by kernel_rfl) (by kernel_rfl) (by kernel_rfl) (fun _ _ _ h => h) (Or.inl ⟨by rfl, ?_⟩) (by assumption) ?_
      rotate_left
      · (intro w hSw; (try dsimp only at hSw); go_simp; try (with_reducible rfl))
      try simp only [Act.put, List.getElem_toArray, List.getElem_cons_zero, List.getElem_cons_succ, List.setIfInBounds_toArray, List.set_cons_zero, List.set_cons_succ]
      refine wpAnyH_take (i := 1) (v := ?_) rfl (by kernel_rfl) (by kernel_rfl) (by kernel_rfl) (fun _ _ _ h => h) (Or.inl ⟨by rfl, ?_⟩) (by assumption) ?_
      rotate_left
      · (intro w hSw; (try dsimp only at hSw); go_simp; try (with_reducible rfl))
      try simp only [Act.put, List.getElem_toArray, List.getElem_cons_zero, List.getElem_cons_succ, List.setIfInBounds_toArray, List.set_cons_zero, List.set_cons_succ]
      refine wpAnyH_take (i := 2) (v := ?_) rfl (by kernel_rfl) (by kernel_rfl) (by kernel_rfl) (fun _ _ _ h => h) (Or.inl ⟨by rfl, ?_⟩) (by assumption) ?_
      rotate_left
      · (intro w hSw; (try dsimp only at hSw); go_simp; try (with_reducible rfl))
      try simp only [Act.put, List.getElem_toArray, List.getElem_cons_zero, List.getElem_cons_succ, List.setIfInBounds_toArray, List.set_cons_zero, List.set_cons_succ]
      refine wpAnyH_take (i := 3) (v := ?_) rfl (by kernel_rfl) (by kernel_rfl) (by kernel_rfl) (fun _ _ _ h => h) (Or.inl ⟨by rfl, ?_⟩) (by assumption) ?_
      rotate_left
      · (intro w hSw; (try dsimp only at hSw); go_simp; try (with_reducible rfl))
      try simp only [Act.put, List.getElem_toArray, List.getElem_cons_zero, List.getElem_cons_succ, List.setIfInBounds_toArray, List.set_cons_zero, List.set_cons_succ]
      refine wpAnyH_take (i := 4) (v := ?_) rfl (by kernel_rfl) (by kernel_rfl) (by kernel_rfl) (fun _ _ _ h => h) (Or.inl ⟨by rfl, ?_⟩) (by assumption) ?_
      rotate_left
      · (intro w hSw; (try dsimp only at hSw); go_simp; try (with_reducible rfl))
      try simp only [Act.put, List.getElem_toArray, List.getElem_cons_zero, List.getElem_cons_succ, List.setIfInBounds_toArray, List.set_cons_zero, List.set_cons_succ]
      refine wpAnyH_take (i := 5) (v := ?_) rfl (by kernel_rfl) (by kernel_rfl) (by kernel_rfl) (fun _ _ _ h => h) (Or.inl ⟨by rfl, ?_⟩) (by assumption) ?_
      rotate_left
      · (intro w hSw; (try dsimp only at hSw); go_simp; try (with_reducible rfl))
      try simp only [Act.put, List.getElem_toArray, List.getElem_cons_zero, List.getElem_cons_succ, List.setIfInBounds_toArray, List.set_cons_zero, List.set_cons_succ]
      refine wpAnyH_take (i := 6) (v := ?_) rfl (by kernel_rfl) (by kernel_rfl) (by kernel_rfl) (fun _ _ _ h => h) (Or.inl ⟨by rfl, ?_⟩) (by assumption) ?_
      rotate_left
      · (intro w hSw; (try dsimp only at hSw); go_simp; try (with_reducible rfl))
      try simp only [Act.put, List.getElem_toArray, List.getElem_cons_zero, List.getElem_cons_succ, List.setIfInBounds_toArray, List.set_cons_zero, List.set_cons_succ]
      refine wpAnyH_take (i := 7) (v := ?_) rfl (by kernel_rfl) (by kernel_rfl) (by kernel_rfl) (fun _ _ _ h => h) (Or.inl ⟨by rfl, ?_⟩) (by assumption) ?_
      rotate_left
      · (intro w hSw; (try dsimp only at hSw); go_simp; try (with_reducible rfl))
      try simp only [Act.put, List.getElem_toArray, List.getElem_cons_zero, List.getElem_cons_succ, List.setIfInBounds_toArray, List.set_cons_zero, List.set_cons_succ]
      refine wpAnyH_take (i := 8) (v := ?_) rfl (by kernel_rfl) (by kernel_rfl) (by kernel_rfl) (fun _ _ _ h => h) (Or.inl ⟨by rfl, ?_⟩) (by assumption) ?_
      rotate_left
      · (intro w hSw; (try dsimp only at hSw); go_simp; try (with_reducible rfl))
      try simp only [Act.put, List.getElem_toArray, List.getElem_cons_zero, List.getElem_cons_succ, List.setIfInBounds_toArray, List.set_cons_zero, List.set_cons_succ]
      refine wpAnyH_take (i := 9) (v := ?_) rfl (by kernel_rfl) (by kernel_rfl) (by kernel_rfl) (fun _ _ _ h => h) (Or.inl ⟨by rfl, ?_⟩) (by assumption) ?_
      rotate_left
      · (intro w hSw; (try dsimp only at hSw); go_simp; try (with_reducible rfl))
      try simp only [Act.put, List.getElem_toArray, List.getElem_cons_zero, List.getElem_cons_succ, List.setIfInBounds_toArray, List.set_cons_zero, List.set_cons_succ]
      refine wpAnyH_take (i := 10) (v := ?_) rfl (by kernel_rfl) (by kernel_rfl) (by kernel_rfl) (fun _ _ _ h => h) (Or.inl ⟨by rfl, ?_⟩) (by assumption) ?_
      rotate_left
      · (intro w hSw; (try dsimp only at hSw); go_simp; try (with_reducible rfl))
      try simp only [Act.put, List.getElem_toArray, List.getElem_cons_zero, List.getElem_cons_succ, List.setIfInBounds_toArray, List.set_cons_zero, List.set_cons_succ]
      refine wpAnyH_take (i := 11) (v := ?_) rfl (by kernel_rfl) (by kernel_rfl) (by kernel_rfl) (fun _ _ _ h => h) (Or.inl ⟨by rfl, ?_⟩) (by assumption) ?_
      rotate_left
      · (intro w hSw; (try dsimp only at hSw); go_simp; try (with_reducible rfl))
      try simp only [Act.put, List.getElem_toArray, List.getElem_cons_zero, List.getElem_cons_succ, List.setIfInBounds_toArray, List.set_cons_zero, List.set_cons_succ]
      refine wpAnyH_take (i := 12) (v := ?_) rfl (by kernel_rfl) (by kernel_rfl) (by kernel_rfl) (fun _ _ _ h => h) (Or.inl ⟨by rfl, ?_⟩) (by assumption) ?_
      rotate_left
      · (intro w hSw; (try dsimp only at hSw); go_simp; try (with_reducible rfl))
      try simp only [Act.put, List.getElem_toArray, List.getElem_cons_zero, List.getElem_cons_succ, List.setIfInBounds_toArray, List.set_cons_zero, List.set_cons_succ]
      refine wpAnyH_take (i := 13) (v := ?_) rfl (by kernel_rfl) (by kernel_rfl) (by kernel_rfl) (fun _ _ _ h => h) (Or.inl ⟨by rfl, ?_⟩) (by assumption) ?_
      rotate_left
      · (intro w hSw; (try dsimp only at hSw); go_simp; try (with_reducible rfl))
      try simp only [Act.put, List.getElem_toArray, List.getElem_cons_zero, List.getElem_cons_succ, List.setIfInBounds_toArray, List.set_cons_zero, List.set_cons_succ]
      refine wpAnyH_take (i := 14) (v := ?_) rfl (by kernel_rfl) (by kernel_rfl) (by kernel_rfl) (fun _ _ _ h => h) (Or.inl ⟨by rfl, ?_⟩) (by assumption) ?_
      rotate_left
      · (intro w hSw; (try dsimp only at hSw); go_simp; try (with_reducible rfl))
      try simp only [Act.put, List.getElem_toArray, List.getElem_cons_zero, List.getElem_cons_succ, List.setIfInBounds_toArray, List.set_cons_zero, List.set_cons_succ]
      refine wpAnyH_take (i := 15) (v := ?_) rfl (by kernel_rfl) (by kernel_rfl) (by kernel_rfl) (fun _ _ _ h => h) (Or.inl ⟨by rfl, ?_⟩) (by assumption) ?_
      rotate_left
      · (intro w hSw; (try dsimp only at hSw); go_simp; try (with_reducible rfl))
      try simp only [Act.put, List.getElem_toArray, List.getElem_cons_zero, List.getElem_cons_succ, List.setIfInBounds_toArray, List.set_cons_zero, List.set_cons_succ]
      refine wpAnyH_take (i := 16) (v := ?_) rfl (by kernel_rfl) (by kernel_rfl) (by kernel_rfl) (fun _ _ _ h => h) (Or.inl ⟨by rfl, ?_⟩) (by assumption) ?_
      rotate_left
      · (intro w hSw; (try dsimp only at hSw); go_simp; try (with_reducible rfl))
      try simp only [Act.put, List.getElem_toArray, List.getElem_cons_zero, List.getElem_cons_succ, List.setIfInBounds_toArray, List.set_cons_zero, List.set_cons_succ]
      refine wpAnyH_take (i := 17) (v := ?_) rfl (by kernel_rfl) (by kernel_rfl) (by kernel_rfl) (fun _ _ _ h => h) (Or.inl ⟨by rfl, ?_⟩) (by assumption) ?_
      rotate_left
      · (intro w hSw; (try dsimp only at hSw); go_simp; try (with_reducible rfl))
      try simp only [Act.put, List.getElem_toArray, List.getElem_cons_zero, List.getElem_cons_succ, List.setIfInBounds_toArray, List.set_cons_zero, List.set_cons_succ]
      refine wpAnyH_take (i := 18) (v := ?_) rfl (by kernel_rfl) (by kernel_rfl) (by kernel_rfl) (fun _ _ _ h => h) (Or.inl ⟨by rfl, ?_⟩) (by assumption) ?_
      rotate_left
      · (intro w hSw; (try dsimp only at hSw); go_simp; try (with_reducible rfl))
      try simp only [Act.put, List.getElem_toArray, List.getElem_cons_zero, List.getElem_cons_succ, List.setIfInBounds_toArray, List.set_cons_zero, List.set_cons_succ]
      refine wpAnyH_ready (rs := [19]) (by kernel_rfl) (by simp) ?_
      refine (AllReadyH.cons rfl (fun K hK => ?_) AllReadyH.nil)
      · go_simp
        refine hK.out _ _ ?_ (fun hHeld => ?_)
        · first | exact hHeld | (simp [go_sem, nr, k2, k3, k4, hgb, hqg]; done)
        clear hK K
        try simp only [Act.put, List.getElem_toArray, List.getElem_cons_zero, List.getElem_cons_succ, List.setIfInBounds_toArray, List.set_cons_zero, List.set_cons_succ]
        refine wpAnyH_done (by kernel_rfl) ?_ _
        replace HS5 := hide (HS5.out.drewN 1)
        rw [drewN1] at HS5
        clear nr k2 k3 k4 hx0 hx1 hx2 hf hHeld
        generalize (((w4.setCell ⟨g, i0 * 3, none⟩ (.int .i64 pr)).setCell ⟨g, i0 * 3 + 1, none⟩ (.int .i64 ln)).setCell ⟨g, i0 * 3 + 2, none⟩ (.int .i64 hp)).drew = W5 at *
        have HS := HS5
        clear HS5
        have k3 := HS.out.co.c3
        have k4 := HS.out.co.c4
        have u0 := HS.out.cu.c0
        have u3 := HS.out.cu.c3
        have u4 := HS.out.cu.c4
        have uf := HS.out.cu.fr
        simp only [] at k3 k4 u0 u3 u4
        have hqr : ¬ q = r1 := by have := HS.out.q0; have := HS.out.h0; have := HS.out.h1; omega
        go_upto_region 13 with fail
        refine wp_region_held_drew (S := fun w' => w'.cell? ⟨q, o + 3, none⟩ = some (.int .i64 pr) ∧ w'.cell? ⟨q, o + 4, none⟩ = some (.int .i64 ln)) (by kernel_rfl) (And.intro k3 k4) (fun hHeld => ?_)
        refine wpAnyH_take (i := 0) (v := ?_) rfl (by kernel_rfl) (by kernel_rfl) (by kernel_rfl) (fun _ _ _ h => h) (Or.inl ⟨by rfl, ?_⟩) (by assumption) ?_
        rotate_left
        · (intro w hSw; (try dsimp only at hSw); go_simp; try (with_reducible rfl))
        try simp only [Act.put, List.getElem_toArray, List.getElem_cons_zero, List.getElem_cons_succ, List.setIfInBounds_toArray, List.set_cons_zero, List.set_cons_succ]
        refine wpAnyH_take (i := 1) (v := ?_) rfl (by kernel_rfl) (by kernel_rfl) (by kernel_rfl) (fun _ _ _ h => h) (Or.inl ⟨by rfl, ?_⟩) (by assumption) ?_
        rotate_left
        · (intro w hSw; (try dsimp only at hSw); go_simp; try (with_reducible rfl))
        try simp only [Act.put, List.getElem_toArray, List.getElem_cons_zero, List.getElem_cons_succ, List.setIfInBounds_toArray, List.set_cons_zero, List.set_cons_succ]
        refine wpAnyH_take (i := 2) (v := ?_) rfl (by kernel_rfl) (by kernel_rfl) (by kernel_rfl) (fun _ _ _ h => h) (Or.inl ⟨by rfl, ?_⟩) (by assumption) ?_
        rotate_left
        · (intro w hSw; (try dsimp only at hSw); go_simp; try (with_reducible rfl))
        try simp only [Act.put, List.getElem_toArray, List.getElem_cons_zero, List.getElem_cons_succ, List.setIfInBounds_toArray, List.set_cons_zero, List.set_cons_succ]
        refine wpAnyH_take (i := 3) (v := ?_) rfl (by kernel_rfl) (by kernel_rfl) (by kernel_rfl) (fun _ _ _ h => h) (Or.inl ⟨by rfl, ?_⟩) (by assumption) ?_
        rotate_left
        · (intro w hSw; (try dsimp only at hSw); go_simp; try (with_reducible rfl))
        try simp only [Act.put, List.getElem_toArray, List.getElem_cons_zero, List.getElem_cons_succ, List.setIfInBounds_toArray, List.set_cons_zero, List.set_cons_succ]
        refine wpAnyH_take (i := 4) (v := ?_) rfl (by kernel_rfl) (by kernel_rfl) (by kernel_rfl) (fun _ _ _ h => h) (Or.inl ⟨by rfl, ?_⟩) (by assumption) ?_
        rotate_left
        · (intro w hSw; (try dsimp only at hSw); go_simp; try (with_reducible rfl))
        try simp only [Act.put, List.getElem_toArray, List.getElem_cons_zero, List.getElem_cons_succ, List.setIfInBounds_toArray, List.set_cons_zero, List.set_cons_succ]
        refine wpAnyH_take (i := 5) (v := ?_) rfl (by kernel_rfl) (by kernel_rfl) (by kernel_rfl) (fun _ _ _ h => h) (Or.inl ⟨by rfl, ?_⟩) (by assumption) ?_
        rotate_left
        · (intro w hSw; (try dsimp only at hSw); go_simp; try (with_reducible rfl))
        try simp only [Act.put, List.getElem_toArray, List.getElem_cons_zero, List.getElem_cons_succ, List.setIfInBounds_toArray, List.set_cons_zero, List.set_cons_succ]
        refine wpAnyH_take (i := 6) (v := ?_) rfl (by kernel_rfl) (by kernel_rfl) (by kernel_rfl) (fun _ _ _ h => h) (Or.inl ⟨by rfl, ?_⟩) (by assumption) ?_
        rotate_left
        · (intro w hSw; (try dsimp only at hSw); go_simp; try (with_reducible rfl))
        try simp only [Act.put, List.getElem_toArray, List.getElem_cons_zero, List.getElem_cons_succ, List.setIfInBounds_toArray, List.set_cons_zero, List.set_cons_succ]
        refine wpAnyH_take (i := 7) (v := ?_) rfl (by kernel_rfl) (by kernel_rfl) (by kernel_rfl) (fun _ _ _ h => h) (Or.inl ⟨by rfl, ?_⟩) (by assumption) ?_
        rotate_left
        · (intro w hSw; (try dsimp only at hSw); go_simp; try (with_reducible rfl))
        try simp only [Act.put, List.getElem_toArray, List.getElem_cons_zero, List.getElem_cons_succ, List.setIfInBounds_toArray, List.set_cons_zero, List.set_cons_succ]
        refine wpAnyH_take (i := 8) (v := ?_) rfl (by kernel_rfl) (by kernel_rfl) (by kernel_rfl) (fun _ _ _ h => h) (Or.inl ⟨by rfl, ?_⟩) (by assumption) ?_
        rotate_left
        · (intro w hSw; (try dsimp only at hSw); go_simp; try (with_reducible rfl))
        try simp only [Act.put, List.getElem_toArray, List.getElem_cons_zero, List.getElem_cons_succ, List.setIfInBounds_toArray, List.set_cons_zero, List.set_cons_succ]
        refine wpAnyH_ready (rs := [9]) (by kernel_rfl) (by simp) ?_
        refine (AllReadyH.cons rfl (fun K hK => ?_) AllReadyH.nil)
        · go_simp
          refine hK.out _ _ ?_ (fun hHeld => ?_)
          · first | exact hHeld | (simp [go_sem, k3, k4, hqr]; done)
          clear hK K
          try simp only [Act.put, List.getElem_toArray, List.getElem_cons_zero, List.getElem_cons_succ, List.setIfInBounds_toArray, List.set_cons_zero, List.set_cons_succ]
          refine wpAnyH_take (i := 10) (v := ?_) rfl (by kernel_rfl) (by kernel_rfl) (by kernel_rfl) (fun _ _ _ h => h) (Or.inl ⟨by rfl, ?_⟩) (by assumption) ?_
          rotate_left
          · (intro w hSw; (try dsimp only at hSw); go_simp; try (with_reducible rfl))
          try simp only [Act.put, List.getElem_toArray, List.getElem_cons_zero, List.getElem_cons_succ, List.setIfInBounds_toArray, List.set_cons_zero, List.set_cons_succ]
          refine wpAnyH_ready (rs := [11]) (by kernel_rfl) (by simp) ?_
          refine (AllReadyH.cons rfl (fun K hK => ?_) AllReadyH.nil)
          · go_simp
            refine hK.out _ _ ?_ (fun hHeld => ?_)
            · first | exact hHeld | (simp [go_sem, k3, k4, hqr]; done)
            clear hK K
            try simp only [Act.put, List.getElem_toArray, List.getElem_cons_zero, List.getElem_cons_succ, List.setIfInBounds_toArray, List.set_cons_zero, List.set_cons_succ]
            refine wpAnyH_take (i := 12) (v := ?_) rfl (by kernel_rfl) (by kernel_rfl) (by kernel_rfl) (fun _ _ _ h => h) (Or.inl ⟨by rfl, ?_⟩) (by assumption) ?_
            rotate_left
            · (intro w hSw; (try dsimp only at hSw); go_simp; try (with_reducible rfl))
            try simp only [Act.put, List.getElem_toArray, List.getElem_cons_zero, List.getElem_cons_succ, List.setIfInBounds_toArray, List.set_cons_zero, List.set_cons_succ]
            refine wpAnyH_ready (rs := [13]) (by kernel_rfl) (by simp) ?_
            refine (AllReadyH.cons rfl (fun K hK => ?_) AllReadyH.nil)
            · go_simp
              refine hK.out _ _ ?_ (fun hHeld => ?_)
              · first | exact hHeld | (simp [go_sem, k3, k4, hqr]; done)
              clear hK K
              try simp only [Act.put, List.getElem_toArray, List.getElem_cons_zero, List.getElem_cons_succ, List.setIfInBounds_toArray, List.set_cons_zero, List.set_cons_succ]
              refine wpAnyH_done (by kernel_rfl) ?_ _
              replace HS := hide ((HS.out.un ((((Ex.refl (fun k => k = r1) W5).set (p := r1) (j := 0) rfl (.int .i64 1)).set (p := r1) (j := 3) rfl (.int .i64 pr)).set (p := r1) (j := 4) rfl (.int .i64 ln)) (((HS.out.cu.put0 1).put3 pr).put4 ln)).drewN 1)
              rw [drewN1] at HS
              clear hHeld hqr uf k3 k4 u0 u3 u4
              generalize (((W5.setCell ⟨r1, 0, none⟩ (.int .i64 1)).setCell ⟨r1, 3, none⟩ (.int .i64 pr)).setCell ⟨r1, 4, none⟩ (.int .i64 ln)).drew = W6 at *
              have u0 := HS.out.cu.c0
              have R0 := HS.out.cr.c0
              have u1 := HS.out.cu.c1
              have R1 := HS.out.cr.c1
              have u2 := HS.out.cu.c2
              have R2 := HS.out.cr.c2
              have u3 := HS.out.cu.c3
              have R3 := HS.out.cr.c3
              have u4 := HS.out.cu.c4
              have R4 := HS.out.cr.c4
              have u5 := HS.out.cu.c5
              have R5 := HS.out.cr.c5
              have u6 := HS.out.cu.c6
              have R6 := HS.out.cr.c6
              have u7 := HS.out.cu.c7
              have R7 := HS.out.cr.c7
              have u8 := HS.out.cu.c8
              have R8 := HS.out.cr.c8
              have uf := HS.out.cu.fr
              have Rf := HS.out.cr.fr
              have h01 := HS.out.h1
              simp only [Chg.zero] at u0 R0 u1 R1 u2 R2 u3 R3 u4 R4 u5 R5 u6 R6 u7 R7 u8 R8
              have HFIN := fun (v : Value) (y0 y1 y2 y3 y4 y5 y6 y7 y8 : Value) => hide (HS.out.fin (v := v) y0 y1 y2 y3 y4 y5 y6 y7 y8)
              go_wp2
              refine bodyPost_ret (v := .tuple #[chgV ⟨1, d, 0, pr, ln, 0, 0, false, false⟩, .int .i64 0]) (by simp [results, Try.results61, go_sem, chgV, Chg.vals, R0, R1, R2, R3, R4, R5, R6, R7, R8]) rfl ?_
              rw [H_i0.out, HL.out]
              exact (HFIN _ _ _ _ _ _ _ _ _ _).out
end Go.Proofs.Qxb6500778a
