import Derived.Test.Qxb6500778aN8
import Derived.Deep.AppendLies
namespace Go.Proofs.Qxb6500778a
open Go.RowKit

set_option linter.unusedSimpArgs false in
set_option maxRecDepth 100000 in
set_option maxHeartbeats 8000000 in
theorem step_ins (w : World) (q o b d : Nat) (N : Nat → Dv) (vr va : Nat → Value) (hp pr ln ix cl : Int) (pm up : Bool) (hc : CO w q o ⟨2, d, hp, pr, ln, ix, cl, pm, up⟩) (hn : NA w b N vr va) (hq : ¬ Foot b vr va q) (hd : d < 16) (i0 : Nat) (hix : ix = (i0 : Int)) (hle : i0 ≤ (N d).ac.length) (hroom : (N d).rt.length + (N d).ac.length < 64) :
    Calls Try.prog 61 #[.pointer (some ⟨b, 0, none⟩), .pointer (some ⟨q, o, none⟩)] w (NPost w b vr va (.tuple #[chgV ⟨3, d, 0, 0, 0, i0, 0, false, false⟩, .int .i64 0]) (upd N d { N d with ac := (N d).ac.take i0 ++ ⟨pm, pr, ln, cl⟩ :: (N d).ac.drop i0 })) := by
  have hdi : (d : Int) < 16 := by omega
  subst hix
  have HC := hide hc
  have HN := hide hn
  have c1 := hc.c1
  simp only [] at c1
  clear hc hn
  have c1 := ((Ex.refl (fun _ => False) w).alloc (.cells #[.int .i64 0, .int .i64 0, .int .i64 0, .int .i64 0, .int .i64 0, .int .i64 0, .int .i64 0, .bool false, .bool false] 45)).cell (fun e => e) c1
  go_enter Try.func61, Try.ntmps61
  go_upto_region 1 with fail
  go_quiet (fail)
  have HST := fun W hW => hide (st_new HC.out HN.out hq nq { Chg.zero with dv := d } W hW)
  clear HC HN
  simp only [Chg.vals, Chg.zero] at HST
  go_upto_region 3 with fail
  obtain ⟨W, hW⟩ : ∃ W, W = ((w.alloc (.cells #[.int .i64 0, .int .i64 0, .int .i64 0, .int .i64 0, .int .i64 0, .int .i64 0, .int .i64 0, .bool false, .bool false] 45)).drewN nq).alloc (.cells #[.int .i64 0, .int .i64 d, .int .i64 0, .int .i64 0, .int .i64 0, .int .i64 0, .int .i64 0, .bool false, .bool false] 45) := ⟨_, rfl⟩
  rw [← hW]
  have HS := HST W hW
  clear HST hW c1
  obtain ⟨r1, hr1⟩ : ∃ r, w.heap.size + 1 = r := ⟨_, rfl⟩
  rw [hr1] at HS ⊢
  obtain ⟨r0, hr0⟩ : ∃ r, w.heap.size = r := ⟨_, rfl⟩
  rw [hr0] at HS ⊢
  clear hr0 hr1
  have k0 := HS.out.co.c0
  simp only [] at k0
  go_upto_region 21 with fail
  clear k0
  have k5 := HS.out.co.c5
  have na := HS.out.na.a d hd
  have nf := HS.out.na.fz
  simp only [] at k5
  obtain ⟨sa0, sc0, hv0⟩ := own_len (HS.out.na.ao d hd)
  rw [hv0] at na
  obtain ⟨n0, hn0⟩ : ∃ n, (N d).ac.length = n := ⟨_, rfl⟩
  rw [hn0] at na
  have hcm : decide ((n0 : Int) < (i0 : Int)) = false := decide_eq_false (by omega)
  go_quiet (fail)
  replace HS := hide (HS.out.drewN nq)
  generalize W.drewN nq = W1 at *
  clear k5 na nf hv0
  go_wp2_with fail
  refine (rules_any _ b N vr va HS.out.na d hd (by omega) (by omega)).mono ?_
  rintro e W2 ⟨rfl, mq, rfl⟩
  replace HS := hide (HS.out.drewN mq)
  generalize W1.drewN mq = W2 at *
  clear hcm hn0
  have hfb : decide ((64 : Int) ≤ (((N d).rt.length + (N d).ac.length : Nat) : Int)) = false := decide_eq_false (by omega)
  obtain ⟨tot, htot⟩ : ∃ t, ((N d).rt.length + (N d).ac.length : Nat) = t := ⟨_, rfl⟩
  rw [htot] at hfb ⊢
  obtain ⟨i1, hi, hz0, hz1, hz2⟩ := info_parts Try.inf81
  have HI := hide (And.intro hi (And.intro hz0 (And.intro hz1 hz2)))
  clear hi hz0 hz1 hz2
  obtain ⟨L, hL⟩ : ∃ L, (N d).ac = L := ⟨_, rfl⟩
  obtain ⟨n, hn⟩ : ∃ n, L.length = n := ⟨_, rfl⟩
  have nr := HS.out.na.a d hd
  have nf := HS.out.na.fz
  obtain ⟨sa, sc, hv⟩ := own_len (HS.out.na.ao d hd)
  have hi0 : i0 ≤ n := by rw [← hn, ← hL]; exact hle
  have HOW := hide ((HS.out.na.ao d hd).alloc (.cells #[.bool false, .int .i64 0, .int .i64 0, .int .i64 0] 81))
  rw [hv, hL, hn] at HOW
  have hbl := HS.out.na.lt
  have HSZ : Hid (b + 1 ≤ (W2.alloc (.cells #[.bool false, .int .i64 0, .int .i64 0, .int .i64 0] 81)).heap.size) := by show _ ≤ _; simp; omega
  rw [hv, hL, hn] at nr
  have hn64 : n ≤ 64 := by rw [← hn, ← hL]; omega
  have nr2 := ((Ex.refl (fun _ => False) W2).alloc (.cells #[.bool false, .int .i64 0, .int .i64 0, .int .i64 0] 81)).cell (fun e => e) nr
  have HV := hide hv
  have HL := hide hL
  have HNL := hide hn
  clear hv hL hn htot hle hroom
  have nf2 : (W2.alloc (.cells #[.bool false, .int .i64 0, .int .i64 0, .int .i64 0] 81)).frozen? ⟨b, d * 4 + 1, none⟩ = false := (((Ex.refl (fun _ => False) W2).alloc _).frozen (fun e => e) hbl).trans (nf _)
  go_upto_region 25 with fail
  go_upto_region 26 with (at_builtin; go_loud (refine wpList_append_lies _ rfl (.tmp 181) (.tmp 183) 29 rfl (b + 1) 81 i1 _ 4 32 Try.underlying29 HI.out.1 HI.out.2.1 HI.out.2.2.1 HI.out.2.2.2 rfl (by decide) (.slice sa n sc) n (flatA L) rfl HOW.out ⟨W2.heap.size, 0, none⟩ 1 1 [.bool false, .int .i64 0, .int .i64 0, .int .i64 0] rfl rfl (fun j u hj => new_cells W2 [.bool false, .int .i64 0, .int .i64 0, .int .i64 0] 81 j u hj) (fun u hu => by simp at hu; rcases hu with rfl | rfl <;> rfl) (by decide) (by unfold maxLen; omega) (by omega) HSZ.out _ rfl ?_; intro g cap w3 hown hgrow hg hlt; have HOW3 := hide hown; have HGR := hide hgrow; have HG := hide hg; have nr3 : w3.cell? ⟨b, d * 4 + 1, none⟩ = some (.slice sa n sc) := hgrow.cell nr2 (fun e => Nat.not_succ_le_self b (own_row HOW.out e.symm)); have nf3 : w3.frozen? ⟨b, d * 4 + 1, none⟩ = false := (hgrow.frozen_far ⟨b, d * 4 + 1, none⟩ (by simp; omega) (fun e => Nat.not_succ_le_self b (own_row HOW.out e.symm))).trans nf2; clear hown hgrow hg))
  have HS3 : Hid (ST w (w3.setCell ⟨b, d * 4 + 1, none⟩ (.slice (some ⟨g, 0, none⟩) (n + 1) cap)) q o b r0 r1 vr va ⟨2, d, hp, pr, ln, i0, cl, pm, up⟩ (upd N d { N d with ac := L ++ [(⟨false, 0, 0, 0⟩ : Rl)] }) vr (upd va d (.slice (some ⟨g, 0, none⟩) (n + 1) cap)) ⟨0, d, 0, 0, 0, 0, 0, false, false⟩) := by
    refine (HS.out.al (.cells #[.bool false, .int .i64 0, .int .i64 0, .int .i64 0] 81)).growA hd (Ex.ofGrown HGR.out (fun k hk => by rw [HV.out]; simpa [HL.out, HNL.out] using hk)) ?_ (fun k hk => ?_)
    · have := HOW3.out
      rw [show (L ++ [(⟨false, 0, 0, 0⟩ : Rl)]).length = n + 1 by rw [List.length_append, HNL.out]; rfl]
      rw [show flatA (L ++ [(⟨false, 0, 0, 0⟩ : Rl)]) = flatA L ++ [.bool false, .int .i64 0, .int .i64 0, .int .i64 0] by unfold flatA; rw [List.flatMap_append]; rfl]
      exact this
    · rw [HV.out]
      rcases HG.out with z | z
      · left
        have : k = g := by simpa [Value.ownBlock] using hk.symm
        subst this
        simpa [HL.out, HNL.out] using z
      · right
        have : k = g := by simpa [Value.ownBlock] using hk.symm
        omega
  clear HS HOW HOW3 HGR HG nr nr2 nr3 nf nf2 nf3 HSZ hbl
  generalize w3.setCell ⟨b, d * 4 + 1, none⟩ (.slice (some ⟨g, 0, none⟩) (n + 1) cap) = W3 at *
  have HO : Hid (W3.ownsRow (b + 1) 81 4 (.slice (some ⟨g, 0, none⟩) (n + 1) cap) (n + 1) (flatA (L ++ [(⟨false, 0, 0, 0⟩ : Rl)]))) := by
    have h := HS3.out.na.ao d hd
    rw [upd_same, upd_same] at h
    rwa [show (L ++ [(⟨false, 0, 0, 0⟩ : Rl)]).length = n + 1 by rw [List.length_append, HNL.out]; rfl] at h
  have nr := HS3.out.na.a d hd
  rw [upd_same] at nr
  have hcap := own_cap HO.out
  have hgb : ¬ b = g := fun e => by have := own_row HO.out (k := g) rfl; omega
  have HOd : Hid (W3.drew.ownsRow (b + 1) 81 4 (.slice (some ⟨g, 0, none⟩) (n + 1) cap) (n + 1) (flatA (L ++ [(⟨false, 0, 0, 0⟩ : Rl)]))) := own_kept HO.out ((Ex.refl (fun _ => False) W3).drew) (fun _ _ e => e)
  have hw1 : IntKind.i64.wrap ((i0 : Int) + 1) = (i0 : Int) + 1 := by rw [IntKind.wrap_i64]; omega
  have hw2 : ((i0 : Int) + 1).toNat = i0 + 1 := by omega
  have hw3 : (0 : Int) ≤ (i0 : Int) + 1 := by omega
  have hw4 : (i0 : Int) ≤ (n : Int) + 1 := by omega
  have k5 := HS3.out.co.c5
  simp only [] at k5
  have hqg : ¬ q = g := fun e => HS3.out.nf.1 (.inr ⟨d, hd, .inr (by rw [upd_same, e]; rfl)⟩)
  by_cases hcc : cap = i0 + 1
  · obtain rfl : n = i0 := by omega
    subst hcc
    refine wp_region_held_drew (S := fun w' => w'.cell? ⟨q, o + 5, none⟩ = some (.int .i64 n) ∧ w'.cell? ⟨b, d * 4 + 1, none⟩ = some (.slice (some ⟨g, 0, none⟩) (n + 1) (n + 1))) (by kernel_rfl) (And.intro k5 nr) (fun hHeld => ?_)
    refine wpAnyH_take (i := 0) (v := ?_) rfl (by kernel_rfl) (by kernel_rfl) (by kernel_rfl) (fun _ _ _ h => h) (Or.inl ⟨by rfl, ?_⟩) (by assumption) ?_
    rotate_left
    · (intro w hSw; (try dsimp only at hSw); go_simp; try (with_reducible rfl))
    try simp only [Act.put, List.getElem_toArray, List.getElem_cons_zero, List.getElem_cons_succ, List.setIfInBounds_toArray, List.set_cons_zero, List.set_cons_succ]
    refine wpAnyH_take (i := 1) (v := ?_) rfl (by kernel_rfl) (by kernel_rfl) (by kernel_rfl) (fun _ _ _ h => h) (Or.inl ⟨by rfl, ?_⟩) (by assumption) ?_
    rotate_left
    · (intro w hSw; (try dsimp only at hSw); go_simp; try (with_reducible rfl))
    try simp only [Act.put, List.getElem_toArray, List.getElem_cons_zero, List.getElem_cons_succ, List.setIfInBounds_toArray, List.set_cons_zero, List.set_cons_succ]
    refine wpAnyH_take (i := 2) (v := ?_) rfl (by kernel_rfl) (by kernel_rfl) (by kernel_rfl) (fun _ _ _ h => h) (Or.inl ⟨by rfl, ?_⟩) (by assumption) ?_
    rotate_left
    · (intro w hSw; (try dsimp only at hSw); go_simp; try (with_reducible rfl))
    try simp only [Act.put, List.getElem_toArray, List.getElem_cons_zero, List.getElem_cons_succ, List.setIfInBounds_toArray, List.set_cons_zero, List.set_cons_succ]
    refine wpAnyH_take (i := 3) (v := ?_) rfl (by kernel_rfl) (by kernel_rfl) (by kernel_rfl) (fun _ _ _ h => h) (Or.inl ⟨by rfl, ?_⟩) (by assumption) ?_
    rotate_left
    · (intro w hSw; (try dsimp only at hSw); go_simp; try (with_reducible rfl))
    try simp only [Act.put, List.getElem_toArray, List.getElem_cons_zero, List.getElem_cons_succ, List.setIfInBounds_toArray, List.set_cons_zero, List.set_cons_succ]
    refine wpAnyH_take (i := 4) (v := ?_) rfl (by kernel_rfl) (by kernel_rfl) (by kernel_rfl) (fun _ _ _ h => h) (Or.inl ⟨by rfl, ?_⟩) (by assumption) ?_
    rotate_left
    · (intro w hSw; (try dsimp only at hSw); go_simp; try (with_reducible rfl))
    try simp only [Act.put, List.getElem_toArray, List.getElem_cons_zero, List.getElem_cons_succ, List.setIfInBounds_toArray, List.set_cons_zero, List.set_cons_succ]
    refine wpAnyH_take (i := 5) (v := ?_) rfl (by kernel_rfl) (by kernel_rfl) (by kernel_rfl) (fun _ _ _ h => h) (Or.inl ⟨by rfl, ?_⟩) (by assumption) ?_
    rotate_left
    · (intro w hSw; (try dsimp only at hSw); go_simp; try (with_reducible rfl))
    try simp only [Act.put, List.getElem_toArray, List.getElem_cons_zero, List.getElem_cons_succ, List.setIfInBounds_toArray, List.set_cons_zero, List.set_cons_succ]
    refine wpAnyH_take (i := 6) (v := ?_) rfl (by kernel_rfl) (by kernel_rfl) (by kernel_rfl) (fun _ _ _ h => h) (Or.inl ⟨by rfl, ?_⟩) (by assumption) ?_
    rotate_left
    · (intro w hSw; (try dsimp only at hSw); go_simp; try (with_reducible rfl))
    try simp only [Act.put, List.getElem_toArray, List.getElem_cons_zero, List.getElem_cons_succ, List.setIfInBounds_toArray, List.set_cons_zero, List.set_cons_succ]
    refine wpAnyH_take (i := 7) (v := ?_) rfl (by kernel_rfl) (by kernel_rfl) (by kernel_rfl) (fun _ _ _ h => h) (Or.inl ⟨by rfl, ?_⟩) (by assumption) ?_
    rotate_left
    · (intro w hSw; (try dsimp only at hSw); go_simp; try (with_reducible rfl))
    try simp only [Act.put, List.getElem_toArray, List.getElem_cons_zero, List.getElem_cons_succ, List.setIfInBounds_toArray, List.set_cons_zero, List.set_cons_succ]
    refine wpAnyH_take (i := 8) (v := ?_) rfl (by kernel_rfl) (by kernel_rfl) (by kernel_rfl) (fun _ _ _ h => h) (Or.inl ⟨by rfl, ?_⟩) (by assumption) ?_
    rotate_left
    · (intro w hSw; (try dsimp only at hSw); go_simp; try (with_reducible rfl))
    try simp only [Act.put, List.getElem_toArray, List.getElem_cons_zero, List.getElem_cons_succ, List.setIfInBounds_toArray, List.set_cons_zero, List.set_cons_succ]
    refine wpAnyH_take (i := 9) (v := ?_) rfl (by kernel_rfl) (by kernel_rfl) (by kernel_rfl) (fun _ _ _ h => h) (Or.inl ⟨by rfl, ?_⟩) (by assumption) ?_
    rotate_left
    · (intro w hSw; (try dsimp only at hSw); go_simp; try (with_reducible rfl))
    try simp only [Act.put, List.getElem_toArray, List.getElem_cons_zero, List.getElem_cons_succ, List.setIfInBounds_toArray, List.set_cons_zero, List.set_cons_succ]
    refine wpAnyH_take (i := 10) (v := ?_) rfl (by kernel_rfl) (by kernel_rfl) (by kernel_rfl) (fun _ _ _ h => h) (Or.inl ⟨by rfl, ?_⟩) (by assumption) ?_
    rotate_left
    · (intro w hSw; (try dsimp only at hSw); go_simp; try (with_reducible rfl))
    try simp only [Act.put, List.getElem_toArray, List.getElem_cons_zero, List.getElem_cons_succ, List.setIfInBounds_toArray, List.set_cons_zero, List.set_cons_succ]
    refine wpAnyH_take (i := 11) (v := ?_) rfl (by kernel_rfl) (by kernel_rfl) (by kernel_rfl) (fun _ _ _ h => h) (Or.inl ⟨by rfl, ?_⟩) (by assumption) ?_
    rotate_left
    · (intro w hSw; (try dsimp only at hSw); go_simp; try (with_reducible rfl))
    try simp only [Act.put, List.getElem_toArray, List.getElem_cons_zero, List.getElem_cons_succ, List.setIfInBounds_toArray, List.set_cons_zero, List.set_cons_succ]
    refine wpAnyH_take (i := 12) (v := ?_) rfl (by kernel_rfl) (by kernel_rfl) (by kernel_rfl) (fun _ _ _ h => h) (Or.inl ⟨by rfl, ?_⟩) (by assumption) ?_
    rotate_left
    · (intro w hSw; (try dsimp only at hSw); go_simp; try (with_reducible rfl))
    try simp only [Act.put, List.getElem_toArray, List.getElem_cons_zero, List.getElem_cons_succ, List.setIfInBounds_toArray, List.set_cons_zero, List.set_cons_succ]
    refine wpAnyH_take (i := 13) (v := ?_) rfl (by kernel_rfl) (by kernel_rfl) (by kernel_rfl) (fun _ _ _ h => h) (Or.inl ⟨by rfl, ?_⟩) (by assumption) ?_
    rotate_left
    · (intro w hSw; (try dsimp only at hSw); go_simp; try (with_reducible rfl))
    try simp only [Act.put, List.getElem_toArray, List.getElem_cons_zero, List.getElem_cons_succ, List.setIfInBounds_toArray, List.set_cons_zero, List.set_cons_succ]
    refine wpAnyH_take (i := 14) (v := ?_) rfl (by kernel_rfl) (by kernel_rfl) (by kernel_rfl) (fun _ _ _ h => h) (Or.inl ⟨by rfl, ?_⟩) (by assumption) ?_
    rotate_left
    · (intro w hSw; (try dsimp only at hSw); go_simp; try (with_reducible rfl))
    try simp only [Act.put, List.getElem_toArray, List.getElem_cons_zero, List.getElem_cons_succ, List.setIfInBounds_toArray, List.set_cons_zero, List.set_cons_succ]
    refine wpAnyH_take (i := 15) (v := ?_) rfl (by kernel_rfl) (by kernel_rfl) (by kernel_rfl) (fun _ _ _ h => h) (Or.inl ⟨by rfl, ?_⟩) (by assumption) ?_
    rotate_left
    · (intro w hSw; (try dsimp only at hSw); go_simp; try (with_reducible rfl))
    try simp only [Act.put, List.getElem_toArray, List.getElem_cons_zero, List.getElem_cons_succ, List.setIfInBounds_toArray, List.set_cons_zero, List.set_cons_succ]
    refine wpAnyH_take (i := 16) (v := ?_) rfl (by kernel_rfl) (by kernel_rfl) (by kernel_rfl) (fun _ _ _ h => h) (Or.inl ⟨by rfl, ?_⟩) (by assumption) ?_
    rotate_left
    · (intro w hSw; (try dsimp only at hSw); go_simp; try (with_reducible rfl))
    try simp only [Act.put, List.getElem_toArray, List.getElem_cons_zero, List.getElem_cons_succ, List.setIfInBounds_toArray, List.set_cons_zero, List.set_cons_succ]
    refine wpAnyH_take (i := 17) (v := ?_) rfl (by kernel_rfl) (by kernel_rfl) (by kernel_rfl) (fun _ _ _ h => h) (Or.inl ⟨by rfl, ?_⟩) (by assumption) ?_
    rotate_left
    · (intro w hSw; (try dsimp only at hSw); go_simp; try (with_reducible rfl))
    try simp only [Act.put, List.getElem_toArray, List.getElem_cons_zero, List.getElem_cons_succ, List.setIfInBounds_toArray, List.set_cons_zero, List.set_cons_succ]
    refine wpAnyH_take (i := 18) (v := ?_) rfl (by kernel_rfl) (by kernel_rfl) (by kernel_rfl) (fun _ _ _ h => h) (Or.inl ⟨by rfl, ?_⟩) (by assumption) ?_
    rotate_left
    · (intro w hSw; (try dsimp only at hSw); go_simp; try (with_reducible rfl))
    try simp only [Act.put, List.getElem_toArray, List.getElem_cons_zero, List.getElem_cons_succ, List.setIfInBounds_toArray, List.set_cons_zero, List.set_cons_succ]
    refine wpAnyH_ready (rs := [19]) (by kernel_rfl) (by simp) ?_
    refine (AllReadyH.cons rfl (fun K hK => ?_) AllReadyH.nil)
    · refine step_copy_shift rfl (.tmp 196) (.tmp 205) 29 29 rfl 81 4 Try.underlying29 Try.siz81 (b + 1) g n (n + 1) n (flatA (L ++ [(⟨false, 0, 0, 0⟩ : Rl)])) HOd.out hi0 _ _ _ _ _ rfl (by omega) (fun h => by first | rfl | omega) rfl (by omega) (rl_one _) ?_
      intro w4 hown hex
      have HOW4 := hide hown
      have HEX := hide hex
      clear hown hex
      refine hK.out _ _ ?_ (fun hHeld => ?_)
      · first | exact hHeld | exact ⟨HEX.out.cell hqg hHeld.1, HEX.out.cell hgb hHeld.2⟩
      clear hK K
      try simp only [Act.put, List.getElem_toArray, List.getElem_cons_zero, List.getElem_cons_succ, List.setIfInBounds_toArray, List.set_cons_zero, List.set_cons_succ]
      refine wpAnyH_done (by kernel_rfl) ?_ _
      have HML : Hid (((L ++ [(⟨false, 0, 0, 0⟩ : Rl)]).take (n + 1) ++ ((L ++ [(⟨false, 0, 0, 0⟩ : Rl)]).drop n).take (n - n)).length = n + 1) := by
        have hl : (L ++ [(⟨false, 0, 0, 0⟩ : Rl)]).length = n + 1 := by rw [List.length_append, HNL.out]; rfl
        show _ = _
        rw [List.length_append, List.length_take, List.length_take, List.length_drop, hl]
        omega
      have HS4 : Hid (ST w w4 q o b r0 r1 vr va ⟨2, d, hp, pr, ln, n, cl, pm, up⟩ (upd N d { N d with ac := (L ++ [(⟨false, 0, 0, 0⟩ : Rl)]).take (n + 1) ++ ((L ++ [(⟨false, 0, 0, 0⟩ : Rl)]).drop n).take (n - n) }) vr (upd va d (.slice (some ⟨g, 0, none⟩) (n + 1) (n + 1))) ⟨0, d, 0, 0, 0, 0, 0, false, false⟩) := by
        have h := (HS3.out.drewN 1).rowA (w' := w4) hd (L := (L ++ [(⟨false, 0, 0, 0⟩ : Rl)]).take (n + 1) ++ ((L ++ [(⟨false, 0, 0, 0⟩ : Rl)]).drop n).take (n - n)) (HEX.out.mono (fun k hk => by rw [hk, upd_same]; rfl)) (by
          rw [upd_same, HML.out, flatA, ← fm_shift Rl.vals 4 rl_len]
          exact HOW4.out)
        rwa [upd_same, upd_upd] at h
      have HO4 := HOW4
      rw [flatA, fm_shift Rl.vals 4 rl_len] at HO4
      obtain ⟨M, hM⟩ : ∃ M, (L ++ [(⟨false, 0, 0, 0⟩ : Rl)]).take (n + 1) ++ ((L ++ [(⟨false, 0, 0, 0⟩ : Rl)]).drop n).take (n - n) = M := ⟨_, rfl⟩
      rw [hM] at HS4 HO4 HML
      have HMI : Hid (M.set n ⟨pm, pr, ln, cl⟩ = L.take n ++ ⟨pm, pr, ln, cl⟩ :: L.drop n) := by
        have := ins_eq L ⟨false, 0, 0, 0⟩ ⟨pm, pr, ln, cl⟩ n (by rw [HNL.out]; omega)
        rw [HNL.out, hM] at this
        exact this
      clear hM
      clear HS3 HO HOd HOW4 HEX nr hHeld k5 hqg
      obtain ⟨y, hy⟩ : ∃ y, M[n]? = some y := ⟨_, List.getElem?_eq_getElem (by rw [HML.out]; omega)⟩
      have hx0 := HO4.out.cellAt (n * 4) (by omega)
      have hx1 := HO4.out.cellAt (n * 4 + 1) (by omega)
      have hx2 := HO4.out.cellAt (n * 4 + 2) (by omega)
      have hx3 := HO4.out.cellAt (n * 4 + 3) (by omega)
      have f0 := flat_at Rl.vals 4 rl_len M n y hy 0 (by omega)
      have f1 := flat_at Rl.vals 4 rl_len M n y hy 1 (by omega)
      have f2 := flat_at Rl.vals 4 rl_len M n y hy 2 (by omega)
      have f3 := flat_at Rl.vals 4 rl_len M n y hy 3 (by omega)
      rw [Nat.add_zero] at f0
      rw [f0] at hx0
      rw [f1] at hx1
      rw [f2] at hx2
      rw [f3] at hx3
      obtain ⟨y0, y1, y2, y3⟩ := y
      simp only [Rl.vals, List.getElem?_cons_zero, List.getElem?_cons_succ] at hx0 hx1 hx2 hx3
      clear f0 f1 f2 f3
      have hf := HO4.out.frozenAt
      have HS5 : Hid (ST w ((((w4.setCell ⟨g, n * 4, none⟩ (.bool pm)).setCell ⟨g, n * 4 + 1, none⟩ (.int .i64 pr)).setCell ⟨g, n * 4 + 2, none⟩ (.int .i64 ln)).setCell ⟨g, n * 4 + 3, none⟩ (.int .i64 cl)) q o b r0 r1 vr va ⟨2, d, hp, pr, ln, n, cl, pm, up⟩ (upd N d { N d with ac := L.take n ++ ⟨pm, pr, ln, cl⟩ :: L.drop n }) vr (upd va d (.slice (some ⟨g, 0, none⟩) (n + 1) (n + 1))) ⟨0, d, 0, 0, 0, 0, 0, false, false⟩) := by
        have hst := ((((HO4.out.stored (n * 4) (.bool pm)).1.stored (n * 4 + 1) (.int .i64 pr)).1.stored (n * 4 + 2) (.int .i64 ln)).1.stored (n * 4 + 3) (.int .i64 cl)).1
        have hfs := flatA_set M n _ hy pm pr ln cl
        unfold flatA at hfs
        rw [hfs] at hst
        have h := HS4.out.rowA hd (L := M.set n ⟨pm, pr, ln, cl⟩) (w' := (((w4.setCell ⟨g, n * 4, none⟩ (.bool pm)).setCell ⟨g, n * 4 + 1, none⟩ (.int .i64 pr)).setCell ⟨g, n * 4 + 2, none⟩ (.int .i64 ln)).setCell ⟨g, n * 4 + 3, none⟩ (.int .i64 cl)) ((((((Ex.refl (fun k => k = g) w4).set (p := g) rfl _).set (p := g) rfl _).set (p := g) rfl _).set (p := g) rfl _).mono (fun k hk => by rw [hk, upd_same]; rfl)) (by
          rw [upd_same, List.length_set, HML.out]
          exact hst)
        rw [upd_same, upd_upd, HMI.out] at h
        exact h
      clear HMI HML hy
      have nr := HS4.out.na.a d hd
      rw [upd_same] at nr
      have k3 := HS4.out.co.c3
      have k4 := HS4.out.co.c4
      have k5 := HS4.out.co.c5
      have k6 := HS4.out.co.c6
      have k7 := HS4.out.co.c7
      simp only [] at k3 k4 k5 k6 k7
      have hqg : ¬ q = g := fun e => HS4.out.nf.1 (.inr ⟨d, hd, .inr (by rw [upd_same, e]; rfl)⟩)
      have hii : (n : Int) < (n : Int) + 1 := by omega
      clear HS4 HO4
      go_upto_region 27 with fail
      refine wp_region_held_drew (S := fun w' => w'.cell? ⟨b, d * 4 + 1, none⟩ = some (.slice (some ⟨g, 0, none⟩) (n + 1) (n + 1)) ∧ w'.cell? ⟨q, o + 3, none⟩ = some (.int .i64 pr) ∧ w'.cell? ⟨q, o + 4, none⟩ = some (.int .i64 ln) ∧ w'.cell? ⟨q, o + 5, none⟩ = some (.int .i64 n) ∧ w'.cell? ⟨q, o + 6, none⟩ = some (.int .i64 cl) ∧ w'.cell? ⟨q, o + 7, none⟩ = some (.bool pm)) (by kernel_rfl) (And.intro nr (And.intro k3 (And.intro k4 (And.intro k5 (And.intro k6 k7))))) (fun hHeld => ?_)
      refine wpAnyH_take (i := 0) (v := ?_) rfl (by kernel_rfl) (by kernel_rfl) (by kernel_rfl) (fun _ _ _ h => h) (Or.inl ⟨by rfl, ?_⟩) (by assumption) ?_
      rotate_left
      · (intro w hSw; (try dsimp only at hSw); go_simp; try (with_reducible rfl))
      try simp only [Act.put, List.getElem_toArray, List.getElem_cons_zero, List.getElem_cons_succ, List.setIfInBounds_toArray, List.set_cons_zero, List.set_cons_succ]
      refine wpAnyH_take (i := 1) (v := ?_) rfl (by kernel_rfl) (by kernel_rfl) (by kernel_rfl) (fun _ _ _ h => h) (Or.inl ⟨by rfl, ?_⟩) (by assumption) ?_
      rotate_left
      · (intro w hSw; (try dsimp only at hSw); go_simp; try (with_reducible rfl))
      try simp only [Act.put, List.getElem_toArray, List.getElem_cons_zero, List.getElem_cons_succ, List.setIfInBounds_toArray, List.set_cons_zero, List.set_cons_succ]
      refine wpAnyH_take (i := 2) (v := ?_) rfl (by kernel_rfl) (by kernel_rfl) (by kernel_rfl) (fun _ _ _ h => h) (Or.inl ⟨by rfl, ?_⟩) (by assumption) ?_
      rotate_left
      · (intro w hSw; (try dsimp only at hSw); go_simp; try (with_reducible rfl))
      try simp only [Act.put, List.getElem_toArray, List.getElem_cons_zero, List.getElem_cons_succ, List.setIfInBounds_toArray, List.set_cons_zero, List.set_cons_succ]
      refine wpAnyH_take (i := 3) (v := ?_) rfl (by kernel_rfl) (by kernel_rfl) (by kernel_rfl) (fun _ _ _ h => h) (Or.inl ⟨by rfl, ?_⟩) (by assumption) ?_
      rotate_left
      · (intro w hSw; (try dsimp only at hSw); go_simp; try (with_reducible rfl))
      try simp only [Act.put, List.getElem_toArray, List.getElem_cons_zero, List.getElem_cons_succ, List.setIfInBounds_toArray, List.set_cons_zero, List.set_cons_succ]
      refine wpAnyH_take (i := 4) (v := ?_) rfl (by kernel_rfl) (by kernel_rfl) (by kernel_rfl) (fun _ _ _ h => h) (Or.inl ⟨by rfl, ?_⟩) (by assumption) ?_
      rotate_left
      · (intro w hSw; (try dsimp only at hSw); go_simp; try (with_reducible rfl))
      try simp only [Act.put, List.getElem_toArray, List.getElem_cons_zero, List.getElem_cons_succ, List.setIfInBounds_toArray, List.set_cons_zero, List.set_cons_succ]
      refine wpAnyH_take (i := 5) (v := ?_) rfl (by kernel_rfl) (by kernel_rfl) (by kernel_rfl) (fun _ _ _ h => h) (Or.inl ⟨by rfl, ?_⟩) (by assumption) ?_
      rotate_left
      · (intro w hSw; (try dsimp only at hSw); go_simp; try (with_reducible rfl))
      try simp only [Act.put, List.getElem_toArray, List.getElem_cons_zero, List.getElem_cons_succ, List.setIfInBounds_toArray, List.set_cons_zero, List.set_cons_succ]
      refine wpAnyH_take (i := 6) (v := ?_) rfl (by kernel_rfl) (by kernel_rfl) (by kernel_rfl) (fun _ _ _ h => h) (Or.inl ⟨by rfl, ?_⟩) (by assumption) ?_
      rotate_left
      · (intro w hSw; (try dsimp only at hSw); go_simp; try (with_reducible rfl))
      try simp only [Act.put, List.getElem_toArray, List.getElem_cons_zero, List.getElem_cons_succ, List.setIfInBounds_toArray, List.set_cons_zero, List.set_cons_succ]
      refine wpAnyH_take (i := 7) (v := ?_) rfl (by kernel_rfl) (by kernel_rfl) (by kernel_rfl) (fun _ _ _ h => h) (Or.inl ⟨by rfl, ?_⟩) (by assumption) ?_
      rotate_left
      · (intro w hSw; (try dsimp only at hSw); go_simp; try (with_reducible rfl))
      try simp only [Act.put, List.getElem_toArray, List.getElem_cons_zero, List.getElem_cons_succ, List.setIfInBounds_toArray, List.set_cons_zero, List.set_cons_succ]
      refine wpAnyH_take (i := 8) (v := ?_) rfl (by kernel_rfl) (by kernel_rfl) (by kernel_rfl) (fun _ _ _ h => h) (Or.inl ⟨by rfl, ?_⟩) (by assumption) ?_
      rotate_left
      · (intro w hSw; (try dsimp only at hSw); go_simp; try (with_reducible rfl))
      try simp only [Act.put, List.getElem_toArray, List.getElem_cons_zero, List.getElem_cons_succ, List.setIfInBounds_toArray, List.set_cons_zero, List.set_cons_succ]
      refine wpAnyH_take (i := 9) (v := ?_) rfl (by kernel_rfl) (by kernel_rfl) (by kernel_rfl) (fun _ _ _ h => h) (Or.inl ⟨by rfl, ?_⟩) (by assumption) ?_
      rotate_left
      · (intro w hSw; (try dsimp only at hSw); go_simp; try (with_reducible rfl))
      try simp only [Act.put, List.getElem_toArray, List.getElem_cons_zero, List.getElem_cons_succ, List.setIfInBounds_toArray, List.set_cons_zero, List.set_cons_succ]
      refine wpAnyH_take (i := 10) (v := ?_) rfl (by kernel_rfl) (by kernel_rfl) (by kernel_rfl) (fun _ _ _ h => h) (Or.inl ⟨by rfl, ?_⟩) (by assumption) ?_
      rotate_left
      · (intro w hSw; (try dsimp only at hSw); go_simp; try (with_reducible rfl))
      try simp only [Act.put, List.getElem_toArray, List.getElem_cons_zero, List.getElem_cons_succ, List.setIfInBounds_toArray, List.set_cons_zero, List.set_cons_succ]
      refine wpAnyH_take (i := 11) (v := ?_) rfl (by kernel_rfl) (by kernel_rfl) (by kernel_rfl) (fun _ _ _ h => h) (Or.inl ⟨by rfl, ?_⟩) (by assumption) ?_
      rotate_left
      · (intro w hSw; (try dsimp only at hSw); go_simp; try (with_reducible rfl))
      try simp only [Act.put, List.getElem_toArray, List.getElem_cons_zero, List.getElem_cons_succ, List.setIfInBounds_toArray, List.set_cons_zero, List.set_cons_succ]
      refine wpAnyH_take (i := 12) (v := ?_) rfl (by kernel_rfl) (by kernel_rfl) (by kernel_rfl) (fun _ _ _ h => h) (Or.inl ⟨by rfl, ?_⟩) (by assumption) ?_
      rotate_left
      · (intro w hSw; (try dsimp only at hSw); go_simp; try (with_reducible rfl))
      try simp only [Act.put, List.getElem_toArray, List.getElem_cons_zero, List.getElem_cons_succ, List.setIfInBounds_toArray, List.set_cons_zero, List.set_cons_succ]
      refine wpAnyH_take (i := 13) (v := ?_) rfl (by kernel_rfl) (by kernel_rfl) (by kernel_rfl) (fun _ _ _ h => h) (Or.inl ⟨by rfl, ?_⟩) (by assumption) ?_
      rotate_left
      · (intro w hSw; (try dsimp only at hSw); go_simp; try (with_reducible rfl))
      try simp only [Act.put, List.getElem_toArray, List.getElem_cons_zero, List.getElem_cons_succ, List.setIfInBounds_toArray, List.set_cons_zero, List.set_cons_succ]
      refine wpAnyH_take (i := 14) (v := ?_) rfl (by kernel_rfl) (by kernel_rfl) (by kernel_rfl) (fun _ _ _ h => h) (Or.inl ⟨by rfl, ?_⟩) (by assumption) ?_
      rotate_left
      · (intro w hSw; (try dsimp only at hSw); go_simp; try (with_reducible rfl))
      try simp only [Act.put, List.getElem_toArray, List.getElem_cons_zero, List.getElem_cons_succ, List.setIfInBounds_toArray, List.set_cons_zero, List.set_cons_succ]
      refine wpAnyH_take (i := 15) (v := ?_) rfl (by kernel_rfl) (by kernel_rfl) (by kernel_rfl) (fun _ _ _ h => h) (Or.inl ⟨by rfl, ?_⟩) (by assumption) ?_
      rotate_left
      · (intro w hSw; (try dsimp only at hSw); go_simp; try (with_reducible rfl))
      try simp only [Act.put, List.getElem_toArray, List.getElem_cons_zero, List.getElem_cons_succ, List.setIfInBounds_toArray, List.set_cons_zero, List.set_cons_succ]
      refine wpAnyH_take (i := 16) (v := ?_) rfl (by kernel_rfl) (by kernel_rfl) (by kernel_rfl) (fun _ _ _ h => h) (Or.inl ⟨by rfl, ?_⟩) (by assumption) ?_
      rotate_left
      · (intro w hSw; (try dsimp only at hSw); go_simp; try (with_reducible rfl))
      try simp only [Act.put, List.getElem_toArray, List.getElem_cons_zero, List.getElem_cons_succ, List.setIfInBounds_toArray, List.set_cons_zero, List.set_cons_succ]
      refine wpAnyH_take (i := 17) (v := ?_) rfl (by kernel_rfl) (by kernel_rfl) (by kernel_rfl) (fun _ _ _ h => h) (Or.inl ⟨by rfl, ?_⟩) (by assumption) ?_
      rotate_left
      · (intro w hSw; (try dsimp only at hSw); go_simp; try (with_reducible rfl))
      try simp only [Act.put, List.getElem_toArray, List.getElem_cons_zero, List.getElem_cons_succ, List.setIfInBounds_toArray, List.set_cons_zero, List.set_cons_succ]
      refine wpAnyH_take (i := 18) (v := ?_) rfl (by kernel_rfl) (by kernel_rfl) (by kernel_rfl) (fun _ _ _ h => h) (Or.inl ⟨by rfl, ?_⟩) (by assumption) ?_
      rotate_left
      · (intro w hSw; (try dsimp only at hSw); go_simp; try (with_reducible rfl))
      try simp only [Act.put, List.getElem_toArray, List.getElem_cons_zero, List.getElem_cons_succ, List.setIfInBounds_toArray, List.set_cons_zero, List.set_cons_succ]
      refine wpAnyH_take (i := 19) (v := ?_) rfl (by kernel_rfl) (by kernel_rfl) (by kernel_rfl) (fun _ _ _ h => h) (Or.inl ⟨by rfl, ?_⟩) (by assumption) ?_
      rotate_left
      · (intro w hSw; (try dsimp only at hSw); go_simp; try (with_reducible rfl))
      try simp only [Act.put, List.getElem_toArray, List.getElem_cons_zero, List.getElem_cons_succ, List.setIfInBounds_toArray, List.set_cons_zero, List.set_cons_succ]
      refine wpAnyH_take (i := 20) (v := ?_) rfl (by kernel_rfl) (by kernel_rfl) (by kernel_rfl) (fun _ _ _ h => h) (Or.inl ⟨by rfl, ?_⟩) (by assumption) ?_
      rotate_left
      · (intro w hSw; (try dsimp only at hSw); go_simp; try (with_reducible rfl))
      try simp only [Act.put, List.getElem_toArray, List.getElem_cons_zero, List.getElem_cons_succ, List.setIfInBounds_toArray, List.set_cons_zero, List.set_cons_succ]
      refine wpAnyH_take (i := 21) (v := ?_) rfl (by kernel_rfl) (by kernel_rfl) (by kernel_rfl) (fun _ _ _ h => h) (Or.inl ⟨by rfl, ?_⟩) (by assumption) ?_
      rotate_left
      · (intro w hSw; (try dsimp only at hSw); go_simp; try (with_reducible rfl))
      try simp only [Act.put, List.getElem_toArray, List.getElem_cons_zero, List.getElem_cons_succ, List.setIfInBounds_toArray, List.set_cons_zero, List.set_cons_succ]
      refine wpAnyH_take (i := 22) (v := ?_) rfl (by kernel_rfl) (by kernel_rfl) (by kernel_rfl) (fun _ _ _ h => h) (Or.inl ⟨by rfl, ?_⟩) (by assumption) ?_
      rotate_left
      · (intro w hSw; (try dsimp only at hSw); go_simp; try (with_reducible rfl))
      try simp only [Act.put, List.getElem_toArray, List.getElem_cons_zero, List.getElem_cons_succ, List.setIfInBounds_toArray, List.set_cons_zero, List.set_cons_succ]
      refine wpAnyH_take (i := 23) (v := ?_) rfl (by kernel_rfl) (by kernel_rfl) (by kernel_rfl) (fun _ _ _ h => h) (Or.inl ⟨by rfl, ?_⟩) (by assumption) ?_
      rotate_left
      · (intro w hSw; (try dsimp only at hSw); go_simp; try (with_reducible rfl))
      try simp only [Act.put, List.getElem_toArray, List.getElem_cons_zero, List.getElem_cons_succ, List.setIfInBounds_toArray, List.set_cons_zero, List.set_cons_succ]
      refine wpAnyH_take (i := 24) (v := ?_) rfl (by kernel_rfl) (by kernel_rfl) (by kernel_rfl) (fun _ _ _ h => h) (Or.inl ⟨by rfl, ?_⟩) (by assumption) ?_
      rotate_left
      · (intro w hSw; (try dsimp only at hSw); go_simp; try (with_reducible rfl))
      try simp only [Act.put, List.getElem_toArray, List.getElem_cons_zero, List.getElem_cons_succ, List.setIfInBounds_toArray, List.set_cons_zero, List.set_cons_succ]
      refine wpAnyH_take (i := 25) (v := ?_) rfl (by kernel_rfl) (by kernel_rfl) (by kernel_rfl) (fun _ _ _ h => h) (Or.inl ⟨by rfl, ?_⟩) (by assumption) ?_
      rotate_left
      · (intro w hSw; (try dsimp only at hSw); go_simp; try (with_reducible rfl))
      try simp only [Act.put, List.getElem_toArray, List.getElem_cons_zero, List.getElem_cons_succ, List.setIfInBounds_toArray, List.set_cons_zero, List.set_cons_succ]
      refine wpAnyH_ready (rs := [26]) (by kernel_rfl) (by simp) ?_
      refine (AllReadyH.cons rfl (fun K hK => ?_) AllReadyH.nil)
      · go_simp
        refine hK.out _ _ ?_ (fun hHeld => ?_)
        · first | exact hHeld | (simp [go_sem, nr, k3, k4, k5, k6, k7, hgb, hqg]; done)
        clear hK K
        try simp only [Act.put, List.getElem_toArray, List.getElem_cons_zero, List.getElem_cons_succ, List.setIfInBounds_toArray, List.set_cons_zero, List.set_cons_succ]
        refine wpAnyH_done (by kernel_rfl) ?_ _
        replace HS5 := hide (HS5.out.drewN 1)
        rw [drewN1] at HS5
        clear nr k3 k4 k5 k6 k7 hx0 hx1 hx2 hx3 hf hHeld
        generalize ((((w4.setCell ⟨g, n * 4, none⟩ (.bool pm)).setCell ⟨g, n * 4 + 1, none⟩ (.int .i64 pr)).setCell ⟨g, n * 4 + 2, none⟩ (.int .i64 ln)).setCell ⟨g, n * 4 + 3, none⟩ (.int .i64 cl)).drew = W5 at *
        have HS := HS5
        clear HS5
        have k5 := HS.out.co.c5
        have u0 := HS.out.cu.c0
        have u5 := HS.out.cu.c5
        have uf := HS.out.cu.fr
        simp only [] at k5 u0 u5
        have hqr : ¬ q = r1 := by have := HS.out.q0; have := HS.out.h0; have := HS.out.h1; omega
        go_upto_region 28 with fail
        refine wp_region_held_drew (S := fun w' => w'.cell? ⟨q, o + 5, none⟩ = some (.int .i64 n)) (by kernel_rfl) k5 (fun hHeld => ?_)
        refine wpAnyH_take (i := 0) (v := ?_) rfl (by kernel_rfl) (by kernel_rfl) (by kernel_rfl) (fun _ _ _ h => h) (Or.inl ⟨by rfl, ?_⟩) (by assumption) ?_
        rotate_left
        · (intro w hSw; (try dsimp only at hSw); go_simp; try (with_reducible rfl))
        try simp only [Act.put, List.getElem_toArray, List.getElem_cons_zero, List.getElem_cons_succ, List.setIfInBounds_toArray, List.set_cons_zero, List.set_cons_succ]
        refine wpAnyH_take (i := 1) (v := ?_) rfl (by kernel_rfl) (by kernel_rfl) (by kernel_rfl) (fun _ _ _ h => h) (Or.inl ⟨by rfl, ?_⟩) (by assumption) ?_
        rotate_left
        · (intro w hSw; (try dsimp only at hSw); go_simp; try (with_reducible rfl))
        try simp only [Act.put, List.getElem_toArray, List.getElem_cons_zero, List.getElem_cons_succ, List.setIfInBounds_toArray, List.set_cons_zero, List.set_cons_succ]
        refine wpAnyH_take (i := 2) (v := ?_) rfl (by kernel_rfl) (by kernel_rfl) (by kernel_rfl) (fun _ _ _ h => h) (Or.inl ⟨by rfl, ?_⟩) (by assumption) ?_
        rotate_left
        · (intro w hSw; (try dsimp only at hSw); go_simp; try (with_reducible rfl))
        try simp only [Act.put, List.getElem_toArray, List.getElem_cons_zero, List.getElem_cons_succ, List.setIfInBounds_toArray, List.set_cons_zero, List.set_cons_succ]
        refine wpAnyH_take (i := 3) (v := ?_) rfl (by kernel_rfl) (by kernel_rfl) (by kernel_rfl) (fun _ _ _ h => h) (Or.inl ⟨by rfl, ?_⟩) (by assumption) ?_
        rotate_left
        · (intro w hSw; (try dsimp only at hSw); go_simp; try (with_reducible rfl))
        try simp only [Act.put, List.getElem_toArray, List.getElem_cons_zero, List.getElem_cons_succ, List.setIfInBounds_toArray, List.set_cons_zero, List.set_cons_succ]
        refine wpAnyH_take (i := 4) (v := ?_) rfl (by kernel_rfl) (by kernel_rfl) (by kernel_rfl) (fun _ _ _ h => h) (Or.inl ⟨by rfl, ?_⟩) (by assumption) ?_
        rotate_left
        · (intro w hSw; (try dsimp only at hSw); go_simp; try (with_reducible rfl))
        try simp only [Act.put, List.getElem_toArray, List.getElem_cons_zero, List.getElem_cons_succ, List.setIfInBounds_toArray, List.set_cons_zero, List.set_cons_succ]
        refine wpAnyH_ready (rs := [5]) (by kernel_rfl) (by simp) ?_
        refine (AllReadyH.cons rfl (fun K hK => ?_) AllReadyH.nil)
        · go_simp
          refine hK.out _ _ ?_ (fun hHeld => ?_)
          · first | exact hHeld | (simp [go_sem, k5, hqr]; done)
          clear hK K
          try simp only [Act.put, List.getElem_toArray, List.getElem_cons_zero, List.getElem_cons_succ, List.setIfInBounds_toArray, List.set_cons_zero, List.set_cons_succ]
          refine wpAnyH_take (i := 6) (v := ?_) rfl (by kernel_rfl) (by kernel_rfl) (by kernel_rfl) (fun _ _ _ h => h) (Or.inl ⟨by rfl, ?_⟩) (by assumption) ?_
          rotate_left
          · (intro w hSw; (try dsimp only at hSw); go_simp; try (with_reducible rfl))
          try simp only [Act.put, List.getElem_toArray, List.getElem_cons_zero, List.getElem_cons_succ, List.setIfInBounds_toArray, List.set_cons_zero, List.set_cons_succ]
          refine wpAnyH_ready (rs := [7]) (by kernel_rfl) (by simp) ?_
          refine (AllReadyH.cons rfl (fun K hK => ?_) AllReadyH.nil)
          · go_simp
            refine hK.out _ _ ?_ (fun hHeld => ?_)
            · first | exact hHeld | (simp [go_sem, k5, hqr]; done)
            clear hK K
            try simp only [Act.put, List.getElem_toArray, List.getElem_cons_zero, List.getElem_cons_succ, List.setIfInBounds_toArray, List.set_cons_zero, List.set_cons_succ]
            refine wpAnyH_done (by kernel_rfl) ?_ _
            replace HS := hide ((HS.out.un (((Ex.refl (fun k => k = r1) W5).set (p := r1) (j := 0) rfl (.int .i64 3)).set (p := r1) (j := 5) rfl (.int .i64 n)) ((HS.out.cu.put0 3).put5 n)).drewN 1)
            rw [drewN1] at HS
            clear hHeld hqr uf k5 u0 u5
            generalize ((W5.setCell ⟨r1, 0, none⟩ (.int .i64 3)).setCell ⟨r1, 5, none⟩ (.int .i64 n)).drew = W6 at *
            have u0 := HS.out.cu.c0
            have R0 := HS.out.cr.c0
            have u1 := HS.out.cu.c1
            have R1 := HS.out.cr.c1
            have u2 := HS.out.cu.c2
            have R2 := HS.out.cr.c2
            have u3 := HS.out.cu.c3
            have R3 := HS.out.cr.c3
            have u4 := HS.out.cu.c4
            have R4 := HS.out.cr.c4
            have u5 := HS.out.cu.c5
            have R5 := HS.out.cr.c5
            have u6 := HS.out.cu.c6
            have R6 := HS.out.cr.c6
            have u7 := HS.out.cu.c7
            have R7 := HS.out.cr.c7
            have u8 := HS.out.cu.c8
            have R8 := HS.out.cr.c8
            have uf := HS.out.cu.fr
            have Rf := HS.out.cr.fr
            have h01 := HS.out.h1
            simp only [Chg.zero] at u0 R0 u1 R1 u2 R2 u3 R3 u4 R4 u5 R5 u6 R6 u7 R7 u8 R8
            have HFIN := fun (v : Value) (y0 y1 y2 y3 y4 y5 y6 y7 y8 : Value) => hide (HS.out.fin (v := v) y0 y1 y2 y3 y4 y5 y6 y7 y8)
            go_wp2
            refine bodyPost_ret (v := .tuple #[chgV ⟨3, d, 0, 0, 0, n, 0, false, false⟩, .int .i64 0]) (by simp [results, Try.results61, go_sem, chgV, Chg.vals, R0, R1, R2, R3, R4, R5, R6, R7, R8]) rfl ?_
            rw [HL.out]
            exact (HFIN _ _ _ _ _ _ _ _ _ _).out
  · have hcc2 : ¬ cap = i0 := by omega
    refine wp_region_held_drew (S := fun w' => w'.cell? ⟨q, o + 5, none⟩ = some (.int .i64 i0) ∧ w'.cell? ⟨b, d * 4 + 1, none⟩ = some (.slice (some ⟨g, 0, none⟩) (n + 1) cap)) (by kernel_rfl) (And.intro k5 nr) (fun hHeld => ?_)
    refine wpAnyH_take (i := 0) (v := ?_) rfl (by kernel_rfl) (by kernel_rfl) (by kernel_rfl) (fun _ _ _ h => h) (Or.inl ⟨by rfl, ?_⟩) (by assumption) ?_
    rotate_left
    · (intro w hSw; (try dsimp only at hSw); go_simp; try (with_reducible rfl))
    try simp only [Act.put, List.getElem_toArray, List.getElem_cons_zero, List.getElem_cons_succ, List.setIfInBounds_toArray, List.set_cons_zero, List.set_cons_succ]
    refine wpAnyH_take (i := 1) (v := ?_) rfl (by kernel_rfl) (by kernel_rfl) (by kernel_rfl) (fun _ _ _ h => h) (Or.inl ⟨by rfl, ?_⟩) (by assumption) ?_
    rotate_left
    · (intro w hSw; (try dsimp only at hSw); go_simp; try (with_reducible rfl))
    try simp only [Act.put, List.getElem_toArray, List.getElem_cons_zero, List.getElem_cons_succ, List.setIfInBounds_toArray, List.set_cons_zero, List.set_cons_succ]
    refine wpAnyH_take (i := 2) (v := ?_) rfl (by kernel_rfl) (by kernel_rfl) (by kernel_rfl) (fun _ _ _ h => h) (Or.inl ⟨by rfl, ?_⟩) (by assumption) ?_
    rotate_left
    · (intro w hSw; (try dsimp only at hSw); go_simp; try (with_reducible rfl))
    try simp only [Act.put, List.getElem_toArray, List.getElem_cons_zero, List.getElem_cons_succ, List.setIfInBounds_toArray, List.set_cons_zero, List.set_cons_succ]
    refine wpAnyH_take (i := 3) (v := ?_) rfl (by kernel_rfl) (by kernel_rfl) (by kernel_rfl) (fun _ _ _ h => h) (Or.inl ⟨by rfl, ?_⟩) (by assumption) ?_
    rotate_left
    · (intro w hSw; (try dsimp only at hSw); go_simp; try (with_reducible rfl))
    try simp only [Act.put, List.getElem_toArray, List.getElem_cons_zero, List.getElem_cons_succ, List.setIfInBounds_toArray, List.set_cons_zero, List.set_cons_succ]
    refine wpAnyH_take (i := 4) (v := ?_) rfl (by kernel_rfl) (by kernel_rfl) (by kernel_rfl) (fun _ _ _ h => h) (Or.inl ⟨by rfl, ?_⟩) (by assumption) ?_
    rotate_left
    · (intro w hSw; (try dsimp only at hSw); go_simp; try (with_reducible rfl))
    try simp only [Act.put, List.getElem_toArray, List.getElem_cons_zero, List.getElem_cons_succ, List.setIfInBounds_toArray, List.set_cons_zero, List.set_cons_succ]
    refine wpAnyH_take (i := 5) (v := ?_) rfl (by kernel_rfl) (by kernel_rfl) (by kernel_rfl) (fun _ _ _ h => h) (Or.inl ⟨by rfl, ?_⟩) (by assumption) ?_
    rotate_left
    · (intro w hSw; (try dsimp only at hSw); go_simp; try (with_reducible rfl))
    try simp only [Act.put, List.getElem_toArray, List.getElem_cons_zero, List.getElem_cons_succ, List.setIfInBounds_toArray, List.set_cons_zero, List.set_cons_succ]
    refine wpAnyH_take (i := 6) (v := ?_) rfl (by kernel_rfl) (by kernel_rfl) (by kernel_rfl) (fun _ _ _ h => h) (Or.inl ⟨by rfl, ?_⟩) (by assumption) ?_
    rotate_left
    · (intro w hSw; (try dsimp only at hSw); go_simp; try (with_reducible rfl))
    try simp only [Act.put, List.getElem_toArray, List.getElem_cons_zero, List.getElem_cons_succ, List.setIfInBounds_toArray, List.set_cons_zero, List.set_cons_succ]
    refine wpAnyH_take (i := 7) (v := ?_) rfl (by kernel_rfl) (by kernel_rfl) (by kernel_rfl) (fun _ _ _ h => h) (Or.inl ⟨by rfl, ?_⟩) (by assumption) ?_
    rotate_left
    · (intro w hSw; (try dsimp only at hSw); go_simp; try (with_reducible rfl))
    try simp only [Act.put, List.getElem_toArray, List.getElem_cons_zero, List.getElem_cons_succ, List.setIfInBounds_toArray, List.set_cons_zero, List.set_cons_succ]
    refine wpAnyH_take (i := 8) (v := ?_) rfl (by kernel_rfl) (by kernel_rfl) (by kernel_rfl) (fun _ _ _ h => h) (Or.inl ⟨by rfl, ?_⟩) (by assumption) ?_
    rotate_left
    · (intro w hSw; (try dsimp only at hSw); go_simp; try (with_reducible rfl))
    try simp only [Act.put, List.getElem_toArray, List.getElem_cons_zero, List.getElem_cons_succ, List.setIfInBounds_toArray, List.set_cons_zero, List.set_cons_succ]
    refine wpAnyH_take (i := 9) (v := ?_) rfl (by kernel_rfl) (by kernel_rfl) (by kernel_rfl) (fun _ _ _ h => h) (Or.inl ⟨by rfl, ?_⟩) (by assumption) ?_
    rotate_left
    · (intro w hSw; (try dsimp only at hSw); go_simp; try (with_reducible rfl))
    try simp only [Act.put, List.getElem_toArray, List.getElem_cons_zero, List.getElem_cons_succ, List.setIfInBounds_toArray, List.set_cons_zero, List.set_cons_succ]
    refine wpAnyH_take (i := 10) (v := ?_) rfl (by kernel_rfl) (by kernel_rfl) (by kernel_rfl) (fun _ _ _ h => h) (Or.inl ⟨by rfl, ?_⟩) (by assumption) ?_
    rotate_left
    · (intro w hSw; (try dsimp only at hSw); go_simp; try (with_reducible rfl))
    try simp only [Act.put, List.getElem_toArray, List.getElem_cons_zero, List.getElem_cons_succ, List.setIfInBounds_toArray, List.set_cons_zero, List.set_cons_succ]
    refine wpAnyH_take (i := 11) (v := ?_) rfl (by kernel_rfl) (by kernel_rfl) (by kernel_rfl) (fun _ _ _ h => h) (Or.inl ⟨by rfl, ?_⟩) (by assumption) ?_
    rotate_left
    · (intro w hSw; (try dsimp only at hSw); go_simp; try (with_reducible rfl))
    try simp only [Act.put, List.getElem_toArray, List.getElem_cons_zero, List.getElem_cons_succ, List.setIfInBounds_toArray, List.set_cons_zero, List.set_cons_succ]
    refine wpAnyH_take (i := 12) (v := ?_) rfl (by kernel_rfl) (by kernel_rfl) (by kernel_rfl) (fun _ _ _ h => h) (Or.inl ⟨by rfl, ?_⟩) (by assumption) ?_
    rotate_left
    · (intro w hSw; (try dsimp only at hSw); go_simp; try (with_reducible rfl))
    try simp only [Act.put, List.getElem_toArray, List.getElem_cons_zero, List.getElem_cons_succ, List.setIfInBounds_toArray, List.set_cons_zero, List.set_cons_succ]
    refine wpAnyH_take (i := 13) (v := ?_) rfl (by kernel_rfl) (by kernel_rfl) (by kernel_rfl) (fun _ _ _ h => h) (Or.inl ⟨by rfl, ?_⟩) (by assumption) ?_
    rotate_left
    · (intro w hSw; (try dsimp only at hSw); go_simp; try (with_reducible rfl))
    try simp only [Act.put, List.getElem_toArray, List.getElem_cons_zero, List.getElem_cons_succ, List.setIfInBounds_toArray, List.set_cons_zero, List.set_cons_succ]
    refine wpAnyH_take (i := 14) (v := ?_) rfl (by kernel_rfl) (by kernel_rfl) (by kernel_rfl) (fun _ _ _ h => h) (Or.inl ⟨by rfl, ?_⟩) (by assumption) ?_
    rotate_left
    · (intro w hSw; (try dsimp only at hSw); go_simp; try (with_reducible rfl))
    try simp only [Act.put, List.getElem_toArray, List.getElem_cons_zero, List.getElem_cons_succ, List.setIfInBounds_toArray, List.set_cons_zero, List.set_cons_succ]
    refine wpAnyH_take (i := 15) (v := ?_) rfl (by kernel_rfl) (by kernel_rfl) (by kernel_rfl) (fun _ _ _ h => h) (Or.inl ⟨by rfl, ?_⟩) (by assumption) ?_
    rotate_left
    · (intro w hSw; (try dsimp only at hSw); go_simp; try (with_reducible rfl))
    try simp only [Act.put, List.getElem_toArray, List.getElem_cons_zero, List.getElem_cons_succ, List.setIfInBounds_toArray, List.set_cons_zero, List.set_cons_succ]
    refine wpAnyH_take (i := 16) (v := ?_) rfl (by kernel_rfl) (by kernel_rfl) (by kernel_rfl) (fun _ _ _ h => h) (Or.inl ⟨by rfl, ?_⟩) (by assumption) ?_
    rotate_left
    · (intro w hSw; (try dsimp only at hSw); go_simp; try (with_reducible rfl))
    try simp only [Act.put, List.getElem_toArray, List.getElem_cons_zero, List.getElem_cons_succ, List.setIfInBounds_toArray, List.set_cons_zero, List.set_cons_succ]
    refine wpAnyH_take (i := 17) (v := ?_) rfl (by kernel_rfl) (by kernel_rfl) (by kernel_rfl) (fun _ _ _ h => h) (Or.inl ⟨by rfl, ?_⟩) (by assumption) ?_
    rotate_left
    · (intro w hSw; (try dsimp only at hSw); go_simp; try (with_reducible rfl))
    try simp only [Act.put, List.getElem_toArray, List.getElem_cons_zero, List.getElem_cons_succ, List.setIfInBounds_toArray, List.set_cons_zero, List.set_cons_succ]
    refine wpAnyH_take (i := 18) (v := ?_) rfl (by kernel_rfl) (by kernel_rfl) (by kernel_rfl) (fun _ _ _ h => h) (Or.inl ⟨by rfl, ?_⟩) (by assumption) ?_
    rotate_left
    · (intro w hSw; (try dsimp only at hSw); go_simp; try (with_reducible rfl))
    try simp only [Act.put, List.getElem_toArray, List.getElem_cons_zero, List.getElem_cons_succ, List.setIfInBounds_toArray, List.set_cons_zero, List.set_cons_succ]
    refine wpAnyH_ready (rs := [19]) (by kernel_rfl) (by simp) ?_
    refine (AllReadyH.cons rfl (fun K hK => ?_) AllReadyH.nil)
    · refine step_copy_shift rfl (.tmp 196) (.tmp 205) 29 29 rfl 81 4 Try.underlying29 Try.siz81 (b + 1) g n cap i0 (flatA (L ++ [(⟨false, 0, 0, 0⟩ : Rl)])) HOd.out hi0 _ _ _ _ _ rfl (by omega) (fun h => by first | rfl | omega) rfl (by omega) (rl_one _) ?_
      intro w4 hown hex
      have HOW4 := hide hown
      have HEX := hide hex
      clear hown hex
      refine hK.out _ _ ?_ (fun hHeld => ?_)
      · first | exact hHeld | exact ⟨HEX.out.cell hqg hHeld.1, HEX.out.cell hgb hHeld.2⟩
      clear hK K
      try simp only [Act.put, List.getElem_toArray, List.getElem_cons_zero, List.getElem_cons_succ, List.setIfInBounds_toArray, List.set_cons_zero, List.set_cons_succ]
      refine wpAnyH_done (by kernel_rfl) ?_ _
      have HML : Hid (((L ++ [(⟨false, 0, 0, 0⟩ : Rl)]).take (i0 + 1) ++ ((L ++ [(⟨false, 0, 0, 0⟩ : Rl)]).drop i0).take (n - i0)).length = n + 1) := by
        have hl : (L ++ [(⟨false, 0, 0, 0⟩ : Rl)]).length = n + 1 := by rw [List.length_append, HNL.out]; rfl
        show _ = _
        rw [List.length_append, List.length_take, List.length_take, List.length_drop, hl]
        omega
      have HS4 : Hid (ST w w4 q o b r0 r1 vr va ⟨2, d, hp, pr, ln, i0, cl, pm, up⟩ (upd N d { N d with ac := (L ++ [(⟨false, 0, 0, 0⟩ : Rl)]).take (i0 + 1) ++ ((L ++ [(⟨false, 0, 0, 0⟩ : Rl)]).drop i0).take (n - i0) }) vr (upd va d (.slice (some ⟨g, 0, none⟩) (n + 1) cap)) ⟨0, d, 0, 0, 0, 0, 0, false, false⟩) := by
        have h := (HS3.out.drewN 1).rowA (w' := w4) hd (L := (L ++ [(⟨false, 0, 0, 0⟩ : Rl)]).take (i0 + 1) ++ ((L ++ [(⟨false, 0, 0, 0⟩ : Rl)]).drop i0).take (n - i0)) (HEX.out.mono (fun k hk => by rw [hk, upd_same]; rfl)) (by
          rw [upd_same, HML.out, flatA, ← fm_shift Rl.vals 4 rl_len]
          exact HOW4.out)
        rwa [upd_same, upd_upd] at h
      have HO4 := HOW4
      rw [flatA, fm_shift Rl.vals 4 rl_len] at HO4
      obtain ⟨M, hM⟩ : ∃ M, (L ++ [(⟨false, 0, 0, 0⟩ : Rl)]).take (i0 + 1) ++ ((L ++ [(⟨false, 0, 0, 0⟩ : Rl)]).drop i0).take (n - i0) = M := ⟨_, rfl⟩
      rw [hM] at HS4 HO4 HML
      have HMI : Hid (M.set i0 ⟨pm, pr, ln, cl⟩ = L.take i0 ++ ⟨pm, pr, ln, cl⟩ :: L.drop i0) := by
        have := ins_eq L ⟨false, 0, 0, 0⟩ ⟨pm, pr, ln, cl⟩ i0 (by rw [HNL.out]; omega)
        rw [HNL.out, hM] at this
        exact this
      clear hM
      clear HS3 HO HOd HOW4 HEX nr hHeld k5 hqg
      obtain ⟨y, hy⟩ : ∃ y, M[i0]? = some y := ⟨_, List.getElem?_eq_getElem (by rw [HML.out]; omega)⟩
      have hx0 := HO4.out.cellAt (i0 * 4) (by omega)
      have hx1 := HO4.out.cellAt (i0 * 4 + 1) (by omega)
      have hx2 := HO4.out.cellAt (i0 * 4 + 2) (by omega)
      have hx3 := HO4.out.cellAt (i0 * 4 + 3) (by omega)
      have f0 := flat_at Rl.vals 4 rl_len M i0 y hy 0 (by omega)
      have f1 := flat_at Rl.vals 4 rl_len M i0 y hy 1 (by omega)
      have f2 := flat_at Rl.vals 4 rl_len M i0 y hy 2 (by omega)
      have f3 := flat_at Rl.vals 4 rl_len M i0 y hy 3 (by omega)
      rw [Nat.add_zero] at f0
      rw [f0] at hx0
      rw [f1] at hx1
      rw [f2] at hx2
      rw [f3] at hx3
      obtain ⟨y0, y1, y2, y3⟩ := y
      simp only [Rl.vals, List.getElem?_cons_zero, List.getElem?_cons_succ] at hx0 hx1 hx2 hx3
      clear f0 f1 f2 f3
      have hf := HO4.out.frozenAt
      have HS5 : Hid (ST w ((((w4.setCell ⟨g, i0 * 4, none⟩ (.bool pm)).setCell ⟨g, i0 * 4 + 1, none⟩ (.int .i64 pr)).setCell ⟨g, i0 * 4 + 2, none⟩ (.int .i64 ln)).setCell ⟨g, i0 * 4 + 3, none⟩ (.int .i64 cl)) q o b r0 r1 vr va ⟨2, d, hp, pr, ln, i0, cl, pm, up⟩ (upd N d { N d with ac := L.take i0 ++ ⟨pm, pr, ln, cl⟩ :: L.drop i0 }) vr (upd va d (.slice (some ⟨g, 0, none⟩) (n + 1) cap)) ⟨0, d, 0, 0, 0, 0, 0, false, false⟩) := by
        have hst := ((((HO4.out.stored (i0 * 4) (.bool pm)).1.stored (i0 * 4 + 1) (.int .i64 pr)).1.stored (i0 * 4 + 2) (.int .i64 ln)).1.stored (i0 * 4 + 3) (.int .i64 cl)).1
        have hfs := flatA_set M i0 _ hy pm pr ln cl
        unfold flatA at hfs
        rw [hfs] at hst
        have h := HS4.out.rowA hd (L := M.set i0 ⟨pm, pr, ln, cl⟩) (w' := (((w4.setCell ⟨g, i0 * 4, none⟩ (.bool pm)).setCell ⟨g, i0 * 4 + 1, none⟩ (.int .i64 pr)).setCell ⟨g, i0 * 4 + 2, none⟩ (.int .i64 ln)).setCell ⟨g, i0 * 4 + 3, none⟩ (.int .i64 cl)) ((((((Ex.refl (fun k => k = g) w4).set (p := g) rfl _).set (p := g) rfl _).set (p := g) rfl _).set (p := g) rfl _).mono (fun k hk => by rw [hk, upd_same]; rfl)) (by
          rw [upd_same, List.length_set, HML.out]
          exact hst)
        rw [upd_same, upd_upd, HMI.out] at h
        exact h
      clear HMI HML hy
      have nr := HS4.out.na.a d hd
      rw [upd_same] at nr
      have k3 := HS4.out.co.c3
      have k4 := HS4.out.co.c4
      have k5 := HS4.out.co.c5
      have k6 := HS4.out.co.c6
      have k7 := HS4.out.co.c7
      simp only [] at k3 k4 k5 k6 k7
      have hqg : ¬ q = g := fun e => HS4.out.nf.1 (.inr ⟨d, hd, .inr (by rw [upd_same, e]; rfl)⟩)
      have hii : (i0 : Int) < (n : Int) + 1 := by omega
      clear HS4 HO4
      go_upto_region 27 with fail
      refine wp_region_held_drew (S := fun w' => w'.cell? ⟨b, d * 4 + 1, none⟩ = some (.slice (some ⟨g, 0, none⟩) (n + 1) cap) ∧ w'.cell? ⟨q, o + 3, none⟩ = some (.int .i64 pr) ∧ w'.cell? ⟨q, o + 4, none⟩ = some (.int .i64 ln) ∧ w'.cell? ⟨q, o + 5, none⟩ = some (.int .i64 i0) ∧ w'.cell? ⟨q, o + 6, none⟩ = some (.int .i64 cl) ∧ w'.cell? ⟨q, o + 7, none⟩ = some (.bool pm)) (by kernel_rfl) (And.intro nr (And.intro k3 (And.intro k4 (And.intro k5 (And.intro k6 k7))))) (fun hHeld => ?_)
      refine wpAnyH_take (i := 0) (v := ?_) rfl (by kernel_rfl) (by kernel_rfl) (by kernel_rfl) (fun _ _ _ h => h) (Or.inl ⟨by rfl, ?_⟩) (by assumption) ?_
      rotate_left
      · (intro w hSw; (try dsimp only at hSw); go_simp; try (with_reducible rfl))
      try simp only [Act.put, List.getElem_toArray, List.getElem_cons_zero, List.getElem_cons_succ, List.setIfInBounds_toArray, List.set_cons_zero, List.set_cons_succ]
      refine wpAnyH_take (i := 1) (v := ?_) rfl (by kernel_rfl) (by kernel_rfl) (by kernel_rfl) (fun _ _ _ h => h) (Or.inl ⟨by rfl, ?_⟩) (by assumption) ?_
      rotate_left
      · (intro w hSw; (try dsimp only at hSw); go_simp; try (with_reducible rfl))
      try simp only [Act.put, List.getElem_toArray, List.getElem_cons_zero, List.getElem_cons_succ, List.setIfInBounds_toArray, List.set_cons_zero, List.set_cons_succ]
      refine wpAnyH_take (i := 2) (v := ?_) rfl (by kernel_rfl) (by kernel_rfl) (by kernel_rfl) (fun _ _ _ h => h) (Or.inl ⟨by rfl, ?_⟩) (by assumption) ?_
      rotate_left
      · (intro w hSw; (try dsimp only at hSw); go_simp; try (with_reducible rfl))
      try simp only [Act.put, List.getElem_toArray, List.getElem_cons_zero, List.getElem_cons_succ, List.setIfInBounds_toArray, List.set_cons_zero, List.set_cons_succ]
      refine wpAnyH_take (i := 3) (v := ?_) rfl (by kernel_rfl) (by kernel_rfl) (by kernel_rfl) (fun _ _ _ h => h) (Or.inl ⟨by rfl, ?_⟩) (by assumption) ?_
      rotate_left
      · (intro w hSw; (try dsimp only at hSw); go_simp; try (with_reducible rfl))
      try simp only [Act.put, List.getElem_toArray, List.getElem_cons_zero, List.getElem_cons_succ, List.setIfInBounds_toArray, List.set_cons_zero, List.set_cons_succ]
      refine wpAnyH_take (i := 4) (v := ?_) rfl (by kernel_rfl) (by kernel_rfl) (by kernel_rfl) (fun _ _ _ h => h) (Or.inl ⟨by rfl, ?_⟩) (by assumption) ?_
      rotate_left
      · (intro w hSw; (try dsimp only at hSw); go_simp; try (with_reducible rfl))
      try simp only [Act.put, List.getElem_toArray, List.getElem_cons_zero, List.getElem_cons_succ, List.setIfInBounds_toArray, List.set_cons_zero, List.set_cons_succ]
      refine wpAnyH_take (i := 5) (v := ?_) rfl (by kernel_rfl) (by kernel_rfl) (by kernel_rfl) (fun _ _ _ h => h) (Or.inl ⟨by rfl, ?_⟩) (by assumption) ?_
      rotate_left
      · (intro w hSw; (try dsimp only at hSw); go_simp; try (with_reducible rfl))
      try simp only [Act.put, List.getElem_toArray, List.getElem_cons_zero, List.getElem_cons_succ, List.setIfInBounds_toArray, List.set_cons_zero, List.set_cons_succ]
      refine wpAnyH_take (i := 6) (v := ?_) rfl (by kernel_rfl) (by kernel_rfl) (by kernel_rfl) (fun _ _ _ h => h) (Or.inl ⟨by rfl, ?_⟩) (by assumption) ?_
      rotate_left
      · (intro w hSw; (try dsimp only at hSw); go_simp; try (with_reducible rfl))
      try simp only [Act.put, List.getElem_toArray, List.getElem_cons_zero, List.getElem_cons_succ, List.setIfInBounds_toArray, List.set_cons_zero, List.set_cons_succ]
      refine wpAnyH_take (i := 7) (v := ?_) rfl (by kernel_rfl) (by kernel_rfl) (by kernel_rfl) (fun _ _ _ h => h) (Or.inl ⟨by rfl, ?_⟩) (by assumption) ?_
      rotate_left
      · (intro w hSw; (try dsimp only at hSw); go_simp; try (with_reducible rfl))
      try simp only [Act.put, List.getElem_toArray, List.getElem_cons_zero, List.getElem_cons_succ, List.setIfInBounds_toArray, List.set_cons_zero, List.set_cons_succ]
      refine wpAnyH_take (i := 8) (v := ?_) rfl (by kernel_rfl) (by kernel_rfl) (by kernel_rfl) (fun _ _ _ h => h) (Or.inl ⟨by rfl, ?_⟩) (by assumption) ?_
      rotate_left
      · (intro w hSw; (try dsimp only at hSw); go_simp; try (with_reducible rfl))
      try simp only [Act.put, List.getElem_toArray, List.getElem_cons_zero, List.getElem_cons_succ, List.setIfInBounds_toArray, List.set_cons_zero, List.set_cons_succ]
      refine wpAnyH_take (i := 9) (v := ?_) rfl (by kernel_rfl) (by kernel_rfl) (by kernel_rfl) (fun _ _ _ h => h) (Or.inl ⟨by rfl, ?_⟩) (by assumption) ?_
      rotate_left
      · (intro w hSw; (try dsimp only at hSw); go_simp; try (with_reducible rfl))
      try simp only [Act.put, List.getElem_toArray, List.getElem_cons_zero, List.getElem_cons_succ, List.setIfInBounds_toArray, List.set_cons_zero, List.set_cons_succ]
      refine wpAnyH_take (i := 10) (v := ?_) rfl (by kernel_rfl) (by kernel_rfl) (by kernel_rfl) (fun _ _ _ h => h) (Or.inl ⟨by rfl, ?_⟩) (by assumption) ?_
      rotate_left
      · (intro w hSw; (try dsimp only at hSw); go_simp; try (with_reducible rfl))
      try simp only [Act.put, List.getElem_toArray, List.getElem_cons_zero, List.getElem_cons_succ, List.setIfInBounds_toArray, List.set_cons_zero, List.set_cons_succ]
      refine wpAnyH_take (i := 11) (v := ?_) rfl (by kernel_rfl) (by kernel_rfl) (by kernel_rfl) (fun _ _ _ h => h) (Or.inl ⟨by rfl, ?_⟩) (by assumption) ?_
      rotate_left
      · (intro w hSw; (try dsimp only at hSw); go_simp; try (with_reducible rfl))
      try simp only [Act.put, List.getElem_toArray, List.getElem_cons_zero, List.getElem_cons_succ, List.setIfInBounds_toArray, List.set_cons_zero, List.set_cons_succ]
      refine wpAnyH_take (i := 12) (v := ?_) rfl (by kernel_rfl) (by kernel_rfl) (by kernel_rfl) (fun _ _ _ h => h) (Or.inl ⟨by rfl, ?_⟩) (by assumption) ?_
      rotate_left
      · (intro w hSw; (try dsimp only at hSw); go_simp; try (with_reducible rfl))
      try simp only [Act.put, List.getElem_toArray, List.getElem_cons_zero, List.getElem_cons_succ, List.setIfInBounds_toArray, List.set_cons_zero, List.set_cons_succ]
      refine wpAnyH_take (i := 13) (v := ?_) rfl (by kernel_rfl) (by kernel_rfl) (by kernel_rfl) (fun _ _ _ h => h) (Or.inl ⟨by rfl, ?_⟩) (by assumption) ?_
      rotate_left
      · (intro w hSw; (try dsimp only at hSw); go_simp; try (with_reducible rfl))
      try simp only [Act.put, List.getElem_toArray, List.getElem_cons_zero, List.getElem_cons_succ, List.setIfInBounds_toArray, List.set_cons_zero, List.set_cons_succ]
      refine wpAnyH_take (i := 14) (v := ?_) rfl (by kernel_rfl) (by kernel_rfl) (by kernel_rfl) (fun _ _ _ h => h) (Or.inl ⟨by rfl, ?_⟩) (by assumption) ?_
      rotate_left
      · (intro w hSw; (try dsimp only at hSw); go_simp; try (with_reducible rfl))
      try simp only [Act.put, List.getElem_toArray, List.getElem_cons_zero, List.getElem_cons_succ, List.setIfInBounds_toArray, List.set_cons_zero, List.set_cons_succ]
      refine wpAnyH_take (i := 15) (v := ?_) rfl (by kernel_rfl) (by kernel_rfl) (by kernel_rfl) (fun _ _ _ h => h) (Or.inl ⟨by rfl, ?_⟩) (by assumption) ?_
      rotate_left
      · (intro w hSw; (try dsimp only at hSw); go_simp; try (with_reducible rfl))
      try simp only [Act.put, List.getElem_toArray, List.getElem_cons_zero, List.getElem_cons_succ, List.setIfInBounds_toArray, List.set_cons_zero, List.set_cons_succ]
      refine wpAnyH_take (i := 16) (v := ?_) rfl (by kernel_rfl) (by kernel_rfl) (by kernel_rfl) (fun _ _ _ h => h) (Or.inl ⟨by rfl, ?_⟩) (by assumption) ?_
      rotate_left
      · (intro w hSw; (try dsimp only at hSw); go_simp; try (with_reducible rfl))
      try simp only [Act.put, List.getElem_toArray, List.getElem_cons_zero, List.getElem_cons_succ, List.setIfInBounds_toArray, List.set_cons_zero, List.set_cons_succ]
      refine wpAnyH_take (i := 17) (v := ?_) rfl (by kernel_rfl) (by kernel_rfl) (by kernel_rfl) (fun _ _ _ h => h) (Or.inl ⟨by rfl, ?_⟩) (by assumption) ?_
      rotate_left
      · (intro w hSw; (try dsimp only at hSw); go_simp; try (with_reducible rfl))
      try simp only [Act.put, List.getElem_toArray, List.getElem_cons_zero, List.getElem_cons_succ, List.setIfInBounds_toArray, List.set_cons_zero, List.set_cons_succ]
      refine wpAnyH_take (i := 18) (v := ?_) rfl (by kernel_rfl) (by kernel_rfl) (by kernel_rfl) (fun _ _ _ h => h) (Or.inl ⟨by rfl, ?_⟩) (by assumption) ?_
      rotate_left
      · (intro w hSw; (try dsimp only at hSw); go_simp; try (with_reducible rfl))
      try simp only [Act.put, List.getElem_toArray, List.getElem_cons_zero, List.getElem_cons_succ, List.setIfInBounds_toArray, List.set_cons_zero, List.set_cons_succ]
      refine wpAnyH_take (i := 19) (v := ?_) rfl (by kernel_rfl) (by kernel_rfl) (by kernel_rfl) (fun _ _ _ h => h) (Or.inl ⟨by rfl, ?_⟩) (by assumption) ?_
      rotate_left
      · (intro w hSw; (try dsimp only at hSw); go_simp; try (with_reducible rfl))
      try simp only [Act.put, List.getElem_toArray, List.getElem_cons_zero, List.getElem_cons_succ, List.setIfInBounds_toArray, List.set_cons_zero, List.set_cons_succ]
      refine wpAnyH_take (i := 20) (v := ?_) rfl (by kernel_rfl) (by kernel_rfl) (by kernel_rfl) (fun _ _ _ h => h) (Or.inl ⟨by rfl, ?_⟩) (by assumption) ?_
      rotate_left
      · (intro w hSw; (try dsimp only at hSw); go_simp; try (with_reducible rfl))
      try simp only [Act.put, List.getElem_toArray, List.getElem_cons_zero, List.getElem_cons_succ, List.setIfInBounds_toArray, List.set_cons_zero, List.set_cons_succ]
      refine wpAnyH_take (i := 21) (v := ?_) rfl (by kernel_rfl) (by kernel_rfl) (by kernel_rfl) (fun _ _ _ h => h) (Or.inl ⟨by rfl, ?_⟩) (by assumption) ?_
      rotate_left
      · (intro w hSw; (try dsimp only at hSw); go_simp; try (with_reducible rfl))
      try simp only [Act.put, List.getElem_toArray, List.getElem_cons_zero, List.getElem_cons_succ, List.setIfInBounds_toArray, List.set_cons_zero, List.set_cons_succ]
      refine wpAnyH_take (i := 22) (v := ?_) rfl (by kernel_rfl) (by kernel_rfl) (by kernel_rfl) (fun _ _ _ h => h) (Or.inl ⟨by rfl, ?_⟩) (by assumption) ?_
      rotate_left
      · (intro w hSw; (try dsimp only at hSw); go_simp; try (with_reducible rfl))
      try simp only [Act.put, List.getElem_toArray, List.getElem_cons_zero, List.getElem_cons_succ, List.setIfInBounds_toArray, List.set_cons_zero, List.set_cons_succ]
      refine wpAnyH_take (i := 23) (v := ?_) rfl (by kernel_rfl) (by kernel_rfl) (by kernel_rfl) (fun _ _ _ h => h) (Or.inl ⟨by rfl, ?_⟩) (by assumption) ?_
      rotate_left
      · (intro w hSw; (try dsimp only at hSw); go_simp; try (with_reducible rfl))
      try simp only [Act.put, List.getElem_toArray, List.getElem_cons_zero, List.getElem_cons_succ, List.setIfInBounds_toArray, List.set_cons_zero, List.set_cons_succ]
      refine wpAnyH_take (i := 24) (v := ?_) rfl (by kernel_rfl) (by kernel_rfl) (by kernel_rfl) (fun _ _ _ h => h) (Or.inl ⟨by rfl, ?_⟩) (by assumption) ?_
      rotate_left
      · (intro w hSw; (try dsimp only at hSw); go_simp; try (with_reducible rfl))
      try simp only [Act.put, List.getElem_toArray, List.getElem_cons_zero, List.getElem_cons_succ, List.setIfInBounds_toArray, List.set_cons_zero, List.set_cons_succ]
      refine wpAnyH_take (i := 25) (v := ?_) rfl (by kernel_rfl) (by kernel_rfl) (by kernel_rfl) (fun _ _ _ h => h) (Or.inl ⟨by rfl, ?_⟩) (by assumption) ?_
      rotate_left
      · (intro w hSw; (try dsimp only at hSw); go_simp; try (with_reducible rfl))
      try simp only [Act.put, List.getElem_toArray, List.getElem_cons_zero, List.getElem_cons_succ, List.setIfInBounds_toArray, List.set_cons_zero, List.set_cons_succ]
      refine wpAnyH_ready (rs := [26]) (by kernel_rfl) (by simp) ?_
      refine (AllReadyH.cons rfl (fun K hK => ?_) AllReadyH.nil)
      · go_simp
        refine hK.out _ _ ?_ (fun hHeld => ?_)
        · first | exact hHeld | (simp [go_sem, nr, k3, k4, k5, k6, k7, hgb, hqg]; done)
        clear hK K
        try simp only [Act.put, List.getElem_toArray, List.getElem_cons_zero, List.getElem_cons_succ, List.setIfInBounds_toArray, List.set_cons_zero, List.set_cons_succ]
        refine wpAnyH_done (by kernel_rfl) ?_ _
        replace HS5 := hide (HS5.out.drewN 1)
        rw [drewN1] at HS5
        clear nr k3 k4 k5 k6 k7 hx0 hx1 hx2 hx3 hf hHeld
        generalize ((((w4.setCell ⟨g, i0 * 4, none⟩ (.bool pm)).setCell ⟨g, i0 * 4 + 1, none⟩ (.int .i64 pr)).setCell ⟨g, i0 * 4 + 2, none⟩ (.int .i64 ln)).setCell ⟨g, i0 * 4 + 3, none⟩ (.int .i64 cl)).drew = W5 at *
        have HS := HS5
        clear HS5
        have k5 := HS.out.co.c5
        have u0 := HS.out.cu.c0
        have u5 := HS.out.cu.c5
        have uf := HS.out.cu.fr
        simp only [] at k5 u0 u5
        have hqr : ¬ q = r1 := by have := HS.out.q0; have := HS.out.h0; have := HS.out.h1; omega
        go_upto_region 28 with fail
        refine wp_region_held_drew (S := fun w' => w'.cell? ⟨q, o + 5, none⟩ = some (.int .i64 i0)) (by kernel_rfl) k5 (fun hHeld => ?_)
        refine wpAnyH_take (i := 0) (v := ?_) rfl (by kernel_rfl) (by kernel_rfl) (by kernel_rfl) (fun _ _ _ h => h) (Or.inl ⟨by rfl, ?_⟩) (by assumption) ?_
        rotate_left
        · (intro w hSw; (try dsimp only at hSw); go_simp; try (with_reducible rfl))
        try simp only [Act.put, List.getElem_toArray, List.getElem_cons_zero, List.getElem_cons_succ, List.setIfInBounds_toArray, List.set_cons_zero, List.set_cons_succ]
        refine wpAnyH_take (i := 1) (v := ?_) rfl (by kernel_rfl) (by kernel_rfl) (by kernel_rfl) (fun _ _ _ h => h) (Or.inl ⟨by rfl, ?_⟩) (by assumption) ?_
        rotate_left
        · (intro w hSw; (try dsimp only at hSw); go_simp; try (with_reducible rfl))
        try simp only [Act.put, List.getElem_toArray, List.getElem_cons_zero, List.getElem_cons_succ, List.setIfInBounds_toArray, List.set_cons_zero, List.set_cons_succ]
        refine wpAnyH_take (i := 2) (v := ?_) rfl (by kernel_rfl) (by kernel_rfl) (by kernel_rfl) (fun _ _ _ h => h) (Or.inl ⟨by rfl, ?_⟩) (by assumption) ?_
        rotate_left
        · (intro w hSw; (try dsimp only at hSw); go_simp; try (with_reducible rfl))
        try simp only [Act.put, List.getElem_toArray, List.getElem_cons_zero, List.getElem_cons_succ, List.setIfInBounds_toArray, List.set_cons_zero, List.set_cons_succ]
        refine wpAnyH_take (i := 3) (v := ?_) rfl (by kernel_rfl) (by kernel_rfl) (by kernel_rfl) (fun _ _ _ h => h) (Or.inl ⟨by rfl, ?_⟩) (by assumption) ?_
        rotate_left
        · (intro w hSw; (try dsimp only at hSw); go_simp; try (with_reducible rfl))
        try simp only [Act.put, List.getElem_toArray, List.getElem_cons_zero, List.getElem_cons_succ, List.setIfInBounds_toArray, List.set_cons_zero, List.set_cons_succ]
        refine wpAnyH_take (i := 4) (v := ?_) rfl (by kernel_rfl) (by kernel_rfl) (by kernel_rfl) (fun _ _ _ h => h) (Or.inl ⟨by rfl, ?_⟩) (by assumption) ?_
        rotate_left
        · (intro w hSw; (try dsimp only at hSw); go_simp; try (with_reducible rfl))
        try simp only [Act.put, List.getElem_toArray, List.getElem_cons_zero, List.getElem_cons_succ, List.setIfInBounds_toArray, List.set_cons_zero, List.set_cons_succ]
        refine wpAnyH_ready (rs := [5]) (by kernel_rfl) (by simp) ?_
        refine (AllReadyH.cons rfl (fun K hK => ?_) AllReadyH.nil)
        · go_simp
          refine hK.out _ _ ?_ (fun hHeld => ?_)
          · first | exact hHeld | (simp [go_sem, k5, hqr]; done)
          clear hK K
          try simp only [Act.put, List.getElem_toArray, List.getElem_cons_zero, List.getElem_cons_succ, List.setIfInBounds_toArray, List.set_cons_zero, List.set_cons_succ]
          refine wpAnyH_take (i := 6) (v := ?_) rfl (by kernel_rfl) (by kernel_rfl) (by kernel_rfl) (fun _ _ _ h => h) (Or.inl ⟨by rfl, ?_⟩) (by assumption) ?_
          rotate_left
          · (intro w hSw; (try dsimp only at hSw); go_simp; try (with_reducible rfl))
          try simp only [Act.put, List.getElem_toArray, List.getElem_cons_zero, List.getElem_cons_succ, List.setIfInBounds_toArray, List.set_cons_zero, List.set_cons_succ]
          refine wpAnyH_ready (rs := [7]) (by kernel_rfl) (by simp) ?_
          refine (AllReadyH.cons rfl (fun K hK => ?_) AllReadyH.nil)
          · go_simp
            refine hK.out _ _ ?_ (fun hHeld => ?_)
            · first | exact hHeld | (simp [go_sem, k5, hqr]; done)
            clear hK K
            try simp only [Act.put, List.getElem_toArray, List.getElem_cons_zero, List.getElem_cons_succ, List.setIfInBounds_toArray, List.set_cons_zero, List.set_cons_succ]
            refine wpAnyH_done (by kernel_rfl) ?_ _
            replace HS := hide ((HS.out.un (((Ex.refl (fun k => k = r1) W5).set (p := r1) (j := 0) rfl (.int .i64 3)).set (p := r1) (j := 5) rfl (.int .i64 i0)) ((HS.out.cu.put0 3).put5 i0)).drewN 1)
            rw [drewN1] at HS
            clear hHeld hqr uf k5 u0 u5
            generalize ((W5.setCell ⟨r1, 0, none⟩ (.int .i64 3)).setCell ⟨r1, 5, none⟩ (.int .i64 i0)).drew = W6 at *
            have u0 := HS.out.cu.c0
            have R0 := HS.out.cr.c0
            have u1 := HS.out.cu.c1
            have R1 := HS.out.cr.c1
            have u2 := HS.out.cu.c2
            have R2 := HS.out.cr.c2
            have u3 := HS.out.cu.c3
            have R3 := HS.out.cr.c3
            have u4 := HS.out.cu.c4
            have R4 := HS.out.cr.c4
            have u5 := HS.out.cu.c5
            have R5 := HS.out.cr.c5
            have u6 := HS.out.cu.c6
            have R6 := HS.out.cr.c6
            have u7 := HS.out.cu.c7
            have R7 := HS.out.cr.c7
            have u8 := HS.out.cu.c8
            have R8 := HS.out.cr.c8
            have uf := HS.out.cu.fr
            have Rf := HS.out.cr.fr
            have h01 := HS.out.h1
            simp only [Chg.zero] at u0 R0 u1 R1 u2 R2 u3 R3 u4 R4 u5 R5 u6 R6 u7 R7 u8 R8
            have HFIN := fun (v : Value) (y0 y1 y2 y3 y4 y5 y6 y7 y8 : Value) => hide (HS.out.fin (v := v) y0 y1 y2 y3 y4 y5 y6 y7 y8)
            go_wp2
            refine bodyPost_ret (v := .tuple #[chgV ⟨3, d, 0, 0, 0, i0, 0, false, false⟩, .int .i64 0]) (by simp [results, Try.results61, go_sem, chgV, Chg.vals, R0, R1, R2, R3, R4, R5, R6, R7, R8]) rfl ?_
            rw [HL.out]
            exact (HFIN _ _ _ _ _ _ _ _ _ _).out
end Go.Proofs.Qxb6500778a
