import Derived.Test.Qxb6500778aQ4
namespace Go.Proofs.Qxb6500778a
open Go.RowKit

theorem nx_take {L : List Wd} {i n : Nat} (h : (bestN L i n).1 < ((mtK L (n : Int) i).2.2.1 : Int)) : bestN L i (n + 1) = ofR (mtK L (n : Int) i) := bs_take h
theorem nx_skip {L : List Wd} {i n : Nat} (h : ¬ (bestN L i n).1 < ((mtK L (n : Int) i).2.2.1 : Int)) : bestN L i (n + 1) = bestN L i n := bs_skip h
theorem n_via : strL s_via ∉ [[68], [72], [76], [73], [65], [85], [67], [80]] := by decide +kernel
theorem n_at : strL s_at ∉ [[68], [72], [76], [73], [65], [85], [67], [80]] := by decide +kernel
theorem n_class : strL s_class ∉ [[68], [72], [76], [73], [65], [85], [67], [80]] := by decide +kernel
theorem q_ra : strL s_route ≠ strL s_acl := by decide +kernel
theorem q_rl : strL s_route ≠ strL s_link := by decide +kernel
theorem q_ri : strL s_route ≠ strL s_iface := by decide +kernel
theorem q_al : strL s_acl ≠ strL s_link := by decide +kernel
theorem q_ai : strL s_acl ≠ strL s_iface := by decide +kernel
theorem q_li : strL s_link ≠ strL s_iface := by decide +kernel
theorem q_ad : strL s_add ≠ strL s_del := by decide +kernel
theorem q_ir : strL s_insert ≠ strL s_remove := by decide +kernel
def cK (k : Int) : Chg := { Chg.zero with kd := k }
theorem route_add (s : List Int) (y : PSt) (h : eitB y s_add = true) : routeX s y .zero = runR s [[68], [80], strL s_via, [72]] (eitP s s_add s_del y) (cK 0) := by
  unfold routeX
  simp only [h, ↓reduceIte]
  simp only [runR]
  rw [fR_kw n_via, fC_kw n_via]
  rfl
theorem route_del (s : List Int) (y : PSt) (h : eitB y s_add = false) : routeX s y .zero = runR s [[68], [80]] (eitP s s_add s_del y) (cK 1) := by
  unfold routeX
  rw [h]
  rfl
theorem acl_ins (s : List Int) (y : PSt) (h : eitB y s_insert = true) : aclX s y .zero = runR s [[68], strL s_at, [73], [65], [80], strL s_class, [67]] (eitP s s_insert s_remove y) (cK 2) := by
  unfold aclX
  simp only [h, ↓reduceIte]
  simp only [runR]
  rw [fR_kw n_at, fC_kw n_at, fR_kw n_class, fC_kw n_class]
  have e : ∀ (z : PSt), (z.e = 0 ∧ isW z s_any = true) ↔ (decide (z.e = 0) && isW z s_any) = true := fun z => by simp
  have er : ∀ (d : Int) (z : PSt), fR s [67] d z = if z.e = 0 ∧ isW z s_any = true then advP s z else bndP s 2 15 z := fun d z => by
    show (if (decide (z.e = 0) && isW z s_any) = true then advP s z else bndP s 2 15 z) = _
    simp only [e]
  have ec : ∀ (z : PSt) (c : Chg), fC s [67] z c = if z.e = 0 ∧ isW z s_any = true then { c with cl := 16 } else { c with cl := bndV 2 15 z } := fun z c => by
    show (if (decide (z.e = 0) && isW z s_any) = true then ({ c with cl := 16 } : Chg) else { c with cl := bndV 2 15 z }) = _
    simp only [e]
  have f1 : ∀ (d : Int) (z : PSt), fR s [68] d z = bndP s 3 15 z := fun _ _ => rfl
  have f2 : ∀ (d : Int) (z : PSt), fR s [73] d z = bndP s 2 63 z := fun _ _ => rfl
  have f3 : ∀ (d : Int) (z : PSt), fR s [65] d z = eitP s s_permit s_deny z := fun _ _ => rfl
  have f4 : ∀ (d : Int) (z : PSt), fR s [80] d z = prefX s z := fun _ _ => rfl
  rw [er, ec]
  simp only [f1, f2, f3, f4]
  split <;> rfl
theorem acl_rem (s : List Int) (y : PSt) (h : eitB y s_insert = false) : aclX s y .zero = runR s [[68], strL s_at, [73]] (eitP s s_insert s_remove y) (cK 3) := by
  unfold aclX
  rw [h]
  simp only [runR]
  rw [fR_kw n_at, fC_kw n_at]
  rfl
theorem link_run (s : List Int) (y : PSt) : linkX s y .zero = runR s [[68], [76], [85]] y (cK 4) := rfl
theorem iface_run (s : List Int) (y : PSt) : ifaceX s y .zero = runR s [[68], [85]] y (cK 5) := rfl
/-- either, where neither word stands -/
theorem eit_no {s : List Int} {L : List Wd} {x : PSt} {i : Nat} (hb : Byt s) (h : At s L x i) {y z : ByteArray} (hy : kwOk y = true) (hz : kwOk z = true) (h1 : (wdAt L i).t ≠ strL y) (h2 : (wdAt L i).t ≠ strL z) : Bad (eitP s y z x) (wrE (wdAt L i).t) (wdAt L i).q ∧ eitB x y = false := by
  obtain ⟨_, a2, a3⟩ := eit_at hb h hy hz
  have e : chE (wdAt L i).t y z = wrE (wdAt L i).t := by
    unfold chE
    rw [beq_eq_false_iff_ne.2 h1, beq_eq_false_iff_ne.2 h2]
    rfl
  rw [e] at a2
  exact ⟨a2 (wrE_ne _), by rw [a3]; exact beq_eq_false_iff_ne.2 h1⟩
theorem eit_one {s : List Int} {L : List Wd} {x : PSt} {i : Nat} (hb : Byt s) (h : At s L x i) {y z : ByteArray} (hy : kwOk y = true) (hz : kwOk z = true) (h1 : (wdAt L i).t = strL y) : At s L (eitP s y z x) (i + 1) ∧ eitB x y = true := by
  obtain ⟨a1, _, a3⟩ := eit_at hb h hy hz
  have e : chE (wdAt L i).t y z = 0 := by
    unfold chE
    rw [h1, beq_self_eq_true]
    rfl
  exact ⟨a1 e, by rw [a3, h1]; exact beq_self_eq_true _⟩
theorem eit_two {s : List Int} {L : List Wd} {x : PSt} {i : Nat} (hb : Byt s) (h : At s L x i) {y z : ByteArray} (hy : kwOk y = true) (hz : kwOk z = true) (h1 : (wdAt L i).t ≠ strL y) (h2 : (wdAt L i).t = strL z) : At s L (eitP s y z x) (i + 1) ∧ eitB x y = false := by
  obtain ⟨a1, _, a3⟩ := eit_at hb h hy hz
  have e : chE (wdAt L i).t y z = 0 := by
    unfold chE
    rw [beq_eq_false_iff_ne.2 h1, h2, beq_self_eq_true]
    rfl
  exact ⟨a1 e, by rw [a3]; exact beq_eq_false_iff_ne.2 h1⟩
/-- a change -/
theorem change_eq {s : List Int} {L : List Wd} (hb : Byt s) {x : PSt} {i : Nat} (h : At s L x i) : CEq s L x i := by
  have w1 := isW_at h kw_route
  have w2 := isW_at h kw_acl
  have w3 := isW_at h kw_link
  have w4 := isW_at h kw_iface
  have hz : (bestN L i 0).1 = -1 := rfl
  by_cases ht : (wdAt L i).t = strL s_route
  · have m2 : mtK L 2 i = (cK 2, 0, 0, wrE (wdAt L i).t, (wdAt L i).q) := by unfold mtK; rw [sh2]; exact mt_no n_acl (by rw [ht]; exact q_ra) _ _ _ _
    have r2 : (mtK L 2 i).2.2.1 = 0 := by rw [m2]
    have m3 : mtK L 3 i = (cK 3, 0, 0, wrE (wdAt L i).t, (wdAt L i).q) := by unfold mtK; rw [sh3]; exact mt_no n_acl (by rw [ht]; exact q_ra) _ _ _ _
    have r3 : (mtK L 3 i).2.2.1 = 0 := by rw [m3]
    have m4 : mtK L 4 i = (cK 4, 0, 0, wrE (wdAt L i).t, (wdAt L i).q) := by unfold mtK; rw [sh4]; exact mt_no n_link (by rw [ht]; exact q_rl) _ _ _ _
    have r4 : (mtK L 4 i).2.2.1 = 0 := by rw [m4]
    have m5 : mtK L 5 i = (cK 5, 0, 0, wrE (wdAt L i).t, (wdAt L i).q) := by unfold mtK; rw [sh5]; exact mt_no n_iface (by rw [ht]; exact q_ri) _ _ _ _
    have r5 : (mtK L 5 i).2.2.1 = 0 := by rw [m5]
    have h1 : At s L (advP s x) (i + 1) := h.adv hb (by rw [ht]; exact kw_ne kw_route)
    have hX : changeX s x = routeX s (advP s x) .zero := by
      unfold changeX
      rw [if_pos (by rw [w1, ht]; exact beq_self_eq_true _)]
    by_cases ha : (wdAt L (i + 1)).t = strL s_add
    · have m0 : mtK L 0 i = mtP L [[68], [80], strL s_via, [72]] (i + 2) (cK 0) 2 2 := by unfold mtK; rw [sh0, mt_ok n_route ht, mt_ok n_add ha]; rfl
      have m1 : mtK L 1 i = (cK 1, 1, 1, wrE (wdAt L (i + 1)).t, (wdAt L (i + 1)).q) := by unfold mtK; rw [sh1, mt_ok n_route ht]; exact mt_no n_del (by rw [ha]; exact q_ad) _ _ _ _
      obtain ⟨h2, he⟩ := eit_one hb h1 (z := s_del) kw_add kw_del ha
      have hfo : ∀ f ∈ [[68], [80], strL s_via, [72]], FOk f := (by intro f hf; simp only [List.mem_cons, List.not_mem_nil, or_false] at hf; rcases hf with rfl | rfl | rfl | rfl <;> first | exact fok_via | exact fok_at | exact fok_class | (unfold FOk; simp))
      have r0 : 2 ≤ (mtK L 0 i).2.2.1 := by rw [m0]; exact (run_eq hb _ _ _ _ _ _ hfo h2).2.2
      have r1 : (mtK L 1 i).2.2.1 = 1 := by rw [m1]
      have b1 : bestN L i 1 = ofR (mtK L 0 i) := nx_take (n := 0) (by rw [hz]; omega)
      have b2 : bestN L i 2 = ofR (mtK L 0 i) := (nx_skip (n := 1) (by rw [b1]; show ¬ ((mtK L 0 i).2.2.1 : Int) < ((mtK L 1 i).2.2.1 : Int); have z0 := r0; have z1 := r1; have z2 := r2; have z3 := r3; have z4 := r4; have z5 := r5; omega)).trans b1
      have b3 : bestN L i 3 = ofR (mtK L 0 i) := (nx_skip (n := 2) (by rw [b2]; show ¬ ((mtK L 0 i).2.2.1 : Int) < ((mtK L 2 i).2.2.1 : Int); have z0 := r0; have z1 := r1; have z2 := r2; have z3 := r3; have z4 := r4; have z5 := r5; omega)).trans b2
      have b4 : bestN L i 4 = ofR (mtK L 0 i) := (nx_skip (n := 3) (by rw [b3]; show ¬ ((mtK L 0 i).2.2.1 : Int) < ((mtK L 3 i).2.2.1 : Int); have z0 := r0; have z1 := r1; have z2 := r2; have z3 := r3; have z4 := r4; have z5 := r5; omega)).trans b3
      have b5 : bestN L i 5 = ofR (mtK L 0 i) := (nx_skip (n := 4) (by rw [b4]; show ¬ ((mtK L 0 i).2.2.1 : Int) < ((mtK L 4 i).2.2.1 : Int); have z0 := r0; have z1 := r1; have z2 := r2; have z3 := r3; have z4 := r4; have z5 := r5; omega)).trans b4
      have b6 : bestN L i 6 = ofR (mtK L 0 i) := (nx_skip (n := 5) (by rw [b5]; show ¬ ((mtK L 0 i).2.2.1 : Int) < ((mtK L 5 i).2.2.1 : Int); have z0 := r0; have z1 := r1; have z2 := r2; have z3 := r3; have z4 := r4; have z5 := r5; omega)).trans b5
      rw [m0] at b6
      exact ceq_of hb hfo h2 b6 rfl (by omega) (hX.trans (route_add s _ he))
    · have m0 : mtK L 0 i = (cK 0, 1, 1, wrE (wdAt L (i + 1)).t, (wdAt L (i + 1)).q) := by unfold mtK; rw [sh0, mt_ok n_route ht]; exact mt_no n_add ha _ _ _ _
      have r0 : (mtK L 0 i).2.2.1 = 1 := by rw [m0]
      by_cases hd : (wdAt L (i + 1)).t = strL s_del
      · have m1 : mtK L 1 i = mtP L [[68], [80]] (i + 2) (cK 1) 2 2 := by unfold mtK; rw [sh1, mt_ok n_route ht, mt_ok n_del hd]; rfl
        obtain ⟨h2, he⟩ := eit_two hb h1 kw_add kw_del ha hd
        have hfo : ∀ f ∈ [[68], [80]], FOk f := (by intro f hf; simp only [List.mem_cons, List.not_mem_nil, or_false] at hf; rcases hf with rfl | rfl <;> first | exact fok_via | exact fok_at | exact fok_class | (unfold FOk; simp))
        have r1 : 2 ≤ (mtK L 1 i).2.2.1 := by rw [m1]; exact (run_eq hb _ _ _ _ _ _ hfo h2).2.2
        have b1 : bestN L i 1 = ofR (mtK L 0 i) := nx_take (n := 0) (by rw [hz]; omega)
        have b2 : bestN L i 2 = ofR (mtK L 1 i) := nx_take (n := 1) (by rw [b1]; show ((mtK L 0 i).2.2.1 : Int) < ((mtK L 1 i).2.2.1 : Int); have z0 := r0; have z1 := r1; have z2 := r2; have z3 := r3; have z4 := r4; have z5 := r5; omega)
        have b3 : bestN L i 3 = ofR (mtK L 1 i) := (nx_skip (n := 2) (by rw [b2]; show ¬ ((mtK L 1 i).2.2.1 : Int) < ((mtK L 2 i).2.2.1 : Int); have z0 := r0; have z1 := r1; have z2 := r2; have z3 := r3; have z4 := r4; have z5 := r5; omega)).trans b2
        have b4 : bestN L i 4 = ofR (mtK L 1 i) := (nx_skip (n := 3) (by rw [b3]; show ¬ ((mtK L 1 i).2.2.1 : Int) < ((mtK L 3 i).2.2.1 : Int); have z0 := r0; have z1 := r1; have z2 := r2; have z3 := r3; have z4 := r4; have z5 := r5; omega)).trans b3
        have b5 : bestN L i 5 = ofR (mtK L 1 i) := (nx_skip (n := 4) (by rw [b4]; show ¬ ((mtK L 1 i).2.2.1 : Int) < ((mtK L 4 i).2.2.1 : Int); have z0 := r0; have z1 := r1; have z2 := r2; have z3 := r3; have z4 := r4; have z5 := r5; omega)).trans b4
        have b6 : bestN L i 6 = ofR (mtK L 1 i) := (nx_skip (n := 5) (by rw [b5]; show ¬ ((mtK L 1 i).2.2.1 : Int) < ((mtK L 5 i).2.2.1 : Int); have z0 := r0; have z1 := r1; have z2 := r2; have z3 := r3; have z4 := r4; have z5 := r5; omega)).trans b5
        rw [m1] at b6
        exact ceq_of hb hfo h2 b6 rfl (by omega) (hX.trans (route_del s _ he))
      · have m1 : mtK L 1 i = (cK 1, 1, 1, wrE (wdAt L (i + 1)).t, (wdAt L (i + 1)).q) := by unfold mtK; rw [sh1, mt_ok n_route ht]; exact mt_no n_del hd _ _ _ _
        obtain ⟨hbad, he⟩ := eit_no hb h1 kw_add kw_del ha hd
        have r1 : (mtK L 1 i).2.2.1 = 1 := by rw [m1]
        have b1 : bestN L i 1 = ofR (mtK L 0 i) := nx_take (n := 0) (by rw [hz]; omega)
        have b2 : bestN L i 2 = ofR (mtK L 0 i) := (nx_skip (n := 1) (by rw [b1]; show ¬ ((mtK L 0 i).2.2.1 : Int) < ((mtK L 1 i).2.2.1 : Int); have z0 := r0; have z1 := r1; have z2 := r2; have z3 := r3; have z4 := r4; have z5 := r5; omega)).trans b1
        have b3 : bestN L i 3 = ofR (mtK L 0 i) := (nx_skip (n := 2) (by rw [b2]; show ¬ ((mtK L 0 i).2.2.1 : Int) < ((mtK L 2 i).2.2.1 : Int); have z0 := r0; have z1 := r1; have z2 := r2; have z3 := r3; have z4 := r4; have z5 := r5; omega)).trans b2
        have b4 : bestN L i 4 = ofR (mtK L 0 i) := (nx_skip (n := 3) (by rw [b3]; show ¬ ((mtK L 0 i).2.2.1 : Int) < ((mtK L 3 i).2.2.1 : Int); have z0 := r0; have z1 := r1; have z2 := r2; have z3 := r3; have z4 := r4; have z5 := r5; omega)).trans b3
        have b5 : bestN L i 5 = ofR (mtK L 0 i) := (nx_skip (n := 4) (by rw [b4]; show ¬ ((mtK L 0 i).2.2.1 : Int) < ((mtK L 4 i).2.2.1 : Int); have z0 := r0; have z1 := r1; have z2 := r2; have z3 := r3; have z4 := r4; have z5 := r5; omega)).trans b4
        have b6 : bestN L i 6 = ofR (mtK L 0 i) := (nx_skip (n := 5) (by rw [b5]; show ¬ ((mtK L 0 i).2.2.1 : Int) < ((mtK L 5 i).2.2.1 : Int); have z0 := r0; have z1 := r1; have z2 := r2; have z3 := r3; have z4 := r4; have z5 := r5; omega)).trans b5
        rw [m0] at b6
        refine ceq_bad (wrE_ne _) b6 ?_
        rw [hX, route_del s _ he, runR_off _ _ _ (by rw [hbad.1]; exact wrE_ne _)]
        exact hbad
  · have hr := ht
    clear ht
    by_cases ht : (wdAt L i).t = strL s_acl
    · have m0 : mtK L 0 i = (cK 0, 0, 0, wrE (wdAt L i).t, (wdAt L i).q) := by unfold mtK; rw [sh0]; exact mt_no n_route (by rw [ht]; exact (Ne.symm q_ra)) _ _ _ _
      have r0 : (mtK L 0 i).2.2.1 = 0 := by rw [m0]
      have m1 : mtK L 1 i = (cK 1, 0, 0, wrE (wdAt L i).t, (wdAt L i).q) := by unfold mtK; rw [sh1]; exact mt_no n_route (by rw [ht]; exact (Ne.symm q_ra)) _ _ _ _
      have r1 : (mtK L 1 i).2.2.1 = 0 := by rw [m1]
      have m4 : mtK L 4 i = (cK 4, 0, 0, wrE (wdAt L i).t, (wdAt L i).q) := by unfold mtK; rw [sh4]; exact mt_no n_link (by rw [ht]; exact q_al) _ _ _ _
      have r4 : (mtK L 4 i).2.2.1 = 0 := by rw [m4]
      have m5 : mtK L 5 i = (cK 5, 0, 0, wrE (wdAt L i).t, (wdAt L i).q) := by unfold mtK; rw [sh5]; exact mt_no n_iface (by rw [ht]; exact q_ai) _ _ _ _
      have r5 : (mtK L 5 i).2.2.1 = 0 := by rw [m5]
      have h1 : At s L (advP s x) (i + 1) := h.adv hb (by rw [ht]; exact kw_ne kw_acl)
      have hX : changeX s x = aclX s (advP s x) .zero := by
        unfold changeX
        rw [if_neg (by rw [w1, ht, beq_eq_false_iff_ne.2 (Ne.symm q_ra)]; decide), if_pos (by rw [w2, ht]; exact beq_self_eq_true _)]
      by_cases ha : (wdAt L (i + 1)).t = strL s_insert
      · have m2 : mtK L 2 i = mtP L [[68], strL s_at, [73], [65], [80], strL s_class, [67]] (i + 2) (cK 2) 2 2 := by unfold mtK; rw [sh2, mt_ok n_acl ht, mt_ok n_insert ha]; rfl
        have m3 : mtK L 3 i = (cK 3, 1, 1, wrE (wdAt L (i + 1)).t, (wdAt L (i + 1)).q) := by unfold mtK; rw [sh3, mt_ok n_acl ht]; exact mt_no n_remove (by rw [ha]; exact q_ir) _ _ _ _
        obtain ⟨h2, he⟩ := eit_one hb h1 (z := s_remove) kw_insert kw_remove ha
        have hfo : ∀ f ∈ [[68], strL s_at, [73], [65], [80], strL s_class, [67]], FOk f := (by intro f hf; simp only [List.mem_cons, List.not_mem_nil, or_false] at hf; rcases hf with rfl | rfl | rfl | rfl | rfl | rfl | rfl <;> first | exact fok_via | exact fok_at | exact fok_class | (unfold FOk; simp))
        have r2 : 2 ≤ (mtK L 2 i).2.2.1 := by rw [m2]; exact (run_eq hb _ _ _ _ _ _ hfo h2).2.2
        have r3 : (mtK L 3 i).2.2.1 = 1 := by rw [m3]
        have b1 : bestN L i 1 = ofR (mtK L 0 i) := nx_take (n := 0) (by rw [hz]; omega)
        have b2 : bestN L i 2 = ofR (mtK L 0 i) := (nx_skip (n := 1) (by rw [b1]; show ¬ ((mtK L 0 i).2.2.1 : Int) < ((mtK L 1 i).2.2.1 : Int); have z0 := r0; have z1 := r1; have z2 := r2; have z3 := r3; have z4 := r4; have z5 := r5; omega)).trans b1
        have b3 : bestN L i 3 = ofR (mtK L 2 i) := nx_take (n := 2) (by rw [b2]; show ((mtK L 0 i).2.2.1 : Int) < ((mtK L 2 i).2.2.1 : Int); have z0 := r0; have z1 := r1; have z2 := r2; have z3 := r3; have z4 := r4; have z5 := r5; omega)
        have b4 : bestN L i 4 = ofR (mtK L 2 i) := (nx_skip (n := 3) (by rw [b3]; show ¬ ((mtK L 2 i).2.2.1 : Int) < ((mtK L 3 i).2.2.1 : Int); have z0 := r0; have z1 := r1; have z2 := r2; have z3 := r3; have z4 := r4; have z5 := r5; omega)).trans b3
        have b5 : bestN L i 5 = ofR (mtK L 2 i) := (nx_skip (n := 4) (by rw [b4]; show ¬ ((mtK L 2 i).2.2.1 : Int) < ((mtK L 4 i).2.2.1 : Int); have z0 := r0; have z1 := r1; have z2 := r2; have z3 := r3; have z4 := r4; have z5 := r5; omega)).trans b4
        have b6 : bestN L i 6 = ofR (mtK L 2 i) := (nx_skip (n := 5) (by rw [b5]; show ¬ ((mtK L 2 i).2.2.1 : Int) < ((mtK L 5 i).2.2.1 : Int); have z0 := r0; have z1 := r1; have z2 := r2; have z3 := r3; have z4 := r4; have z5 := r5; omega)).trans b5
        rw [m2] at b6
        exact ceq_of hb hfo h2 b6 rfl (by omega) (hX.trans (acl_ins s _ he))
      · have m2 : mtK L 2 i = (cK 2, 1, 1, wrE (wdAt L (i + 1)).t, (wdAt L (i + 1)).q) := by unfold mtK; rw [sh2, mt_ok n_acl ht]; exact mt_no n_insert ha _ _ _ _
        have r2 : (mtK L 2 i).2.2.1 = 1 := by rw [m2]
        by_cases hd : (wdAt L (i + 1)).t = strL s_remove
        · have m3 : mtK L 3 i = mtP L [[68], strL s_at, [73]] (i + 2) (cK 3) 2 2 := by unfold mtK; rw [sh3, mt_ok n_acl ht, mt_ok n_remove hd]; rfl
          obtain ⟨h2, he⟩ := eit_two hb h1 kw_insert kw_remove ha hd
          have hfo : ∀ f ∈ [[68], strL s_at, [73]], FOk f := (by intro f hf; simp only [List.mem_cons, List.not_mem_nil, or_false] at hf; rcases hf with rfl | rfl | rfl <;> first | exact fok_via | exact fok_at | exact fok_class | (unfold FOk; simp))
          have r3 : 2 ≤ (mtK L 3 i).2.2.1 := by rw [m3]; exact (run_eq hb _ _ _ _ _ _ hfo h2).2.2
          have b1 : bestN L i 1 = ofR (mtK L 0 i) := nx_take (n := 0) (by rw [hz]; omega)
          have b2 : bestN L i 2 = ofR (mtK L 0 i) := (nx_skip (n := 1) (by rw [b1]; show ¬ ((mtK L 0 i).2.2.1 : Int) < ((mtK L 1 i).2.2.1 : Int); have z0 := r0; have z1 := r1; have z2 := r2; have z3 := r3; have z4 := r4; have z5 := r5; omega)).trans b1
          have b3 : bestN L i 3 = ofR (mtK L 2 i) := nx_take (n := 2) (by rw [b2]; show ((mtK L 0 i).2.2.1 : Int) < ((mtK L 2 i).2.2.1 : Int); have z0 := r0; have z1 := r1; have z2 := r2; have z3 := r3; have z4 := r4; have z5 := r5; omega)
          have b4 : bestN L i 4 = ofR (mtK L 3 i) := nx_take (n := 3) (by rw [b3]; show ((mtK L 2 i).2.2.1 : Int) < ((mtK L 3 i).2.2.1 : Int); have z0 := r0; have z1 := r1; have z2 := r2; have z3 := r3; have z4 := r4; have z5 := r5; omega)
          have b5 : bestN L i 5 = ofR (mtK L 3 i) := (nx_skip (n := 4) (by rw [b4]; show ¬ ((mtK L 3 i).2.2.1 : Int) < ((mtK L 4 i).2.2.1 : Int); have z0 := r0; have z1 := r1; have z2 := r2; have z3 := r3; have z4 := r4; have z5 := r5; omega)).trans b4
          have b6 : bestN L i 6 = ofR (mtK L 3 i) := (nx_skip (n := 5) (by rw [b5]; show ¬ ((mtK L 3 i).2.2.1 : Int) < ((mtK L 5 i).2.2.1 : Int); have z0 := r0; have z1 := r1; have z2 := r2; have z3 := r3; have z4 := r4; have z5 := r5; omega)).trans b5
          rw [m3] at b6
          exact ceq_of hb hfo h2 b6 rfl (by omega) (hX.trans (acl_rem s _ he))
        · have m3 : mtK L 3 i = (cK 3, 1, 1, wrE (wdAt L (i + 1)).t, (wdAt L (i + 1)).q) := by unfold mtK; rw [sh3, mt_ok n_acl ht]; exact mt_no n_remove hd _ _ _ _
          obtain ⟨hbad, he⟩ := eit_no hb h1 kw_insert kw_remove ha hd
          have r3 : (mtK L 3 i).2.2.1 = 1 := by rw [m3]
          have b1 : bestN L i 1 = ofR (mtK L 0 i) := nx_take (n := 0) (by rw [hz]; omega)
          have b2 : bestN L i 2 = ofR (mtK L 0 i) := (nx_skip (n := 1) (by rw [b1]; show ¬ ((mtK L 0 i).2.2.1 : Int) < ((mtK L 1 i).2.2.1 : Int); have z0 := r0; have z1 := r1; have z2 := r2; have z3 := r3; have z4 := r4; have z5 := r5; omega)).trans b1
          have b3 : bestN L i 3 = ofR (mtK L 2 i) := nx_take (n := 2) (by rw [b2]; show ((mtK L 0 i).2.2.1 : Int) < ((mtK L 2 i).2.2.1 : Int); have z0 := r0; have z1 := r1; have z2 := r2; have z3 := r3; have z4 := r4; have z5 := r5; omega)
          have b4 : bestN L i 4 = ofR (mtK L 2 i) := (nx_skip (n := 3) (by rw [b3]; show ¬ ((mtK L 2 i).2.2.1 : Int) < ((mtK L 3 i).2.2.1 : Int); have z0 := r0; have z1 := r1; have z2 := r2; have z3 := r3; have z4 := r4; have z5 := r5; omega)).trans b3
          have b5 : bestN L i 5 = ofR (mtK L 2 i) := (nx_skip (n := 4) (by rw [b4]; show ¬ ((mtK L 2 i).2.2.1 : Int) < ((mtK L 4 i).2.2.1 : Int); have z0 := r0; have z1 := r1; have z2 := r2; have z3 := r3; have z4 := r4; have z5 := r5; omega)).trans b4
          have b6 : bestN L i 6 = ofR (mtK L 2 i) := (nx_skip (n := 5) (by rw [b5]; show ¬ ((mtK L 2 i).2.2.1 : Int) < ((mtK L 5 i).2.2.1 : Int); have z0 := r0; have z1 := r1; have z2 := r2; have z3 := r3; have z4 := r4; have z5 := r5; omega)).trans b5
          rw [m2] at b6
          refine ceq_bad (wrE_ne _) b6 ?_
          rw [hX, acl_rem s _ he, runR_off _ _ _ (by rw [hbad.1]; exact wrE_ne _)]
          exact hbad
    · have ha := ht
      clear ht
      by_cases ht : (wdAt L i).t = strL s_link
      · have m0 : mtK L 0 i = (cK 0, 0, 0, wrE (wdAt L i).t, (wdAt L i).q) := by unfold mtK; rw [sh0]; exact mt_no n_route (by rw [ht]; exact (Ne.symm q_rl)) _ _ _ _
        have r0 : (mtK L 0 i).2.2.1 = 0 := by rw [m0]
        have m1 : mtK L 1 i = (cK 1, 0, 0, wrE (wdAt L i).t, (wdAt L i).q) := by unfold mtK; rw [sh1]; exact mt_no n_route (by rw [ht]; exact (Ne.symm q_rl)) _ _ _ _
        have r1 : (mtK L 1 i).2.2.1 = 0 := by rw [m1]
        have m2 : mtK L 2 i = (cK 2, 0, 0, wrE (wdAt L i).t, (wdAt L i).q) := by unfold mtK; rw [sh2]; exact mt_no n_acl (by rw [ht]; exact (Ne.symm q_al)) _ _ _ _
        have r2 : (mtK L 2 i).2.2.1 = 0 := by rw [m2]
        have m3 : mtK L 3 i = (cK 3, 0, 0, wrE (wdAt L i).t, (wdAt L i).q) := by unfold mtK; rw [sh3]; exact mt_no n_acl (by rw [ht]; exact (Ne.symm q_al)) _ _ _ _
        have r3 : (mtK L 3 i).2.2.1 = 0 := by rw [m3]
        have m5 : mtK L 5 i = (cK 5, 0, 0, wrE (wdAt L i).t, (wdAt L i).q) := by unfold mtK; rw [sh5]; exact mt_no n_iface (by rw [ht]; exact q_li) _ _ _ _
        have r5 : (mtK L 5 i).2.2.1 = 0 := by rw [m5]
        have h1 : At s L (advP s x) (i + 1) := h.adv hb (by rw [ht]; exact kw_ne kw_link)
        have hX : changeX s x = linkX s (advP s x) .zero := by
          unfold changeX
          rw [if_neg (by rw [w1, ht, beq_eq_false_iff_ne.2 (Ne.symm q_rl)]; decide), if_neg (by rw [w2, ht, beq_eq_false_iff_ne.2 (Ne.symm q_al)]; decide), if_pos (by rw [w3, ht]; exact beq_self_eq_true _)]
        have m4 : mtK L 4 i = mtP L [[68], [76], [85]] (i + 1) (cK 4) 1 1 := by unfold mtK; rw [sh4, mt_ok n_link ht]; rfl
        have hfo : ∀ f ∈ [[68], [76], [85]], FOk f := (by intro f hf; simp only [List.mem_cons, List.not_mem_nil, or_false] at hf; rcases hf with rfl | rfl | rfl <;> (unfold FOk; simp))
        have r4 : 1 ≤ (mtK L 4 i).2.2.1 := by rw [m4]; exact (run_eq hb _ _ _ _ _ _ hfo h1).2.2
        have b1 : bestN L i 1 = ofR (mtK L 0 i) := nx_take (n := 0) (by rw [hz]; omega)
        have b2 : bestN L i 2 = ofR (mtK L 0 i) := (nx_skip (n := 1) (by rw [b1]; show ¬ ((mtK L 0 i).2.2.1 : Int) < ((mtK L 1 i).2.2.1 : Int); have z0 := r0; have z1 := r1; have z2 := r2; have z3 := r3; have z4 := r4; have z5 := r5; omega)).trans b1
        have b3 : bestN L i 3 = ofR (mtK L 0 i) := (nx_skip (n := 2) (by rw [b2]; show ¬ ((mtK L 0 i).2.2.1 : Int) < ((mtK L 2 i).2.2.1 : Int); have z0 := r0; have z1 := r1; have z2 := r2; have z3 := r3; have z4 := r4; have z5 := r5; omega)).trans b2
        have b4 : bestN L i 4 = ofR (mtK L 0 i) := (nx_skip (n := 3) (by rw [b3]; show ¬ ((mtK L 0 i).2.2.1 : Int) < ((mtK L 3 i).2.2.1 : Int); have z0 := r0; have z1 := r1; have z2 := r2; have z3 := r3; have z4 := r4; have z5 := r5; omega)).trans b3
        have b5 : bestN L i 5 = ofR (mtK L 4 i) := nx_take (n := 4) (by rw [b4]; show ((mtK L 0 i).2.2.1 : Int) < ((mtK L 4 i).2.2.1 : Int); have z0 := r0; have z1 := r1; have z2 := r2; have z3 := r3; have z4 := r4; have z5 := r5; omega)
        have b6 : bestN L i 6 = ofR (mtK L 4 i) := (nx_skip (n := 5) (by rw [b5]; show ¬ ((mtK L 4 i).2.2.1 : Int) < ((mtK L 5 i).2.2.1 : Int); have z0 := r0; have z1 := r1; have z2 := r2; have z3 := r3; have z4 := r4; have z5 := r5; omega)).trans b5
        rw [m4] at b6
        exact ceq_of hb hfo h1 b6 rfl (by omega) (hX.trans (link_run s _))
      · have hl := ht
        clear ht
        by_cases ht : (wdAt L i).t = strL s_iface
        · have m0 : mtK L 0 i = (cK 0, 0, 0, wrE (wdAt L i).t, (wdAt L i).q) := by unfold mtK; rw [sh0]; exact mt_no n_route (by rw [ht]; exact (Ne.symm q_ri)) _ _ _ _
          have r0 : (mtK L 0 i).2.2.1 = 0 := by rw [m0]
          have m1 : mtK L 1 i = (cK 1, 0, 0, wrE (wdAt L i).t, (wdAt L i).q) := by unfold mtK; rw [sh1]; exact mt_no n_route (by rw [ht]; exact (Ne.symm q_ri)) _ _ _ _
          have r1 : (mtK L 1 i).2.2.1 = 0 := by rw [m1]
          have m2 : mtK L 2 i = (cK 2, 0, 0, wrE (wdAt L i).t, (wdAt L i).q) := by unfold mtK; rw [sh2]; exact mt_no n_acl (by rw [ht]; exact (Ne.symm q_ai)) _ _ _ _
          have r2 : (mtK L 2 i).2.2.1 = 0 := by rw [m2]
          have m3 : mtK L 3 i = (cK 3, 0, 0, wrE (wdAt L i).t, (wdAt L i).q) := by unfold mtK; rw [sh3]; exact mt_no n_acl (by rw [ht]; exact (Ne.symm q_ai)) _ _ _ _
          have r3 : (mtK L 3 i).2.2.1 = 0 := by rw [m3]
          have m4 : mtK L 4 i = (cK 4, 0, 0, wrE (wdAt L i).t, (wdAt L i).q) := by unfold mtK; rw [sh4]; exact mt_no n_link (by rw [ht]; exact (Ne.symm q_li)) _ _ _ _
          have r4 : (mtK L 4 i).2.2.1 = 0 := by rw [m4]
          have h1 : At s L (advP s x) (i + 1) := h.adv hb (by rw [ht]; exact kw_ne kw_iface)
          have hX : changeX s x = ifaceX s (advP s x) .zero := by
            unfold changeX
            rw [if_neg (by rw [w1, ht, beq_eq_false_iff_ne.2 (Ne.symm q_ri)]; decide), if_neg (by rw [w2, ht, beq_eq_false_iff_ne.2 (Ne.symm q_ai)]; decide), if_neg (by rw [w3, ht, beq_eq_false_iff_ne.2 (Ne.symm q_li)]; decide), if_pos (by rw [w4, ht]; exact beq_self_eq_true _)]
          have m5 : mtK L 5 i = mtP L [[68], [85]] (i + 1) (cK 5) 1 1 := by unfold mtK; rw [sh5, mt_ok n_iface ht]; rfl
          have hfo : ∀ f ∈ [[68], [85]], FOk f := (by intro f hf; simp only [List.mem_cons, List.not_mem_nil, or_false] at hf; rcases hf with rfl | rfl <;> (unfold FOk; simp))
          have r5 : 1 ≤ (mtK L 5 i).2.2.1 := by rw [m5]; exact (run_eq hb _ _ _ _ _ _ hfo h1).2.2
          have b1 : bestN L i 1 = ofR (mtK L 0 i) := nx_take (n := 0) (by rw [hz]; omega)
          have b2 : bestN L i 2 = ofR (mtK L 0 i) := (nx_skip (n := 1) (by rw [b1]; show ¬ ((mtK L 0 i).2.2.1 : Int) < ((mtK L 1 i).2.2.1 : Int); have z0 := r0; have z1 := r1; have z2 := r2; have z3 := r3; have z4 := r4; have z5 := r5; omega)).trans b1
          have b3 : bestN L i 3 = ofR (mtK L 0 i) := (nx_skip (n := 2) (by rw [b2]; show ¬ ((mtK L 0 i).2.2.1 : Int) < ((mtK L 2 i).2.2.1 : Int); have z0 := r0; have z1 := r1; have z2 := r2; have z3 := r3; have z4 := r4; have z5 := r5; omega)).trans b2
          have b4 : bestN L i 4 = ofR (mtK L 0 i) := (nx_skip (n := 3) (by rw [b3]; show ¬ ((mtK L 0 i).2.2.1 : Int) < ((mtK L 3 i).2.2.1 : Int); have z0 := r0; have z1 := r1; have z2 := r2; have z3 := r3; have z4 := r4; have z5 := r5; omega)).trans b3
          have b5 : bestN L i 5 = ofR (mtK L 0 i) := (nx_skip (n := 4) (by rw [b4]; show ¬ ((mtK L 0 i).2.2.1 : Int) < ((mtK L 4 i).2.2.1 : Int); have z0 := r0; have z1 := r1; have z2 := r2; have z3 := r3; have z4 := r4; have z5 := r5; omega)).trans b4
          have b6 : bestN L i 6 = ofR (mtK L 5 i) := nx_take (n := 5) (by rw [b5]; show ((mtK L 0 i).2.2.1 : Int) < ((mtK L 5 i).2.2.1 : Int); have z0 := r0; have z1 := r1; have z2 := r2; have z3 := r3; have z4 := r4; have z5 := r5; omega)
          rw [m5] at b6
          exact ceq_of hb hfo h1 b6 rfl (by omega) (hX.trans (iface_run s _))
        · have m0 : mtK L 0 i = (cK 0, 0, 0, wrE (wdAt L i).t, (wdAt L i).q) := by unfold mtK; rw [sh0]; exact mt_no n_route (hr) _ _ _ _
          have r0 : (mtK L 0 i).2.2.1 = 0 := by rw [m0]
          have m1 : mtK L 1 i = (cK 1, 0, 0, wrE (wdAt L i).t, (wdAt L i).q) := by unfold mtK; rw [sh1]; exact mt_no n_route (hr) _ _ _ _
          have r1 : (mtK L 1 i).2.2.1 = 0 := by rw [m1]
          have m2 : mtK L 2 i = (cK 2, 0, 0, wrE (wdAt L i).t, (wdAt L i).q) := by unfold mtK; rw [sh2]; exact mt_no n_acl (ha) _ _ _ _
          have r2 : (mtK L 2 i).2.2.1 = 0 := by rw [m2]
          have m3 : mtK L 3 i = (cK 3, 0, 0, wrE (wdAt L i).t, (wdAt L i).q) := by unfold mtK; rw [sh3]; exact mt_no n_acl (ha) _ _ _ _
          have r3 : (mtK L 3 i).2.2.1 = 0 := by rw [m3]
          have m4 : mtK L 4 i = (cK 4, 0, 0, wrE (wdAt L i).t, (wdAt L i).q) := by unfold mtK; rw [sh4]; exact mt_no n_link (hl) _ _ _ _
          have r4 : (mtK L 4 i).2.2.1 = 0 := by rw [m4]
          have m5 : mtK L 5 i = (cK 5, 0, 0, wrE (wdAt L i).t, (wdAt L i).q) := by unfold mtK; rw [sh5]; exact mt_no n_iface (ht) _ _ _ _
          have r5 : (mtK L 5 i).2.2.1 = 0 := by rw [m5]
          have b1 : bestN L i 1 = ofR (mtK L 0 i) := nx_take (n := 0) (by rw [hz]; omega)
          have b2 : bestN L i 2 = ofR (mtK L 0 i) := (nx_skip (n := 1) (by rw [b1]; show ¬ ((mtK L 0 i).2.2.1 : Int) < ((mtK L 1 i).2.2.1 : Int); have z0 := r0; have z1 := r1; have z2 := r2; have z3 := r3; have z4 := r4; have z5 := r5; omega)).trans b1
          have b3 : bestN L i 3 = ofR (mtK L 0 i) := (nx_skip (n := 2) (by rw [b2]; show ¬ ((mtK L 0 i).2.2.1 : Int) < ((mtK L 2 i).2.2.1 : Int); have z0 := r0; have z1 := r1; have z2 := r2; have z3 := r3; have z4 := r4; have z5 := r5; omega)).trans b2
          have b4 : bestN L i 4 = ofR (mtK L 0 i) := (nx_skip (n := 3) (by rw [b3]; show ¬ ((mtK L 0 i).2.2.1 : Int) < ((mtK L 3 i).2.2.1 : Int); have z0 := r0; have z1 := r1; have z2 := r2; have z3 := r3; have z4 := r4; have z5 := r5; omega)).trans b3
          have b5 : bestN L i 5 = ofR (mtK L 0 i) := (nx_skip (n := 4) (by rw [b4]; show ¬ ((mtK L 0 i).2.2.1 : Int) < ((mtK L 4 i).2.2.1 : Int); have z0 := r0; have z1 := r1; have z2 := r2; have z3 := r3; have z4 := r4; have z5 := r5; omega)).trans b4
          have b6 : bestN L i 6 = ofR (mtK L 0 i) := (nx_skip (n := 5) (by rw [b5]; show ¬ ((mtK L 0 i).2.2.1 : Int) < ((mtK L 5 i).2.2.1 : Int); have z0 := r0; have z1 := r1; have z2 := r2; have z3 := r3; have z4 := r4; have z5 := r5; omega)).trans b5
          rw [m0] at b6
          refine ceq_bad (wrE_ne _) b6 ?_
          have hX : changeX s x = (unexP x, .zero) := by
            unfold changeX
            rw [if_neg (by rw [w1, beq_eq_false_iff_ne.2 hr]; decide), if_neg (by rw [w2, beq_eq_false_iff_ne.2 ha]; decide), if_neg (by rw [w3, beq_eq_false_iff_ne.2 hl]; decide), if_neg (by rw [w4, beq_eq_false_iff_ne.2 ht]; decide)]
          rw [hX]
          exact unex_bad h
end Go.Proofs.Qxb6500778a
