import Derived.Test.Qxb6500777aRm1
namespace Go.Proofs.Qxb6500777a
open Go.RowKit

theorem RA.fillE {w : World} {b o : Nat} {s : Slt} (h : RA w b o (Ev s)) (t : Trk) : RA (w.setCells b (o + 2) t.vals) b o (Ev { s with tr := t }) := by
  refine ⟨fun j v hv => ?_, fun j => by rw [World.frozen?_setCells]; exact h.f j⟩
  have hj : j < 9 := by have := (List.getElem?_eq_some_iff.1 hv).1; rw [Ev.len] at this; exact this
  rcases Nat.lt_or_ge j 2 with z | z
  · have k : Fr b (o + 2) 7 w (w.setCells b (o + 2) t.vals) := Fr.sets t.vals _ _ (Fr.refl _ _ _ _) (Nat.le_refl _) (by rw [Trk.len]; omega)
    rw [k.cell (o + j) (.inl (by omega))]
    refine h.c j v ?_
    rw [← hv]
    rcases (by omega : j = 0 ∨ j = 1) with rfl | rfl <;> rfl
  · have := World.cell?_setCells_in b t.vals (o + 2) w (fun i hi => by
      rw [Trk.len] at hi
      have q := h.c (i + 2) ((Ev s)[i + 2]'(by rw [Ev.len]; omega)) (List.getElem?_eq_getElem (by rw [Ev.len]; omega))
      rw [show o + 2 + i = o + (i + 2) by omega, q]; rfl) (j - 2) (by rw [Trk.len]; omega)
    rw [show o + 2 + (j - 2) = o + j by omega] at this
    rw [this, ← hv]
    have e : Ev { s with tr := t } = [.int .i64 s.tg, .int .i64 s.sk] ++ t.vals := rfl
    rw [e, List.getElem?_append_right (by simpa using z)]
    simp
theorem new_z9 (w : World) : RA (w.alloc (.cells #[.int .i64 0, .int .i64 0, .int .i64 0, .int .i64 0, .int .i64 0, .int .i64 0, .int .i64 0, .int .i64 0, .int .i64 0] 113)) w.heap.size 0 [.int .i64 0, .int .i64 0, .int .i64 0, .int .i64 0, .int .i64 0, .int .i64 0, .int .i64 0, .int .i64 0, .int .i64 0] := by
  refine ⟨fun j v hv => ?_, fun j => by simp [go_sem]⟩
  have := new_cells w [.int .i64 0, .int .i64 0, .int .i64 0, .int .i64 0, .int .i64 0, .int .i64 0, .int .i64 0, .int .i64 0, .int .i64 0] 113 j v hv
  rw [Addr.add_mid] at this
  exact this
theorem bel_setsE {w w' : World} {z : Nat} {vs : List Value} (o : Nat) (h : Below w.heap.size w w') (hz : w.heap.size ≤ z) : Below w.heap.size w (w'.setCells z o vs) :=
  (Ex.setsNew (S := fun _ => False) hz vs o w' (Ex.of h)).below (Nat.le_refl _) (fun _ _ e => e)
set_option linter.unusedSimpArgs false in
set_option maxRecDepth 100000 in
set_option maxHeartbeats 8000000 in
/-- tracksm.detected -/
theorem detected_any (w : World) (s : Slt) (hs : SltOk s) (W : Tgt) (hW : TgtOk W) (g : Int) : Calls Try.prog 64 #[.agg #[.int .i64 s.tg, .int .i64 s.sk, .int .i64 s.tr.num, .int .i64 s.tr.x, .int .i64 s.tr.y, .int .i64 s.tr.co, .int .i64 s.tr.sp, .int .i64 s.tr.st, .int .i64 s.tr.ag], .agg #[.int .i64 W.x, .int .i64 W.y, .int .i64 W.co, .int .i64 W.sp], .int .i64 g] w fun e w' => e = .returned (.agg #[.int .i64 (refreshP s W g).tg, .int .i64 (refreshP s W g).sk, .int .i64 (refreshP s W g).tr.num, .int .i64 (refreshP s W g).tr.x, .int .i64 (refreshP s W g).tr.y, .int .i64 (refreshP s W g).tr.co, .int .i64 (refreshP s W g).tr.sp, .int .i64 (refreshP s W g).tr.st, .int .i64 (refreshP s W g).tr.ag]) ∧ Below w.heap.size w w' := by
  have HW := hide hW
  have hst := hs.tr.st
  have hsk := hs.sk
  have HX := hide ((RA.below (new_re w s) (by simp) (be2 (w.alloc (.cells #[.int .i64 s.tg, .int .i64 s.sk, .int .i64 s.tr.num, .int .i64 s.tr.x, .int .i64 s.tr.y, .int .i64 s.tr.co, .int .i64 s.tr.sp, .int .i64 s.tr.st, .int .i64 s.tr.ag] 113)) (.cells #[.int .i64 W.x, .int .i64 W.y, .int .i64 W.co, .int .i64 W.sp] 60) (.cells #[.int .i64 0, .int .i64 0, .int .i64 0, .int .i64 0, .int .i64 0, .int .i64 0, .int .i64 0, .int .i64 0, .int .i64 0] 113))))
  have y0 : (((w.alloc (.cells #[.int .i64 s.tg, .int .i64 s.sk, .int .i64 s.tr.num, .int .i64 s.tr.x, .int .i64 s.tr.y, .int .i64 s.tr.co, .int .i64 s.tr.sp, .int .i64 s.tr.st, .int .i64 s.tr.ag] 113)).alloc (.cells #[.int .i64 W.x, .int .i64 W.y, .int .i64 W.co, .int .i64 W.sp] 60)).alloc (.cells #[.int .i64 0, .int .i64 0, .int .i64 0, .int .i64 0, .int .i64 0, .int .i64 0, .int .i64 0, .int .i64 0, .int .i64 0] 113)).cell? ⟨w.heap.size + 1, 0, none⟩ = some (.int .i64 W.x) := by simp [go_sem]
  have y1 : (((w.alloc (.cells #[.int .i64 s.tg, .int .i64 s.sk, .int .i64 s.tr.num, .int .i64 s.tr.x, .int .i64 s.tr.y, .int .i64 s.tr.co, .int .i64 s.tr.sp, .int .i64 s.tr.st, .int .i64 s.tr.ag] 113)).alloc (.cells #[.int .i64 W.x, .int .i64 W.y, .int .i64 W.co, .int .i64 W.sp] 60)).alloc (.cells #[.int .i64 0, .int .i64 0, .int .i64 0, .int .i64 0, .int .i64 0, .int .i64 0, .int .i64 0, .int .i64 0, .int .i64 0] 113)).cell? ⟨w.heap.size + 1, 1, none⟩ = some (.int .i64 W.y) := by simp [go_sem]
  have y2 : (((w.alloc (.cells #[.int .i64 s.tg, .int .i64 s.sk, .int .i64 s.tr.num, .int .i64 s.tr.x, .int .i64 s.tr.y, .int .i64 s.tr.co, .int .i64 s.tr.sp, .int .i64 s.tr.st, .int .i64 s.tr.ag] 113)).alloc (.cells #[.int .i64 W.x, .int .i64 W.y, .int .i64 W.co, .int .i64 W.sp] 60)).alloc (.cells #[.int .i64 0, .int .i64 0, .int .i64 0, .int .i64 0, .int .i64 0, .int .i64 0, .int .i64 0, .int .i64 0, .int .i64 0] 113)).cell? ⟨w.heap.size + 1, 2, none⟩ = some (.int .i64 W.co) := by simp [go_sem]
  have y3 : (((w.alloc (.cells #[.int .i64 s.tg, .int .i64 s.sk, .int .i64 s.tr.num, .int .i64 s.tr.x, .int .i64 s.tr.y, .int .i64 s.tr.co, .int .i64 s.tr.sp, .int .i64 s.tr.st, .int .i64 s.tr.ag] 113)).alloc (.cells #[.int .i64 W.x, .int .i64 W.y, .int .i64 W.co, .int .i64 W.sp] 60)).alloc (.cells #[.int .i64 0, .int .i64 0, .int .i64 0, .int .i64 0, .int .i64 0, .int .i64 0, .int .i64 0, .int .i64 0, .int .i64 0] 113)).cell? ⟨w.heap.size + 1, 3, none⟩ = some (.int .i64 W.sp) := by simp [go_sem]
  have HZ := hide (new_z9 ((w.alloc (.cells #[.int .i64 s.tg, .int .i64 s.sk, .int .i64 s.tr.num, .int .i64 s.tr.x, .int .i64 s.tr.y, .int .i64 s.tr.co, .int .i64 s.tr.sp, .int .i64 s.tr.st, .int .i64 s.tr.ag] 113)).alloc (.cells #[.int .i64 W.x, .int .i64 W.y, .int .i64 W.co, .int .i64 W.sp] 60)))
  rw [show ((w.alloc (.cells #[.int .i64 s.tg, .int .i64 s.sk, .int .i64 s.tr.num, .int .i64 s.tr.x, .int .i64 s.tr.y, .int .i64 s.tr.co, .int .i64 s.tr.sp, .int .i64 s.tr.st, .int .i64 s.tr.ag] 113)).alloc (.cells #[.int .i64 W.x, .int .i64 W.y, .int .i64 W.co, .int .i64 W.sp] 60)).heap.size = w.heap.size + 1 + 1 by simp] at HZ
  have HB := hide (lec (be1 w (.cells #[.int .i64 s.tg, .int .i64 s.sk, .int .i64 s.tr.num, .int .i64 s.tr.x, .int .i64 s.tr.y, .int .i64 s.tr.co, .int .i64 s.tr.sp, .int .i64 s.tr.st, .int .i64 s.tr.ag] 113)) (be2 (w.alloc (.cells #[.int .i64 s.tg, .int .i64 s.sk, .int .i64 s.tr.num, .int .i64 s.tr.x, .int .i64 s.tr.y, .int .i64 s.tr.co, .int .i64 s.tr.sp, .int .i64 s.tr.st, .int .i64 s.tr.ag] 113)) (.cells #[.int .i64 W.x, .int .i64 W.y, .int .i64 W.co, .int .i64 W.sp] 60) (.cells #[.int .i64 0, .int .i64 0, .int .i64 0, .int .i64 0, .int .i64 0, .int .i64 0, .int .i64 0, .int .i64 0, .int .i64 0] 113)))
  clear hW hs
  go_enter Try.func64, Try.ntmps64
  go_upto_region 1 with fail
  generalize ((w.alloc (.cells #[.int .i64 s.tg, .int .i64 s.sk, .int .i64 s.tr.num, .int .i64 s.tr.x, .int .i64 s.tr.y, .int .i64 s.tr.co, .int .i64 s.tr.sp, .int .i64 s.tr.st, .int .i64 s.tr.ag] 113)).alloc (.cells #[.int .i64 W.x, .int .i64 W.y, .int .i64 W.co, .int .i64 W.sp] 60)).alloc (.cells #[.int .i64 0, .int .i64 0, .int .i64 0, .int .i64 0, .int .i64 0, .int .i64 0, .int .i64 0, .int .i64 0, .int .i64 0] 113) = w1 at *
  obtain ⟨z, hz⟩ : ∃ z, w.heap.size + 1 + 1 = z := ⟨_, rfl⟩
  obtain ⟨y, hy⟩ : ∃ y, w.heap.size + 1 = y := ⟨_, rfl⟩
  obtain ⟨x, hx⟩ : ∃ x, w.heap.size = x := ⟨_, rfl⟩
  have hxg : w.heap.size ≤ x := by omega
  have hzg : w.heap.size ≤ z := by omega
  have hzx : z ≠ x := by omega
  rw [hz] at HZ ⊢
  rw [hy] at y0 y1 y2 y3 ⊢
  rw [hx] at HX ⊢
  clear hx hy hz
  go_wp2_with fail
  refine (seen_any _ W HW.out g).mono ?_
  rintro e w2 ⟨rfl, hb⟩
  replace HX := hide (HX.out.below (HX.out.lt (by simp [Ev])) hb)
  replace HZ := hide (HZ.out.below (HZ.out.lt (by simp)) hb)
  replace HB := hide (lec HB.out hb)
  clear hb y0 y1 y2 y3
  go_upto_region 2 with fail
  have HQ := hide (new_rt w2 (lookP trk0 W g))
  have HBQ := be1 w2 (.cells #[.int .i64 (lookP trk0 W g).num, .int .i64 (lookP trk0 W g).x, .int .i64 (lookP trk0 W g).y, .int .i64 (lookP trk0 W g).co, .int .i64 (lookP trk0 W g).sp, .int .i64 (lookP trk0 W g).st, .int .i64 (lookP trk0 W g).ag] 51)
  have HXL := HX.out.lt (by simp [Ev])
  have HZL := hide (HZ.out.lt (by simp))
  replace HX := hide (HX.out.below (HX.out.lt (by simp [Ev])) HBQ)
  replace HZ := hide (HZ.out.below HZL.out HBQ)
  replace HB := hide (lec HB.out HBQ)
  have hqx : w2.heap.size ≠ x := by omega
  have hqz : w2.heap.size ≠ z := by have := HZL.out; omega
  have hqg : w.heap.size ≤ w2.heap.size := by omega
  clear HBQ HXL HZL
  generalize w2.alloc (.cells #[.int .i64 (lookP trk0 W g).num, .int .i64 (lookP trk0 W g).x, .int .i64 (lookP trk0 W g).y, .int .i64 (lookP trk0 W g).co, .int .i64 (lookP trk0 W g).sp, .int .i64 (lookP trk0 W g).st, .int .i64 (lookP trk0 W g).ag] 51) = w3 at *
  generalize w2.heap.size = q at *
  obtain ⟨x0, x1, x2, x3, x4, x5, x6, x7, x8⟩ := HX.out.ee
  simp only [Nat.zero_add] at x1 x2 x3 x4 x5 x6 x7 x8
  have xf := HX.out.f
  obtain ⟨q0, q1, q2, q3, q4, q5, q6⟩ := HQ.out.tt
  simp only [Nat.zero_add] at q1 q2 q3 q4 q5 q6
  have qf := HQ.out.f
  go_upto_region 3 with fail
  have HQ2 := hide (HQ.out.put (k := 0) (.int .i64 s.tr.num) (by rw [Trk.len]; omega))
  have HFR := hide ((Fr.refl q 0 7 w3).set (j := 0) (by omega) (by omega) (.int .i64 s.tr.num))
  replace HX := hide (HX.out.keep HFR.out (HX.out.lt (by simp [Ev])) (.inl (Ne.symm hqx)))
  replace HZ := hide (HZ.out.keep HFR.out (HZ.out.lt (by simp)) (.inl (Ne.symm hqz)))
  replace HB := hide (HB.out.setCell (p := ⟨q, 0, none⟩) hqg (.int .i64 s.tr.num))
  clear x0 x1 x2 x3 x4 x5 x6 x7 x8 xf
  clear q0 q1 q2 q3 q4 q5 q6 qf
  clear HQ HFR
  simp only [Nat.zero_add] at HQ2
  generalize w3.setCell ⟨q, 0, none⟩ (.int .i64 s.tr.num) = w4 at *
  have HQ := hide (show RA w4 q 0 (Trk.vals { lookP trk0 W g with num := s.tr.num }) from HQ2.out)
  clear HQ2
  obtain ⟨x0, x1, x2, x3, x4, x5, x6, x7, x8⟩ := HX.out.ee
  simp only [Nat.zero_add] at x1 x2 x3 x4 x5 x6 x7 x8
  have xf := HX.out.f
  obtain ⟨q0, q1, q2, q3, q4, q5, q6⟩ := HQ.out.tt
  simp only [Nat.zero_add] at q1 q2 q3 q4 q5 q6
  have qf := HQ.out.f
  go_upto_region 4 with fail
  have HQ2 := hide (HQ.out.put (k := 5) (.int .i64 s.tr.st) (by rw [Trk.len]; omega))
  have HFR := hide ((Fr.refl q 0 7 w4).set (j := 5) (by omega) (by omega) (.int .i64 s.tr.st))
  replace HX := hide (HX.out.keep HFR.out (HX.out.lt (by simp [Ev])) (.inl (Ne.symm hqx)))
  replace HZ := hide (HZ.out.keep HFR.out (HZ.out.lt (by simp)) (.inl (Ne.symm hqz)))
  replace HB := hide (HB.out.setCell (p := ⟨q, 5, none⟩) hqg (.int .i64 s.tr.st))
  clear x0 x1 x2 x3 x4 x5 x6 x7 x8 xf
  clear q0 q1 q2 q3 q4 q5 q6 qf
  clear HQ HFR
  simp only [Nat.zero_add] at HQ2
  generalize w4.setCell ⟨q, 5, none⟩ (.int .i64 s.tr.st) = w5 at *
  obtain ⟨t, ht⟩ : ∃ t : Trk, ({ lookP s.tr W g with ag := 0 } : Trk) = t := ⟨_, rfl⟩
  have HQ := hide (show RA w5 q 0 (Trk.vals t) by rw [← ht]; exact HQ2.out)
  have HT := hide (show t.st = s.tr.st by rw [← ht]; rfl)
  have HRF := hide (show refreshP s W g = creditP { s with tr := t } g by rw [← ht]; rfl)
  clear HQ2 ht
  obtain ⟨x0, x1, x2, x3, x4, x5, x6, x7, x8⟩ := HX.out.ee
  simp only [Nat.zero_add] at x1 x2 x3 x4 x5 x6 x7 x8
  have xf := HX.out.f
  obtain ⟨q0, q1, q2, q3, q4, q5, q6⟩ := HQ.out.tt
  simp only [Nat.zero_add] at q1 q2 q3 q4 q5 q6
  have qf := HQ.out.f
  go_upto_region 5 with fail
  rw [show (((((((w5.setCell ⟨x, 2, none⟩ (.int .i64 t.num)).setCell ⟨x, 3, none⟩ (.int .i64 t.x)).setCell ⟨x, 4, none⟩ (.int .i64 t.y)).setCell ⟨x, 5, none⟩ (.int .i64 t.co)).setCell ⟨x, 6, none⟩ (.int .i64 t.sp)).setCell ⟨x, 7, none⟩ (.int .i64 t.st)).setCell ⟨x, 8, none⟩ (.int .i64 t.ag)) = w5.setCells x 2 (Trk.vals t) from rfl]
  have HX2 := hide (HX.out.fillE t)
  have HFR := hide (Fr.sets (b := x) (lo := 0) (n := 9) (Trk.vals t) 2 w5 (Fr.refl _ _ _ _) (by omega) (by rw [Trk.len]; omega))
  replace HZ := hide (HZ.out.keep HFR.out (HZ.out.lt (by simp)) (.inl hzx))
  replace HB := hide (bel_setsE (vs := Trk.vals t) 2 HB.out hxg)
  clear x0 x1 x2 x3 x4 x5 x6 x7 x8 xf
  clear q0 q1 q2 q3 q4 q5 q6 qf
  clear HQ HX HFR
  simp only [Nat.zero_add] at HX2
  generalize w5.setCells x 2 (Trk.vals t) = w6 at *
  obtain ⟨s1, hs1⟩ : ∃ s1 : Slt, ({ s with tr := t } : Slt) = s1 := ⟨_, rfl⟩
  rw [hs1] at HX2 HRF
  have h1 : s1.tr.st = s.tr.st := by rw [← hs1]; exact HT.out
  have h2 : s1.sk = s.sk := by rw [← hs1]
  have HX := HX2
  have HZL := hide (HZ.out.lt (by simp))
  clear HX2 hs1 HT hqx hqz hqg
  rw [← h1] at hst hsk
  rw [← h2] at hsk
  clear h1 h2
  have hw1 : IntKind.i64.wrap (s1.tr.st + 1) = s1.tr.st + 1 := by rw [IntKind.wrap_i64]; omega
  have hw2 : IntKind.i64.wrap (s1.tr.st + 2) = s1.tr.st + 2 := by rw [IntKind.wrap_i64]; omega
  have hw3 : IntKind.i64.wrap (s1.sk + 1) = s1.sk + 1 := by rw [IntKind.wrap_i64]; omega
  by_cases h3 : s1.tr.st = 3
  · have hd : decide (s1.tr.st < 3) = false := by simp; omega
    have HE := hide (show refreshP s W g = s1 by rw [HRF.out]; unfold creditP; rw [if_pos h3])
    clear h3 HRF hst hsk
    obtain ⟨x0, x1, x2, x3, x4, x5, x6, x7, x8⟩ := HX.out.ee
    simp only [Nat.zero_add] at x1 x2 x3 x4 x5 x6 x7 x8
    have xf := HX.out.f
    have z0 := HZ.out.c 0 _ rfl
    have z1 := HZ.out.c 1 _ rfl
    have z2 := HZ.out.c 2 _ rfl
    have z3 := HZ.out.c 3 _ rfl
    have z4 := HZ.out.c 4 _ rfl
    have z5 := HZ.out.c 5 _ rfl
    have z6 := HZ.out.c 6 _ rfl
    have z7 := HZ.out.c 7 _ rfl
    have z8 := HZ.out.c 8 _ rfl
    simp only [Nat.zero_add] at z0 z1 z2 z3 z4 z5 z6 z7 z8
    have zf := HZ.out.f
    have HB2 := hide (bel_setsE (vs := Ev s1) 0 HB.out hzg)
    go_wp2
    refine bodyPost_ret (v := .agg #[.int .i64 s1.tg, .int .i64 s1.sk, .int .i64 s1.tr.num, .int .i64 s1.tr.x, .int .i64 s1.tr.y, .int .i64 s1.tr.co, .int .i64 s1.tr.sp, .int .i64 s1.tr.st, .int .i64 s1.tr.ag]) (by simp [results, Try.results64, go_sem, z0, z1, z2, z3, z4, z5, z6, z7, z8]) rfl ⟨by rw [HE.out], ?_⟩
    exact HB2.out
  · have hd : decide (s1.tr.st < 3) = true := by simp; omega
    by_cases hlo : g < s1.tr.st + 1
    · have hd2 : decide (s1.tr.st + 1 ≤ g) = false := by simp; omega
      have hd3 : ((0 : Int) == s1.tr.st + 2) = false := by simp; omega
      have HE := hide (show refreshP s W g = { s1 with sk := 0 } by rw [HRF.out]; unfold creditP; rw [if_neg h3, if_pos hlo])
      clear h3 HRF hlo hst hsk
      obtain ⟨x0, x1, x2, x3, x4, x5, x6, x7, x8⟩ := HX.out.ee
      simp only [Nat.zero_add] at x1 x2 x3 x4 x5 x6 x7 x8
      have xf := HX.out.f
      go_upto_region 9 with fail
      have HX2 := hide (HX.out.put (k := 1) (.int .i64 0) (by rw [Ev.len]; omega))
      replace HB := hide (HB.out.setCell (p := ⟨x, 1, none⟩) hxg (.int .i64 0))
      replace HZ := hide (HZ.out.keep ((Fr.refl x 0 9 w6).set (j := 1) (by omega) (by omega) (.int .i64 0)) HZL.out (.inl hzx))
      clear x0 x1 x2 x3 x4 x5 x6 x7 x8 xf
      clear HX
      simp only [Nat.zero_add] at HX2
      generalize w6.setCell ⟨x, 1, none⟩ (.int .i64 0) = w7 at *
      have HX := hide (show RA w7 x 0 (Ev { s1 with sk := 0 }) from HX2.out)
      clear HX2
      have HZL := hide (HZ.out.lt (by simp))
      obtain ⟨x0, x1, x2, x3, x4, x5, x6, x7, x8⟩ := HX.out.ee
      simp only [Nat.zero_add] at x1 x2 x3 x4 x5 x6 x7 x8
      have xf := HX.out.f
      have z0 := HZ.out.c 0 _ rfl
      have z1 := HZ.out.c 1 _ rfl
      have z2 := HZ.out.c 2 _ rfl
      have z3 := HZ.out.c 3 _ rfl
      have z4 := HZ.out.c 4 _ rfl
      have z5 := HZ.out.c 5 _ rfl
      have z6 := HZ.out.c 6 _ rfl
      have z7 := HZ.out.c 7 _ rfl
      have z8 := HZ.out.c 8 _ rfl
      simp only [Nat.zero_add] at z0 z1 z2 z3 z4 z5 z6 z7 z8
      have zf := HZ.out.f
      have HB2 := hide (bel_setsE (vs := Ev ({ s1 with sk := 0 } : Slt)) 0 HB.out hzg)
      go_wp2
      refine bodyPost_ret (v := .agg #[.int .i64 ({ s1 with sk := 0 } : Slt).tg, .int .i64 ({ s1 with sk := 0 } : Slt).sk, .int .i64 ({ s1 with sk := 0 } : Slt).tr.num, .int .i64 ({ s1 with sk := 0 } : Slt).tr.x, .int .i64 ({ s1 with sk := 0 } : Slt).tr.y, .int .i64 ({ s1 with sk := 0 } : Slt).tr.co, .int .i64 ({ s1 with sk := 0 } : Slt).tr.sp, .int .i64 ({ s1 with sk := 0 } : Slt).tr.st, .int .i64 ({ s1 with sk := 0 } : Slt).tr.ag]) (by simp [results, Try.results64, go_sem, z0, z1, z2, z3, z4, z5, z6, z7, z8]) rfl ⟨by rw [HE.out], ?_⟩
      exact HB2.out
    · have hd2 : decide (s1.tr.st + 1 ≤ g) = true := by simp; omega
      by_cases hup : s1.sk + 1 = s1.tr.st + 2
      · have hd3 : (s1.sk + 1 == s1.tr.st + 2) = true := by simp; omega
        have HE := hide (show refreshP s W g = { s1 with sk := 0, tr := { s1.tr with st := s1.tr.st + 1 } } by rw [HRF.out]; unfold creditP; rw [if_neg h3, if_neg hlo, if_pos hup])
        clear h3 HRF hlo hst hsk hup
        obtain ⟨x0, x1, x2, x3, x4, x5, x6, x7, x8⟩ := HX.out.ee
        simp only [Nat.zero_add] at x1 x2 x3 x4 x5 x6 x7 x8
        have xf := HX.out.f
        go_upto_region 9 with fail
        have HX2 := hide (HX.out.put (k := 1) (.int .i64 (s1.sk + 1)) (by rw [Ev.len]; omega))
        replace HB := hide (HB.out.setCell (p := ⟨x, 1, none⟩) hxg (.int .i64 (s1.sk + 1)))
        replace HZ := hide (HZ.out.keep ((Fr.refl x 0 9 w6).set (j := 1) (by omega) (by omega) (.int .i64 (s1.sk + 1))) HZL.out (.inl hzx))
        clear x0 x1 x2 x3 x4 x5 x6 x7 x8 xf
        clear HX
        simp only [Nat.zero_add] at HX2
        generalize w6.setCell ⟨x, 1, none⟩ (.int .i64 (s1.sk + 1)) = w7 at *
        have HX := hide (show RA w7 x 0 (Ev { s1 with sk := s1.sk + 1 }) from HX2.out)
        clear HX2
        have HZL := hide (HZ.out.lt (by simp))
        obtain ⟨x0, x1, x2, x3, x4, x5, x6, x7, x8⟩ := HX.out.ee
        simp only [Nat.zero_add] at x1 x2 x3 x4 x5 x6 x7 x8
        have xf := HX.out.f
        go_upto_region 11 with fail
        have HX2 := hide (HX.out.put (k := 7) (.int .i64 (s1.tr.st + 1)) (by rw [Ev.len]; omega))
        replace HB := hide (HB.out.setCell (p := ⟨x, 7, none⟩) hxg (.int .i64 (s1.tr.st + 1)))
        replace HZ := hide (HZ.out.keep ((Fr.refl x 0 9 w7).set (j := 7) (by omega) (by omega) (.int .i64 (s1.tr.st + 1))) HZL.out (.inl hzx))
        clear x0 x1 x2 x3 x4 x5 x6 x7 x8 xf
        clear HX
        simp only [Nat.zero_add] at HX2
        generalize w7.setCell ⟨x, 7, none⟩ (.int .i64 (s1.tr.st + 1)) = w8 at *
        have HX := hide (show RA w8 x 0 (Ev { s1 with sk := s1.sk + 1, tr := { s1.tr with st := s1.tr.st + 1 } }) from HX2.out)
        clear HX2
        have HZL := hide (HZ.out.lt (by simp))
        obtain ⟨x0, x1, x2, x3, x4, x5, x6, x7, x8⟩ := HX.out.ee
        simp only [Nat.zero_add] at x1 x2 x3 x4 x5 x6 x7 x8
        have xf := HX.out.f
        go_upto_region 12 with fail
        have HX2 := hide (HX.out.put (k := 1) (.int .i64 0) (by rw [Ev.len]; omega))
        replace HB := hide (HB.out.setCell (p := ⟨x, 1, none⟩) hxg (.int .i64 0))
        replace HZ := hide (HZ.out.keep ((Fr.refl x 0 9 w8).set (j := 1) (by omega) (by omega) (.int .i64 0)) HZL.out (.inl hzx))
        clear x0 x1 x2 x3 x4 x5 x6 x7 x8 xf
        clear HX
        simp only [Nat.zero_add] at HX2
        generalize w8.setCell ⟨x, 1, none⟩ (.int .i64 0) = w9 at *
        have HX := hide (show RA w9 x 0 (Ev { s1 with sk := 0, tr := { s1.tr with st := s1.tr.st + 1 } }) from HX2.out)
        clear HX2
        have HZL := hide (HZ.out.lt (by simp))
        obtain ⟨x0, x1, x2, x3, x4, x5, x6, x7, x8⟩ := HX.out.ee
        simp only [Nat.zero_add] at x1 x2 x3 x4 x5 x6 x7 x8
        have xf := HX.out.f
        have z0 := HZ.out.c 0 _ rfl
        have z1 := HZ.out.c 1 _ rfl
        have z2 := HZ.out.c 2 _ rfl
        have z3 := HZ.out.c 3 _ rfl
        have z4 := HZ.out.c 4 _ rfl
        have z5 := HZ.out.c 5 _ rfl
        have z6 := HZ.out.c 6 _ rfl
        have z7 := HZ.out.c 7 _ rfl
        have z8 := HZ.out.c 8 _ rfl
        simp only [Nat.zero_add] at z0 z1 z2 z3 z4 z5 z6 z7 z8
        have zf := HZ.out.f
        have HB2 := hide (bel_setsE (vs := Ev ({ s1 with sk := 0, tr := { s1.tr with st := s1.tr.st + 1 } } : Slt)) 0 HB.out hzg)
        go_wp2
        refine bodyPost_ret (v := .agg #[.int .i64 ({ s1 with sk := 0, tr := { s1.tr with st := s1.tr.st + 1 } } : Slt).tg, .int .i64 ({ s1 with sk := 0, tr := { s1.tr with st := s1.tr.st + 1 } } : Slt).sk, .int .i64 ({ s1 with sk := 0, tr := { s1.tr with st := s1.tr.st + 1 } } : Slt).tr.num, .int .i64 ({ s1 with sk := 0, tr := { s1.tr with st := s1.tr.st + 1 } } : Slt).tr.x, .int .i64 ({ s1 with sk := 0, tr := { s1.tr with st := s1.tr.st + 1 } } : Slt).tr.y, .int .i64 ({ s1 with sk := 0, tr := { s1.tr with st := s1.tr.st + 1 } } : Slt).tr.co, .int .i64 ({ s1 with sk := 0, tr := { s1.tr with st := s1.tr.st + 1 } } : Slt).tr.sp, .int .i64 ({ s1 with sk := 0, tr := { s1.tr with st := s1.tr.st + 1 } } : Slt).tr.st, .int .i64 ({ s1 with sk := 0, tr := { s1.tr with st := s1.tr.st + 1 } } : Slt).tr.ag]) (by simp [results, Try.results64, go_sem, z0, z1, z2, z3, z4, z5, z6, z7, z8]) rfl ⟨by rw [HE.out], ?_⟩
        exact HB2.out
      · have hd3 : (s1.sk + 1 == s1.tr.st + 2) = false := by simp; omega
        have HE := hide (show refreshP s W g = { s1 with sk := s1.sk + 1 } by rw [HRF.out]; unfold creditP; rw [if_neg h3, if_neg hlo, if_neg hup])
        clear h3 HRF hlo hst hsk hup
        obtain ⟨x0, x1, x2, x3, x4, x5, x6, x7, x8⟩ := HX.out.ee
        simp only [Nat.zero_add] at x1 x2 x3 x4 x5 x6 x7 x8
        have xf := HX.out.f
        go_upto_region 9 with fail
        have HX2 := hide (HX.out.put (k := 1) (.int .i64 (s1.sk + 1)) (by rw [Ev.len]; omega))
        replace HB := hide (HB.out.setCell (p := ⟨x, 1, none⟩) hxg (.int .i64 (s1.sk + 1)))
        replace HZ := hide (HZ.out.keep ((Fr.refl x 0 9 w6).set (j := 1) (by omega) (by omega) (.int .i64 (s1.sk + 1))) HZL.out (.inl hzx))
        clear x0 x1 x2 x3 x4 x5 x6 x7 x8 xf
        clear HX
        simp only [Nat.zero_add] at HX2
        generalize w6.setCell ⟨x, 1, none⟩ (.int .i64 (s1.sk + 1)) = w7 at *
        have HX := hide (show RA w7 x 0 (Ev { s1 with sk := s1.sk + 1 }) from HX2.out)
        clear HX2
        have HZL := hide (HZ.out.lt (by simp))
        obtain ⟨x0, x1, x2, x3, x4, x5, x6, x7, x8⟩ := HX.out.ee
        simp only [Nat.zero_add] at x1 x2 x3 x4 x5 x6 x7 x8
        have xf := HX.out.f
        have z0 := HZ.out.c 0 _ rfl
        have z1 := HZ.out.c 1 _ rfl
        have z2 := HZ.out.c 2 _ rfl
        have z3 := HZ.out.c 3 _ rfl
        have z4 := HZ.out.c 4 _ rfl
        have z5 := HZ.out.c 5 _ rfl
        have z6 := HZ.out.c 6 _ rfl
        have z7 := HZ.out.c 7 _ rfl
        have z8 := HZ.out.c 8 _ rfl
        simp only [Nat.zero_add] at z0 z1 z2 z3 z4 z5 z6 z7 z8
        have zf := HZ.out.f
        have HB2 := hide (bel_setsE (vs := Ev ({ s1 with sk := s1.sk + 1 } : Slt)) 0 HB.out hzg)
        go_wp2
        refine bodyPost_ret (v := .agg #[.int .i64 ({ s1 with sk := s1.sk + 1 } : Slt).tg, .int .i64 ({ s1 with sk := s1.sk + 1 } : Slt).sk, .int .i64 ({ s1 with sk := s1.sk + 1 } : Slt).tr.num, .int .i64 ({ s1 with sk := s1.sk + 1 } : Slt).tr.x, .int .i64 ({ s1 with sk := s1.sk + 1 } : Slt).tr.y, .int .i64 ({ s1 with sk := s1.sk + 1 } : Slt).tr.co, .int .i64 ({ s1 with sk := s1.sk + 1 } : Slt).tr.sp, .int .i64 ({ s1 with sk := s1.sk + 1 } : Slt).tr.st, .int .i64 ({ s1 with sk := s1.sk + 1 } : Slt).tr.ag]) (by simp [results, Try.results64, go_sem, z0, z1, z2, z3, z4, z5, z6, z7, z8]) rfl ⟨by rw [HE.out], ?_⟩
        exact HB2.out

set_option linter.unusedSimpArgs false in
set_option maxRecDepth 100000 in
set_option maxHeartbeats 8000000 in
/-- tracksm.undetected -/
theorem undetected_any (w : World) (m : Nat) (X Y : Nat → Int) (hm : MT w m X Y) (s : Slt) (hs : SltOk s) : Calls Try.prog 65 #[.pointer (some ⟨m, 0, none⟩), .agg #[.int .i64 s.tg, .int .i64 s.sk, .int .i64 s.tr.num, .int .i64 s.tr.x, .int .i64 s.tr.y, .int .i64 s.tr.co, .int .i64 s.tr.sp, .int .i64 s.tr.st, .int .i64 s.tr.ag]] w fun e w' => e = .returned (.agg #[.int .i64 (coastP X Y s).tg, .int .i64 (coastP X Y s).sk, .int .i64 (coastP X Y s).tr.num, .int .i64 (coastP X Y s).tr.x, .int .i64 (coastP X Y s).tr.y, .int .i64 (coastP X Y s).tr.co, .int .i64 (coastP X Y s).tr.sp, .int .i64 (coastP X Y s).tr.st, .int .i64 (coastP X Y s).tr.ag]) ∧ Below w.heap.size w w' := by
  have HM := hide (hm.below (be2 w (.cells #[.int .i64 s.tg, .int .i64 s.sk, .int .i64 s.tr.num, .int .i64 s.tr.x, .int .i64 s.tr.y, .int .i64 s.tr.co, .int .i64 s.tr.sp, .int .i64 s.tr.st, .int .i64 s.tr.ag] 113) (.cells #[.int .i64 0, .int .i64 0, .int .i64 0, .int .i64 0, .int .i64 0, .int .i64 0, .int .i64 0, .int .i64 0, .int .i64 0] 113)))
  have hco := hs.tr.co
  have hsp := hs.tr.sp
  have hdx := hs.tr.x
  have hdy := hs.tr.y
  have hda := hs.tr.ag
  obtain ⟨co, hcoe⟩ : ∃ c : Nat, s.tr.co = c := ⟨s.tr.co.toNat, by omega⟩
  have hcl : co < 4096 := by omega
  have HCE := hide hcoe
  have hwa : IntKind.i64.wrap (s.tr.ag + 1) = s.tr.ag + 1 := by rw [IntKind.wrap_i64]; omega
  have HX := hide ((RA.below (new_re w s) (by simp) (be1 (w.alloc (.cells #[.int .i64 s.tg, .int .i64 s.sk, .int .i64 s.tr.num, .int .i64 s.tr.x, .int .i64 s.tr.y, .int .i64 s.tr.co, .int .i64 s.tr.sp, .int .i64 s.tr.st, .int .i64 s.tr.ag] 113)) (.cells #[.int .i64 0, .int .i64 0, .int .i64 0, .int .i64 0, .int .i64 0, .int .i64 0, .int .i64 0, .int .i64 0, .int .i64 0] 113))))
  have HZ := hide (new_z9 (w.alloc (.cells #[.int .i64 s.tg, .int .i64 s.sk, .int .i64 s.tr.num, .int .i64 s.tr.x, .int .i64 s.tr.y, .int .i64 s.tr.co, .int .i64 s.tr.sp, .int .i64 s.tr.st, .int .i64 s.tr.ag] 113)))
  rw [show (w.alloc (.cells #[.int .i64 s.tg, .int .i64 s.sk, .int .i64 s.tr.num, .int .i64 s.tr.x, .int .i64 s.tr.y, .int .i64 s.tr.co, .int .i64 s.tr.sp, .int .i64 s.tr.st, .int .i64 s.tr.ag] 113)).heap.size = w.heap.size + 1 by simp] at HZ
  have HB := hide (be2 w (.cells #[.int .i64 s.tg, .int .i64 s.sk, .int .i64 s.tr.num, .int .i64 s.tr.x, .int .i64 s.tr.y, .int .i64 s.tr.co, .int .i64 s.tr.sp, .int .i64 s.tr.st, .int .i64 s.tr.ag] 113) (.cells #[.int .i64 0, .int .i64 0, .int .i64 0, .int .i64 0, .int .i64 0, .int .i64 0, .int .i64 0, .int .i64 0, .int .i64 0] 113))
  clear hm hs hcoe
  go_enter Try.func65, Try.ntmps65
  go_upto_region 1 with fail
  generalize (w.alloc (.cells #[.int .i64 s.tg, .int .i64 s.sk, .int .i64 s.tr.num, .int .i64 s.tr.x, .int .i64 s.tr.y, .int .i64 s.tr.co, .int .i64 s.tr.sp, .int .i64 s.tr.st, .int .i64 s.tr.ag] 113)).alloc (.cells #[.int .i64 0, .int .i64 0, .int .i64 0, .int .i64 0, .int .i64 0, .int .i64 0, .int .i64 0, .int .i64 0, .int .i64 0] 113) = w1 at *
  obtain ⟨z, hz⟩ : ∃ z, w.heap.size + 1 = z := ⟨_, rfl⟩
  obtain ⟨x, hx⟩ : ∃ x, w.heap.size = x := ⟨_, rfl⟩
  have hxg : w.heap.size ≤ x := by omega
  have hzg : w.heap.size ≤ z := by omega
  have hzx : z ≠ x := by omega
  rw [hz] at HZ ⊢
  rw [hx] at HX ⊢
  clear hx hz
  obtain ⟨x0, x1, x2, x3, x4, x5, x6, x7, x8⟩ := HX.out.ee
  simp only [Nat.zero_add] at x1 x2 x3 x4 x5 x6 x7 x8
  have xf := HX.out.f
  rw [HCE.out] at x5
  go_wp2_with fail
  refine (adv_any _ m X Y HM.out s.tr.x s.tr.y s.tr.sp co hcl hdx.1 hdx.2 hdy.1 hdy.2 hsp.1 hsp.2).mono ?_
  rintro e w2 ⟨rfl, nn, hw5⟩
  subst hw5
  replace HX := hide (HX.out.drewN nn)
  replace HZ := hide (HZ.out.drewN nn)
  replace HB := hide (lec HB.out (belN _ nn))
  clear x0 x1 x2 x3 x4 x5 x6 x7 x8 xf
  generalize World.drewN _ nn = w2 at *
  obtain ⟨mx, hmx⟩ : ∃ v, mapP (s.tr.x + s.tr.sp * X co / 1073741824) = v := ⟨_, rfl⟩
  obtain ⟨my, hmy⟩ : ∃ v, mapP (s.tr.y + s.tr.sp * Y co / 1073741824) = v := ⟨_, rfl⟩
  have HE := hide (show coastP X Y s = { s with sk := 0, tr := { s.tr with ag := s.tr.ag + 1, x := mx, y := my } } by unfold coastP; rw [HCE.out, Int.toNat_natCast, hmx, hmy])
  rw [hmx, hmy]
  clear hmx hmy
  have HZL := hide (HZ.out.lt (by simp))
  obtain ⟨x0, x1, x2, x3, x4, x5, x6, x7, x8⟩ := HX.out.ee
  simp only [Nat.zero_add] at x1 x2 x3 x4 x5 x6 x7 x8
  have xf := HX.out.f
  go_upto_region 2 with fail
  have HX2 := hide ((HX.out.put (k := 3) (.int .i64 mx) (by rw [Ev.len]; omega)).put (k := 4) (.int .i64 my) (by rw [List.length_set, Ev.len]; omega))
  replace HB := hide ((HB.out.setCell (p := ⟨x, 3, none⟩) hxg (.int .i64 mx)).setCell (p := ⟨x, 4, none⟩) hxg (.int .i64 my))
  replace HZ := hide (HZ.out.keep (((Fr.refl x 0 9 w2).set (j := 3) (by omega) (by omega) (.int .i64 mx)).set (j := 4) (by omega) (by omega) (.int .i64 my)) HZL.out (.inl hzx))
  clear x0 x1 x2 x3 x4 x5 x6 x7 x8 xf
  clear HX
  simp only [Nat.zero_add] at HX2
  generalize (w2.setCell ⟨x, 3, none⟩ (.int .i64 mx)).setCell ⟨x, 4, none⟩ (.int .i64 my) = w3 at *
  have HX := hide (show RA w3 x 0 (Ev { s with tr := { s.tr with x := mx, y := my } }) from HX2.out)
  clear HX2 HZL
  have HZL := hide (HZ.out.lt (by simp))
  obtain ⟨x0, x1, x2, x3, x4, x5, x6, x7, x8⟩ := HX.out.ee
  simp only [Nat.zero_add] at x1 x2 x3 x4 x5 x6 x7 x8
  have xf := HX.out.f
  go_upto_region 3 with fail
  have HX2 := hide (HX.out.put (k := 8) (.int .i64 (s.tr.ag + 1)) (by rw [Ev.len]; omega))
  replace HB := hide (HB.out.setCell (p := ⟨x, 8, none⟩) hxg (.int .i64 (s.tr.ag + 1)))
  replace HZ := hide (HZ.out.keep ((Fr.refl x 0 9 w3).set (j := 8) (by omega) (by omega) (.int .i64 (s.tr.ag + 1))) HZL.out (.inl hzx))
  clear x0 x1 x2 x3 x4 x5 x6 x7 x8 xf
  clear HX
  simp only [Nat.zero_add] at HX2
  generalize w3.setCell ⟨x, 8, none⟩ (.int .i64 (s.tr.ag + 1)) = w4 at *
  have HX := hide (show RA w4 x 0 (Ev { s with tr := { s.tr with ag := s.tr.ag + 1, x := mx, y := my } }) from HX2.out)
  clear HX2
  have HZL := hide (HZ.out.lt (by simp))
  obtain ⟨x0, x1, x2, x3, x4, x5, x6, x7, x8⟩ := HX.out.ee
  simp only [Nat.zero_add] at x1 x2 x3 x4 x5 x6 x7 x8
  have xf := HX.out.f
  go_upto_region 4 with fail
  have HX2 := hide (HX.out.put (k := 1) (.int .i64 0) (by rw [Ev.len]; omega))
  replace HB := hide (HB.out.setCell (p := ⟨x, 1, none⟩) hxg (.int .i64 0))
  replace HZ := hide (HZ.out.keep ((Fr.refl x 0 9 w4).set (j := 1) (by omega) (by omega) (.int .i64 0)) HZL.out (.inl hzx))
  clear x0 x1 x2 x3 x4 x5 x6 x7 x8 xf
  clear HX
  simp only [Nat.zero_add] at HX2
  generalize w4.setCell ⟨x, 1, none⟩ (.int .i64 0) = w5 at *
  have HX := hide (show RA w5 x 0 (Ev { s with sk := 0, tr := { s.tr with ag := s.tr.ag + 1, x := mx, y := my } }) from HX2.out)
  clear HX2
  have HZL := hide (HZ.out.lt (by simp))
  obtain ⟨x0, x1, x2, x3, x4, x5, x6, x7, x8⟩ := HX.out.ee
  simp only [Nat.zero_add] at x1 x2 x3 x4 x5 x6 x7 x8
  have xf := HX.out.f
  have z0 := HZ.out.c 0 _ rfl
  have z1 := HZ.out.c 1 _ rfl
  have z2 := HZ.out.c 2 _ rfl
  have z3 := HZ.out.c 3 _ rfl
  have z4 := HZ.out.c 4 _ rfl
  have z5 := HZ.out.c 5 _ rfl
  have z6 := HZ.out.c 6 _ rfl
  have z7 := HZ.out.c 7 _ rfl
  have z8 := HZ.out.c 8 _ rfl
  simp only [Nat.zero_add] at z0 z1 z2 z3 z4 z5 z6 z7 z8
  have zf := HZ.out.f
  have HB2 := hide (bel_setsE (vs := Ev ({ s with sk := 0, tr := { s.tr with ag := s.tr.ag + 1, x := mx, y := my } } : Slt)) 0 HB.out hzg)
  go_wp2
  refine bodyPost_ret (v := .agg #[.int .i64 ({ s with sk := 0, tr := { s.tr with ag := s.tr.ag + 1, x := mx, y := my } } : Slt).tg, .int .i64 ({ s with sk := 0, tr := { s.tr with ag := s.tr.ag + 1, x := mx, y := my } } : Slt).sk, .int .i64 ({ s with sk := 0, tr := { s.tr with ag := s.tr.ag + 1, x := mx, y := my } } : Slt).tr.num, .int .i64 ({ s with sk := 0, tr := { s.tr with ag := s.tr.ag + 1, x := mx, y := my } } : Slt).tr.x, .int .i64 ({ s with sk := 0, tr := { s.tr with ag := s.tr.ag + 1, x := mx, y := my } } : Slt).tr.y, .int .i64 ({ s with sk := 0, tr := { s.tr with ag := s.tr.ag + 1, x := mx, y := my } } : Slt).tr.co, .int .i64 ({ s with sk := 0, tr := { s.tr with ag := s.tr.ag + 1, x := mx, y := my } } : Slt).tr.sp, .int .i64 ({ s with sk := 0, tr := { s.tr with ag := s.tr.ag + 1, x := mx, y := my } } : Slt).tr.st, .int .i64 ({ s with sk := 0, tr := { s.tr with ag := s.tr.ag + 1, x := mx, y := my } } : Slt).tr.ag]) (by simp [results, Try.results65, go_sem, z0, z1, z2, z3, z4, z5, z6, z7, z8]) rfl ⟨by rw [HE.out], ?_⟩
  exact HB2.out
end Go.Proofs.Qxb6500777a
