import Derived.Test.Qxb6500776aGeo
namespace Go.Proofs.Qxb6500776a
open Go.RowKit

theorem onMap_any (w : World) (v : Int) (h : OnM v) : Calls Try.prog 46 #[.int .i64 v] w fun e w' => e = .returned (.bool true) ∧ w' = w := by
  unfold OnM at h
  obtain ⟨h1, h2⟩ := h
  go_enter Try.func46, Try.ntmps46
  go_wp2
  go_ret
  exact ⟨rfl, rfl⟩
def alP (a b c d e f : Int) : Int := (e - a) * (c - a) + (f - b) * (d - b)
def crP (a b c d e f : Int) : Int := (c - a) * (f - b) - (d - b) * (e - a)
def segP (a b c d e f r : Int) : Bool := if alP a b c d e f ≤ 0 then decide (dsq a b e f ≤ r * r) else if dsq a b c d ≤ alP a b c d e f then decide (dsq c d e f ≤ r * r) else decide (crP a b c d e f * crP a b c d e f ≤ r * r * dsq a b c d)
theorem mul_bd {x y : Int} (h1 : -2097152 ≤ x) (h2 : x ≤ 2097152) (h3 : -2097152 ≤ y) (h4 : y ≤ 2097152) : -4398046511104 ≤ x * y ∧ x * y ≤ 4398046511104 := by
  have a1 : 0 ≤ (2097152 - x) * (2097152 + y) := Int.mul_nonneg (by omega) (by omega)
  have a2 : 0 ≤ (2097152 + x) * (2097152 - y) := Int.mul_nonneg (by omega) (by omega)
  have a3 : 0 ≤ (2097152 - x) * (2097152 - y) := Int.mul_nonneg (by omega) (by omega)
  have a4 : 0 ≤ (2097152 + x) * (2097152 + y) := Int.mul_nonneg (by omega) (by omega)
  simp only [Int.sub_mul, Int.mul_sub, Int.add_mul, Int.mul_add] at a1 a2 a3 a4
  omega
/-- A number in its box. -/
structure VB (w wx : World) (p N : Nat) (s : Bool) (a : Option Addr) (n c : Nat) (z : Int) : Prop where
  c0 : wx.cell? ⟨p, 0, none⟩ = some (.bool s)
  c1 : wx.cell? ⟨p, 1, none⟩ = some (.slice a n c)
  i : IsI N wx s a n c z
  bel : Below w.heap.size w wx
theorem VB.below {w wx wy : World} {p N : Nat} {s : Bool} {a : Option Addr} {n c : Nat} {z : Int} (h : VB w wx p N s a n c z) (hb : Below wx.heap.size wx wy) : VB w wy p N s a n c z := ⟨cellKeep hb h.c0, cellKeep hb h.c1, h.i.below hb, lec h.bel hb⟩
theorem VB.drew {w wx : World} {p N : Nat} {s : Bool} {a : Option Addr} {n c : Nat} {z : Int} (h : VB w wx p N s a n c z) : VB w wx.drew p N s a n c z := h.below (Below.refl _ _).drew
set_option maxRecDepth 100000 in
set_option maxHeartbeats 4000000 in
theorem segDisc_any (w : World) (a b c d e f r : Int) (ha : OnM a) (hb : OnM b) (hc : OnM c) (hd : OnM d) (he : OnM e) (hf : OnM f) (hr : 0 ≤ r ∧ r ≤ 131072) :
    Calls Try.prog 23 #[.int .i64 a, .int .i64 b, .int .i64 c, .int .i64 d, .int .i64 e, .int .i64 f, .int .i64 r] w fun x w' => x = .returned (.bool (segP a b c d e f r)) ∧ Below w.heap.size w w' := by
  have ca := fun w => hide (onMap_any w a ha)
  have cb := fun w => hide (onMap_any w b hb)
  have cc := fun w => hide (onMap_any w c hc)
  have cd := fun w => hide (onMap_any w d hd)
  have ce := fun w => hide (onMap_any w e he)
  have cf := fun w => hide (onMap_any w f hf)
  have d1 := fun w => hide (distSq_any w a b c d ha hb hc hd)
  have d2 := fun w => hide (distSq_any w a b e f ha hb he hf)
  have d3 := fun w => hide (distSq_any w c d e f hc hd he hf)
  have r1 := dsq_rng ha hb hc hd
  have r2 := dsq_rng ha hb he hf
  have r3 := dsq_rng hc hd he hf
  unfold OnM at ha hb hc hd he hf
  have m1 := mul_bd (x := e - a) (y := c - a) (by omega) (by omega) (by omega) (by omega)
  have m2 := mul_bd (x := f - b) (y := d - b) (by omega) (by omega) (by omega) (by omega)
  have m3 := mul_bd (x := c - a) (y := f - b) (by omega) (by omega) (by omega) (by omega)
  have m4 := mul_bd (x := d - b) (y := e - a) (by omega) (by omega) (by omega) (by omega)
  obtain ⟨AL, hAL⟩ : ∃ x, alP a b c d e f = x := ⟨_, rfl⟩
  obtain ⟨CR, hCR⟩ : ∃ x, crP a b c d e f = x := ⟨_, rfl⟩
  have hAL' : (e - a) * (c - a) + (f - b) * (d - b) = AL := hAL
  have hCR' : (c - a) * (f - b) - (d - b) * (e - a) = CR := hCR
  have bAL : -8796093022208 ≤ AL ∧ AL ≤ 8796093022208 := by omega
  have bCR : -8796093022208 ≤ CR ∧ CR ≤ 8796093022208 := by omega
  obtain ⟨L, hL⟩ : ∃ x, dsq a b c d = x := ⟨_, rfl⟩
  obtain ⟨S, hS⟩ : ∃ x, dsq a b e f = x := ⟨_, rfl⟩
  obtain ⟨E, hE⟩ : ∃ x, dsq c d e f = x := ⟨_, rfl⟩
  have hv : segP a b c d e f r = if AL ≤ 0 then decide (S ≤ r * r) else if L ≤ AL then decide (E ≤ r * r) else decide (CR * CR ≤ r * r * L) := by unfold segP; rw [hAL, hCR, hL, hS, hE]
  rw [hv]
  rw [hL] at d1 r1
  rw [hS] at d2 r2
  rw [hE] at d3 r3
  clear hv hAL hCR hL hS hE
  have hr0 : ¬ r < 0 := by omega
  go_enter Try.func23, Try.ntmps23
  go_wp2_with fail
  refine (ca _).out.mono ?_
  rintro x wz ⟨rfl, rfl⟩
  go_wp2_with fail
  refine (cb _).out.mono ?_
  rintro x wz ⟨rfl, rfl⟩
  go_wp2_with fail
  refine (cc _).out.mono ?_
  rintro x wz ⟨rfl, rfl⟩
  go_wp2_with fail
  refine (cd _).out.mono ?_
  rintro x wz ⟨rfl, rfl⟩
  go_wp2_with fail
  refine (ce _).out.mono ?_
  rintro x wz ⟨rfl, rfl⟩
  go_wp2_with fail
  refine (cf _).out.mono ?_
  rintro x wz ⟨rfl, rfl⟩
  clear ca cb cc cd ce cf
  go_wp2_with fail
  refine (Of_any _ r (by omega) (by omega)).mono ?_
  rintro x w1 ⟨s1, a1, n1, c1, rfl, i1, b1⟩
  have I1 := hide i1
  have B1 := hide b1
  clear i1 b1
  go_wp2_with fail
  refine (Of_any _ r (by omega) (by omega)).mono ?_
  rintro x w2 ⟨s2, a2, n2, c2, rfl, i2, b2⟩
  have I2 := hide i2
  replace I1 := hide (I1.out.below b2)
  replace B1 := hide (lec B1.out b2)
  clear i2 b2
  go_wp2_with fail
  refine (Mul_any _ s1 s2 a1 a2 n1 n2 c1 c2 2 2 r r (by omega) I1.out I2.out).mono ?_
  rintro x w3 ⟨s3, a3, n3, c3, rfl, i3, b3⟩
  have HV : Hid (VB wz (w3.alloc (.cells #[.bool s3, .slice a3 n3 c3] 89)) w3.heap.size 4 s3 a3 n3 c3 (r * r)) :=
    ⟨by simp [go_sem], by simp [go_sem], i3.below (be1 _ _), lec (lec B1.out b3) (be1 _ _)⟩
  clear i3 b3 I1 I2 B1
  go_upto_region 4 with fail
  generalize w3.alloc (.cells #[.bool s3, .slice a3 n3 c3] 89) = W at *
  generalize w3.heap.size = p at *
  obtain ⟨rr, hrr⟩ : ∃ x, r * r = x := ⟨_, rfl⟩
  rw [hrr] at HV
  have HRR := hide hrr
  clear hrr
  by_cases g1 : AL ≤ 0
  · go_wp2_with fail
    refine (d1 _).out.mono ?_
    rintro x wy ⟨rfl, rfl⟩
    go_upto_region 7 with fail
    have k0 := HV.out.drew.c0
    have k1 := HV.out.drew.c1
    go_region_law (first
      | (refine step_call rfl 22 #[.int .i64 a, .int .i64 b, .int .i64 e, .int .i64 f] ?_ ((d2 _).out) ?_; (focus (simp [go_sem]; done)); rintro x wu ⟨rfl, rfl⟩; refine ⟨_, rfl, ?_⟩)
      | (refine step_call rfl 45 #[.int .i64 S] ?_ (Of_any _ S (by omega) (by omega)) ?_; (focus (simp [go_sem]; done)); rintro x w6 ⟨s6, a6, n6, c6, rfl, i6, b6⟩; refine ⟨_, rfl, ?_⟩; have I6 := hide i6; have HV6 := hide (HV.out.drew.below b6); have y0 := HV6.out.c0; have y1 := HV6.out.c1; clear b6 i6)
      | (refine step_call rfl 43 #[.agg #[.bool s6, .slice a6 n6 c6], .agg #[.bool s3, .slice a3 n3 c3]] ?_ (Cmp_any _ s6 s3 a6 a3 n6 n3 c6 c3 2 4 S rr (by omega) (by omega) I6.out HV6.out.i) ?_; (focus (simp [go_sem]; done)); rintro x w7 ⟨rfl, b7⟩; refine ⟨_, rfl, ?_⟩; have HV7 := hide (HV6.out.below b7); clear b7))
    all_goals
      go_wp2
      go_ret
      exact ⟨ret_bool (by rw [HRR.out, Bool.eq_iff_iff]; simp [cmp3_le]), HV7.out.bel⟩
  · by_cases g2 : L ≤ AL
    · go_wp2_with fail
      refine (d1 _).out.mono ?_
      rintro x wy ⟨rfl, rfl⟩
      go_upto_region 9 with fail
      have k0 := HV.out.drew.c0
      have k1 := HV.out.drew.c1
      go_region_law (first
        | (refine step_call rfl 22 #[.int .i64 c, .int .i64 d, .int .i64 e, .int .i64 f] ?_ ((d3 _).out) ?_; (focus (simp [go_sem]; done)); rintro x wu ⟨rfl, rfl⟩; refine ⟨_, rfl, ?_⟩)
        | (refine step_call rfl 45 #[.int .i64 E] ?_ (Of_any _ E (by omega) (by omega)) ?_; (focus (simp [go_sem]; done)); rintro x w6 ⟨s6, a6, n6, c6, rfl, i6, b6⟩; refine ⟨_, rfl, ?_⟩; have I6 := hide i6; have HV6 := hide (HV.out.drew.below b6); have y0 := HV6.out.c0; have y1 := HV6.out.c1; clear b6 i6)
        | (refine step_call rfl 43 #[.agg #[.bool s6, .slice a6 n6 c6], .agg #[.bool s3, .slice a3 n3 c3]] ?_ (Cmp_any _ s6 s3 a6 a3 n6 n3 c6 c3 2 4 E rr (by omega) (by omega) I6.out HV6.out.i) ?_; (focus (simp [go_sem]; done)); rintro x w7 ⟨rfl, b7⟩; refine ⟨_, rfl, ?_⟩; have HV7 := hide (HV6.out.below b7); clear b7))
      all_goals
        go_wp2
        go_ret
        exact ⟨ret_bool (by rw [HRR.out, Bool.eq_iff_iff]; simp [cmp3_le]), HV7.out.bel⟩
    · go_wp2_with fail
      refine (d1 _).out.mono ?_
      rintro x wy ⟨rfl, rfl⟩
      go_upto_region 11 with fail
      have k0 := HV.out.drew.c0
      have k1 := HV.out.drew.c1
      have tok1 : True := trivial
      go_region_law (first
        | (refine step_call rfl 45 #[.int .i64 CR] ?_ (Of_any _ CR (by omega) (by omega)) ?_; (focus (simp [go_sem]; done)); have _t := tok1; clear tok1; rintro x w6 ⟨s6, a6, n6, c6, rfl, i6, b6⟩; refine ⟨_, rfl, ?_⟩; have I6 := hide i6; have HV6 := hide (HV.out.drew.below b6); have y60 := HV6.out.c0; have y61 := HV6.out.c1; clear b6 i6)
        | (refine step_call rfl 45 #[.int .i64 CR] ?_ (Of_any _ CR (by omega) (by omega)) ?_; (focus (simp [go_sem]; done)); rintro x w7 ⟨s7, a7, n7, c7, rfl, i7, b7⟩; refine ⟨_, rfl, ?_⟩; have I7 := hide i7; have HV7 := hide (HV6.out.below b7); have y70 := HV7.out.c0; have y71 := HV7.out.c1; have I6b := hide (I6.out.below b7); clear b7 i7)
        | (refine step_call rfl 44 #[.agg #[.bool s6, .slice a6 n6 c6], .agg #[.bool s7, .slice a7 n7 c7]] ?_ (Mul_any _ s6 s7 a6 a7 n6 n7 c6 c7 2 2 CR CR (by omega) I6b.out I7.out) ?_; (focus (simp [go_sem]; done)); rintro x w8 ⟨s8, a8, n8, c8, rfl, i8, b8⟩; refine ⟨_, rfl, ?_⟩; have I8 := hide i8; have HV8 := hide (HV7.out.below b8); have y80 := HV8.out.c0; have y81 := HV8.out.c1; clear b8 i8)
        | (refine step_call rfl 45 #[.int .i64 L] ?_ (Of_any _ L (by omega) (by omega)) ?_; (focus (simp [go_sem]; done)); rintro x w9 ⟨s9, a9, n9, c9, rfl, i9, b9⟩; refine ⟨_, rfl, ?_⟩; have I9 := hide i9; have HV9 := hide (HV8.out.below b9); have y90 := HV9.out.c0; have y91 := HV9.out.c1; have I8b := hide (I8.out.below b9); clear b9 i9)
        | (refine step_call rfl 44 #[.agg #[.bool s3, .slice a3 n3 c3], .agg #[.bool s9, .slice a9 n9 c9]] ?_ (Mul_any _ s3 s9 a3 a9 n3 n9 c3 c9 4 2 rr L (by omega) HV9.out.i I9.out) ?_; (focus (simp [go_sem]; done)); rintro x w10 ⟨s10, a10, n10, c10, rfl, i10, b10⟩; refine ⟨_, rfl, ?_⟩; have I10 := hide i10; have HV10 := hide (HV9.out.below b10); have y100 := HV10.out.c0; have y101 := HV10.out.c1; have I8c := hide (I8b.out.below b10); clear b10 i10)
        | (refine step_call rfl 43 #[.agg #[.bool s8, .slice a8 n8 c8], .agg #[.bool s10, .slice a10 n10 c10]] ?_ (Cmp_any _ s8 s10 a8 a10 n8 n10 c8 c10 4 6 (CR * CR) (rr * L) (by omega) (by omega) I8c.out I10.out) ?_; (focus (simp [go_sem]; done)); rintro x w11 ⟨rfl, b11⟩; refine ⟨_, rfl, ?_⟩; have HV11 := hide (HV10.out.below b11); clear b11))
      all_goals
        go_wp2
        go_ret
        exact ⟨ret_bool (by rw [HRR.out, Bool.eq_iff_iff]; simp [cmp3_le]), HV11.out.bel⟩
end Go.Proofs.Qxb6500776a
