import Derived.Test.Qxb6500775aBig4
namespace Go.Proofs.Qxb6500775a
open Go.RowKit

set_option maxHeartbeats 2000000 in
/-- fixmathm.Sub. -/
theorem Sub_any (w : World) (na nb : Bool) (a b : Option Addr) (n m ca cb N M K : Nat) (x y : Int) (hN : N ≤ K) (hM : M ≤ K) (hK : K < 1099511627775) (hx : IsI N w na a n ca x) (hy : IsI M w nb b m cb y) :
    Calls Try.prog 60 #[.agg #[.bool na, .slice a n ca], .agg #[.bool nb, .slice b m cb]] w (RetI (K + 1) w (x - y)) := by
  have HX := hide hx
  have HY := hide hy
  clear hx hy
  go_enter Try.func60, Try.ntmps60
  go_wp2
  have hB := boxes3 w na nb a b n m ca cb
  generalize (((w.alloc (.cells #[.bool na, .slice a n ca] 26)).alloc (.cells #[.bool nb, .slice b m cb] 26)).alloc (.cells #[.bool false, .slice none 0 0] 26)) = W at *
  have HB := hide hB
  obtain ⟨a0, a1, b0, b1, r0, r1, g0, g1, hs, hbel⟩ := hB
  have HBel := hide hbel
  clear hbel
  go_region_held3 (fun w' => w'.cell? ⟨w.heap.size, 0, none⟩ = some (.bool na) ∧ w'.cell? ⟨w.heap.size, 1, none⟩ = some (.slice a n ca) ∧ w'.cell? ⟨w.heap.size + 1, 0, none⟩ = some (.bool nb) ∧ w'.cell? ⟨w.heap.size + 1, 1, none⟩ = some (.slice b m cb)) (simp [*, go_sem])
    (first
      | (go_at_call 51; refine (Neg_any _ nb b m cb M y (HY.out.below HBel.out.drew)).mono ?_; rintro e w1 ⟨neg1, a1', n1, cap1, rfl, hi1, hb1⟩; have HI1 := hide hi1; clear hi1; obtain ⟨ka0, ka1, kb0, kb1, kr0, kr1, kg0, kg1, kb⟩ := HB.out.kept (of_drew hb1); have HK := hide kb; clear kb hb1)
      | (go_at_call 76; refine (Add_any _ na neg1 a a1' n n1 ca cap1 N M K x (-y) hN hM hK (HX.out.below (HBel.out.trans (HK.out.mono HBel.out.size))) HI1.out).mono ?_; rintro e w2 ⟨neg2, a2, n2, cap2, rfl, hi2, hb2⟩; rw [← Int.sub_eq_add_neg] at hi2; have HI2 := hide hi2; clear hi2; have HK2 := hide (HK.out.trans (hb2.mono HK.out.size)); clear hb2; obtain ⟨qa0, qa1, qb0, qb1, qr0, qr1, qg0, qg1, _⟩ := HB.out.kept HK2.out))
  go_wp2
  exact bodyPost_ret (v := .agg #[.bool neg2, .slice a2 n2 cap2]) (by simp [results, Try.results60, go_sem, qr0, qr1]) rfl (fin_I HI2.out HK2.out HBel.out (by omega) (by omega) r0 r1)

set_option maxHeartbeats 2000000 in
/-- fixmathm.Cmp. -/
theorem Cmp_any (w : World) (na nb : Bool) (a b : Option Addr) (n m ca cb N M K : Nat) (x y : Int) (hN : N ≤ K) (hM : M ≤ K) (hK : K < 1099511627775) (hx : IsI N w na a n ca x) (hy : IsI M w nb b m cb y) :
    Calls Try.prog 24 #[.agg #[.bool na, .slice a n ca], .agg #[.bool nb, .slice b m cb]] w fun e w' => e = .returned (.int .i64 (sgn (x - y))) ∧ Below w.heap.size w w' := by
  have HX := hide hx
  have HY := hide hy
  clear hx hy
  go_enter Try.func24, Try.ntmps24
  go_wp2_with fail
  have hbel : Below w.heap.size w ((w.alloc (.cells #[.bool na, .slice a n ca] 26)).alloc (.cells #[.bool nb, .slice b m cb] 26)) := ((Below.refl _ _).alloc (Nat.le_refl _) _).alloc (by simp) _
  refine (Sub_any _ na nb a b n m ca cb N M K x y hN hM hK (HX.out.below hbel) (HY.out.below hbel)).mono ?_
  rintro e w1 ⟨neg1, a1, n1, cap1, rfl, hi1, hb1⟩
  have HI := hide hi1
  have HB := hide (hbel.trans (hb1.mono hbel.size))
  clear hi1 hb1 hbel
  go_wp2_with fail
  refine (Sign_any _ neg1 a1 n1 cap1 (K + 1) (x - y) HI.out).mono ?_
  rintro e w2 ⟨rfl, hb2⟩
  have HB2 := hide (HB.out.trans (hb2.mono HB.out.size))
  clear hb2
  go_wp2
  go_ret
  exact ⟨rfl, HB2.out⟩
end Go.Proofs.Qxb6500775a
