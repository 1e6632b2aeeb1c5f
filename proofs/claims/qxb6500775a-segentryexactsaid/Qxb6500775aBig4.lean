import Derived.Test.Qxb6500775aBig3
namespace Go.Proofs.Qxb6500775a
open Go.RowKit

theorem hide {p : Prop} (h : p) : Hid p := h
theorem bat {B : Nat} {W w1 : World} (hb : Below B W w1) {b : Nat} (o : Nat) (h : b < B) : w1.cell? ⟨b, o, none⟩ = W.cell? ⟨b, o, none⟩ := hb.cell (p := ⟨b, o, none⟩) h
theorem batf {B : Nat} {W w1 : World} (hb : Below B W w1) {b : Nat} (o : Nat) (h : b < B) : w1.frozen? ⟨b, o, none⟩ = W.frozen? ⟨b, o, none⟩ := hb.frozen (p := ⟨b, o, none⟩) h
theorem of_drew {B : Nat} {W w1 : World} (hb : Below B W.drew w1) : Below B W w1 := ⟨hb.os, hb.tape, hb.output, hb.size, hb.block⟩
/-- Three boxes of numbers behind w: two arguments and the result's variable. -/
structure Boxes3 (w W : World) (na nb : Bool) (a b : Option Addr) (n m ca cb : Nat) : Prop where
  a0 : W.cell? ⟨w.heap.size, 0, none⟩ = some (.bool na)
  a1 : W.cell? ⟨w.heap.size, 1, none⟩ = some (.slice a n ca)
  b0 : W.cell? ⟨w.heap.size + 1, 0, none⟩ = some (.bool nb)
  b1 : W.cell? ⟨w.heap.size + 1, 1, none⟩ = some (.slice b m cb)
  r0 : W.cell? ⟨w.heap.size + 1 + 1, 0, none⟩ = some (.bool false)
  r1 : W.cell? ⟨w.heap.size + 1 + 1, 1, none⟩ = some (.slice none 0 0)
  g0 : W.frozen? ⟨w.heap.size + 1 + 1, 0, none⟩ = false
  g1 : W.frozen? ⟨w.heap.size + 1 + 1, 1, none⟩ = false
  size : W.heap.size = w.heap.size + 3
  bel : Below w.heap.size w W
theorem boxes3 (w : World) (na nb : Bool) (a b : Option Addr) (n m ca cb : Nat) : Boxes3 w (((w.alloc (.cells #[.bool na, .slice a n ca] 26)).alloc (.cells #[.bool nb, .slice b m cb] 26)).alloc (.cells #[.bool false, .slice none 0 0] 26)) na nb a b n m ca cb :=
  ⟨by simp [go_sem], by simp [go_sem], by simp [go_sem], by simp [go_sem], by simp [go_sem], by simp [go_sem], by simp [go_sem], by simp [go_sem], by simp, (((Below.refl _ _).alloc (Nat.le_refl _) _).alloc (by simp) _).alloc (by simp <;> omega) _⟩
/-- What is left of them behind a call that made memory. -/
structure Kept3 (w W w1 : World) (na nb : Bool) (a b : Option Addr) (n m ca cb : Nat) : Prop where
  a0 : w1.cell? ⟨w.heap.size, 0, none⟩ = some (.bool na)
  a1 : w1.cell? ⟨w.heap.size, 1, none⟩ = some (.slice a n ca)
  b0 : w1.cell? ⟨w.heap.size + 1, 0, none⟩ = some (.bool nb)
  b1 : w1.cell? ⟨w.heap.size + 1, 1, none⟩ = some (.slice b m cb)
  r0 : w1.cell? ⟨w.heap.size + 1 + 1, 0, none⟩ = some (.bool false)
  r1 : w1.cell? ⟨w.heap.size + 1 + 1, 1, none⟩ = some (.slice none 0 0)
  g0 : w1.frozen? ⟨w.heap.size + 1 + 1, 0, none⟩ = false
  g1 : w1.frozen? ⟨w.heap.size + 1 + 1, 1, none⟩ = false
  bel : Below W.heap.size W w1
theorem Boxes3.kept {w W w1 : World} {na nb : Bool} {a b : Option Addr} {n m ca cb : Nat} (h : Boxes3 w W na nb a b n m ca cb) (hb : Below W.heap.size W w1) : Kept3 w W w1 na nb a b n m ca cb := by
  have hs := h.size
  exact ⟨(bat hb 0 (by omega)).trans h.a0, (bat hb 1 (by omega)).trans h.a1, (bat hb 0 (by omega)).trans h.b0, (bat hb 1 (by omega)).trans h.b1, (bat hb 0 (by omega)).trans h.r0, (bat hb 1 (by omega)).trans h.r1, (batf hb 0 (by omega)).trans h.g0, (batf hb 1 (by omega)).trans h.g1, hb⟩
theorem sg_mul (p q : Bool) (x y : Int) : sg p x * sg q y = sg (p != q) (x * y) := by
  cases p <;> cases q <;> simp [sg, Int.neg_mul, Int.mul_neg]

set_option maxHeartbeats 2000000 in
theorem Mul_any (w : World) (na nb : Bool) (a b : Option Addr) (n m ca cb N M : Nat) (x y : Int) (hN : N + M < 1099511627776) (hx : IsI N w na a n ca x) (hy : IsI M w nb b m cb y) :
    Calls Try.prog 18 #[.agg #[.bool na, .slice a n ca], .agg #[.bool nb, .slice b m cb]] w (RetI (N + M) w (x * y)) := by
  obtain ⟨D, hD, htD, hxD⟩ := hx.digits
  obtain ⟨E, hE, htE, hyE⟩ := hy.digits
  have hn := hx.len
  have hm := hy.len
  have HX : Hid (x * y = sg (na != nb) (Sm D n * Sm E m)) := by
    show _ = _
    rw [hxD, hyE, sg_mul]
  have HD : Hid (Mag w a n D) := hD
  have HE : Hid (Mag w b m E) := hE
  clear hx hy hD hE htD htE hxD hyE
  go_enter Try.func18, Try.ntmps18
  go_wp2
  have hB := boxes3 w na nb a b n m ca cb
  generalize (((w.alloc (.cells #[.bool na, .slice a n ca] 26)).alloc (.cells #[.bool nb, .slice b m cb] 26)).alloc (.cells #[.bool false, .slice none 0 0] 26)) = W at *
  have HB := hide hB
  obtain ⟨a0, a1, b0, b1, r0, r1, g0, g1, hs, hbel⟩ := hB
  have HBel := hide hbel
  clear hbel
  go_region_held3 (fun w' => w'.cell? ⟨w.heap.size, 0, none⟩ = some (.bool na) ∧ w'.cell? ⟨w.heap.size, 1, none⟩ = some (.slice a n ca) ∧ w'.cell? ⟨w.heap.size + 1, 0, none⟩ = some (.bool nb) ∧ w'.cell? ⟨w.heap.size + 1, 1, none⟩ = some (.slice b m cb)) (simp [*, go_sem])
    (first
      | (go_at_call 52; refine (mulMag_any _ a b n m ca cb (N + M) D E hN (by omega) (HD.out.below HBel.out.drew) (HE.out.below HBel.out.drew)).mono ?_; rintro e w1 ⟨a', n', cap', F, rfl, h1, h2, h3, h4, h5, h6⟩; have HM := hide (And.intro h3 (And.intro h4 h5)); clear h3 h4 h5; obtain ⟨ka0, ka1, kb0, kb1, kr0, kr1, kg0, kg1, kb⟩ := HB.out.kept (of_drew h6); have HK := hide kb; clear kb h6)
      | (go_at_call 44; refine (make1_any _ (na != nb) a' n' cap' F (N + M) h2 h1 HM.out.1 HM.out.2.1).mono ?_; rintro e w2 ⟨neg2, a2, n2, cap2, rfl, hi2, hb2⟩; rw [HM.out.2.2, ← HX.out] at hi2; have HI2 := hide hi2; clear hi2; have HK2 := hide (HK.out.trans (hb2.mono HK.out.size)); clear hb2; obtain ⟨qa0, qa1, qb0, qb1, qr0, qr1, qg0, qg1, _⟩ := HB.out.kept HK2.out))
  go_wp2
  exact bodyPost_ret (v := .agg #[.bool neg2, .slice a2 n2 cap2]) (by simp [results, Try.results18, go_sem, qr0, qr1]) rfl (fin_I HI2.out HK2.out HBel.out (by omega) (by omega) r0 r1)

theorem sg_add (p : Bool) (x y : Int) : sg p x + sg p y = sg p (x + y) := by cases p <;> simp [sg] <;> omega
theorem sg_sub (p : Bool) (x y : Int) : sg p x + sg (!p) y = sg p (x - y) := by cases p <;> simp [sg] <;> omega
theorem sg_sub' (p : Bool) (x y : Int) : sg p x + sg (!p) y = sg (!p) (y - x) := by cases p <;> simp [sg] <;> omega
theorem IsI.mono {N K : Nat} {w : World} {neg : Bool} {a : Option Addr} {n cap : Nat} {z : Int} (h : IsI N w neg a n cap z) (hk : N ≤ K) : IsI K w neg a n cap z := ⟨h.cap, Nat.le_trans h.len hk, h.sign, h.digits⟩
theorem cmp3_ge {x y : Int} : 0 ≤ cmp3 x y ↔ y ≤ x := by unfold cmp3; split <;> (try split) <;> omega

set_option maxHeartbeats 2000000 in
theorem Add_same (w : World) (na : Bool) (a b : Option Addr) (n m ca cb N : Nat) (x y : Int) (hN : N < 1099511627775) (hx : IsI N w na a n ca x) (hy : IsI N w na b m cb y) :
    Calls Try.prog 76 #[.agg #[.bool na, .slice a n ca], .agg #[.bool na, .slice b m cb]] w (RetI (N + 1) w (x + y)) := by
  obtain ⟨D, hD, htD, hxD⟩ := hx.digits
  obtain ⟨E, hE, htE, hyE⟩ := hy.digits
  have hn := hx.len
  have hm := hy.len
  have HX : Hid (x + y = sg na (Sm D n + Sm E m)) := by
    show _ = _
    rw [hxD, hyE, sg_add]
  have HD : Hid (Mag w a n D) := hD
  have HE : Hid (Mag w b m E) := hE
  clear hx hy hD hE htD htE hxD hyE
  go_enter Try.func76, Try.ntmps76
  go_upto_region 2 with fail
  have hB := boxes3 w na na a b n m ca cb
  generalize (((w.alloc (.cells #[.bool na, .slice a n ca] 26)).alloc (.cells #[.bool na, .slice b m cb] 26)).alloc (.cells #[.bool false, .slice none 0 0] 26)) = W at *
  have HB := hide hB
  obtain ⟨a0, a1, b0, b1, r0, r1, g0, g1, hs, hbel⟩ := hB
  have HBel := hide hbel
  clear hbel
  go_region_held3 (fun w' => w'.cell? ⟨w.heap.size, 0, none⟩ = some (.bool na) ∧ w'.cell? ⟨w.heap.size, 1, none⟩ = some (.slice a n ca) ∧ w'.cell? ⟨w.heap.size + 1, 0, none⟩ = some (.bool na) ∧ w'.cell? ⟨w.heap.size + 1, 1, none⟩ = some (.slice b m cb)) (simp [*, go_sem])
    (first
      | (go_at_call 114; refine (addMag_any _ a b n m ca cb N D E (by omega) hn hm (HD.out.below HBel.out.drew) (HE.out.below HBel.out.drew)).mono ?_; rintro e w1 ⟨a', n', cap', F, rfl, h1, h2, h3, h4, h5, h6⟩; have HM := hide (And.intro h3 (And.intro h4 h5)); clear h3 h4 h5; obtain ⟨ka0, ka1, kb0, kb1, kr0, kr1, kg0, kg1, kb⟩ := HB.out.kept (of_drew h6); have HK := hide kb; clear kb h6)
      | (go_at_call 44; refine (make1_any _ na a' n' cap' F (N + 1) h2 h1 HM.out.1 HM.out.2.1).mono ?_; rintro e w2 ⟨neg2, a2, n2, cap2, rfl, hi2, hb2⟩; rw [HM.out.2.2, ← HX.out] at hi2; have HI2 := hide hi2; clear hi2; have HK2 := hide (HK.out.trans (hb2.mono HK.out.size)); clear hb2; obtain ⟨qa0, qa1, qb0, qb1, qr0, qr1, qg0, qg1, _⟩ := HB.out.kept HK2.out))
  go_wp2
  exact bodyPost_ret (v := .agg #[.bool neg2, .slice a2 n2 cap2]) (by simp [results, Try.results76, go_sem, qr0, qr1]) rfl (fin_I HI2.out HK2.out HBel.out (by omega) (by omega) r0 r1)

theorem Boxes3.drewN {w W : World} {na nb : Bool} {a b : Option Addr} {n m ca cb : Nat} (h : Boxes3 w W na nb a b n m ca cb) (k : Nat) : Boxes3 w (W.drewN k) na nb a b n m ca cb :=
  ⟨h.a0, h.a1, h.b0, h.b1, h.r0, h.r1, h.g0, h.g1, h.size, h.bel.trans (below_drewN W k _)⟩

set_option maxHeartbeats 2000000 in
theorem Add_diff (w : World) (na : Bool) (a b : Option Addr) (n m ca cb N : Nat) (x y : Int) (hN : N < 1099511627775) (hx : IsI N w na a n ca x) (hy : IsI N w (!na) b m cb y) :
    Calls Try.prog 76 #[.agg #[.bool na, .slice a n ca], .agg #[.bool (!na), .slice b m cb]] w (RetI (N + 1) w (x + y)) := by
  obtain ⟨D, hD, htD, hxD⟩ := hx.digits
  obtain ⟨E, hE, htE, hyE⟩ := hy.digits
  have hn := hx.len
  have hm := hy.len
  have HXY : Hid (x = sg na (Sm D n) ∧ y = sg (!na) (Sm E m)) := ⟨hxD, hyE⟩
  have HD : Hid (Mag w a n D ∧ (n = 0 ∨ D (n - 1) ≠ 0)) := ⟨hD, htD⟩
  have HE : Hid (Mag w b m E ∧ (m = 0 ∨ E (m - 1) ≠ 0)) := ⟨hE, htE⟩
  clear hx hy hD hE htD htE hxD hyE
  have hnn : (na == !na) = false := by cases na <;> rfl
  go_enter Try.func76, Try.ntmps76
  go_upto_region 3 with fail
  have hB := boxes3 w na (!na) a b n m ca cb
  generalize (((w.alloc (.cells #[.bool na, .slice a n ca] 26)).alloc (.cells #[.bool (!na), .slice b m cb] 26)).alloc (.cells #[.bool false, .slice none 0 0] 26)) = W at *
  have HB := hide hB
  obtain ⟨a0, a1, b0, b1, r0, r1, g0, g1, hs, hbel⟩ := hB
  have HBel := hide hbel
  clear hbel
  go_wp2_with fail
  refine (cmpMag_any _ a b n m ca cb D E (by omega) (by omega) (HD.out.1.below HBel.out) (HE.out.1.below HBel.out) HD.out.2 HE.out.2).mono ?_
  rintro e w1 ⟨rfl, nd, rfl⟩
  by_cases hc : Sm E m ≤ Sm D n
  · have hc3 : 0 ≤ cmp3 (Sm D n) (Sm E m) := cmp3_ge.2 hc
    have HX : Hid (x + y = sg na (Sm D n - Sm E m)) := by show _ = _; rw [HXY.out.1, HXY.out.2, sg_sub]
    have HC := hide hc
    clear hc
    have hnm : m ≤ n := by
      rcases Nat.lt_or_ge n m with h | h
      · have := Sm_lt_len HD.out.1.dig HE.out.1.dig h (HE.out.2.resolve_left (by omega))
        have := HC.out
        omega
      · exact h
    have hB := HB.out.drewN nd
    clear a0 a1 b0 b1 r0 r1 g0 g1 hs HBel HB
    generalize W.drewN nd = V at *
    have HB := hide hB
    obtain ⟨a0, a1, b0, b1, r0, r1, g0, g1, hs, hbel⟩ := hB
    have HBel := hide hbel
    clear hbel
    go_upto_region 4 with fail
    go_region_held3 (fun w' => w'.cell? ⟨w.heap.size, 0, none⟩ = some (.bool na) ∧ w'.cell? ⟨w.heap.size, 1, none⟩ = some (.slice a n ca) ∧ w'.cell? ⟨w.heap.size + 1, 0, none⟩ = some (.bool (!na)) ∧ w'.cell? ⟨w.heap.size + 1, 1, none⟩ = some (.slice b m cb)) (simp [*, go_sem])
      (first
        | (go_at_call 116; refine (subMag_any _ a b n m ca cb N D E (by omega) hn hnm (HD.out.1.below HBel.out.drew) (HE.out.1.below HBel.out.drew) HC.out).mono ?_; rintro e w1 ⟨a', n', cap', F, rfl, h1, h2, h3, h4, h5, h6⟩; have HM := hide (And.intro h3 (And.intro h4 h5)); clear h3 h4 h5; obtain ⟨ka0, ka1, kb0, kb1, kr0, kr1, kg0, kg1, kb⟩ := HB.out.kept (of_drew h6); have HK := hide kb; clear kb h6)
        | (go_at_call 44; refine (make1_any _ na a' n' cap' F (N + 1) (by omega) h1 HM.out.1 HM.out.2.1).mono ?_; rintro e w2 ⟨neg2, a2, n2, cap2, rfl, hi2, hb2⟩; rw [HM.out.2.2, ← HX.out] at hi2; have HI2 := hide hi2; clear hi2; have HK2 := hide (HK.out.trans (hb2.mono HK.out.size)); clear hb2; obtain ⟨qa0, qa1, qb0, qb1, qr0, qr1, qg0, qg1, _⟩ := HB.out.kept HK2.out))
    go_wp2
    exact bodyPost_ret (v := .agg #[.bool neg2, .slice a2 n2 cap2]) (by simp [results, Try.results76, go_sem, qr0, qr1]) rfl (fin_I HI2.out HK2.out HBel.out (by omega) (by omega) r0 r1)
  · have hc3 : cmp3 (Sm D n) (Sm E m) < 0 := by have := cmp3_ge (x := Sm D n) (y := Sm E m); omega
    have HX : Hid (x + y = sg (!na) (Sm E m - Sm D n)) := by show _ = _; rw [HXY.out.1, HXY.out.2, sg_sub']
    have HC : Hid (Sm D n ≤ Sm E m) := by show _ ≤ _; omega
    clear hc
    have hnm : n ≤ m := by
      rcases Nat.lt_or_ge m n with h | h
      · have := Sm_lt_len HE.out.1.dig HD.out.1.dig h (HD.out.2.resolve_left (by omega))
        have := HC.out
        omega
      · exact h
    have hB := HB.out.drewN nd
    clear a0 a1 b0 b1 r0 r1 g0 g1 hs HBel HB
    generalize W.drewN nd = V at *
    have HB := hide hB
    obtain ⟨a0, a1, b0, b1, r0, r1, g0, g1, hs, hbel⟩ := hB
    have HBel := hide hbel
    clear hbel
    go_upto_region 5 with fail
    go_region_held3 (fun w' => w'.cell? ⟨w.heap.size, 0, none⟩ = some (.bool na) ∧ w'.cell? ⟨w.heap.size, 1, none⟩ = some (.slice a n ca) ∧ w'.cell? ⟨w.heap.size + 1, 0, none⟩ = some (.bool (!na)) ∧ w'.cell? ⟨w.heap.size + 1, 1, none⟩ = some (.slice b m cb)) (simp [*, go_sem])
      (first
        | (go_at_call 116; refine (subMag_any _ b a m n cb ca N E D (by omega) hm hnm (HE.out.1.below HBel.out.drew) (HD.out.1.below HBel.out.drew) HC.out).mono ?_; rintro e w1 ⟨a', n', cap', F, rfl, h1, h2, h3, h4, h5, h6⟩; have HM := hide (And.intro h3 (And.intro h4 h5)); clear h3 h4 h5; obtain ⟨ka0, ka1, kb0, kb1, kr0, kr1, kg0, kg1, kb⟩ := HB.out.kept (of_drew h6); have HK := hide kb; clear kb h6)
        | (go_at_call 44; refine (make1_any _ (!na) a' n' cap' F (N + 1) (by omega) h1 HM.out.1 HM.out.2.1).mono ?_; rintro e w2 ⟨neg2, a2, n2, cap2, rfl, hi2, hb2⟩; rw [HM.out.2.2, ← HX.out] at hi2; have HI2 := hide hi2; clear hi2; have HK2 := hide (HK.out.trans (hb2.mono HK.out.size)); clear hb2; obtain ⟨qa0, qa1, qb0, qb1, qr0, qr1, qg0, qg1, _⟩ := HB.out.kept HK2.out))
    go_wp2
    exact bodyPost_ret (v := .agg #[.bool neg2, .slice a2 n2 cap2]) (by simp [results, Try.results76, go_sem, qr0, qr1]) rfl (fin_I HI2.out HK2.out HBel.out (by omega) (by omega) r0 r1)

/-- fixmathm.Add. -/
theorem Add_any (w : World) (na nb : Bool) (a b : Option Addr) (n m ca cb N M K : Nat) (x y : Int) (hN : N ≤ K) (hM : M ≤ K) (hK : K < 1099511627775) (hx : IsI N w na a n ca x) (hy : IsI M w nb b m cb y) :
    Calls Try.prog 76 #[.agg #[.bool na, .slice a n ca], .agg #[.bool nb, .slice b m cb]] w (RetI (K + 1) w (x + y)) := by
  by_cases h : nb = na
  · subst h; exact Add_same w nb a b n m ca cb K x y hK (hx.mono hN) (hy.mono hM)
  · obtain rfl : nb = !na := by cases na <;> cases nb <;> simp_all
    exact Add_diff w na a b n m ca cb K x y hK (hx.mono hN) (hy.mono hM)
end Go.Proofs.Qxb6500775a
