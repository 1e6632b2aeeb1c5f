import Derived.Test.Qxb6500776aBig
namespace Go.Proofs.Qxb6500776a
open Go.RowKit

theorem belX {a b c : World} (h : Below a.heap.size a b) (k : Below b.heap.size b c) : Below a.heap.size a c := h.trans (k.mono h.size)
theorem cellKeep {w w' : World} (hb : Below w.heap.size w w') {p : Addr} {v : Value} (h : w.cell? p = some v) : w'.cell? p = some v := (hb.cell (World.block_lt_of_cell? _ _ h)).trans h
theorem sg_mul (p q : Bool) (x y : Int) : sg p x * sg q y = sg (p != q) (x * y) := by
  cases p <;> cases q <;> simp [sg, Int.mul_neg, Int.neg_mul]
/-- fixmathm.Of. -/
theorem Of_any (w : World) (z : Int) (h1 : -9223372036854775808 ≤ z) (h2 : z < 9223372036854775808) :
    Calls Try.prog 45 #[.int .i64 z] w (RetI 2 w z) := by
  have hbW : ∀ u : Int, Below w.heap.size w ((w.alloc (.cells #[.bool false, .slice none 0 0] 89)).alloc (.cells #[.int .u32 (u % 4294967296), .int .u32 (u / 4294967296)] 106)) := fun u => ((Below.refl _ _).alloc (Nat.le_refl _) _).alloc (by simp) _
  by_cases h : z < 0
  · have hu := Of_u z h1 h
    have hm := and_mask32 (-z) (by omega) (by omega)
    have e1 : -z % 4294967296 % 4294967296 = -z % 4294967296 := by omega
    have e2 : -z / 4294967296 % 4294967296 = -z / 4294967296 := by omega
    have HU : Hid (IntKind.u64.wrap (bits BinOp.xor IntKind.u64 IntKind.u64.max (IntKind.u64.wrap z) + 1) = -z ∧ bits BinOp.and .u64 (-z) 4294967295 = -z % 4294967296 ∧ -z % 4294967296 % 4294967296 = -z % 4294967296 ∧ -z / 4294967296 % 4294967296 = -z / 4294967296) := ⟨hu, hm, e1, e2⟩
    clear hu hm e1 e2
    go_enter Try.func45, Try.ntmps45
    go_wp2_with fail
    rw [HU.out.1, HU.out.2.1, HU.out.2.2.1, HU.out.2.2.2]
    refine (trim_any _ _ 2 2 (D2 (-z)) (by omega) (by omega) (mag_D2 _ _ _ (by omega) (by omega))).mono ?_
    rintro e w1 ⟨rfl, m, hm, hz, ht, a', cap', rfl, hcap', hmag⟩
    have hs := mag_trim hm hz
    rw [Sm_D2] at hs
    have hm0 : m ≠ 0 := fun e => by subst e; rw [show Sm (D2 (-z)) 0 = 0 from rfl] at hs; omega
    have HI : Hid (IsI 2 ((w.alloc (.cells #[.bool false, .slice none 0 0] 89)).alloc (.cells #[.int .u32 (-z % 4294967296), .int .u32 (-z / 4294967296)] 106)) true a' m cap' z) :=
      ⟨hcap', hm, fun e => absurd e hm0, D2 (-z), hmag, ht, by show z = -(Sm _ _); omega⟩
    have HB := hide (hbW (-z))
    clear hmag ht hz hs hm0 hbW
    have c0 : ((w.alloc (.cells #[.bool false, .slice none 0 0] 89)).alloc (.cells #[.int .u32 (-z % 4294967296), .int .u32 (-z / 4294967296)] 106)).cell? ⟨w.heap.size, 0, none⟩ = some (.bool false) := by simp [go_sem]
    have c1 : ((w.alloc (.cells #[.bool false, .slice none 0 0] 89)).alloc (.cells #[.int .u32 (-z % 4294967296), .int .u32 (-z / 4294967296)] 106)).cell? ⟨w.heap.size, 1, none⟩ = some (.slice none 0 0) := by simp [go_sem]
    have f0 : ((w.alloc (.cells #[.bool false, .slice none 0 0] 89)).alloc (.cells #[.int .u32 (-z % 4294967296), .int .u32 (-z / 4294967296)] 106)).frozen? ⟨w.heap.size, 0, none⟩ = false := by simp [go_sem]
    have f1 : ((w.alloc (.cells #[.bool false, .slice none 0 0] 89)).alloc (.cells #[.int .u32 (-z % 4294967296), .int .u32 (-z / 4294967296)] 106)).frozen? ⟨w.heap.size, 1, none⟩ = false := by simp [go_sem]
    have hlt : w.heap.size < ((w.alloc (.cells #[.bool false, .slice none 0 0] 89)).alloc (.cells #[.int .u32 (-z % 4294967296), .int .u32 (-z / 4294967296)] 106)).heap.size := by simp; omega
    generalize (w.alloc (.cells #[.bool false, .slice none 0 0] 89)).alloc (.cells #[.int .u32 (-z % 4294967296), .int .u32 (-z / 4294967296)] 106) = W at *
    go_wp2
    exact bodyPost_ret (v := .agg #[.bool true, .slice a' m cap']) (by simp [results, Try.results45, go_sem, c0, c1]) rfl (fin_I HI.out (Below.refl _ _) HB.out (Nat.le_refl _) hlt c0 c1)
  · have hm := and_mask32 z (by omega) (by omega)
    have e1 : z % 4294967296 % 4294967296 = z % 4294967296 := by omega
    have e2 : z / 4294967296 % 4294967296 = z / 4294967296 := by omega
    have e3 : IntKind.u64.wrap z = z := by rw [IntKind.wrap_u64]; omega
    have HU : Hid (bits BinOp.and .u64 z 4294967295 = z % 4294967296 ∧ z % 4294967296 % 4294967296 = z % 4294967296 ∧ z / 4294967296 % 4294967296 = z / 4294967296) := ⟨hm, e1, e2⟩
    clear hm e1 e2
    go_enter Try.func45, Try.ntmps45
    go_wp2_with fail
    rw [HU.out.1]
    first | rw [HU.out.2.1] | skip
    first | rw [HU.out.2.2] | skip
    refine (trim_any _ _ 2 2 (D2 z) (by omega) (by omega) (mag_D2 _ _ _ (by omega) (by omega))).mono ?_
    rintro e w1 ⟨rfl, m, hm, hz, ht, a', cap', rfl, hcap', hmag⟩
    have hs := mag_trim hm hz
    rw [Sm_D2] at hs
    have HI : Hid (IsI 2 ((w.alloc (.cells #[.bool false, .slice none 0 0] 89)).alloc (.cells #[.int .u32 (z % 4294967296), .int .u32 (z / 4294967296)] 106)) false a' m cap' z) :=
      ⟨hcap', hm, fun _ => rfl, D2 z, hmag, ht, by show z = Sm _ _; omega⟩
    have HB := hide (hbW z)
    clear hmag ht hz hs hbW
    have c0 : ((w.alloc (.cells #[.bool false, .slice none 0 0] 89)).alloc (.cells #[.int .u32 (z % 4294967296), .int .u32 (z / 4294967296)] 106)).cell? ⟨w.heap.size, 0, none⟩ = some (.bool false) := by simp [go_sem]
    have c1 : ((w.alloc (.cells #[.bool false, .slice none 0 0] 89)).alloc (.cells #[.int .u32 (z % 4294967296), .int .u32 (z / 4294967296)] 106)).cell? ⟨w.heap.size, 1, none⟩ = some (.slice none 0 0) := by simp [go_sem]
    have f0 : ((w.alloc (.cells #[.bool false, .slice none 0 0] 89)).alloc (.cells #[.int .u32 (z % 4294967296), .int .u32 (z / 4294967296)] 106)).frozen? ⟨w.heap.size, 0, none⟩ = false := by simp [go_sem]
    have f1 : ((w.alloc (.cells #[.bool false, .slice none 0 0] 89)).alloc (.cells #[.int .u32 (z % 4294967296), .int .u32 (z / 4294967296)] 106)).frozen? ⟨w.heap.size, 1, none⟩ = false := by simp [go_sem]
    have hlt : w.heap.size < ((w.alloc (.cells #[.bool false, .slice none 0 0] 89)).alloc (.cells #[.int .u32 (z % 4294967296), .int .u32 (z / 4294967296)] 106)).heap.size := by simp; omega
    generalize (w.alloc (.cells #[.bool false, .slice none 0 0] 89)).alloc (.cells #[.int .u32 (z % 4294967296), .int .u32 (z / 4294967296)] 106) = W at *
    go_wp2
    exact bodyPost_ret (v := .agg #[.bool false, .slice a' m cap']) (by simp [results, Try.results45, go_sem, c0, c1]) rfl (fin_I HI.out (Below.refl _ _) HB.out (Nat.le_refl _) hlt c0 c1)
theorem IsI.mono {N K : Nat} {w : World} {neg : Bool} {a : Option Addr} {n cap : Nat} {z : Int} (h : IsI N w neg a n cap z) (hk : N ≤ K) : IsI K w neg a n cap z := ⟨h.cap, Nat.le_trans h.len hk, h.sign, h.digits⟩
set_option maxHeartbeats 1000000 in
/-- fixmathm.Mul. -/
theorem Mul_any (w : World) (na nb : Bool) (a b : Option Addr) (n m ca cb N M : Nat) (x y : Int) (hN : N + M < 1099511627776) (hx : IsI N w na a n ca x) (hy : IsI M w nb b m cb y) :
    Calls Try.prog 44 #[.agg #[.bool na, .slice a n ca], .agg #[.bool nb, .slice b m cb]] w (RetI (N + M) w (x * y)) := by
  obtain ⟨D, hD, htD, hxD⟩ := hx.digits
  obtain ⟨E, hE, htE, hyE⟩ := hy.digits
  have hn := hx.len
  have hm := hy.len
  have HX : Hid (x * y = sg (na != nb) (Sm D n * Sm E m)) := by
    show _ = _
    rw [hxD, hyE, sg_mul]
  have hb0 : Below w.heap.size w (((w.alloc (.cells #[.bool na, .slice a n ca] 89)).alloc (.cells #[.bool nb, .slice b m cb] 89)).alloc (.cells #[.bool false, .slice none 0 0] 89)) := (((Below.refl _ _).alloc (Nat.le_refl _) _).alloc (by simp) _).alloc (by simp; omega) _
  have HD := hide (hD.below hb0)
  have HE := hide (hE.below hb0)
  have HB0 := hide hb0
  clear hx hy hD hE htD htE hxD hyE hb0
  go_enter Try.func44, Try.ntmps44
  go_upto_region 1 with fail
  have x0 : (((w.alloc (.cells #[.bool na, .slice a n ca] 89)).alloc (.cells #[.bool nb, .slice b m cb] 89)).alloc (.cells #[.bool false, .slice none 0 0] 89)).cell? ⟨w.heap.size, 0, none⟩ = some (.bool na) := by simp [go_sem]
  have x1 : (((w.alloc (.cells #[.bool na, .slice a n ca] 89)).alloc (.cells #[.bool nb, .slice b m cb] 89)).alloc (.cells #[.bool false, .slice none 0 0] 89)).cell? ⟨w.heap.size, 1, none⟩ = some (.slice a n ca) := by simp [go_sem]
  have y0 : (((w.alloc (.cells #[.bool na, .slice a n ca] 89)).alloc (.cells #[.bool nb, .slice b m cb] 89)).alloc (.cells #[.bool false, .slice none 0 0] 89)).cell? ⟨w.heap.size + 1, 0, none⟩ = some (.bool nb) := by simp [go_sem]
  have y1 : (((w.alloc (.cells #[.bool na, .slice a n ca] 89)).alloc (.cells #[.bool nb, .slice b m cb] 89)).alloc (.cells #[.bool false, .slice none 0 0] 89)).cell? ⟨w.heap.size + 1, 1, none⟩ = some (.slice b m cb) := by simp [go_sem]
  have r0 : (((w.alloc (.cells #[.bool na, .slice a n ca] 89)).alloc (.cells #[.bool nb, .slice b m cb] 89)).alloc (.cells #[.bool false, .slice none 0 0] 89)).cell? ⟨w.heap.size + 1 + 1, 0, none⟩ = some (.bool false) := by simp [go_sem]
  have r1 : (((w.alloc (.cells #[.bool na, .slice a n ca] 89)).alloc (.cells #[.bool nb, .slice b m cb] 89)).alloc (.cells #[.bool false, .slice none 0 0] 89)).cell? ⟨w.heap.size + 1 + 1, 1, none⟩ = some (.slice none 0 0) := by simp [go_sem]
  have f0 : (((w.alloc (.cells #[.bool na, .slice a n ca] 89)).alloc (.cells #[.bool nb, .slice b m cb] 89)).alloc (.cells #[.bool false, .slice none 0 0] 89)).frozen? ⟨w.heap.size + 1 + 1, 0, none⟩ = false := by simp [go_sem]
  have f1 : (((w.alloc (.cells #[.bool na, .slice a n ca] 89)).alloc (.cells #[.bool nb, .slice b m cb] 89)).alloc (.cells #[.bool false, .slice none 0 0] 89)).frozen? ⟨w.heap.size + 1 + 1, 1, none⟩ = false := by simp [go_sem]
  have hlt : w.heap.size + 1 + 1 < (((w.alloc (.cells #[.bool na, .slice a n ca] 89)).alloc (.cells #[.bool nb, .slice b m cb] 89)).alloc (.cells #[.bool false, .slice none 0 0] 89)).heap.size := by simp
  have hge : Hid (w.heap.size ≤ w.heap.size + 1 + 1) := hide (by omega)
  generalize ((w.alloc (.cells #[.bool na, .slice a n ca] 89)).alloc (.cells #[.bool nb, .slice b m cb] 89)).alloc (.cells #[.bool false, .slice none 0 0] 89) = W at *
  obtain ⟨pr, hpr⟩ : ∃ p, w.heap.size + 1 + 1 = p := ⟨_, rfl⟩
  rw [hpr] at r0 r1 f0 f1 hlt hge ⊢
  clear hpr
  obtain ⟨pb, hpb⟩ : ∃ p, w.heap.size + 1 = p := ⟨_, rfl⟩
  rw [hpb] at y0 y1 ⊢
  clear hpb
  obtain ⟨pa, hpa⟩ : ∃ p, w.heap.size = p := ⟨_, rfl⟩
  rw [hpa] at x0 x1 ⊢
  clear hpa
  go_wp2_with fail
  refine (mulMag_any _ a b n m ca cb (N + M) D E hN (by omega) HD.out HE.out).mono ?_
  rintro e w1 ⟨a', n', cap', F, rfl, q1, q2, q3, q4, q5, q6⟩
  obtain ⟨kr0, kr1, kg0, kg1⟩ := box2 (rb := pr) (.bool false) (.slice none 0 0) q6 hlt r0 r1 f0 f1
  replace x0 := cellKeep q6 x0
  replace y0 := cellKeep q6 y0
  have HM := hide (And.intro q3 (And.intro q4 q5))
  have HQ := hide q6
  clear q3 q4 q5 q6 x1 y1
  by_cases hz : n' = 0
  · subst hz
    have hI : IsI (N + M) w1 false a' 0 cap' (x * y) := ⟨q1, q2, fun _ => rfl, F, HM.out.1, Or.inl rfl, by rw [HX.out, ← HM.out.2.2, show Sm F 0 = 0 from rfl, sg_zero]; rfl⟩
    have HI := hide hI
    clear hI
    go_wp2
    exact bodyPost_ret (v := .agg #[.bool false, .slice a' 0 cap']) (by simp [results, Try.results44, go_sem, kr0, kr1]) rfl (fin_I HI.out HQ.out HB0.out hge.out hlt r0 r1)
  · have hzi : ((n' : Int) != 0) = true := by simp; omega
    have hI : IsI (N + M) w1 (na != nb) a' n' cap' (x * y) := ⟨q1, q2, fun e => absurd e hz, F, HM.out.1, HM.out.2.1, by rw [HX.out, HM.out.2.2]⟩
    have HI := hide hI
    clear hI
    go_wp2
    exact bodyPost_ret (v := .agg #[.bool (na != nb), .slice a' n' cap']) (by simp [results, Try.results44, go_sem, kr0, kr1]; cases na <;> cases nb <;> rfl) rfl (fin_I HI.out HQ.out HB0.out hge.out hlt r0 r1)
set_option maxHeartbeats 1000000 in
/-- fixmathm.Cmp. -/
theorem Cmp_any (w : World) (na nb : Bool) (a b : Option Addr) (n m ca cb N M : Nat) (x y : Int) (hN : N ≤ 1099511627776) (hM : M ≤ 1099511627776) (hx : IsI N w na a n ca x) (hy : IsI M w nb b m cb y) :
    Calls Try.prog 43 #[.agg #[.bool na, .slice a n ca], .agg #[.bool nb, .slice b m cb]] w fun e w' => e = .returned (.int .i64 (cmp3 x y)) ∧ Below w.heap.size w w' := by
  obtain ⟨D, hD, htD, hxD⟩ := hx.digits
  obtain ⟨E, hE, htE, hyE⟩ := hy.digits
  have hn := hx.len
  have hm := hy.len
  have hD0 := Sm_nonneg hD.dig
  have hE0 := Sm_nonneg hE.dig
  have hx0 := hx.zero_iff
  have hy0 := hy.zero_iff
  have sx := hx.sign
  have sy := hy.sign
  have hb0 : Below w.heap.size w ((w.alloc (.cells #[.bool na, .slice a n ca] 89)).alloc (.cells #[.bool nb, .slice b m cb] 89)) := ((Below.refl _ _).alloc (Nat.le_refl _) _).alloc (by simp) _
  have HD := hide (And.intro (hD.below hb0) htD)
  have HE := hide (And.intro (hE.below hb0) htE)
  have HB0 := hide hb0
  clear hx hy hD hE htD htE hb0
  cases na <;> cases nb
  · have hv : cmp3 x y = cmp3 (Sm D n) (Sm E m) := by rw [hxD, hyE]; rfl
    rw [hv]
    clear hv hxD hyE hx0 hy0 sx sy
    go_enter Try.func43, Try.ntmps43
    go_wp2_with fail
    refine (cmpMag_any _ a b n m ca cb D E (by omega) (by omega) HD.out.1 HE.out.1 HD.out.2 HE.out.2).mono ?_
    rintro e w1 ⟨rfl, k, rfl⟩
    go_wp2
    go_ret
    exact ⟨rfl, HB0.out.trans (below_drewN _ k _)⟩
  · have hv : cmp3 x y = 1 := by
      have h1 : m ≠ 0 := fun e => by have := sy e; cases this
      have h2 : y ≠ 0 := fun e => h1 (hy0.1 e)
      simp only [sg, Bool.false_eq_true, if_false, if_true] at hxD hyE
      rw [cmp3, if_neg (by omega), if_pos (by omega)]
    rw [hv]
    clear hv
    go_enter Try.func43, Try.ntmps43
    go_wp2
    go_ret
    exact ⟨rfl, HB0.out⟩
  · have hv : cmp3 x y = -1 := by
      have h1 : n ≠ 0 := fun e => by have := sx e; cases this
      have h2 : x ≠ 0 := fun e => h1 (hx0.1 e)
      simp only [sg, Bool.false_eq_true, if_false, if_true] at hxD hyE
      rw [cmp3, if_pos (by omega)]
    rw [hv]
    clear hv
    go_enter Try.func43, Try.ntmps43
    go_wp2
    go_ret
    exact ⟨rfl, HB0.out⟩
  · have hv : cmp3 x y = cmp3 (Sm E m) (Sm D n) := by
      simp only [sg, if_true] at hxD hyE
      unfold cmp3
      rw [hxD, hyE]
      rcases (by omega : Sm E m < Sm D n ∨ Sm D n < Sm E m ∨ Sm D n = Sm E m) with z | z | z
      · rw [if_pos (by omega), if_pos z]
      · rw [if_neg (by omega), if_pos (by omega), if_neg (by omega), if_pos z]
      · rw [if_neg (by omega), if_neg (by omega), if_neg (by omega), if_neg (by omega)]
    rw [hv]
    clear hv hxD hyE hx0 hy0 sx sy
    go_enter Try.func43, Try.ntmps43
    go_wp2_with fail
    refine (cmpMag_any _ b a m n cb ca E D (by omega) (by omega) HE.out.1 HD.out.1 HE.out.2 HD.out.2).mono ?_
    rintro e w1 ⟨rfl, k, rfl⟩
    go_wp2
    go_ret
    exact ⟨rfl, HB0.out.trans (below_drewN _ k _)⟩
end Go.Proofs.Qxb6500776a
