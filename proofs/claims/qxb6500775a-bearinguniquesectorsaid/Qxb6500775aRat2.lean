import Derived.Test.Qxb6500775aRat
namespace Go.Proofs.Qxb6500775a
open Go.RowKit

theorem CT.fresh {w w1 w2 : World} {NL NR : Nat} {L R : Int} {s1 s2 : Bool} {a1 a2 : Option Addr} {n1 c1 n2 c2 : Nat} (hb1 : Below w.heap.size w w1) (i1 : IsI NL w1 s1 a1 n1 c1 L) (hb2 : Below (w1.alloc (.cells #[.bool s1, .slice a1 n1 c1] 26)).heap.size (w1.alloc (.cells #[.bool s1, .slice a1 n1 c1] 26)) w2) (i2 : IsI NR w2 s2 a2 n2 c2 R) :
    CT w (w2.alloc (.cells #[.bool s2, .slice a2 n2 c2] 26)) w1.heap.size w2.heap.size NL NR L R := by
  have h1 := hb1.size
  have h2 := hb2.size
  simp at h2
  have v1 := varNew i1
  refine ⟨(v1.below hb2).below ((Below.refl _ _).alloc (Nat.le_refl _) _), varNew i2, fun j => ?_, fun j => by simp [go_sem], belAl (lec (belAl hb1 _) hb2) _, h1, by omega, by omega⟩
  have e1 := batf hb2 (b := w1.heap.size) j (by simp)
  have e2 : (w1.alloc (.cells #[.bool s1, .slice a1 n1 c1] 26)).frozen? ⟨w1.heap.size, j, none⟩ = false := by simp [go_sem]
  rw [e2] at e1
  rw [← e1]
  exact ((Below.refl w2.heap.size w2).alloc (Nat.le_refl _) _).frozen (p := ⟨w1.heap.size, j, none⟩) (by show w1.heap.size < w2.heap.size; omega)
set_option maxRecDepth 100000 in
set_option maxHeartbeats 4000000 in
/-- fixmathm.CmpTenth. -/
theorem cmpTenth_any (w : World) (s : Bool) (a : Option Addr) (n c N : Nat) (z k : Int) (hN : N ≤ 1000) (hk1 : -1000 ≤ k) (hk2 : k ≤ 1000) (hi : IsI N w s a n c z) :
    Calls Try.prog 41 #[.agg #[.bool s, .slice a n c], .int .i64 k] w fun e w' => e = .returned (.int .i64 (sgn (tenth z k))) ∧ Below w.heap.size w w' := by
  have HI := hide hi
  clear hi
  have fin : ∀ L R : Int, tenth z k = L - R → sgn (tenth z k) = sgn (L - R) := fun L R h => by rw [h]
  by_cases h0 : 0 ≤ k
  · obtain ⟨kk, rfl⟩ : ∃ kk : Nat, k = kk := ⟨k.toNat, by omega⟩
    have ht : tenth z kk = z ^ 10 - 65536 ^ 10 * 10 ^ kk := by unfold tenth; rw [if_pos h0]; simp
    rw [ht]
    clear ht fin
    obtain ⟨L, hL⟩ : ∃ L, z ^ 10 = L := ⟨_, rfl⟩
    obtain ⟨U, hU⟩ : ∃ L, (65536 : Int) ^ 10 = L := ⟨_, rfl⟩
    obtain ⟨T, hT⟩ : ∃ L, (10 : Int) ^ kk = L := ⟨_, rfl⟩
    rw [hL, hU, hT]
    have HT := hide hT
    have HLU := hide (And.intro hL hU)
    clear hL hU hT
    go_enter Try.func41, Try.ntmps41
    go_wp2_with fail
    have hb0 : Below w.heap.size w (w.alloc (.cells #[.bool s, .slice a n c] 26)) := (Below.refl _ _).alloc (Nat.le_refl _) _
    refine (Pow_any _ s a n c N 10 z (by omega) (by omega) (HI.out.below hb0)).mono ?_
    rintro e w1 ⟨s1, a1, n1, c1, rfl, i1, b1⟩
    have HB1 := hide (lec hb0 b1)
    have I1 := hide i1
    clear hb0 i1 b1
    go_wp2_with fail
    refine (unit_any _).mono ?_
    rintro e w2 ⟨s2, a2, n2, c2, rfl, i2, b2⟩
    have I2 := hide i2
    have HB2 := hide b2
    clear i2 b2
    go_wp2_with fail
    refine (Pow_any _ s2 a2 n2 c2 2 10 65536 (by omega) (by omega) I2.out).mono ?_
    rintro e w3 ⟨s3, a3, n3, c3, rfl, i3, b3⟩
    have HC := hide (CT.fresh HB1.out I1.out (lec HB2.out b3) i3)
    clear I1 I2 HB1 HB2 i3 b3
    go_upto_region 4 with fail
    generalize w3.alloc (.cells #[.bool s3, .slice a3 n3 c3] 26) = W at *
    generalize w3.heap.size = pr at *
    generalize w1.heap.size = pl at *
    rw [HLU.out.1, HLU.out.2] at HC
    go_cut [17] (fun _ wx => CT w wx pl pr (2 + N * 10) (22 + (2 + 2 * kk)) L (U * T))
    case first =>
      obtain ⟨sr, ar, nr, cr, r0, r1, ir⟩ := HC.out.drew.r
      have IR := hide ir
      clear ir
      go_region_law (first
        | (refine step_call rfl 15 #[.int .i64 10] ?_ (Of_any _ 10 (by omega) (by omega)) ?_; (focus (simp [go_sem]; done)); rintro e w6 ⟨s6, a6, n6, c6, rfl, i6, b6⟩; refine ⟨_, rfl, ?_⟩; have I6 := hide i6; have HC6 := hide (HC.out.drew.below b6); have IR6 := hide (IR.out.below b6); have y0 := cellKeep b6 r0; have y1 := cellKeep b6 r1; clear b6 i6)
        | (refine step_call rfl 38 #[.agg #[.bool s6, .slice a6 n6 c6], .int .i64 kk] ?_ (Pow_any _ s6 a6 n6 c6 2 kk 10 (by omega) (by omega) I6.out) ?_; (focus (simp [go_sem]; done)); rintro e w7 ⟨s7, a7, n7, c7, rfl, i7, b7⟩; refine ⟨_, rfl, ?_⟩; rw [HT.out] at i7; have I7 := hide i7; have HC7 := hide (HC6.out.below b7); have IR7 := hide (IR6.out.below b7); have z0 := cellKeep b7 y0; have z1 := cellKeep b7 y1; clear b7 i7)
        | (refine step_call rfl 18 #[.agg #[.bool sr, .slice ar nr cr], .agg #[.bool s7, .slice a7 n7 c7]] ?_ (Mul_any _ sr s7 ar a7 nr n7 cr c7 22 (2 + 2 * kk) U T (by omega) IR7.out I7.out) ?_; (focus (simp [go_sem]; done)); rintro e w8 ⟨s8, a8, n8, c8, rfl, i8, b8⟩; refine ⟨_, rfl, ?_⟩; have HC8 := hide ((HC7.out.below b8).setR i8); have x0 := cellKeep b8 z0; have x1 := cellKeep b8 z1; have xf := (HC7.out.below b8).rf; clear b8 i8))
      all_goals
        go_wp2_with fail
        go_meet
        case rel => exact HC8.out
    have HC2 := hide hcut
    clear hcut HC
    obtain ⟨sl, al, nl, cl, l0, l1, il⟩ := HC2.out.l
    obtain ⟨sr, ar, nr, cr, r0, r1, ir⟩ := HC2.out.r
    have IL := hide il
    have IR := hide ir
    clear il ir
    go_wp2_with fail
    refine (Cmp_any _ sl sr al ar nl nr cl cr (2 + N * 10) (22 + (2 + 2 * kk)) 20000 L (U * T) (by omega) (by omega) (by omega) IL.out IR.out).mono ?_
    rintro e w9 ⟨rfl, b9⟩
    have HB9 := hide (lec HC2.out.bel b9)
    clear b9
    go_wp2
    go_ret
    exact ⟨rfl, HB9.out⟩
  · obtain ⟨kk, hkk⟩ : ∃ kk : Nat, -k = kk := ⟨(-k).toNat, by omega⟩
    have ht : tenth z k = z ^ 10 * 10 ^ kk - 65536 ^ 10 := by unfold tenth; rw [if_neg h0, hkk]; simp
    rw [ht]
    have hkw : IntKind.i64.wrap (kk : Int) = kk := by rw [IntKind.wrap_i64]; omega
    have hkl : kk ≤ 1000 := by omega
    clear ht fin
    obtain ⟨L, hL⟩ : ∃ L, z ^ 10 = L := ⟨_, rfl⟩
    obtain ⟨U, hU⟩ : ∃ L, (65536 : Int) ^ 10 = L := ⟨_, rfl⟩
    obtain ⟨T, hT⟩ : ∃ L, (10 : Int) ^ kk = L := ⟨_, rfl⟩
    rw [hL, hU, hT]
    have HT := hide hT
    have HLU := hide (And.intro hL hU)
    clear hL hU hT
    go_enter Try.func41, Try.ntmps41
    go_wp2_with fail
    have hb0 : Below w.heap.size w (w.alloc (.cells #[.bool s, .slice a n c] 26)) := (Below.refl _ _).alloc (Nat.le_refl _) _
    refine (Pow_any _ s a n c N 10 z (by omega) (by omega) (HI.out.below hb0)).mono ?_
    rintro e w1 ⟨s1, a1, n1, c1, rfl, i1, b1⟩
    have HB1 := hide (lec hb0 b1)
    have I1 := hide i1
    clear hb0 i1 b1
    go_wp2_with fail
    refine (unit_any _).mono ?_
    rintro e w2 ⟨s2, a2, n2, c2, rfl, i2, b2⟩
    have I2 := hide i2
    have HB2 := hide b2
    clear i2 b2
    go_wp2_with fail
    refine (Pow_any _ s2 a2 n2 c2 2 10 65536 (by omega) (by omega) I2.out).mono ?_
    rintro e w3 ⟨s3, a3, n3, c3, rfl, i3, b3⟩
    have HC := hide (CT.fresh HB1.out I1.out (lec HB2.out b3) i3)
    clear I1 I2 HB1 HB2 i3 b3
    go_upto_region 5 with fail
    generalize w3.alloc (.cells #[.bool s3, .slice a3 n3 c3] 26) = W at *
    generalize w3.heap.size = pr at *
    generalize w1.heap.size = pl at *
    rw [HLU.out.1, HLU.out.2] at HC
    go_cut [23] (fun _ wx => CT w wx pl pr (2 + N * 10 + (2 + 2 * kk)) 22 (L * T) U)
    case first =>
      obtain ⟨sr, ar, nr, cr, r0, r1, ir⟩ := HC.out.drew.l
      have IR := hide ir
      clear ir
      go_region_law (first
        | (refine step_call rfl 15 #[.int .i64 10] ?_ (Of_any _ 10 (by omega) (by omega)) ?_; (focus (simp [go_sem]; done)); rintro e w6 ⟨s6, a6, n6, c6, rfl, i6, b6⟩; refine ⟨_, rfl, ?_⟩; have I6 := hide i6; have HC6 := hide (HC.out.drew.below b6); have IR6 := hide (IR.out.below b6); have y0 := cellKeep b6 r0; have y1 := cellKeep b6 r1; clear b6 i6)
        | (refine step_call rfl 38 #[.agg #[.bool s6, .slice a6 n6 c6], .int .i64 kk] ?_ (Pow_any _ s6 a6 n6 c6 2 kk 10 (by omega) (by omega) I6.out) ?_; (focus (simp [go_sem]; done)); rintro e w7 ⟨s7, a7, n7, c7, rfl, i7, b7⟩; refine ⟨_, rfl, ?_⟩; rw [HT.out] at i7; have I7 := hide i7; have HC7 := hide (HC6.out.below b7); have IR7 := hide (IR6.out.below b7); have z0 := cellKeep b7 y0; have z1 := cellKeep b7 y1; clear b7 i7)
        | (refine step_call rfl 18 #[.agg #[.bool sr, .slice ar nr cr], .agg #[.bool s7, .slice a7 n7 c7]] ?_ (Mul_any _ sr s7 ar a7 nr n7 cr c7 (2 + N * 10) (2 + 2 * kk) L T (by omega) IR7.out I7.out) ?_; (focus (simp [go_sem]; done)); rintro e w8 ⟨s8, a8, n8, c8, rfl, i8, b8⟩; refine ⟨_, rfl, ?_⟩; have HC8 := hide ((HC7.out.below b8).setL i8); have x0 := cellKeep b8 z0; have x1 := cellKeep b8 z1; have xf := (HC7.out.below b8).lf; clear b8 i8))
      all_goals
        go_wp2_with fail
        go_meet
        case rel => exact HC8.out
    have HC2 := hide hcut
    clear hcut HC
    obtain ⟨sl, al, nl, cl, l0, l1, il⟩ := HC2.out.l
    obtain ⟨sr, ar, nr, cr, r0, r1, ir⟩ := HC2.out.r
    have IL := hide il
    have IR := hide ir
    clear il ir
    go_wp2_with fail
    refine (Cmp_any _ sl sr al ar nl nr cl cr (2 + N * 10 + (2 + 2 * kk)) 22 20000 (L * T) U (by omega) (by omega) (by omega) IL.out IR.out).mono ?_
    rintro e w9 ⟨rfl, b9⟩
    have HB9 := hide (lec HC2.out.bel b9)
    clear b9
    go_wp2
    go_ret
    exact ⟨rfl, HB9.out⟩

/-! ### Ratio, reaches, RatioLevel -/
theorem ratio_high (w : World) (b : Nat) (k : Int) (h : 45 < k) :
    Calls Try.prog 40 #[.pointer (some ⟨b, 0, none⟩), .int .i64 k] w fun e w' => e = .returned (.tuple #[.int .i64 2147483647, .int .i64 1]) ∧ w' = w := by
  go_enter Try.func40, Try.ntmps40
  go_wp2
  exact bodyPost_ret (v := .tuple #[.int .i64 2147483647, .int .i64 1]) (by simp [results, Try.results40, go_sem]) rfl ⟨rfl, rfl⟩
theorem ratio_low (w : World) (b : Nat) (k : Int) (h : k < -49) :
    Calls Try.prog 40 #[.pointer (some ⟨b, 0, none⟩), .int .i64 k] w fun e w' => e = .returned (.tuple #[.int .i64 0, .int .i64 0]) ∧ w' = w := by
  go_enter Try.func40, Try.ntmps40
  go_wp2
  exact bodyPost_ret (v := .tuple #[.int .i64 0, .int .i64 0]) (by simp [results, Try.results40, go_sem]) rfl ⟨rfl, rfl⟩
set_option maxRecDepth 100000 in
theorem ratio_mid (w : World) (b j : Nat) (k : Int) (hk : k + 49 = j) (hj : j < 95) (h : Tabs w b) :
    Calls Try.prog 40 #[.pointer (some ⟨b, 0, none⟩), .int .i64 k] w fun e w' => e = .returned (.tuple #[.int .i64 (gainP j : Nat), .int .i64 0]) ∧ w' = w := by
  have x := h.gain j hj
  clear h
  generalize gainP j = G at *
  have e1 : k - -49 = (j : Int) := by omega
  have e2 : (j : Int) < 95 := by omega
  have h3 : ¬ k < -49 := by omega
  have h4 : ¬ 45 < k := by omega
  clear hk
  go_enter Try.func40, Try.ntmps40
  go_wp2
  exact bodyPost_ret (v := .tuple #[.int .i64 (G : Int), .int .i64 0]) (by simp [results, Try.results40, go_sem]) rfl ⟨rfl, rfl⟩
set_option maxRecDepth 100000 in
set_option maxHeartbeats 1000000 in
theorem reaches_any (w : World) (b j : Nat) (a k : Int) (hk : k + 49 = j) (hj : j < 95) (h : Tabs w b) :
    Calls Try.prog 89 #[.pointer (some ⟨b, 0, none⟩), .int .i64 a, .int .i64 k] w fun e w' => e = .returned (.bool (reachP a j)) ∧ w' = w := by
  have x := h.gain j hj
  clear h
  have hex : exactK ((j : Int) - 49) = decide (0 ≤ k ∧ k % 10 = 0) := by rw [← hk, exactK, show k + 49 - 49 = k by omega]
  have hr : reachP a j = if decide (0 ≤ k ∧ k % 10 = 0) = true then decide ((gainP j : Nat) ≤ a) else decide ((gainP j : Nat) < a) := by rw [reachP, hex]
  rw [hr]
  clear hr hex
  generalize gainP j = G at *
  have e1 : k - -49 = (j : Int) := by omega
  have e2 : (j : Int) < 95 := by omega
  rcases (by omega : (0 ≤ k ∧ k % 10 = 0) ∨ (0 ≤ k ∧ ¬ k % 10 = 0) ∨ k < 0) with ⟨h1, h2⟩ | ⟨h1, h2⟩ | h1
  · have hd : decide (0 ≤ k ∧ k % 10 = 0) = true := by simp [h1, h2]
    rw [if_pos hd]
    have t1 : k.tmod 10 = 0 := by rw [Int.tmod_eq_emod_of_nonneg h1]; exact h2
    clear hd hk
    go_enter Try.func89, Try.ntmps89
    go_wp2
    go_ret
    exact ⟨rfl, rfl⟩
  · have hd : decide (0 ≤ k ∧ k % 10 = 0) = false := by simp [h2]
    rw [hd]
    have t1 : (k.tmod 10 == 0) = false := by rw [Int.tmod_eq_emod_of_nonneg h1]; simpa using h2
    have t2 : (k % 10 == 0) = false := by simpa using h2
    clear hd hk
    go_enter Try.func89, Try.ntmps89
    go_wp2
    go_ret
    exact ⟨rfl, rfl⟩
  · have hd : decide (0 ≤ k ∧ k % 10 = 0) = false := by simp; omega
    rw [hd]
    clear hd hk
    go_enter Try.func89, Try.ntmps89
    go_wp2
    go_ret
    exact ⟨rfl, rfl⟩
end Go.Proofs.Qxb6500775a
