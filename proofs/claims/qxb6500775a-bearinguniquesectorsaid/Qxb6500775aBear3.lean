import Derived.Test.Qxb6500775aBear2
namespace Go.Proofs.Qxb6500775a
open Go.RowKit

def BearAt (q u v s : Int) : Prop := (u ≤ v ∧ ∃ r : Nat, FloorAt u v r ∧ s = q * 1024 + r) ∨ (v < u ∧ ∃ h : Nat, CeilAt v u h ∧ s = (q + 1) * 1024 - h)
def BearM (west : Bool) (mx : Int) (south : Bool) (my : Int) (s : Int) : Prop := (mx = 0 ∧ my = 0 ∧ s = 0) ∨ (¬ (mx = 0 ∧ my = 0) ∧ BearAt (foldP west mx south my).1 (foldP west mx south my).2.1 (foldP west mx south my).2.2 s)
theorem fold_ok {west south : Bool} {mx my : Int} (h1 : Word mx) (h2 : Word my) (hx : mx = 0 → west = false) (hy : my = 0 → south = false) (hz : ¬ (mx = 0 ∧ my = 0)) :
    0 ≤ (foldP west mx south my).1 ∧ (foldP west mx south my).1 ≤ 3 ∧ Word (foldP west mx south my).2.1 ∧ Word (foldP west mx south my).2.2 ∧ 0 < (foldP west mx south my).2.2 := by
  have a := h1.1
  have b := h2.1
  unfold foldP
  split
  · rename_i h; exact ⟨by simp, by simp, h1, h2, by have := h.2.2; show 0 < my; omega⟩
  split
  · rename_i h; exact ⟨by simp, by simp, h2, h1, by have := h.2; show 0 < mx; omega⟩
  split
  · rename_i h
    refine ⟨by simp, by simp, h1, h2, ?_⟩
    show 0 < my
    rcases (by omega : my = 0 ∨ 0 < my) with z | z
    · rw [hy z] at h; cases h
    · exact z
  · rename_i h3 h4 h5
    refine ⟨by simp, by simp, h2, h1, ?_⟩
    show 0 < mx
    rcases (by omega : mx = 0 ∨ 0 < mx) with z | z
    · exfalso
      have w0 := hx z
      have s0 : south = false := by cases south; rfl; exact absurd rfl h5
      exact h3 ⟨w0, s0, fun e => hz ⟨z, e⟩⟩
    · exact z
set_option maxHeartbeats 1000000 in
theorem bearingOf_any (w : World) (b : Nat) (west south : Bool) (mx my : Int) (h1 : Word mx) (h2 : Word my) (hx : mx = 0 → west = false) (hy : my = 0 → south = false) (h : Tabs w b) :
    Calls Try.prog 67 #[.pointer (some ⟨b, 0, none⟩), .bool west, .int .u64 mx, .bool south, .int .u64 my] w fun e w' => ∃ s : Int, e = .returned (.int .i64 s) ∧ BearM west mx south my s ∧ Below w.heap.size w w' ∧ Tabs w' b := by
  have HT := hide h
  clear h
  by_cases hz : mx = 0 ∧ my = 0
  · obtain ⟨rfl, rfl⟩ := hz
    clear hx hy h1 h2
    go_enter Try.func67, Try.ntmps67
    go_wp2
    go_ret
    exact ⟨0, rfl, .inl ⟨rfl, rfl, rfl⟩, Below.refl _ _, HT.out⟩
  · have hf := fold_ok h1 h2 hx hy hz
    have HZ := hide hz
    have hfold := fun w => hide (fold_any w west south mx my)
    obtain ⟨q, hq⟩ : ∃ q, (foldP west mx south my).1 = q := ⟨_, rfl⟩
    obtain ⟨u, hu⟩ : ∃ q, (foldP west mx south my).2.1 = q := ⟨_, rfl⟩
    obtain ⟨v, hv⟩ : ∃ q, (foldP west mx south my).2.2 = q := ⟨_, rfl⟩
    rw [hq, hu, hv] at hf
    simp only [hq, hu, hv] at hfold
    have HQ := hide (And.intro hq (And.intro hu hv))
    clear hq hu hv hx hy
    obtain ⟨q0, q3, wu, wv, v0⟩ := hf
    have WU := hide wu
    have WV := hide wv
    have fin : Calls Try.prog 67 #[.pointer (some ⟨b, 0, none⟩), .bool west, .int .u64 mx, .bool south, .int .u64 my] w fun e w' => ∃ s : Int, e = .returned (.int .i64 s) ∧ BearAt q u v s ∧ Below w.heap.size w w' ∧ Tabs w' b := by
      clear wu wv HQ
      have nz : mx = 0 ∧ (my == 0) = false ∨ (mx == 0) = false := by
        rcases Classical.em (mx = 0) with z | z
        · left; exact ⟨z, by simp; exact fun e => hz ⟨z, e⟩⟩
        · right; simpa using z
      clear hz h1 h2
      by_cases huv : u ≤ v
      · rcases nz with ⟨rfl, nz⟩ | nz
        all_goals
          go_enter Try.func67, Try.ntmps67
          go_wp2_with fail
          refine (hfold _).out.mono ?_
          rintro e w1 ⟨rfl, rfl⟩
          go_wp2_with fail
          refine (floorRow_any _ b u v WU.out WV.out HT.out).mono ?_
          rintro e w2 ⟨r, rfl, hr, hb, ht⟩
          have hr5 := hr.1
          have HR := hide hr
          have HB := hide hb
          have HT2 := hide ht
          clear hr hb ht
          go_wp2
          go_ret
          exact ⟨q * 1024 + r, rfl, .inl ⟨huv, r, HR.out, rfl⟩, HB.out, HT2.out⟩
      · rcases nz with ⟨rfl, nz⟩ | nz
        all_goals
          go_enter Try.func67, Try.ntmps67
          go_wp2_with fail
          refine (hfold _).out.mono ?_
          rintro e w1 ⟨rfl, rfl⟩
          go_wp2_with fail
          refine (ceilRow_any _ b v u WV.out WU.out HT.out).mono ?_
          rintro e w2 ⟨r, rfl, hr, hb, ht⟩
          have hr5 := hr.1
          have HR := hide hr
          have HB := hide hb
          have HT2 := hide ht
          clear hr hb ht
          go_wp2
          go_ret
          exact ⟨(q + 1) * 1024 - r, rfl, .inr ⟨by omega, r, HR.out, rfl⟩, HB.out, HT2.out⟩
    refine fin.mono ?_
    rintro e w' ⟨s, rfl, hs, hb, ht⟩
    exact ⟨s, rfl, .inr ⟨HZ.out, by rw [HQ.out.1, HQ.out.2.1, HQ.out.2.2]; exact hs⟩, hb, ht⟩
theorem abs_word {v : Int} (h0 : -9223372036854775808 ≤ v) (h1 : v < 9223372036854775808) : Word (abs' v) := by unfold abs'; split <;> exact ⟨by omega, by omega⟩
theorem abs_zero {v : Int} : abs' v = 0 ↔ v = 0 := by unfold abs'; split <;> omega
theorem abs_sign {v : Int} (h : abs' v = 0) : decide (v < 0) = false := by rw [abs_zero] at h; subst h; rfl
def BearS (dx dy s : Int) : Prop := BearM (decide (dx < 0)) (abs' dx) (decide (dy < 0)) (abs' dy) s
theorem bearing_any (w : World) (b : Nat) (dx dy : Int) (x0 : -9223372036854775808 ≤ dx) (x1 : dx < 9223372036854775808) (y0 : -9223372036854775808 ≤ dy) (y1 : dy < 9223372036854775808) (h : Tabs w b) :
    Calls Try.prog 27 #[.pointer (some ⟨b, 0, none⟩), .int .i64 dx, .int .i64 dy] w fun e w' => ∃ s : Int, e = .returned (.int .i64 s) ∧ BearS dx dy s ∧ Below w.heap.size w w' ∧ Tabs w' b := by
  have HT := hide h
  clear h
  go_enter Try.func27, Try.ntmps27
  go_wp2_with fail
  refine (absU64_any _ dx x0 x1).mono ?_
  rintro e w1 ⟨rfl, rfl⟩
  go_wp2_with fail
  refine (absU64_any _ dy y0 y1).mono ?_
  rintro e w1 ⟨rfl, rfl⟩
  go_wp2_with fail
  refine (bearingOf_any _ b (decide (dx < 0)) (decide (dy < 0)) (abs' dx) (abs' dy) (abs_word x0 x1) (abs_word y0 y1) abs_sign abs_sign HT.out).mono ?_
  rintro e w2 ⟨s, rfl, hs, hb, ht⟩
  have HS := hide hs
  have HB := hide hb
  have HT2 := hide ht
  clear hs hb ht
  go_wp2
  go_ret
  exact ⟨s, rfl, HS.out, HB.out, HT2.out⟩
def octM (q u v : Int) : Int := if u < v then 2 * q else 2 * q + 1
def octP (dx dy : Int) : Int := if dx = 0 ∧ dy = 0 then 0 else octM (foldP (decide (dx < 0)) (abs' dx) (decide (dy < 0)) (abs' dy)).1 (foldP (decide (dx < 0)) (abs' dx) (decide (dy < 0)) (abs' dy)).2.1 (foldP (decide (dx < 0)) (abs' dx) (decide (dy < 0)) (abs' dy)).2.2
set_option maxHeartbeats 1000000 in
theorem octantOf_any (w : World) (dx dy : Int) (x0 : -9223372036854775808 ≤ dx) (x1 : dx < 9223372036854775808) (y0 : -9223372036854775808 ≤ dy) (y1 : dy < 9223372036854775808) :
    Calls Try.prog 29 #[.int .i64 dx, .int .i64 dy] w fun e w' => e = .returned (.int .i64 (octP dx dy)) ∧ w' = w := by
  by_cases hz : dx = 0 ∧ dy = 0
  · obtain ⟨rfl, rfl⟩ := hz
    go_enter Try.func29, Try.ntmps29
    go_wp2
    go_ret
    exact ⟨rfl, rfl⟩
  · have hf := fold_ok (abs_word x0 x1) (abs_word y0 y1) abs_sign abs_sign (fun h => hz ⟨abs_zero.1 h.1, abs_zero.1 h.2⟩)
    have hfold := fun w => hide (fold_any w (decide (dx < 0)) (decide (dy < 0)) (abs' dx) (abs' dy))
    have hoct : octP dx dy = octM (foldP (decide (dx < 0)) (abs' dx) (decide (dy < 0)) (abs' dy)).1 (foldP (decide (dx < 0)) (abs' dx) (decide (dy < 0)) (abs' dy)).2.1 (foldP (decide (dx < 0)) (abs' dx) (decide (dy < 0)) (abs' dy)).2.2 := by rw [octP, if_neg hz]
    rw [hoct]
    clear hoct
    generalize (foldP (decide (dx < 0)) (abs' dx) (decide (dy < 0)) (abs' dy)).1 = q at *
    generalize (foldP (decide (dx < 0)) (abs' dx) (decide (dy < 0)) (abs' dy)).2.1 = u at *
    generalize (foldP (decide (dx < 0)) (abs' dx) (decide (dy < 0)) (abs' dy)).2.2 = v at *
    obtain ⟨q0, q3, -, -, -⟩ := hf
    have nz : dx = 0 ∧ (dy == 0) = false ∨ (dx == 0) = false := by
      rcases Classical.em (dx = 0) with z | z
      · left; exact ⟨z, by simp; exact fun e => hz ⟨z, e⟩⟩
      · right; simpa using z
    clear hz
    by_cases huv : u < v
    · have hm : octM q u v = 2 * q := if_pos huv
      rw [hm]
      clear hm
      rcases nz with ⟨rfl, nz⟩ | nz
      all_goals
        go_enter Try.func29, Try.ntmps29
        go_wp2_with fail
        refine (absU64_any _ _ (by omega) (by omega)).mono ?_
        rintro e w1 ⟨rfl, rfl⟩
        go_wp2_with fail
        refine (absU64_any _ dy y0 y1).mono ?_
        rintro e w1 ⟨rfl, rfl⟩
        go_wp2_with fail
        refine (hfold _).out.mono ?_
        rintro e w1 ⟨rfl, rfl⟩
        go_wp2
        go_ret
        exact ⟨rfl, rfl⟩
    · have hm : octM q u v = 2 * q + 1 := if_neg huv
      rw [hm]
      clear hm
      rcases nz with ⟨rfl, nz⟩ | nz
      all_goals
        go_enter Try.func29, Try.ntmps29
        go_wp2_with fail
        refine (absU64_any _ _ (by omega) (by omega)).mono ?_
        rintro e w1 ⟨rfl, rfl⟩
        go_wp2_with fail
        refine (absU64_any _ dy y0 y1).mono ?_
        rintro e w1 ⟨rfl, rfl⟩
        go_wp2_with fail
        refine (hfold _).out.mono ?_
        rintro e w1 ⟨rfl, rfl⟩
        go_wp2
        go_ret
        exact ⟨rfl, rfl⟩

/-! ### the plain law -/
theorem floor_lt {u v : Int} {r : Nat} (h : FloorAt u v r) (hlt : u < v) : r ≤ 511 := by
  obtain ⟨h1, h2, -⟩ := h
  rcases Nat.lt_or_ge r 512 with z | z
  · omega
  · have : r = 512 := by omega
    subst this
    rw [oct_ends.2.2.1, oct_ends.2.2.2] at h2
    omega
theorem floor_eq {u : Int} {r : Nat} (h : FloorAt u u r) (hu : 0 ≤ u) : r = 512 := by
  obtain ⟨h1, -, h3⟩ := h
  rcases h3 with z | z
  · exact z
  · have o := oct_at (r + 1)
    rcases Nat.lt_or_ge r 512 with z1 | z1
    · have := Int.mul_le_mul_of_nonneg_left (o (by omega)).2.1 hu
      omega
    · omega
theorem floor_zero {v : Int} {r : Nat} (h : FloorAt 0 v r) (hv : 0 < v) : r = 0 := by
  obtain ⟨h1, h2, -⟩ := h
  rcases h2 with z | z
  · exact z
  · rcases Nat.eq_zero_or_pos r with z1 | z1
    · exact z1
    · have := Int.mul_pos hv ((oct_at r h1).2.2.2 (by omega))
      omega
theorem ceil_pos {u v : Int} {h : Nat} (hc : CeilAt u v h) (hu : 0 < u) : 1 ≤ h := by
  obtain ⟨h1, h2, -⟩ := hc
  rcases Nat.eq_zero_or_pos h with z | z
  · subst z
    rw [oct_ends.1, oct_ends.2.1] at h2
    omega
  · exact z
theorem bear_oct {dx dy s : Int} (x0 : -9223372036854775808 ≤ dx) (x1 : dx < 9223372036854775808) (y0 : -9223372036854775808 ≤ dy) (y1 : dy < 9223372036854775808) (h : BearS dx dy s) : 0 ≤ s ∧ s < 4096 ∧ s / 512 = octP dx dy := by
  rcases h with ⟨a, b, rfl⟩ | ⟨hz, h⟩
  · rw [abs_zero] at a b
    subst a; subst b
    exact ⟨by omega, by omega, rfl⟩
  · have hz' : ¬ (dx = 0 ∧ dy = 0) := fun h => hz ⟨abs_zero.2 h.1, abs_zero.2 h.2⟩
    obtain ⟨q0, q3, wu, wv, v0⟩ := fold_ok (abs_word x0 x1) (abs_word y0 y1) abs_sign abs_sign hz
    rw [octP, if_neg hz']
    generalize (foldP (decide (dx < 0)) (abs' dx) (decide (dy < 0)) (abs' dy)).1 = q at *
    generalize (foldP (decide (dx < 0)) (abs' dx) (decide (dy < 0)) (abs' dy)).2.1 = u at *
    generalize (foldP (decide (dx < 0)) (abs' dx) (decide (dy < 0)) (abs' dy)).2.2 = v at *
    unfold octM
    rcases h with ⟨huv, r, hr, rfl⟩ | ⟨huv, r, hr, rfl⟩
    · have hr1 := hr.1
      split
      · rename_i hlt
        have := floor_lt hr hlt
        omega
      · have : u = v := by omega
        subst this
        have := floor_eq hr wu.1
        omega
    · have hr1 := hr.1
      have := ceil_pos hr v0
      rw [if_neg (by omega)]
      omega
theorem bear_ray {dx dy s k q : Int} (hk : 0 < k) (h : BearS dx dy s) (hf : foldP (decide (dx < 0)) (abs' dx) (decide (dy < 0)) (abs' dy) = (q, 0, k) ) : s = q * 1024 := by
  rcases h with ⟨a, b, rfl⟩ | ⟨hz, h⟩
  · rw [abs_zero] at a b
    subst a; subst b
    simp [foldP, abs'] at hf
    omega
  · rw [hf] at h
    rcases h with ⟨huv, r, hr, rfl⟩ | ⟨huv, r, hr, rfl⟩
    · have := floor_zero hr hk; subst this; simp
    · exact absurd huv (by simp; omega)
theorem bear_ray2 {dx dy s k q : Int} (hk : 0 < k) (h : BearS dx dy s) (hf : foldP (decide (dx < 0)) (abs' dx) (decide (dy < 0)) (abs' dy) = (q, k, k) ) : s = q * 1024 + 512 := by
  rcases h with ⟨a, b, rfl⟩ | ⟨hz, h⟩
  · rw [abs_zero] at a b
    subst a; subst b
    simp [foldP, abs'] at hf
    omega
  · rw [hf] at h
    rcases h with ⟨huv, r, hr, rfl⟩ | ⟨huv, r, hr, rfl⟩
    · have := floor_eq hr (by simp; omega); subst this; simp
    · exact absurd huv (by simp)
theorem fold_k {k : Int} (hk : 0 < k) :
    foldP (decide ((0 : Int) < 0)) (abs' 0) (decide (k < 0)) (abs' k) = (0, 0, k) ∧ foldP (decide (k < 0)) (abs' k) (decide (k < 0)) (abs' k) = (0, k, k) ∧ foldP (decide (k < 0)) (abs' k) (decide ((0 : Int) < 0)) (abs' 0) = (1, 0, k) ∧ foldP (decide (k < 0)) (abs' k) (decide (-k < 0)) (abs' (-k)) = (1, k, k) ∧
    foldP (decide ((0 : Int) < 0)) (abs' 0) (decide (-k < 0)) (abs' (-k)) = (2, 0, k) ∧ foldP (decide (-k < 0)) (abs' (-k)) (decide (-k < 0)) (abs' (-k)) = (2, k, k) ∧ foldP (decide (-k < 0)) (abs' (-k)) (decide ((0 : Int) < 0)) (abs' 0) = (3, 0, k) ∧ foldP (decide (-k < 0)) (abs' (-k)) (decide (k < 0)) (abs' k) = (3, k, k) := by
  have a1 : decide (k < 0) = false := by simp; omega
  have a2 : decide (-k < 0) = true := by simp; omega
  have a3 : abs' k = k := if_neg (by omega)
  have a4 : abs' (-k) = k := by rw [abs', if_pos (by omega)]; omega
  have a5 : abs' 0 = 0 := rfl
  have a6 : decide ((0 : Int) < 0) = false := rfl
  have a7 : k ≠ 0 := by omega
  rw [a1, a2, a3, a4, a5, a6]
  simp [foldP, a7]
/-- Bearing on the eight rays. -/
theorem bear_rays {k : Int} (hk : 0 < k) : (∀ s, BearS 0 k s → s = 0) ∧ (∀ s, BearS k k s → s = 512) ∧ (∀ s, BearS k 0 s → s = 1024) ∧ (∀ s, BearS k (-k) s → s = 1536) ∧ (∀ s, BearS 0 (-k) s → s = 2048) ∧ (∀ s, BearS (-k) (-k) s → s = 2560) ∧ (∀ s, BearS (-k) 0 s → s = 3072) ∧ (∀ s, BearS (-k) k s → s = 3584) := by
  obtain ⟨f0, f1, f2, f3, f4, f5, f6, f7⟩ := fold_k hk
  exact ⟨fun s h => bear_ray hk h f0, fun s h => bear_ray2 hk h f1, fun s h => bear_ray hk h f2, fun s h => bear_ray2 hk h f3, fun s h => bear_ray hk h f4, fun s h => bear_ray2 hk h f5, fun s h => bear_ray hk h f6, fun s h => bear_ray2 hk h f7⟩
end Go.Proofs.Qxb6500775a
