import Derived.Test.Qxb6500776aFnd
namespace Go.Proofs.Qxb6500776a
open Go.RowKit

/-! ### The plain scan -/
structure Mk where
  seen : Bool
  obs : Int
  d : Int
  g : Int
def Mk.vals (m : Mk) : List Value := [.bool m.seen, .int .i64 m.obs, .int .i64 m.d, .int .i64 m.g]
def segO (o t : Shp) (m : Smk) : Bool := segP o.x o.y t.x t.y m.x m.y m.r
def radP (M : List Smk) (o t : Shp) : Bool := upP o && decide (t.depth = 0) && wrsP (dstP o t) (16777216 * o.mast) (16777216 * t.mast) && M.all fun m => !segO o t m
/-- o sees t by sensor k. -/
def seeP (M : List Smk) (o t : Shp) (k : Nat) : Bool :=
  match k with
  | 0 => radP M o t
  | 1 => o.sonar && decide (10 ≤ excP o t (dstP o t))
  | 2 => findP o (dstP o t)
  | 3 => hearP o t (dstP o t)
  | _ => false
def grP (o t : Shp) (k : Nat) : Int :=
  match k with
  | 0 => rgP (dstP o t)
  | 1 => pgP (excP o t (dstP o t))
  | 2 => egP (dstP o t)
  | _ => 1
abbrev Brd := Nat → Nat → Nat → Mk
def noteM (m : Mk) (ob d g : Int) : Mk := if m.seen = true ∧ (m.d < d ∨ (d = m.d ∧ m.obs < ob)) then m else ⟨true, ob, d, g⟩
def noteP (B : Brd) (T i k : Nat) (m : Mk) : Brd := fun T' i' k' => if T' = T ∧ i' = i ∧ k' = k then m else B T' i' k'
/-- The board B holds the least of the notes D. -/
structure Bd (D : Shp → Shp → Nat → Prop) (B : Brd) : Prop where
  none : ∀ T i k, (B T i k).seen = false → ∀ o t, D o t k → o.team = T → t.id = i → False
  some : ∀ T i k, (B T i k).seen = true → ∃ o t, D o t k ∧ o.team = T ∧ t.id = i ∧ (B T i k).obs = o.id ∧ (B T i k).d = dstP o t ∧ (B T i k).g = grP o t k
  least : ∀ T i k, (B T i k).seen = true → ∀ o t, D o t k → o.team = T → t.id = i → (B T i k).d < dstP o t ∨ ((B T i k).d = dstP o t ∧ (B T i k).obs ≤ o.id)
theorem Bd.iff {D D' : Shp → Shp → Nat → Prop} {B : Brd} (h : Bd D B) (e : ∀ o t k, D' o t k ↔ D o t k) : Bd D' B := by
  have : D' = D := by funext o t k; exact propext (e o t k)
  rw [this]; exact h
theorem Bd.empty {B : Brd} (h : ∀ T i k, (B T i k).seen = false) : Bd (fun _ _ _ => False) B :=
  ⟨fun _ _ _ _ _ _ h => h.elim, fun T i k e => by rw [h] at e; simp at e, fun T i k e => by rw [h] at e; simp at e⟩
theorem Bd.note {D : Shp → Shp → Nat → Prop} {B : Brd} (h : Bd D B) {o t : Shp} {T i k : Nat} (hT : o.team = T) (hi : t.id = i) :
    Bd (fun o' t' k' => D o' t' k' ∨ (o' = o ∧ t' = t ∧ k' = k)) (noteP B T i k (noteM (B T i k) o.id (dstP o t) (grP o t k))) := by
  have key : ∀ T' i' k', (T' = T ∧ i' = i ∧ k' = k) ∨ (¬ (T' = T ∧ i' = i ∧ k' = k) ∧ noteP B T i k (noteM (B T i k) o.id (dstP o t) (grP o t k)) T' i' k' = B T' i' k') := fun T' i' k' => by
    by_cases e : T' = T ∧ i' = i ∧ k' = k
    · exact .inl e
    · exact .inr ⟨e, by unfold noteP; rw [if_neg e]⟩
  have far : ∀ T' i' k' o' t', ¬ (T' = T ∧ i' = i ∧ k' = k) → (o' = o ∧ t' = t ∧ k' = k) → o'.team = T' → t'.id = i' → False := by
    rintro T' i' k' o' t' hn ⟨rfl, rfl, rfl⟩ h1 h2
    exact hn ⟨by rw [hT] at h1; omega, by rw [hi] at h2; omega, rfl⟩
  have here : noteP B T i k (noteM (B T i k) o.id (dstP o t) (grP o t k)) T i k = noteM (B T i k) o.id (dstP o t) (grP o t k) := by unfold noteP; rw [if_pos ⟨rfl, rfl, rfl⟩]
  refine ⟨fun T' i' k' hs o' t' hd h1 h2 => ?_, fun T' i' k' hs => ?_, fun T' i' k' hs o' t' hd h1 h2 => ?_⟩
  · rcases key T' i' k' with ⟨rfl, rfl, rfl⟩ | ⟨hn, e⟩
    · rw [here] at hs
      unfold noteM at hs
      split at hs
      · next hc => rw [hc.1] at hs; simp at hs
      · simp at hs
    · rw [e] at hs
      rcases hd with hd | hd
      · exact h.none _ _ _ hs _ _ hd h1 h2
      · exact far _ _ _ _ _ hn hd h1 h2
  · rcases key T' i' k' with ⟨rfl, rfl, rfl⟩ | ⟨hn, e⟩
    · rw [here]
      unfold noteM
      split
      · next hc =>
        obtain ⟨o', t', hd, r⟩ := h.some _ _ _ hc.1
        exact ⟨o', t', .inl hd, r⟩
      · exact ⟨o, t, .inr ⟨rfl, rfl, rfl⟩, hT, hi, rfl, rfl, rfl⟩
    · rw [e] at hs ⊢
      obtain ⟨o', t', hd, r⟩ := h.some _ _ _ hs
      exact ⟨o', t', .inl hd, r⟩
  · rcases key T' i' k' with ⟨rfl, rfl, rfl⟩ | ⟨hn, e⟩
    · rw [here]
      unfold noteM
      split
      · next hc =>
        rcases hd with hd | ⟨rfl, rfl, _⟩
        · exact h.least _ _ _ hc.1 _ _ hd h1 h2
        · rcases hc.2 with z | ⟨z, y⟩
          · exact .inl z
          · exact .inr ⟨z.symm, by omega⟩
      · next hc =>
        rcases hd with hd | ⟨rfl, rfl, _⟩
        · by_cases hseen : (B T' i' k').seen = true
          · have hl := h.least _ _ _ hseen _ _ hd h1 h2
            have hc2 : ¬ ((B T' i' k').d < dstP o t ∨ (dstP o t = (B T' i' k').d ∧ (B T' i' k').obs < o.id)) := fun z => hc ⟨hseen, z⟩
            show dstP o t < dstP o' t' ∨ (dstP o t = dstP o' t' ∧ o.id ≤ o'.id)
            omega
          · exact (h.none _ _ _ (by simpa using hseen) _ _ hd h1 h2).elim
        · exact .inr ⟨rfl, Int.le_refl _⟩
    · rw [e] at hs ⊢
      rcases hd with hd | hd
      · exact h.least _ _ _ hs _ _ hd h1 h2
      · exact (far _ _ _ _ _ hn hd h1 h2).elim
/-! ### The chains of the grid -/
def celR (t : Shp) : Nat := ((t.y + 1048576) / 65536).toNat
def celC (t : Shp) : Nat := ((t.x + 1048576) / 65536).toNat
def cel (t : Shp) : Nat := celR t * 33 + celC t
def fcel (A : List Shp) (i : Nat) : Nat := ((A[i]?).map cel).getD 0
/-- The greatest index below m that lies in cell c. -/
def prv (f : Nat → Nat) : Nat → Nat → Int
  | 0, _ => -1
  | m + 1, c => if f m = c then (m : Int) else prv f m c
theorem prv_cases (f : Nat → Nat) (c : Nat) : ∀ m, (prv f m c = -1 ∧ ∀ j, j < m → f j ≠ c) ∨ ∃ j : Nat, j < m ∧ prv f m c = j ∧ f j = c ∧ ∀ x, j < x → x < m → f x ≠ c
  | 0 => .inl ⟨rfl, fun j hj => by omega⟩
  | m + 1 => by
    unfold prv
    by_cases h : f m = c
    · rw [if_pos h]
      exact .inr ⟨m, by omega, rfl, h, fun x h1 h2 => by omega⟩
    · rw [if_neg h]
      rcases prv_cases f c m with ⟨h1, h2⟩ | ⟨j, hj, h1, h2, h3⟩
      · refine .inl ⟨h1, fun j hj => ?_⟩
        rcases (by omega : j < m ∨ j = m) with z | rfl
        · exact h2 j z
        · exact h
      · refine .inr ⟨j, by omega, h1, h2, fun x h4 h5 => ?_⟩
        rcases (by omega : x < m ∨ x = m) with z | rfl
        · exact h3 x h4 z
        · exact h
theorem prv_congr {f g : Nat → Nat} (c : Nat) : ∀ m, (∀ j, j < m → f j = g j) → prv f m c = prv g m c
  | 0, _ => rfl
  | m + 1, h => by
    unfold prv
    rw [h m (by omega), prv_congr c m fun j hj => h j (by omega)]
theorem fcel_old (A : List Shp) (t : Shp) {j : Nat} (h : j < A.length) : fcel (A ++ [t]) j = fcel A j := by
  unfold fcel; rw [List.getElem?_append_left h]
theorem fcel_new (A : List Shp) (t : Shp) : fcel (A ++ [t]) A.length = cel t := by
  unfold fcel; simp
theorem fcel_at {A : List Shp} {i : Nat} {t : Shp} (h : A[i]? = some t) : fcel A i = cel t := by unfold fcel; rw [h]; rfl
theorem celC_lt {t : Shp} (h : ShpOk t) : celC t < 33 ∧ celR t < 33 := by
  have h1 := h.x
  have h2 := h.y
  unfold OnM at h1 h2
  unfold celC celR
  omega
theorem cel_lt {t : Shp} (h : ShpOk t) : cel t < 1089 := by
  have := celC_lt h
  unfold cel
  omega
/-! ### What is seen lies in reach -/
theorem abs_le_of_sq {x r : Int} (hr : 0 ≤ r) (h : x * x ≤ r * r) : -r ≤ x ∧ x ≤ r := by
  constructor
  · rcases Int.lt_or_le x (-r) with z | z
    · have h1 : (r + 1) * (r + 1) ≤ (-x) * (-x) := Int.mul_le_mul (by omega) (by omega) (by omega) (by omega)
      rw [Int.neg_mul_neg] at h1
      have h2 : (r + 1) * (r + 1) = r * r + 2 * r + 1 := by grind
      omega
    · exact z
  · rcases Int.lt_or_le r x with z | z
    · have h1 : (r + 1) * (r + 1) ≤ x * x := Int.mul_le_mul (by omega) (by omega) (by omega) (by omega)
      have h2 : (r + 1) * (r + 1) = r * r + 2 * r + 1 := by grind
      omega
    · exact z
/-- t lies in the square of half side r around o. -/
def Near (o t : Shp) (r : Int) : Prop := -r ≤ t.x - o.x ∧ t.x - o.x ≤ r ∧ -r ≤ t.y - o.y ∧ t.y - o.y ≤ r
theorem near_of_dst {o t : Shp} {r : Int} (hr : 0 ≤ r) (h : dstP o t ≤ r * r) : Near o t r := by
  unfold dstP dsq at h
  have a := sq_nn (o.x - t.x)
  have b := sq_nn (o.y - t.y)
  have h1 := abs_le_of_sq hr (show (o.x - t.x) * (o.x - t.x) ≤ r * r by omega)
  have h2 := abs_le_of_sq hr (show (o.y - t.y) * (o.y - t.y) ≤ r * r by omega)
  unfold Near
  omega
theorem wrs_le {n p q a b : Int} (hq : 0 ≤ q) (ha : 0 ≤ a) (hb : 0 ≤ b) (h1 : p ≤ a * a) (h2 : q ≤ b * b) (h : wrsP n p q = true) : n ≤ (a + b) * (a + b) := by
  have e : (a + b) * (a + b) = a * a + b * b + 2 * (a * b) := by grind
  have hab : 0 ≤ a * b := Int.mul_nonneg ha hb
  unfold wrsP at h
  split at h
  · omega
  · have h3 : (n - p - q) * (n - p - q) ≤ 4 * (p * q) := by simpa using h
    have h4 : p * q ≤ (a * a) * (b * b) := Int.mul_le_mul h1 h2 hq (sq_nn a)
    have h5 : (2 * (a * b)) * (2 * (a * b)) = 4 * ((a * a) * (b * b)) := by grind
    have h6 := abs_le_of_sq (x := n - p - q) (r := 2 * (a * b)) (by omega) (by omega)
    omega
theorem lossP_mono_dec : ∀ k, k < 130 → lossP k ≤ lossP (k + 1) := by decide +kernel
theorem lossP_mono {a b : Nat} (h : a ≤ b) (hb : b ≤ 130) : lossP a ≤ lossP b := by
  induction b with
  | zero => have : a = 0 := by omega
            rw [this]; exact Int.le_refl _
  | succ b ih =>
    rcases (by omega : a ≤ b ∨ a = b + 1) with z | rfl
    · exact Int.le_trans (ih z (by omega)) (lossP_mono_dec b (by omega))
    · exact Int.le_refl _
theorem decF_stop : ∀ (f : Nat) (n : Int) (k : Nat), decF f n k < k + f → n < lossP (decF f n k + 1)
  | 0, n, k, h => by simp [decF] at h
  | f + 1, n, k, h => by
    unfold decF at h ⊢
    split
    · next hc =>
      rw [if_pos hc] at h
      exact decF_stop f n (k + 1) (by omega)
    · omega
theorem decP_lt {n : Int} {s : Nat} (hs : s < 130) (h : decP n ≤ s) : n < lossP (s + 1) := by
  have h1 := decF_stop 130 n 0 (by unfold decP at h; omega)
  have h2 := lossP_mono (a := decP n + 1) (b := s + 1) (by omega) (by omega)
  unfold decP at h2
  omega
/-! ### A disc whose box lies off the segment's -/
theorem seg_id (a b c d e f : Int) : dsq a b c d * (a - e) + alP a b c d e f * (c - a) = (d - b) * crP a b c d e f := by unfold dsq alP crP; grind
theorem seg_side {a b c d e f r : Int} (hr : 0 ≤ r) (h1 : e + r < a) (h2 : e + r < c) : segP a b c d e f r = false := by
  have sqlt : ∀ x : Int, r < x → r * r < x * x := fun x hx => by
    have : (r + 1) * (r + 1) ≤ x * x := Int.mul_le_mul (by omega) (by omega) (by omega) (by omega)
    have e2 : (r + 1) * (r + 1) = r * r + 2 * r + 1 := by grind
    omega
  have k1 := sqlt (a - e) (by omega)
  have k2 := sqlt (c - e) (by omega)
  have n1 := sq_nn (b - f)
  have n2 := sq_nn (d - f)
  unfold segP
  split
  · rw [decide_eq_false_iff_not]; unfold dsq; omega
  · split
    · rw [decide_eq_false_iff_not]; unfold dsq; omega
    · next h3 h4 =>
      rw [decide_eq_false_iff_not]
      obtain ⟨al, hal⟩ : ∃ al, alP a b c d e f = al := ⟨_, rfl⟩
      obtain ⟨D, hD⟩ : ∃ D, dsq a b c d = D := ⟨_, rfl⟩
      obtain ⟨cr, hcr⟩ : ∃ cr, crP a b c d e f = cr := ⟨_, rfl⟩
      rw [hal] at h3 h4
      rw [hD] at h4 ⊢
      rw [hcr]
      have id1 : D * (a - e) + al * (c - a) = (d - b) * cr := by
        rw [← hD, ← hal, ← hcr]; exact seg_id a b c d e f
      have id2 : D * (a - e) + al * (c - a) = (D - al) * (a - e) + al * (c - e) := by grind
      have g1 : (D - al) * (r + 1) ≤ (D - al) * (a - e) := Int.mul_le_mul_of_nonneg_left (by omega) (by omega)
      have g2 : al * (r + 1) ≤ al * (c - e) := Int.mul_le_mul_of_nonneg_left (by omega) (by omega)
      have g3 : (D - al) * (r + 1) + al * (r + 1) = D * r + D := by grind
      have hX : D * r + D ≤ (d - b) * cr := by omega
      have hDp : 0 < D := by omega
      have hDr : 0 ≤ D * r := Int.mul_nonneg (by omega) hr
      have sqX : (D * r + D) * (D * r + D) ≤ ((d - b) * cr) * ((d - b) * cr) := by
        exact Int.mul_le_mul hX hX (by omega) (by omega)
      have e4 : ((d - b) * cr) * ((d - b) * cr) = ((d - b) * (d - b)) * (cr * cr) := by grind
      have hdb : (d - b) * (d - b) ≤ D := by
        rw [← hD]; unfold dsq
        have := sq_nn (a - c)
        have e5 : (b - d) * (b - d) = (d - b) * (d - b) := by grind
        omega
      have hcc := sq_nn cr
      have h5 : ((d - b) * (d - b)) * (cr * cr) ≤ D * (cr * cr) := Int.mul_le_mul_of_nonneg_right hdb hcc
      have e6 : (D * r + D) * (D * r + D) = D * (D * (r + 1) * (r + 1)) := by grind
      have h6 : D * (D * (r + 1) * (r + 1)) ≤ D * (cr * cr) := by omega
      have h7 : D * (r + 1) * (r + 1) ≤ cr * cr := Int.le_of_mul_le_mul_left h6 hDp
      have e8 : D * (r + 1) * (r + 1) = r * r * D + 2 * (D * r) + D := by grind
      omega
theorem segP_mir (a b c d e f r : Int) : segP (-a) b (-c) d (-e) f r = segP a b c d e f r := by
  have h1 : alP (-a) b (-c) d (-e) f = alP a b c d e f := by unfold alP; grind
  have h2 : crP (-a) b (-c) d (-e) f = -crP a b c d e f := by unfold crP; grind
  have h3 : ∀ x y z u, dsq (-x) y (-z) u = dsq x y z u := fun x y z u => by unfold dsq; grind
  unfold segP
  rw [h1, h2, h3, h3, h3, Int.neg_mul_neg]
theorem segP_swap (a b c d e f r : Int) : segP b a d c f e r = segP a b c d e f r := by
  have h1 : alP b a d c f e = alP a b c d e f := by unfold alP; grind
  have h2 : crP b a d c f e = -crP a b c d e f := by unfold crP; grind
  have h3 : ∀ x y z u, dsq y x u z = dsq x y z u := fun x y z u => by unfold dsq; grind
  unfold segP
  rw [h1, h2, h3 a b e f, h3 a b c d, h3 c d e f, Int.neg_mul_neg]
/-- The box test is sound. -/
theorem seg_box {a b c d e f r : Int} (hr : 0 ≤ r) (h : (e + r < a ∧ e + r < c) ∨ (a < e - r ∧ c < e - r) ∨ (f + r < b ∧ f + r < d) ∨ (b < f - r ∧ d < f - r)) : segP a b c d e f r = false := by
  rcases h with ⟨h1, h2⟩ | ⟨h1, h2⟩ | ⟨h1, h2⟩ | ⟨h1, h2⟩
  · exact seg_side hr h1 h2
  · rw [← segP_mir]; exact seg_side hr (by omega) (by omega)
  · rw [← segP_swap]; exact seg_side hr h1 h2
  · rw [← segP_swap, ← segP_mir]; exact seg_side hr (by omega) (by omega)
end Go.Proofs.Qxb6500776a
