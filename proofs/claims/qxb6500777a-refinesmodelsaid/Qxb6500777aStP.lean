import Derived.Test.Qxb6500777aTb
namespace Go.Proofs.Qxb6500777a

/-! ### settle, plain -/
def loP (T : Tbl) (i j : Nat) : Nat := if (T.sl j).tr.num < (T.sl i).tr.num then j else i
def hiP (T : Tbl) (i j : Nat) : Nat := if (T.sl j).tr.num < (T.sl i).tr.num then i else j
/-- Two slots were twins. -/
def twinP (old : Nat → Slt) (i j : Nat) : Bool := (old i).used && (old j).used && alikeP (old i) (old j)
/-- One pair of a pass. -/
def pairP (old : Nat → Slt) (i j : Nat) (s : Tbl × Bool) : Tbl × Bool :=
  if twinP old i j = true ∧ aheadP (s.1.sl (hiP s.1 i j)) (s.1.sl (loP s.1 i j)) = true then (exP s.1 (loP s.1 i j) (hiP s.1 i j), true) else s
def rowP (old : Nat → Slt) (i : Nat) : Nat → Tbl × Bool → Tbl × Bool
  | 0, s => s
  | n + 1, s => pairP old i (i + 1 + n) (rowP old i n s)
def passP (old : Nat → Slt) : Nat → Tbl × Bool → Tbl × Bool
  | 0, s => s
  | n + 1, s => rowP old n (63 - n) (passP old n s)
/-- Passes until nothing moves. -/
inductive Settles (old : Nat → Slt) : Tbl → Tbl → Prop where
  | done (T : Tbl) : (passP old 64 (T, false)).2 = false → Settles old T (passP old 64 (T, false)).1
  | more (T T' : Tbl) : (passP old 64 (T, false)).2 = true → Settles old (passP old 64 (T, false)).1 T' → Settles old T T'
theorem Settles.det {old : Nat → Slt} {T A B : Tbl} (h : Settles old T A) (k : Settles old T B) : A = B := by
  induction h with
  | done T h =>
    cases k with
    | done _ _ => rfl
    | more _ _ h' _ => rw [h] at h'; cases h'
  | more T T' h _ ih =>
    cases k with
    | done _ h' => rw [h] at h'; cases h'
    | more _ _ _ k => exact ih k
/-- The state of a slot, all but number and target, as one number. -/
def keyP (s : Slt) : Int := (((((s.tr.ag * 2097153 + (s.tr.x + 1048576)) * 2097153 + (s.tr.y + 1048576)) * 4096 + s.tr.co) * 2001 + s.tr.sp) * 4 + s.tr.st) * 5 + s.sk
theorem before_iff {a b : Trk} (ha : TrkOk a) (hb : TrkOk b) : beforeP a b = true ↔ ((a.x * 2097153 + (a.y + 1048576)) * 4096 + a.co) * 2001 + a.sp < ((b.x * 2097153 + (b.y + 1048576)) * 4096 + b.co) * 2001 + b.sp := by
  have h1 := ha.x; have h2 := ha.y; have h3 := ha.co; have h4 := ha.sp
  have k1 := hb.x; have k2 := hb.y; have k3 := hb.co; have k4 := hb.sp
  unfold beforeP
  split
  · rw [decide_eq_true_eq]; omega
  · split
    · rw [decide_eq_true_eq]; omega
    · split
      · rw [decide_eq_true_eq]; omega
      · rw [decide_eq_true_eq]; omega
theorem ahead_iff {a b : Slt} (ha : SltOk a) (hb : SltOk b) : aheadP a b = true ↔ keyP a < keyP b := by
  have h0 := ha.tr.ag; have h1 := ha.tr.x; have h2 := ha.tr.y; have h3 := ha.tr.co; have h4 := ha.tr.sp; have h5 := ha.tr.st; have h6 := ha.sk
  have k0 := hb.tr.ag; have k1 := hb.tr.x; have k2 := hb.tr.y; have k3 := hb.tr.co; have k4 := hb.tr.sp; have k5 := hb.tr.st; have k6 := hb.sk
  have e1 := before_iff ha.tr hb.tr
  have e2 := before_iff hb.tr ha.tr
  unfold keyP aheadP
  split
  · rw [decide_eq_true_eq]; omega
  · split
    · rw [e1]
      next hne hor =>
      rw [e1, e2] at hor
      omega
    · next hne hor =>
      rw [e1, e2] at hor
      split
      · rw [decide_eq_true_eq]; omega
      · rw [decide_eq_true_eq]; omega
theorem key_rng {s : Slt} (h : SltOk s) : 0 ≤ keyP s ∧ keyP s ≤ 100000000000000000000000000 := by
  have h0 := h.tr.ag; have h1 := h.tr.x; have h2 := h.tr.y; have h3 := h.tr.co; have h4 := h.tr.sp; have h5 := h.tr.st; have h6 := h.sk
  unfold keyP
  omega
theorem key_numd (s : Slt) (n : Int) : keyP (numd s n) = keyP s := rfl
theorem numd_ok {s : Slt} {n : Int} (h : SltOk s) (hn : 0 ≤ n ∧ n ≤ 1000000000) : SltOk (numd s n) := ⟨h.tg, h.sk, ⟨hn, h.tr.x, h.tr.y, h.tr.co, h.tr.sp, h.tr.st, h.tr.ag⟩⟩
def sumN (f : Nat → Int) : Nat → Int
  | 0 => 0
  | n + 1 => sumN f n + f n
theorem sum_congr {f g : Nat → Int} : ∀ n, (∀ i, i < n → f i = g i) → sumN f n = sumN g n
  | 0, _ => rfl
  | n + 1, h => by rw [sumN, sumN, sum_congr n (fun i hi => h i (by omega)), h n (by omega)]
theorem sum_upd (f : Nat → Int) (i : Nat) (a : Int) : ∀ n, i < n → sumN (upd f i a) n = sumN f n + (a - f i)
  | 0, h => by omega
  | n + 1, h => by
    rw [sumN, sumN]
    by_cases e : i = n
    · subst e
      rw [upd_same, sum_congr (g := f) i (fun k hk => upd_ne _ _ (by omega))]
      omega
    · rw [sum_upd f i a n (by omega), upd_ne _ _ (by omega)]
      omega
theorem sum_le {f : Nat → Int} {c : Int} : ∀ n, (∀ i, i < n → f i ≤ c) → sumN f n ≤ n * c
  | 0, _ => by simp [sumN]
  | n + 1, h => by
    have := sum_le n (fun i hi => h i (by omega))
    have h2 := h n (by omega)
    rw [sumN]
    have e : ((n + 1 : Nat) : Int) * c = n * c + c := by rw [Int.natCast_add, Int.add_mul]; omega
    omega
/-- What a pass makes grow. -/
def phi (f : Nat → Slt) : Int := sumN (fun i => (f i).tr.num * keyP (f i)) 64
theorem phi_le {f : Nat → Slt} (h : ∀ i, i < 64 → SltOk (f i)) : phi f ≤ 64 * (1000000000 * 100000000000000000000000000) := by
  refine sum_le 64 fun i hi => ?_
  have h1 := (h i hi).tr.num
  have h2 := key_rng (h i hi)
  exact Int.mul_le_mul h1.2 h2.2 h2.1 (by omega)
theorem ex_num (T : Tbl) (i j k : Nat) : ((exP T i j).sl k).tr.num = (T.sl k).tr.num := by
  unfold exP upd
  dsimp only
  split
  · next h => rw [h]; rfl
  · split
    · next h => rw [h]; rfl
    · rfl
theorem ex_ok {T : Tbl} {i j : Nat} (h : ∀ k, k < 64 → SltOk (T.sl k)) (hi : i < 64) (hj : j < 64) : ∀ k, k < 64 → SltOk ((exP T i j).sl k) := by
  intro k hk
  unfold exP upd
  dsimp only
  split
  · exact numd_ok (h i hi) (h j hj).tr.num
  · split
    · exact numd_ok (h j hj) (h i hi).tr.num
    · exact h k hk
theorem ex_phi {T : Tbl} {i j : Nat} (hi : i < 64) (hj : j < 64) (hn : (T.sl i).tr.num < (T.sl j).tr.num) (hk : keyP (T.sl j) < keyP (T.sl i)) : phi T.sl < phi (exP T i j).sl := by
  have hij : i ≠ j := fun e => by rw [e] at hn; omega
  have e : phi (exP T i j).sl = sumN (upd (upd (fun k => (T.sl k).tr.num * keyP (T.sl k)) i ((T.sl i).tr.num * keyP (T.sl j))) j ((T.sl j).tr.num * keyP (T.sl i))) 64 := by
    refine sum_congr 64 fun k _ => ?_
    unfold exP upd
    dsimp only
    by_cases h1 : k = j
    · simp [h1, numd, keyP]
    · by_cases h2 : k = i
      · simp [h2, hij, numd, keyP]
      · simp [h1, h2]
  rw [e, sum_upd _ _ _ _ hj, sum_upd _ _ _ _ hi, upd_ne _ _ (fun e => hij e.symm)]
  unfold phi
  generalize sumN _ 64 = S
  generalize keyP (T.sl i) = a at *
  generalize keyP (T.sl j) = c at *
  generalize (T.sl i).tr.num = x at *
  generalize (T.sl j).tr.num = y at *
  have h1 : 0 < (y - x) * (a - c) := Int.mul_pos (by omega) (by omega)
  have h2 : (y - x) * (a - c) = (x * c - x * a) + (y * a - y * c) := by rw [Int.sub_mul, Int.mul_sub, Int.mul_sub]; omega
  omega
/-- How a pass stands that began at T0. -/
structure PassOk (T0 : Tbl) (s : Tbl × Bool) : Prop where
  ok : ∀ k, k < 64 → SltOk (s.1.sl k)
  num : ∀ k, (s.1.sl k).tr.num = (T0.sl k).tr.num
  le : phi T0.sl ≤ phi s.1.sl
  lt : s.2 = true → phi T0.sl < phi s.1.sl
/-- Used slots bear different numbers. -/
def DiffN (old : Nat → Slt) (T : Tbl) : Prop := ∀ i j, i < 64 → j < 64 → i ≠ j → (old i).used = true → (old j).used = true → (T.sl i).tr.num ≠ (T.sl j).tr.num
section
variable {old : Nat → Slt} {T0 : Tbl}
theorem lohi (T : Tbl) (i j : Nat) : (loP T i j = j ∧ hiP T i j = i ∧ (T.sl j).tr.num < (T.sl i).tr.num) ∨ (loP T i j = i ∧ hiP T i j = j ∧ ¬ (T.sl j).tr.num < (T.sl i).tr.num) := by
  unfold loP hiP
  by_cases h : (T.sl j).tr.num < (T.sl i).tr.num
  · exact .inl ⟨if_pos h, if_pos h, h⟩
  · exact .inr ⟨if_neg h, if_neg h, h⟩
theorem pair_ok {s : Tbl × Bool} (h : PassOk T0 s) (hd : DiffN old T0) {i j : Nat} (hi : i < 64) (hj : j < 64) (hij : i ≠ j) : PassOk T0 (pairP old i j s) := by
  unfold pairP
  split
  · next hc =>
    obtain ⟨ht, ha⟩ := hc
    unfold twinP at ht
    rw [Bool.and_eq_true, Bool.and_eq_true] at ht
    have hne := hd i j hi hj hij ht.1.1 ht.1.2
    rw [← h.num, ← h.num] at hne
    have key : ∀ lo hh, lo < 64 → hh < 64 → (s.1.sl lo).tr.num < (s.1.sl hh).tr.num → aheadP (s.1.sl hh) (s.1.sl lo) = true → PassOk T0 (exP s.1 lo hh, true) := fun lo hh hlo hhh hn ha => by
      have hg := ex_phi (T := s.1) hlo hhh hn ((ahead_iff (h.ok hh hhh) (h.ok lo hlo)).1 ha)
      have := h.le
      exact ⟨ex_ok h.ok hlo hhh, fun k => (ex_num _ _ _ _).trans (h.num k), by dsimp only; omega, fun _ => by dsimp only; omega⟩
    rcases lohi s.1 i j with ⟨e1, e2, e3⟩ | ⟨e1, e2, e3⟩
    · rw [e1, e2] at ha ⊢
      exact key j i hj hi e3 ha
    · rw [e1, e2] at ha ⊢
      exact key i j hi hj (by omega) ha
  · exact h
theorem row_ok {s : Tbl × Bool} (hd : DiffN old T0) {i : Nat} (hi : i < 64) (h : PassOk T0 s) : ∀ n, n ≤ 63 - i → PassOk T0 (rowP old i n s)
  | 0, _ => h
  | n + 1, hn => by
    rw [rowP]
    exact pair_ok (row_ok hd hi h n (by omega)) hd hi (by omega) (by omega)
theorem pass_ok {s : Tbl × Bool} (hd : DiffN old T0) (h : PassOk T0 s) : ∀ n, n ≤ 64 → PassOk T0 (passP old n s)
  | 0, _ => h
  | n + 1, hn => by
    rw [passP]
    exact row_ok hd (by omega) (pass_ok hd h n (by omega)) _ (Nat.le_refl _)
theorem PassOk.start {T : Tbl} (h : ∀ k, k < 64 → SltOk (T.sl k)) : PassOk T (T, false) := ⟨h, fun _ => rfl, Int.le_refl _, fun e => by cases e⟩
end
end Go.Proofs.Qxb6500777a
