import Derived.Test.Qxb6500777aOpS
namespace Go.Proofs.Qxb6500777a

/-! ### The model's tick, plain -/
def pairM (E : Nat → Slt) (i j : Nat) (A : Nat → Slt) : Nat → Slt :=
  if keyP (E i) = keyP (E j) ∧ keyP (A j) < keyP (A i) then upd (upd A i (numd (A j) (A i).tr.num)) j (numd (A i) (A j).tr.num) else A
def rowM (E : Nat → Slt) (i : Nat) : Nat → (Nat → Slt) → Nat → Slt
  | 0, A => A
  | m + 1, A => pairM E i (i + 1 + m) (rowM E i m A)
def passM (E : Nat → Slt) (n : Nat) : Nat → (Nat → Slt) → Nat → Slt
  | 0, A => A
  | k + 1, A => rowM E k (n - 1 - k) (passM E n k A)
structure PM (obs : Slt → Slt) (E : Nat → Slt) (n : Nat) (A : Nat → Slt) : Prop where
  of : ∀ i, i < n → ∃ j, j < n ∧ keyP (E i) = keyP (E j) ∧ A i = numd (obs (E j)) (E i).tr.num
  tg : ∀ j, j < n → ∃ i, i < n ∧ keyP (E i) = keyP (E j) ∧ A i = numd (obs (E j)) (E i).tr.num
section
variable {obs : Slt → Slt} {E : Nat → Slt} {n : Nat} {A : Nat → Slt}
theorem PM.first (ho : ∀ i, i < n → (obs (E i)).tr.num = (E i).tr.num) : PM obs E n (fun i => obs (E i)) :=
  ⟨fun i hi => ⟨i, hi, rfl, by rw [← ho i hi]; rfl⟩, fun i hi => ⟨i, hi, rfl, by rw [← ho i hi]; rfl⟩⟩
theorem PM.pair (h : PM obs E n A) {i j : Nat} (hi : i < n) (hj : j < n) (hij : i ≠ j) : PM obs E n (pairM E i j A) := by
  unfold pairM
  split
  · next hc =>
    obtain ⟨i', hi', ei, ai⟩ := h.of i hi
    obtain ⟨j', hj', ej, aj⟩ := h.of j hj
    have e1 : numd (A j) (A i).tr.num = numd (obs (E j')) (E i).tr.num := by rw [ai, aj]; rfl
    have e2 : numd (A i) (A j).tr.num = numd (obs (E i')) (E j).tr.num := by rw [ai, aj]; rfl
    rw [e1, e2]
    constructor
    · intro k hk
      by_cases k1 : k = j
      · subst k1; rw [upd_same]; exact ⟨i', hi', by rw [← hc.1, ei], rfl⟩
      · rw [upd_ne _ _ k1]
        by_cases k2 : k = i
        · subst k2; rw [upd_same]; exact ⟨j', hj', by rw [hc.1, ej], rfl⟩
        · rw [upd_ne _ _ k2]; exact h.of k hk
    · intro k hk
      obtain ⟨x, hx, ex, ax⟩ := h.tg k hk
      by_cases k1 : x = j
      · subst k1
        refine ⟨i, hi, by rw [hc.1, ex], ?_⟩
        rw [upd_ne _ _ hij, upd_same]
        have : numd (obs (E j')) (E x).tr.num = numd (obs (E k)) (E x).tr.num := by rw [← aj, ax]
        have q : ∀ a b : Slt, ∀ n m, numd a n = numd b n → numd a m = numd b m := fun a b n m e => by
          have := congrArg (fun s => numd s m) e
          exact this
        exact q _ _ _ _ this
      · by_cases k2 : x = i
        · subst k2
          refine ⟨j, hj, by rw [← hc.1, ex], ?_⟩
          rw [upd_same]
          have : numd (obs (E i')) (E x).tr.num = numd (obs (E k)) (E x).tr.num := by rw [← ai, ax]
          have q : ∀ a b : Slt, ∀ n m, numd a n = numd b n → numd a m = numd b m := fun a b n m e => by
            have := congrArg (fun s => numd s m) e
            exact this
          exact q _ _ _ _ this
        · exact ⟨x, hx, ex, by rw [upd_ne _ _ k1, upd_ne _ _ k2]; exact ax⟩
  · exact h
theorem PM.row (h : PM obs E n A) {i : Nat} (hi : i < n) : ∀ m, m ≤ n - 1 - i → PM obs E n (rowM E i m A)
  | 0, _ => h
  | m + 1, hm => by rw [rowM]; exact (PM.row h hi m (by omega)).pair hi (by omega) (by omega)
theorem PM.pass (h : PM obs E n A) : ∀ k, k ≤ n → PM obs E n (passM E n k A)
  | 0, _ => h
  | k + 1, hk => by rw [passM]; exact (PM.pass h k (by omega)).row (by omega) _ (Nat.le_refl _)
/-- Rows below k are settled, row k as far as m. -/
structure SI (E : Nat → Slt) (n k m : Nat) (A : Nat → Slt) : Prop where
  lo : ∀ i j, i < k → i < j → j < n → keyP (E i) = keyP (E j) → keyP (A i) ≤ keyP (A j)
  at' : ∀ j, k < j → j ≤ k + m → j < n → keyP (E k) = keyP (E j) → keyP (A k) ≤ keyP (A j)
theorem SI.pair {k m : Nat} (h : SI E n k m A) (hk : k + 1 + m < n) : SI E n k (m + 1) (pairM E k (k + 1 + m) A) := by
  unfold pairM
  split
  · next hc =>
    obtain ⟨j, hj⟩ : ∃ j, k + 1 + m = j := ⟨_, rfl⟩
    rw [hj] at hc ⊢
    have f1 : ∀ x, keyP (upd (upd A k (numd (A j) (A k).tr.num)) j (numd (A k) (A j).tr.num) x) = if x = j then keyP (A k) else if x = k then keyP (A j) else keyP (A x) := fun x => by
      by_cases e1 : x = j
      · subst e1; rw [upd_same, if_pos rfl, key_numd]
      · rw [upd_ne _ _ e1, if_neg e1]
        by_cases e2 : x = k
        · subst e2; rw [upd_same, if_pos rfl, key_numd]
        · rw [upd_ne _ _ e2, if_neg e2]
    constructor
    · intro x y hx hxy hy hE
      rw [f1, f1, if_neg (by omega), if_neg (by omega)]
      by_cases e1 : y = j
      · rw [if_pos e1]
        exact h.lo x k hx (by omega) (by omega) (by rw [hE, e1, ← hc.1])
      · rw [if_neg e1]
        by_cases e2 : y = k
        · rw [if_pos e2]
          exact h.lo x j hx (by omega) (by omega) (by rw [hE, e2, hc.1])
        · rw [if_neg e2]; exact h.lo x y hx hxy hy hE
    · intro y hy1 hy2 hy hE
      rw [f1, f1, if_neg (by omega), if_pos rfl]
      by_cases e1 : y = j
      · rw [if_pos e1]; exact Int.le_of_lt hc.2
      · rw [if_neg e1, if_neg (by omega)]
        have := h.at' y hy1 (by omega) hy hE
        have := hc.2
        omega
  · next hc =>
    refine ⟨h.lo, fun y hy1 hy2 hy hE => ?_⟩
    rcases (by omega : y ≤ k + m ∨ y = k + 1 + m) with z | rfl
    · exact h.at' y hy1 z hy hE
    · exact Int.not_lt.1 (fun z => hc ⟨hE, z⟩)
theorem SI.row {k : Nat} (h : SI E n k 0 A) : ∀ m, m ≤ n - 1 - k → SI E n k m (rowM E k m A)
  | 0, _ => h
  | m + 1, hm => by rw [rowM]; exact (SI.row h m (by omega)).pair (by omega)
theorem SI.pass : ∀ k, k ≤ n → SI E n k 0 (passM E n k A)
  | 0, _ => ⟨fun i j hi => by omega, fun j h1 h2 => by omega⟩
  | k + 1, hk => by
    have h := (SI.pass k (by omega)).row (n - 1 - k) (Nat.le_refl _)
    rw [passM]
    refine ⟨fun i j hi hij hj hE => ?_, fun j h1 h2 => by omega⟩
    rcases (by omega : i = k ∨ i < k) with rfl | z
    · exact h.at' j hij (by omega) hj hE
    · exact h.lo i j z hij hj hE
end
/-- The n-th entry. -/
def atM (E : List Slt) (i : Nat) : Slt := E[i]?.getD slt0
theorem atM_get {E : List Slt} {i : Nat} {s : Slt} (h : E[i]? = some s) : atM E i = s := by unfold atM; rw [h]; rfl
theorem atM_mem {E : List Slt} {s : Slt} : s ∈ E ↔ ∃ i, i < E.length ∧ atM E i = s := by
  rw [List.mem_iff_getElem?]
  constructor
  · rintro ⟨i, h⟩
    exact ⟨i, (List.getElem?_eq_some_iff.1 h).1, atM_get h⟩
  · rintro ⟨i, hi, rfl⟩
    exact ⟨i, by rw [atM, List.getElem?_eq_getElem hi]; rfl⟩
def setM (obs : Slt → Slt) (E : List Slt) : List Slt := (List.range E.length).map (passM (atM E) E.length E.length (fun i => obs (atM E i)))
theorem setM_mem {obs : Slt → Slt} {E : List Slt} {s : Slt} : s ∈ setM obs E ↔ ∃ i, i < E.length ∧ passM (atM E) E.length E.length (fun i => obs (atM E i)) i = s := by
  unfold setM
  rw [List.mem_map]
  simp only [List.mem_range]
def NumS (E : List Slt) : Prop := E.Pairwise (fun a b => a.tr.num < b.tr.num)
theorem NumS.lt {E : List Slt} (h : NumS E) {i j : Nat} (hij : i < j) (hj : j < E.length) : (atM E i).tr.num < (atM E j).tr.num := by
  have := List.pairwise_iff_getElem.1 h i j (by omega) hj hij
  unfold atM
  rw [List.getElem?_eq_getElem (by omega), List.getElem?_eq_getElem hj]
  exact this
theorem setM_num {obs : Slt → Slt} {E : List Slt} (ho : ∀ s, (obs s).tr.num = s.tr.num) {i : Nat} (hi : i < E.length) : (passM (atM E) E.length E.length (fun i => obs (atM E i)) i).tr.num = (atM E i).tr.num := by
  obtain ⟨j, _, _, e⟩ := ((PM.first (obs := obs) (E := atM E) (n := E.length) (fun i _ => ho _)).pass E.length (Nat.le_refl _)).of i hi
  rw [e]; rfl
theorem setM_numS {obs : Slt → Slt} {E : List Slt} (ho : ∀ s, (obs s).tr.num = s.tr.num) (h : NumS E) : NumS (setM obs E) := by
  unfold NumS setM
  rw [List.pairwise_map]
  refine (List.pairwise_lt_range (n := E.length)).imp_of_mem fun {a b} ha hb hab => ?_
  rw [List.mem_range] at ha hb
  rw [setM_num ho ha, setM_num ho hb]
  exact h.lt hab hb
/-- The model's turn of the entries. -/
theorem setM_set {obs : Slt → Slt} {E : List Slt} (ho : ∀ s, (obs s).tr.num = s.tr.num) (h : NumS E) : SetL obs E (setM obs E) := by
  have hp := (PM.first (obs := obs) (E := atM E) (n := E.length) (fun i _ => ho _)).pass E.length (Nat.le_refl _)
  have hs := SI.pass (E := atM E) (n := E.length) (A := fun i => obs (atM E i)) E.length (Nat.le_refl _)
  refine ⟨fun s hs => ?_, fun b hb => ?_, fun a ha => ?_, fun s h1 s' h2 a ha a' ha' e1 e2 hk hl => ?_⟩
  · obtain ⟨i, hi, rfl⟩ := setM_mem.1 hs
    obtain ⟨j, hj, e1, e2⟩ := hp.of i hi
    exact ⟨_, atM_mem.2 ⟨i, hi, rfl⟩, _, atM_mem.2 ⟨j, hj, rfl⟩, e1, e2⟩
  · obtain ⟨j, hj, rfl⟩ := atM_mem.1 hb
    obtain ⟨i, hi, e1, e2⟩ := hp.tg j hj
    exact ⟨_, setM_mem.2 ⟨i, hi, rfl⟩, _, atM_mem.2 ⟨i, hi, rfl⟩, e1, e2⟩
  · obtain ⟨i, hi, rfl⟩ := atM_mem.1 ha
    exact ⟨_, setM_mem.2 ⟨i, hi, rfl⟩, setM_num ho hi⟩
  · obtain ⟨i, hi, rfl⟩ := setM_mem.1 h1
    obtain ⟨j, hj, rfl⟩ := setM_mem.1 h2
    rw [setM_num ho hi] at e1 hl
    rw [setM_num ho hj] at e2 hl
    obtain ⟨x, hx, rfl⟩ := atM_mem.1 ha
    obtain ⟨y, hy, rfl⟩ := atM_mem.1 ha'
    have inj : ∀ {p q : Nat}, p < E.length → q < E.length → (atM E p).tr.num = (atM E q).tr.num → p = q := fun {p q} hp hq e => by
      rcases Nat.lt_trichotomy p q with z | z | z
      · have := h.lt z hq; omega
      · exact z
      · have := h.lt z hp; omega
    have ex := inj hi hx e1
    have ey := inj hj hy e2
    subst ex ey
    have hij : i < j := by
      rcases Nat.lt_trichotomy i j with z | z | z
      · exact z
      · subst z; omega
      · have := h.lt z hi; omega
    exact hs.lo i j hi hij hj hk
/-! ### The new entries of the model -/
def frM (best : Nat → Int) (W : Nat → Tgt) (V : List Slt) : Nat → List Slt
  | 0 => []
  | n + 1 => if 0 < best n ∧ ∀ s ∈ V, s.tg ≠ (n : Int) then frM best W V n ++ [nwS (newC best W n) 0] else frM best W V n
def numL : List Slt → Int → List Slt
  | [], _ => []
  | s :: g, n => numd s n :: numL g (n + 1)
inductive MRoom (g : Nat) : List Slt → List Slt → Prop where
  | stop (V : List Slt) : ¬ 64 < V.length + g → MRoom g V V
  | step (V V' : List Slt) (a : Slt) : 64 < V.length + g → a ∈ V → (∀ b ∈ V, worseP b.tr a.tr = false) → MRoom g (V.filter (fun s => decide (keyP s ≠ keyP a))) V' → MRoom g V V'
inductive MAdm : List Slt → List Slt → Int → List Slt → Int → Prop where
  | done (V : List Slt) (nx : Int) : MAdm [] V nx V nx
  | big (F V V' : List Slt) (nx nx' : Int) (a : Slt) : a ∈ F → (∀ b ∈ F, keyP a ≤ keyP b) → 64 < (F.filter (fun s => decide (keyP s = keyP a))).length → MAdm (F.filter (fun s => decide (keyP s ≠ keyP a))) V nx V' nx' → MAdm F V nx V' nx'
  | grp (F V V1 V' : List Slt) (nx nx' : Int) (a : Slt) : a ∈ F → (∀ b ∈ F, keyP a ≤ keyP b) → (F.filter (fun s => decide (keyP s = keyP a))).length ≤ 64 → MRoom (F.filter (fun s => decide (keyP s = keyP a))).length V V1 →
      MAdm (F.filter (fun s => decide (keyP s ≠ keyP a))) (V1 ++ numL (F.filter (fun s => decide (keyP s = keyP a))) nx) (nx + (F.filter (fun s => decide (keyP s = keyP a))).length) V' nx' → MAdm F V nx V' nx'
def dropM (S : List Slt) : List Slt := S.filter (fun s => decide (s.tr.ag < 30))
def MTick (best : Nat → Int) (W : Nat → Tgt) (X Y : Nat → Int) (E : List Slt) (nx : Int) (E' : List Slt) (nx' : Int) : Prop :=
  MAdm (frM best W (dropM (setM (obsS best W X Y) E)) 112) (dropM (setM (obsS best W X Y) E)) nx E' nx'
end Go.Proofs.Qxb6500777a
