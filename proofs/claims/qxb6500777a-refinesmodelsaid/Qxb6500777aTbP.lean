import Derived.Test.Qxb6500777aAdP
namespace Go.Proofs.Qxb6500777a
open Go.RowKit

/-! ### A team's table as a list, plain -/
def posT (t : Trk) (L : List Trk) : Nat → Nat
  | 0 => 0
  | n + 1 => match L[n]? with
    | some d => if t.num < d.num then posT t L n else n + 1
    | none => n + 1
def insT (t : Trk) (L : List Trk) : List Trk := L.take (posT t L L.length) ++ t :: L.drop (posT t L L.length)
def tabN (T : Tbl) : Nat → List Trk
  | 0 => []
  | n + 1 => if (T.sl n).used then insT (T.sl n).tr (tabN T n) else tabN T n
theorem posT_go {t d : Trk} {L : List Trk} {k : Nat} (hd : L[k]? = some d) (hb : t.num < d.num) : posT t L (k + 1) = posT t L k := by rw [posT, hd]; simp [hb]
theorem posT_stop {t d : Trk} {L : List Trk} {k : Nat} (hd : L[k]? = some d) (hb : ¬ t.num < d.num) : posT t L (k + 1) = k + 1 := by rw [posT, hd]; simp [hb]
theorem insT_perm (c : Trk) (F : List Trk) : (insT c F).Perm (c :: F) := by
  unfold insT
  refine List.perm_middle.trans ?_
  rw [List.take_append_drop]
theorem tab_mem {T : Tbl} : ∀ n t, t ∈ tabN T n ↔ ∃ k, k < n ∧ (T.sl k).used = true ∧ (T.sl k).tr = t
  | 0, t => by simp [tabN]
  | n + 1, t => by
    rw [tabN]
    split
    · next hu =>
      rw [(insT_perm _ _).mem_iff, List.mem_cons, tab_mem n t]
      constructor
      · rintro (rfl | ⟨k, h1, h2⟩)
        · exact ⟨n, by omega, hu, rfl⟩
        · exact ⟨k, by omega, h2⟩
      · rintro ⟨k, h1, h2, h3⟩
        rcases (by omega : k < n ∨ k = n) with z | rfl
        · exact .inr ⟨k, z, h2, h3⟩
        · exact .inl h3.symm
    · next hu =>
      rw [tab_mem n t]
      constructor
      · rintro ⟨k, h1, h2⟩
        exact ⟨k, by omega, h2⟩
      · rintro ⟨k, h1, h2, h3⟩
        rcases (by omega : k < n ∨ k = n) with z | rfl
        · exact ⟨k, z, h2, h3⟩
        · exact absurd h2 hu
theorem tab_len {T : Tbl} : ∀ n, ((tabN T n).length : Int) = cntU T.sl n
  | 0 => by simp [tabN, cntU, sumN]
  | n + 1 => by
    have ih := tab_len (T := T) n
    have e : cntU T.sl (n + 1) = cntU T.sl n + (if (T.sl n).used then 1 else 0) := rfl
    rw [tabN, e]
    split
    · rw [(insT_perm _ _).length_eq, List.length_cons]; omega
    · omega
theorem tab_le {T : Tbl} (n : Nat) : (tabN T n).length ≤ n := by
  have := tab_len (T := T) n
  have := cnt_rng T.sl n
  omega
/-- Where it comes in: all before it are no later, the one behind is later. -/
theorem posT_spec (t : Trk) (L : List Trk) (hL : L.Pairwise (fun a b => a.num < b.num)) : ∀ n, n ≤ L.length → posT t L n ≤ n ∧ (∀ (j : Nat) (d : Trk), j < posT t L n → L[j]? = some d → ¬ t.num < d.num) ∧ (∀ (j : Nat) (d : Trk), posT t L n ≤ j → j < n → L[j]? = some d → t.num < d.num)
  | 0, _ => ⟨by rw [posT]; omega, fun j d h => by rw [posT] at h; omega, fun j d _ h => by omega⟩
  | n + 1, hn => by
    obtain ⟨h1, h2, h3⟩ := posT_spec t L hL n (by omega)
    have hg : L[n]? = some L[n] := List.getElem?_eq_getElem (by omega)
    by_cases hb : t.num < L[n].num
    · rw [posT_go hg hb]
      refine ⟨by omega, h2, fun j d ha hb' hd => ?_⟩
      rcases (by omega : j < n ∨ j = n) with z | rfl
      · exact h3 j d ha z hd
      · rw [hg] at hd; cases hd; exact hb
    · rw [posT_stop hg hb]
      refine ⟨Nat.le_refl _, fun j d ha hd => ?_, fun j d ha hb' => by omega⟩
      rcases (by omega : j < n ∨ j = n) with z | rfl
      · have := List.pairwise_iff_getElem.1 hL j n (by omega) (by omega) z
        rw [List.getElem?_eq_getElem (by omega)] at hd
        cases hd
        omega
      · rw [hg] at hd; cases hd; exact hb
theorem insT_sorted {t : Trk} {L : List Trk} (hL : L.Pairwise (fun a b => a.num < b.num)) (hd : ∀ d ∈ L, d.num ≠ t.num) : (insT t L).Pairwise (fun a b => a.num < b.num) := by
  obtain ⟨h1, h2, h3⟩ := posT_spec t L hL L.length (Nat.le_refl _)
  unfold insT
  obtain ⟨k, hk⟩ : ∃ k, posT t L L.length = k := ⟨_, rfl⟩
  rw [hk] at h1 h2 h3 ⊢
  have a1 : ∀ d ∈ L.take k, d.num < t.num := fun d hm => by
    obtain ⟨j, hj⟩ := List.mem_iff_getElem?.1 hm
    have hjk : j < k := by have := (List.getElem?_eq_some_iff.1 hj).1; rw [List.length_take] at this; omega
    rw [List.getElem?_take_of_lt hjk] at hj
    have := h2 j d hjk hj
    have := hd d (List.mem_of_getElem? hj)
    omega
  have a2 : ∀ d ∈ L.drop k, t.num < d.num := fun d hm => by
    obtain ⟨j, hj⟩ := List.mem_iff_getElem?.1 hm
    rw [List.getElem?_drop] at hj
    exact h3 (k + j) d (by omega) (List.getElem?_eq_some_iff.1 hj).1 hj
  rw [List.pairwise_append, List.pairwise_cons]
  refine ⟨hL.sublist (List.take_sublist k L), ⟨a2, hL.sublist (List.drop_sublist k L)⟩, fun x hx y hy => ?_⟩
  have hx' := a1 x hx
  rcases List.mem_cons.1 hy with rfl | hy
  · exact hx'
  · have := a2 y hy; omega
theorem tab_sorted {T : Tbl} (h : TInv T) : ∀ n, n ≤ 64 → (tabN T n).Pairwise (fun a b => a.num < b.num)
  | 0, _ => List.Pairwise.nil
  | n + 1, hn => by
    rw [tabN]
    split
    · next hu =>
      refine insT_sorted (tab_sorted h n (by omega)) fun d hd => ?_
      obtain ⟨k, h1, h2, rfl⟩ := (tab_mem n d).1 hd
      exact h.dif k n (by omega) (by omega) (by omega) h2 hu
    · exact tab_sorted h n (by omega)
/-- Two sorted lists with the same members are the same. -/
theorem sorted_eq : ∀ {A B : List Trk}, A.Pairwise (fun a b => a.num < b.num) → B.Pairwise (fun a b => a.num < b.num) → (∀ t, t ∈ A ↔ t ∈ B) → A = B
  | [], [], _, _, _ => rfl
  | [], b :: B, _, _, h => by have := (h b).2 (List.mem_cons_self ..); cases this
  | a :: A, [], _, _, h => by have := (h a).1 (List.mem_cons_self ..); cases this
  | a :: A, b :: B, hA, hB, h => by
    rw [List.pairwise_cons] at hA hB
    have e : a = b := by
      rcases List.mem_cons.1 ((h a).1 (List.mem_cons_self ..)) with z | z
      · exact z
      · rcases List.mem_cons.1 ((h b).2 (List.mem_cons_self ..)) with y | y
        · exact y.symm
        · have := hA.1 b y; have := hB.1 a z; omega
    subst e
    congr 1
    refine sorted_eq hA.2 hB.2 fun t => ⟨fun ht => ?_, fun ht => ?_⟩
    · rcases List.mem_cons.1 ((h t).1 (List.mem_cons_of_mem _ ht)) with z | z
      · subst z; have := hA.1 t ht; omega
      · exact z
    · rcases List.mem_cons.1 ((h t).2 (List.mem_cons_of_mem _ ht)) with z | z
      · subst z; have := hB.1 t ht; omega
      · exact z
/-! ### A row of tracks -/
def setL : List Value → Nat → List Value → List Value
  | xs, _, [] => xs
  | xs, o, v :: r => setL (xs.set o v) (o + 1) r
theorem setL_at : ∀ (vs xs : List Value) (o j : Nat), o + vs.length ≤ xs.length → (setL xs o vs)[j]? = if o ≤ j ∧ j < o + vs.length then vs[j - o]? else xs[j]?
  | [], xs, o, j, _ => by rw [if_neg (by simp)]; rfl
  | v :: r, xs, o, j, h => by
    rw [List.length_cons] at h
    rw [setL, setL_at r (xs.set o v) (o + 1) j (by rw [List.length_set]; omega), List.length_cons]
    by_cases e : j = o
    · subst e
      rw [if_neg (by omega), if_pos (by omega), List.getElem?_set_self (by omega), Nat.sub_self]
      rfl
    · by_cases hc : o + 1 ≤ j ∧ j < o + 1 + r.length
      · rw [if_pos hc, if_pos (by omega), show j - o = (j - (o + 1)) + 1 by omega, List.getElem?_cons_succ]
      · rw [if_neg hc, if_neg (by omega), List.getElem?_set_ne (fun x => e x.symm)]
theorem setL_len : ∀ (vs xs : List Value) (o : Nat), (setL xs o vs).length = xs.length
  | [], _, _ => rfl
  | v :: r, xs, o => by rw [setL, setL_len r, List.length_set]
theorem own_sets {B e s n c g : Nat} : ∀ (vs : List Value) (o : Nat) (w : World) (xs : List Value), w.ownsRow B e s (.slice (some ⟨g, 0, none⟩) n c) n xs → (w.setCells g o vs).ownsRow B e s (.slice (some ⟨g, 0, none⟩) n c) n (setL xs o vs) ∧ w.grownBy (w.setCells g o vs) (some g)
  | [], _, _, _, h => ⟨h, ⟨rfl, rfl, rfl, Nat.le_refl _, fun _ _ _ => rfl⟩⟩
  | v :: r, o, w, xs, h => by
    obtain ⟨h1, h2⟩ := h.stored o v
    obtain ⟨h3, h4⟩ := own_sets r (o + 1) _ _ h1
    rw [World.setCells, setL]
    exact ⟨h3, ⟨h4.os.trans h2.os, h4.tape.trans h2.tape, h4.output.trans h2.output, Nat.le_trans h2.size h4.size, fun k hk hn => (h4.block k (Nat.lt_of_lt_of_le hk h2.size) hn).trans (h2.block k hk hn)⟩⟩
theorem flat_setL (L : List Trk) (i : Nat) (y : Trk) (hi : i < L.length) : setL (L.flatMap Trk.vals) (i * 7) y.vals = (L.set i y).flatMap Trk.vals := by
  have l1 := flat_len Trk.vals 7 Trk.len L
  have l2 := flat_len Trk.vals 7 Trk.len (L.set i y)
  rw [List.length_set] at l2
  refine List.ext_getElem? fun j => ?_
  rw [setL_at _ _ _ _ (by rw [l1, Trk.len]; omega), Trk.len]
  by_cases hj : j < L.length * 7
  · have hq : j / 7 < L.length := by omega
    have ej : j = j / 7 * 7 + j % 7 := by omega
    by_cases e : j / 7 = i
    · rw [if_pos (by omega)]
      have := flat_at Trk.vals 7 Trk.len (L.set i y) i y (List.getElem?_set_self hi) (j % 7) (by omega)
      rw [show i * 7 + j % 7 = j by omega] at this
      rw [this, show j - i * 7 = j % 7 by omega]
    · rw [if_neg (by omega)]
      have a := flat_at Trk.vals 7 Trk.len L (j / 7) _ (List.getElem?_eq_getElem hq) (j % 7) (by omega)
      have b := flat_at Trk.vals 7 Trk.len (L.set i y) (j / 7) L[j / 7] (by rw [List.getElem?_set_ne (fun x => e x.symm)]; exact List.getElem?_eq_getElem hq) (j % 7) (by omega)
      rw [← ej] at a b
      rw [a, b]
  · rw [if_neg (by omega), List.getElem?_eq_none (by omega), List.getElem?_eq_none (by omega)]
theorem swap_mid {α : Type} (L : List α) (k : Nat) (d t : α) (hd : L[k]? = some d) : ((L.take (k + 1) ++ t :: L.drop (k + 1)).set (k + 1) d).set k t = L.take k ++ t :: L.drop k := by
  have hk : k < L.length := (List.getElem?_eq_some_iff.1 hd).1
  have e1 : L.take (k + 1) = L.take k ++ [d] := by rw [List.take_add_one, hd]; rfl
  have e2 : L.drop k = d :: L.drop (k + 1) := by rw [List.drop_eq_getElem_cons hk]; rw [List.getElem?_eq_getElem hk] at hd; cases hd; rfl
  have l1 : (L.take k).length = k := by rw [List.length_take]; omega
  rw [e1, e2, List.append_assoc, List.set_append_right _ _ (by omega), l1, show k + 1 - k = 1 by omega, List.set_append_right _ _ (by omega), l1, Nat.sub_self]
  rfl
def TRow (w : World) (B : Nat) (v : Value) (L : List Trk) : Prop := w.ownsRow B 51 7 v L.length (L.flatMap Trk.vals)
theorem TRow.below {w w' : World} {b : Nat} {v : Value} {L : List Trk} (h : TRow w b v L) (hb : Below w.heap.size w w') : TRow w' b v L := own_kept h (Ex.of (S := fun _ => False) hb) (fun _ _ e => e)
theorem TRow.drewN {w : World} {b : Nat} {v : Value} {L : List Trk} (h : TRow w b v L) (k : Nat) : TRow (w.drewN k) b v L := h.below (belN w k)
theorem bel_grownT {w W w3 : World} {v : Value} {L : List Trk} (h : Below w.heap.size w W) (hr : TRow W w.heap.size v L) (hg : W.grownBy w3 v.ownBlock) : Below w.heap.size w w3 := by
  refine h.trans ⟨hg.os, hg.tape, hg.output, hg.size, fun k hk => ?_⟩
  refine hg.block k (by have := h.size; omega) fun e => ?_
  have := (hr.lt k e.symm).1
  omega
theorem tvals_one (s : Trk) : ∀ u ∈ s.vals, u.oneCell' = true := by
  intro u hu
  simp [Trk.vals] at hu
  rcases hu with rfl | rfl | rfl | rfl | rfl | rfl | rfl <;> rfl
/-- The cells of a row's element. -/
theorem TRow.at {w : World} {B g c : Nat} {L : List Trk} (h : TRow w B (.slice (some ⟨g, 0, none⟩) L.length c) L) {i : Nat} {t : Trk} (hi : L[i]? = some t) : RA w g (i * 7) t.vals := by
  refine ⟨fun j v hv => ?_, fun j => h.frozenAt j⟩
  have hj : j < 7 := (List.getElem?_eq_some_iff.1 hv).1
  have := h.cells (g := g) rfl (i * 7 + j) v (by rw [flat_at Trk.vals 7 Trk.len L i t hi j hj]; exact hv)
  rw [Addr.add_mid, Nat.zero_add] at this
  exact this
theorem RA.tt {w : World} {b o : Nat} {t : Trk} (h : RA w b o t.vals) : w.cell? ⟨b, o, none⟩ = some (.int .i64 t.num) ∧ w.cell? ⟨b, o + 1, none⟩ = some (.int .i64 t.x) ∧ w.cell? ⟨b, o + 2, none⟩ = some (.int .i64 t.y) ∧ w.cell? ⟨b, o + 3, none⟩ = some (.int .i64 t.co) ∧ w.cell? ⟨b, o + 4, none⟩ = some (.int .i64 t.sp) ∧ w.cell? ⟨b, o + 5, none⟩ = some (.int .i64 t.st) ∧ w.cell? ⟨b, o + 6, none⟩ = some (.int .i64 t.ag) :=
  ⟨h.c 0 _ rfl, h.c 1 _ rfl, h.c 2 _ rfl, h.c 3 _ rfl, h.c 4 _ rfl, h.c 5 _ rfl, h.c 6 _ rfl⟩
theorem TRow.fill {w : World} {B g c : Nat} {L : List Trk} {n : Nat} (hn : n = L.length) (h : TRow w B (.slice (some ⟨g, 0, none⟩) n c) L) {i : Nat} (hi : i < n) (t : Trk) : TRow (w.setCells g (i * 7) t.vals) B (.slice (some ⟨g, 0, none⟩) n c) (L.set i t) ∧ w.grownBy (w.setCells g (i * 7) t.vals) (some g) := by
  subst hn
  obtain ⟨h1, h2⟩ := own_sets t.vals (i * 7) w _ h
  rw [flat_setL L i t hi] at h1
  refine ⟨?_, h2⟩
  unfold TRow
  rw [List.length_set]
  exact h1
end Go.Proofs.Qxb6500777a
