import Derived.Test.Qxb6500778aQ1
namespace Go.Proofs.Qxb6500778a
open Go.RowKit

/-- The real parser, without a fault so far, stands at word i of the model's list. -/
structure At (s : List Int) (L : List Wd) (x : PSt) (i : Nat) : Prop where
  e : x.e = 0
  tw : TW x.t (wdAt L i)
  here : ∃ y, L[i]? = some y
  rest : (wdAt L i).t ≠ [] → L.drop (i + 1) = wds s (s.length + 1) x.o ++ [⟨[], s.length⟩] ∧ x.o ≤ s.length
/-- .. with a fault -/
def Bad (x : PSt) (e a : Int) : Prop := x.e = e ∧ x.at_ = a
theorem at_next {s : List Int} (hb : Byt s) {L : List Wd} {x : PSt} {i o : Nat} (ho : o ≤ s.length) (he : x.e = 0) (hd : L.drop i = wds s (s.length + 1) o ++ [⟨[], s.length⟩]) (ht : x.t = (nxT s o).1) (hx : x.o = (nxT s o).2) : At s L x i := by
  have hl : ∀ (y : Wd) R, L.drop i = y :: R → L[i]? = some y ∧ L.drop (i + 1) = R := fun y R h => by
    have h1 : (L.drop i)[0]? = some y := by rw [h]; rfl
    rw [List.getElem?_drop, Nat.add_zero] at h1
    have h2 : (L.drop i).drop 1 = R := by rw [h]; rfl
    rw [List.drop_drop] at h2
    exact ⟨h1, h2⟩
  rcases tok_word hb ho with ⟨h1, h2⟩ | ⟨y, h1, h2, h3⟩
  · rw [h1, List.nil_append] at hd
    obtain ⟨k1, _⟩ := hl _ _ hd
    have e := wdAt_eq k1
    exact ⟨he, by rw [e, ht]; exact h2, ⟨_, k1⟩, fun h => absurd (by rw [e]) h⟩
  · rw [h1, List.cons_append] at hd
    obtain ⟨k1, k2⟩ := hl _ _ hd
    have e := wdAt_eq k1
    exact ⟨he, by rw [e, ht]; exact h3, ⟨_, k1⟩, fun _ => ⟨by rw [k2, hx], by rw [hx]; exact nxT_o s o ho⟩⟩
theorem At.adv {s : List Int} (hb : Byt s) {L : List Wd} {x : PSt} {i : Nat} (h : At s L x i) (hne : (wdAt L i).t ≠ []) : At s L (advP s x) (i + 1) := by
  obtain ⟨h1, h2⟩ := h.rest hne
  exact at_next hb h2 h.e h1 rfl rfl
/-- kinds of words -/
theorem wr_k {l : List Int} (h : Wordy l) : wrE l = if kOf l = 7 then 1 else 2 := by
  rcases h with rfl | ⟨c, rfl, hc⟩ | ⟨hne, hall⟩
  · rfl
  · have e : kOf [c] = if c = 47 then 4 else if c = 123 then 5 else if c = 125 then 6 else 7 := by
      unfold kOf
      simp only []
      rw [if_neg (by rw [hc]; decide)]
    rw [e]
    unfold wrE
    simp only []
    rw [if_neg (by rw [hc]; decide)]
    by_cases h1 : c = 47
    · rw [if_pos h1, if_pos h1]; rfl
    · rw [if_neg h1, if_neg h1]
      by_cases h2 : c = 123
      · rw [if_pos h2, if_pos h2]; rfl
      · rw [if_neg h2, if_neg h2]
        by_cases h3 : c = 125
        · rw [if_pos h3, if_pos h3]; rfl
        · rw [if_neg h3, if_neg h3]; rfl
  · cases l with
    | nil => exact absurd rfl hne
    | cons c r =>
      rw [List.all_cons, Bool.and_eq_true] at hall
      have hk : kOf (c :: r) ≠ 7 := by
        unfold kOf
        simp only []
        rw [if_pos hall.1]
        split
        · decide
        · split <;> decide
      rw [if_neg hk]
      cases r with
      | nil => exact wr_one hall.1
      | cons d r => rfl
theorem k2_iff {l : List Int} (h : Wordy l) : kOf l = 2 ↔ dgB l = true := by
  rcases h with rfl | ⟨c, rfl, hc⟩ | ⟨hne, hall⟩
  · exact ⟨fun h => (by cases h), fun h => (by cases h)⟩
  · constructor
    · intro h
      unfold kOf at h
      simp only [] at h
      rw [if_neg (by rw [hc]; decide)] at h
      split at h
      · cases h
      · split at h
        · cases h
        · split at h <;> cases h
    · intro h
      unfold dgB dgF at h
      have hd : dgP c = false := by
        cases hd : dgP c with
        | false => rfl
        | true => unfold wbP at hc; rw [hd] at hc; cases hc
      rw [if_pos hd] at h
      cases h
  · cases l with
    | nil => exact absurd rfl hne
    | cons c r =>
      rw [List.all_cons, Bool.and_eq_true] at hall
      unfold kOf
      simp only []
      rw [if_pos hall.1]
      by_cases hd : dgB (c :: r) = true
      · rw [if_pos hd]; exact ⟨fun _ => hd, fun _ => rfl⟩
      · rw [if_neg hd]
        refine ⟨fun h => ?_, fun h => absurd h hd⟩
        split at h <;> cases h
theorem k3_iff {l : List Int} (h : Wordy l) : kOf l = 3 ↔ uOk true l = true := by
  rcases h with rfl | ⟨c, rfl, hc⟩ | ⟨hne, hall⟩
  · exact ⟨fun h => (by cases h), fun h => (by cases h)⟩
  · constructor
    · intro h
      unfold kOf at h
      simp only [] at h
      rw [if_neg (by rw [hc]; decide)] at h
      split at h
      · cases h
      · split at h
        · cases h
        · split at h <;> cases h
    · intro h
      unfold uOk uRest at h
      simp only [if_true, List.drop_one, List.tail_cons, Bool.and_eq_true] at h
      cases h.2
  · cases l with
    | nil => exact absurd rfl hne
    | cons c r =>
      rw [List.all_cons, Bool.and_eq_true] at hall
      have eu : uOk true (c :: r) = ((c == 114) && dgB r) := by
        unfold uOk uRest
        simp only [if_true, List.drop_one, List.tail_cons, List.head?_cons, Bool.not_true, Bool.false_or]
        congr 1
      rw [eu]
      unfold kOf
      simp only []
      rw [if_pos hall.1]
      by_cases hd : dgB (c :: r) = true
      · rw [if_pos hd]
        refine ⟨fun h => (by cases h), fun h => ?_⟩
        rw [Bool.and_eq_true] at h
        have hc : c = 114 := by simpa using h.1
        subst hc
        unfold dgB dgF at hd
        rw [if_pos (by decide)] at hd
        cases hd
      · rw [if_neg hd, Bool.and_comm]
        by_cases h2 : ((c == 114) && dgB r) = true
        · rw [if_pos h2]; exact ⟨fun _ => h2, fun _ => rfl⟩
        · rw [if_neg h2]
          exact ⟨fun h => (by cases h), fun h => absurd h h2⟩
section
variable {s : List Int} {L : List Wd} {x : PSt} {i : Nat}
theorem unex_bad (h : At s L x i) : Bad (unexP x) (wrE (wdAt L i).t) (wdAt L i).q := by
  unfold unexP failP
  rw [if_pos h.e, h.tw.k, wr_k h.tw.wy, h.tw.q]
  exact ⟨rfl, rfl⟩
/-- a number -/
theorem bnd2 (hb : Byt s) (h : At s L x i) (m : Int) : (uE false (wdAt L i).t m = 0 → At s L (bndP s 2 m x) (i + 1)) ∧ (uE false (wdAt L i).t m = 0 → bndV 2 m x = uV false (wdAt L i).t m) ∧ (uE false (wdAt L i).t m ≠ 0 → Bad (bndP s 2 m x) (uE false (wdAt L i).t m) (wdAt L i).q) := by
  have hk := k2_iff h.tw.wy
  have ek := h.tw.k
  have ev := h.tw.v
  have hub := unex_bad h
  have hq := h.tw.q
  have hadv := fun hne => h.adv hb hne
  have eo : uOk false (wdAt L i).t = dgB (wdAt L i).t := by unfold uOk uRest; simp
  have er : uRest false (wdAt L i).t = (wdAt L i).t := by unfold uRest; rw [if_neg (by decide)]
  unfold uE uV bndP bndV
  rw [eo, er, if_pos h.e]
  generalize (wdAt L i).t = l at *
  by_cases h2 : dgB l = true
  · have k2 := hk.2 h2
    have evl : x.t.v = dgV l := by rw [ev]; unfold vOf; rw [if_pos k2]
    rw [if_pos h2, if_pos h2, if_pos (ek.trans k2), evl]
    by_cases hm : m < dgV l
    · rw [if_pos hm, if_pos hm, if_neg (by omega : ¬ dgV l ≤ m)]
      refine ⟨fun h => (by cases h), fun h => (by cases h), fun _ => ?_⟩
      unfold failP
      rw [if_pos h.e, hq]
      exact ⟨rfl, rfl⟩
    · rw [if_neg hm, if_neg hm, if_pos (by omega : dgV l ≤ m)]
      exact ⟨fun _ => hadv (dg_ne h2), fun _ => by rw [if_pos ⟨h.e, ek.trans k2, by omega⟩], fun h => absurd rfl h⟩
  · rw [if_neg h2, if_neg h2, if_neg (fun e => h2 (hk.1 (ek.symm.trans e)))]
    exact ⟨fun h => absurd h (wrE_ne l), fun h => absurd h (wrE_ne l), fun _ => hub⟩
/-- a device -/
theorem bnd3 (hb : Byt s) (h : At s L x i) (m : Int) : (uE true (wdAt L i).t m = 0 → At s L (bndP s 3 m x) (i + 1)) ∧ (uE true (wdAt L i).t m = 0 → bndV 3 m x = uV true (wdAt L i).t m) ∧ (uE true (wdAt L i).t m ≠ 0 → Bad (bndP s 3 m x) (uE true (wdAt L i).t m) (wdAt L i).q) := by
  have hk := k3_iff h.tw.wy
  have ek := h.tw.k
  have ev := h.tw.v
  have hub := unex_bad h
  have hq := h.tw.q
  have hadv := fun hne => h.adv hb hne
  have er : uRest true (wdAt L i).t = (wdAt L i).t.drop 1 := by unfold uRest; rw [if_pos rfl]
  unfold uE uV bndP bndV
  rw [er, if_pos h.e]
  generalize (wdAt L i).t = l at *
  by_cases h2 : uOk true l = true
  · have k2 := hk.2 h2
    have evl : x.t.v = dgV (l.drop 1) := by rw [ev]; unfold vOf; rw [k2, if_neg (by decide), if_pos rfl]
    rw [if_pos h2, if_pos h2, if_pos (ek.trans k2), evl]
    by_cases hm : m < dgV (l.drop 1)
    · rw [if_pos hm, if_pos hm, if_neg (by omega : ¬ dgV (l.drop 1) ≤ m)]
      refine ⟨fun h => (by cases h), fun h => (by cases h), fun _ => ?_⟩
      unfold failP
      rw [if_pos h.e, hq]
      exact ⟨rfl, rfl⟩
    · rw [if_neg hm, if_neg hm, if_pos (by omega : dgV (l.drop 1) ≤ m)]
      exact ⟨fun _ => hadv (uOk_ne h2), fun _ => by rw [if_pos ⟨h.e, ek.trans k2, by omega⟩], fun h => absurd rfl h⟩
  · rw [if_neg h2, if_neg h2, if_neg (fun e => h2 (hk.1 (ek.symm.trans e)))]
    exact ⟨fun h => absurd h (wrE_ne l), fun h => absurd h (wrE_ne l), fun _ => hub⟩
/-- a keyword -/
theorem isW_at (h : At s L x i) {y : ByteArray} (hy : kwOk y = true) : isW x y = ((wdAt L i).t == strL y) := by
  unfold kwOk at hy
  simp only [Bool.and_eq_true, Bool.not_eq_true'] at hy
  obtain ⟨y1, y2, y3, y4, y5⟩ := hy
  have y5 := of_decide_eq_true y5
  have ky : kOf (strL y) = 1 := by
    cases hs : strL y with
    | nil => rw [hs] at y5; cases y5
    | cons c r =>
      rw [hs] at y1 y2 y3
      rw [List.all_cons, Bool.and_eq_true] at y1
      unfold kOf
      simp only []
      rw [if_pos y1.1, if_neg (by rw [y2]; decide), if_neg (by
        intro h
        have : (dgB (List.drop 1 (c :: r)) && (c :: r).headD 0 == 114) = true := h
        rw [this] at y3
        cases y3)]
  unfold isW
  have e1 := h.tw.k
  have e2 := h.tw.x
  have e3 := h.tw.by_
  generalize (wdAt L i).t = l at *
  by_cases hl : l = strL y
  · subst hl
    rw [e1, ky, e2 ky, str_of, beq_self_eq_true]
    simp
  · rw [beq_eq_false_iff_ne.2 hl]
    by_cases hk : kOf l = 1
    · rw [e1, hk, e2 hk, ch_eq (strOfNums l) l (strL_of e3) y, beq_eq_false_iff_ne.2 hl]
      rfl
    · rw [e1, beq_eq_false_iff_ne.2 hk]
      rfl
theorem kw_ne {y : ByteArray} (hy : kwOk y = true) : strL y ≠ [] := fun e => by
  unfold kwOk at hy
  rw [e] at hy
  simp at hy
theorem word_at (hb : Byt s) (h : At s L x i) {y : ByteArray} (hy : kwOk y = true) : ((wdAt L i).t = strL y → At s L (wordP s y x) (i + 1)) ∧ ((wdAt L i).t ≠ strL y → Bad (wordP s y x) (wrE (wdAt L i).t) (wdAt L i).q) := by
  have e := isW_at h hy
  unfold wordP
  rw [if_pos h.e, e]
  refine ⟨fun hl => ?_, fun hl => ?_⟩
  · rw [hl, beq_self_eq_true, if_pos rfl]
    exact h.adv hb (by rw [hl]; exact kw_ne hy)
  · rw [beq_eq_false_iff_ne.2 hl, if_neg (by decide)]
    exact unex_bad h
theorem eit_at (hb : Byt s) (h : At s L x i) {y z : ByteArray} (hy : kwOk y = true) (hz : kwOk z = true) : (chE (wdAt L i).t y z = 0 → At s L (eitP s y z x) (i + 1)) ∧ (chE (wdAt L i).t y z ≠ 0 → Bad (eitP s y z x) (chE (wdAt L i).t y z) (wdAt L i).q) ∧ eitB x y = ((wdAt L i).t == strL y) := by
  have e := isW_at h hy
  have hwz := word_at hb h hz
  unfold chE eitP eitB
  rw [if_pos h.e, e, h.e]
  by_cases hl : (wdAt L i).t = strL y
  · rw [hl, beq_self_eq_true, if_pos rfl, if_pos rfl]
    exact ⟨fun _ => h.adv hb (by rw [hl]; exact kw_ne hy), fun h => absurd rfl h, by simp⟩
  · rw [beq_eq_false_iff_ne.2 hl]
    simp only [Bool.false_eq_true, ↓reduceIte]
    by_cases hz2 : (wdAt L i).t = strL z
    · have e2 : ((wdAt L i).t == strL z) = true := by rw [hz2]; exact beq_self_eq_true _
      simp only [e2, ↓reduceIte]
      exact ⟨fun _ => hwz.1 hz2, fun h => absurd rfl h, by simp⟩
    · rw [beq_eq_false_iff_ne.2 hz2]
      simp only [Bool.false_eq_true, ↓reduceIte]
      exact ⟨fun h => absurd h (wrE_ne _), fun _ => hwz.2 hz2, by simp⟩
theorem punct_at (hb : Byt s) (h : At s L x i) {k : Int} {l : List Int} (hk : kOf l = k) (hu : ∀ m, Wordy m → kOf m = k → m = l) (hl : l ≠ []) : ((wdAt L i).t = l → At s L (punctP s k x) (i + 1)) ∧ ((wdAt L i).t ≠ l → Bad (punctP s k x) (wrE (wdAt L i).t) (wdAt L i).q) := by
  unfold punctP
  rw [if_pos h.e, h.tw.k]
  refine ⟨fun e => ?_, fun e => ?_⟩
  · rw [if_pos (by rw [e]; exact hk)]
    exact h.adv hb (by rw [e]; exact hl)
  · rw [if_neg (fun e2 => e (hu _ h.tw.wy e2))]
    exact unex_bad h
end
end Go.Proofs.Qxb6500778a
