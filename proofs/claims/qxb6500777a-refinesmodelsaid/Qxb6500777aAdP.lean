import Derived.Test.Qxb6500777aInv
namespace Go.Proofs.Qxb6500777a

/-! ### admitAll, plain -/
/-- The end of the group of lookalikes that begins at i. -/
structure IsEnd (C : List Ctc) (i e : Nat) : Prop where
  lt : i < e
  le : e ≤ C.length
  same : ∀ (j : Nat) (a c : Ctc), i < j → j < e → C[i]? = some a → C[j]? = some c → beforeP a.seen c.seen = false
  stop : e < C.length → ∀ a c : Ctc, C[i]? = some a → C[e]? = some c → beforeP a.seen c.seen = true
theorem IsEnd.uniq {C : List Ctc} {i e e' : Nat} (hi : i < C.length) (h : IsEnd C i e) (k : IsEnd C i e') : e = e' := by
  have key : ∀ {x y : Nat}, IsEnd C i x → IsEnd C i y → ¬ x < y := fun {x y} hx hy hlt => by
    have hxl : x < C.length := Nat.lt_of_lt_of_le hlt hy.le
    have s := hx.stop hxl C[i] C[x] (List.getElem?_eq_getElem hi) (List.getElem?_eq_getElem hxl)
    rw [hy.same x C[i] C[x] hx.lt hlt (List.getElem?_eq_getElem hi) (List.getElem?_eq_getElem hxl)] at s
    cases s
  have a := key h k
  have b := key k h
  omega
/-- Room is made for g more. -/
inductive Room (g : Int) : Tbl → Tbl → Prop where
  | stop (T : Tbl) : ¬ 64 - T.held < g → Room g T T
  | step (T T' : Tbl) : 64 - T.held < g → Room g (evictP T) T' → Room g T T'
theorem Room.det {g : Int} {T A B : Tbl} (h : Room g T A) (k : Room g T B) : A = B := by
  induction h with
  | stop T h =>
    cases k with
    | stop _ _ => rfl
    | step _ _ h' _ => exact absurd h' h
  | step T T' h _ ih =>
    cases k with
    | stop _ h' => exact absurd h h'
    | step _ _ _ k => exact ih k
/-- The first free slot. -/
def firstN (f : Nat → Slt) : Nat → Nat
  | 0 => 0
  | n + 1 => if firstN f n < n then firstN f n else if (f n).used then n + 1 else n
theorem first_spec (f : Nat → Slt) : ∀ n, firstN f n ≤ n ∧ (∀ k, k < firstN f n → (f k).used = true) ∧ (firstN f n < n → (f (firstN f n)).used = false)
  | 0 => ⟨Nat.le_refl _, fun k h => by rw [firstN] at h; omega, fun h => by rw [firstN] at h; omega⟩
  | n + 1 => by
    obtain ⟨h1, h2, h3⟩ := first_spec f n
    rw [firstN]
    split
    · next hc => exact ⟨by omega, h2, fun _ => h3 hc⟩
    · next hc =>
      have e : firstN f n = n := by omega
      rw [e] at h2
      split
      · next hu => exact ⟨by omega, fun k hk => by rcases (by omega : k < n ∨ k = n) with z | rfl; exact h2 k z; exact hu, fun h => by omega⟩
      · next hu => exact ⟨by omega, h2, fun _ => by simpa using hu⟩
def freeOf (T : Tbl) : Nat := firstN T.sl 64
def admitL (T : Tbl) (L : List Ctc) : Tbl := L.foldl (fun T c => admitP T (freeOf T) c) T
/-- The groups come in, one after another. -/
inductive AdmAll (C : List Ctc) : Nat → Tbl → Tbl → Prop where
  | done (i : Nat) (T : Tbl) : C.length ≤ i → AdmAll C i T T
  | big (i e : Nat) (T T' : Tbl) : i < C.length → IsEnd C i e → 64 < e - i → AdmAll C e T T' → AdmAll C i T T'
  | grp (i e : Nat) (T T1 T' : Tbl) : i < C.length → IsEnd C i e → e - i ≤ 64 → Room ((e - i : Nat) : Int) T T1 → AdmAll C e (admitL T1 ((C.drop i).take (e - i))) T' → AdmAll C i T T'
theorem AdmAll.det {C : List Ctc} {i : Nat} {T A B : Tbl} (h : AdmAll C i T A) (k : AdmAll C i T B) : A = B := by
  induction h with
  | done i T h =>
    cases k with
    | done _ _ _ => rfl
    | big _ _ _ _ h' => omega
    | grp _ _ _ _ _ h' => omega
  | big i e T T' h he hb _ ih =>
    cases k with
    | done _ _ h' => omega
    | big _ e' _ _ _ he' _ k => rw [he'.uniq h he] at k; exact ih k
    | grp _ e' _ _ _ _ he' hb' _ _ => rw [he'.uniq h he] at hb'; omega
  | grp i e T T1 T' h he hb hr _ ih =>
    cases k with
    | done _ _ h' => omega
    | big _ e' _ _ _ he' hb' _ => rw [he'.uniq h he] at hb'; omega
    | grp _ e' _ T2 _ _ he' _ hr' k =>
      have ee := he'.uniq h he
      subst ee
      have := hr'.det hr
      subst this
      exact ih k
/-- Targets that are not followed stay so. -/
theorem rel_wh {T : Tbl} {i t : Nat} (h : T.wh t = -1) : (relP T i).wh t = -1 := by
  show upd T.wh _ (-1) t = -1
  unfold upd
  split
  · rfl
  · exact h
theorem evR_wh {T : Tbl} {g : Slt} {t : Nat} (h : T.wh t = -1) : ∀ n, (evR g n T).wh t = -1
  | 0 => h
  | n + 1 => by
    rw [evR]
    split
    · exact rel_wh (evR_wh h n)
    · exact evR_wh h n
theorem evict_wh {T : Tbl} {t : Nat} (h : T.wh t = -1) : (evictP T).wh t = -1 := by
  unfold evictP
  split
  · exact h
  · exact evR_wh h 64
theorem evR_next {T : Tbl} {g : Slt} : ∀ n, (evR g n T).next = T.next
  | 0 => rfl
  | n + 1 => by
    rw [evR]
    split
    · exact evR_next n
    · exact evR_next n
theorem evict_next {T : Tbl} : (evictP T).next = T.next := by
  unfold evictP
  split
  · rfl
  · exact evR_next 64
/-- How it stands before the contacts from i on come in. -/
structure AdI (C : List Ctc) (i : Nat) (T : Tbl) : Prop where
  inv : TInv T
  wh : ∀ (j : Nat) (c : Ctc), i ≤ j → C[j]? = some c → T.wh c.tg.toNat = -1
  nx : T.next + ((C.length - i : Nat) : Int) ≤ 1000000000
structure CsOk (C : List Ctc) : Prop where
  ok : ∀ c ∈ C, CtcOk c
  dif : ∀ (i j : Nat) (a c : Ctc), i ≠ j → C[i]? = some a → C[j]? = some c → a.tg ≠ c.tg
  len : C.length ≤ 112
theorem AdI.admit {C : List Ctc} {i : Nat} {T : Tbl} (hC : CsOk C) (h : AdI C i T) {c : Ctc} (hc : C[i]? = some c) (hh : T.held < 64) : AdI C (i + 1) (admitP T (freeOf T) c) ∧ freeOf T < 64 ∧ T.sl (freeOf T) = slt0 ∧ (∀ k, k < freeOf T → (T.sl k).used = true) ∧ (admitP T (freeOf T) c).held = T.held + 1 := by
  obtain ⟨s1, s2, s3⟩ := first_spec T.sl 64
  have hf : freeOf T < 64 := by
    rcases (by omega : firstN T.sl 64 < 64 ∨ firstN T.sl 64 = 64) with z | z
    · exact z
    · exfalso
      obtain ⟨k, hk, hu, _⟩ := free_ex T.sl 64 (by rw [← h.inv.cnt]; exact hh)
      rw [s2 k (by omega)] at hu
      cases hu
  have hu : (T.sl (freeOf T)).used = false := s3 hf
  have hil : i < C.length := (List.getElem?_eq_some_iff.1 hc).1
  have hco := hC.ok c (List.mem_of_getElem? hc)
  have hnx := h.nx
  refine ⟨⟨h.inv.admit hco hf hu (h.wh i c (Nat.le_refl _) hc) (by omega), fun j d hj hd => ?_, by show T.next + 1 + _ ≤ _; omega⟩, hf, h.inv.zero _ hf hu, s2, rfl⟩
  have hne := hC.dif i j c d (by omega) hc hd
  have t1 := hco.tg
  have t2 := (hC.ok d (List.mem_of_getElem? hd)).tg
  show upd T.wh c.tg.toNat _ d.tg.toNat = -1
  rw [upd_ne _ _ (by omega)]
  exact h.wh j d (by omega) hd
theorem AdI.evict {C : List Ctc} {i : Nat} {T : Tbl} (h : AdI C i T) {v : Nat} (hv : vicP T 64 = some v) : AdI C i (evictP T) := ⟨(h.inv.evict hv).1, fun j c hj hc => evict_wh (h.wh j c hj hc), by rw [evict_next]; exact h.nx⟩
theorem AdI.skip {C : List Ctc} {i e : Nat} {T : Tbl} (h : AdI C i T) (he : i ≤ e) : AdI C e T := ⟨h.inv, fun j c hj hc => h.wh j c (by omega) hc, by have := h.nx; omega⟩
theorem TInv.heldR {T : Tbl} (h : TInv T) : 0 ≤ T.held ∧ T.held ≤ 64 := by
  have := cnt_rng T.sl 64
  rw [h.cnt]; exact this
theorem admitL_snoc (T : Tbl) (L : List Ctc) (c : Ctc) : admitL T (L ++ [c]) = admitP (admitL T L) (freeOf (admitL T L)) c := by unfold admitL; rw [List.foldl_append]; rfl
end Go.Proofs.Qxb6500777a
