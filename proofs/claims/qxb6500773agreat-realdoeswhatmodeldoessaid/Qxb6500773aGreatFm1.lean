import Derived.Test.Qxb6500773aGreatHd2
namespace Go.Proofs.Qxb6500773aGreat
set_option maxRecDepth 100000
open Go.RowKit

/-! ### ParseDimacs, plain -/
structure FSt where
  p : Plc
  L : List Int
  E : List Int
inductive FOut where
  | go (s : FSt)
  | bad (er line col : Int)
  | done
/-- The failure of one token. -/
def cntP (q : Int × Int) (En hc : Int) : Int := if q.2 = 0 ∧ En = hc then 12 else q.2
def errP (q : Int × Int) (En hc hv : Int) : Int := if cntP q En hc = 0 ∧ hv < q.1 / 2 then 10 else cntP q En hc
def fTok (T : Nat → Int) (n : Nat) (hv hc : Int) (s : FSt) (p : Plc) : FOut :=
  let e := tokE T n (n - p.off) p.off
  let N := numP T p.off e 16777215 true
  let q := litP N
  let p' : Plc := ⟨if N.2 = 2 then e else p.off, p.line, p.bol⟩
  if errP q s.E.length hc hv = 0 then (if q.1 = 0 then .go ⟨p', s.L, s.E ++ [(s.L.length : Int)]⟩ else .go ⟨p', s.L ++ [q.1], s.E⟩)
  else .bad (errP q s.E.length hc hv) p.line (colP p)
def fStep (T : Nat → Int) (n : Nat) (hv hc : Int) (s : FSt) : FOut :=
  let R := seekF T n s.p
  if R.1 = true then fTok T n hv hc s R.2
  else if pendP s.L s.E = true then .bad 11 R.2.line (colP R.2) else if (s.E.length : Int) = hc then .done else .bad 12 R.2.line (colP R.2)
inductive FRun (T : Nat → Int) (n : Nat) (hv hc : Int) : FSt → FSt → Prop
  | refl (s : FSt) : FRun T n hv hc s s
  | head (s t u : FSt) : fStep T n hv hc s = .go t → FRun T n hv hc t u → FRun T n hv hc s u
theorem FRun.snoc {T : Nat → Int} {n : Nat} {hv hc : Int} {s t u : FSt} (h : FRun T n hv hc s t) (k : fStep T n hv hc t = .go u) : FRun T n hv hc s u := by
  induction h with
  | refl s => exact .head _ _ _ k (.refl _)
  | head s t u' h1 _ ih => exact .head _ _ _ h1 (ih k)
theorem FRun.trans {T : Nat → Int} {n : Nat} {hv hc : Int} {s t u : FSt} (h : FRun T n hv hc s t) (k : FRun T n hv hc t u) : FRun T n hv hc s u := by
  induction h with
  | refl s => exact k
  | head s t u' h1 _ ih => exact .head _ _ _ h1 (ih k)
theorem FRun.det {T : Nat → Int} {n : Nat} {hv hc : Int} {s t u : FSt} (h : FRun T n hv hc s t) (ht : ∀ x, fStep T n hv hc t ≠ .go x) (k : FRun T n hv hc s u) (hu : ∀ x, fStep T n hv hc u ≠ .go x) : t = u := by
  induction h with
  | refl s =>
    cases k with
    | refl => rfl
    | head _ t _ h1 _ => exact absurd h1 (ht t)
  | head s t u' h1 _ ih =>
    cases k with
    | refl => exact absurd h1 (hu t)
    | head _ t2 _ h2 k2 =>
      rw [h1] at h2
      cases h2
      exact ih ht k2
/-! ### The invariant -/
structure FOk (n : Nat) (hv hc : Int) (s : FSt) : Prop where
  pl : PlOk n s.p
  len : s.L.length + s.E.length ≤ s.p.off
  lit : ∀ x ∈ s.L, LitOk x ∧ x / 2 ≤ hv
  cnt : (s.E.length : Int) ≤ hc
  asc : ∀ (i j : Nat) (x y : Int), i ≤ j → s.E[i]? = some x → s.E[j]? = some y → x ≤ y
  rng : ∀ x ∈ s.E, 0 ≤ x ∧ x ≤ s.L.length
theorem errP_zero {q : Int × Int} {En hc hv : Int} (h : errP q En hc hv = 0) : q.2 = 0 ∧ En ≠ hc ∧ q.1 / 2 ≤ hv := by
  unfold errP at h
  split at h
  · cases h
  · next z =>
    unfold cntP at h z
    split at h
    · cases h
    · next y =>
      rw [if_neg y] at z
      exact ⟨h, fun e => y ⟨h, e⟩, by omega⟩
theorem FOk.step {T : Nat → Int} {n : Nat} {hv hc : Int} {s t : FSt} (h : FOk n hv hc s) (k : fStep T n hv hc s = .go t) : FOk n hv hc t ∧ s.p.off < t.p.off := by
  unfold fStep at k
  dsimp only at k
  have hs := seekF_rng T n s.p h.pl
  generalize seekF T n s.p = R at k hs
  obtain ⟨rb, p⟩ := R
  dsimp only at k hs
  obtain ⟨hp, hle, hlt⟩ := hs
  have hlen := h.len
  have hpo := hp.off
  have hpl := hp.line
  have hpb := hp.bol
  have hcn := h.cnt
  split at k
  · next hrb =>
    have hlt := hlt hrb
    have hte := tokE_rng T n (n - p.off) p.off hpo
    unfold fTok at k
    dsimp only at k
    have hcl := numP_cls T p.off (tokE T n (n - p.off) p.off) 16777215 true
    have hnr := numP_rng T p.off (tokE T n (n - p.off) p.off) 16777215 true (by decide) hte.1
    generalize numP T p.off (tokE T n (n - p.off) p.off) 16777215 true = N at k hcl hnr
    split at k
    · next hq =>
      obtain ⟨hq0, hne, hvr⟩ := errP_zero hq
      have hok := litP_ok hcl hq0 (fun z => (hnr z).2)
      have hlt2 := (hnr hok.1).1
      rw [if_pos hok.1] at k
      split at k
      · cases k
        refine ⟨⟨⟨hte.2, by show 1 ≤ p.line ∧ p.line ≤ ((tokE T n (n - p.off) p.off : Nat) : Int) + 1; omega, by show p.bol ≤ tokE T n (n - p.off) p.off; omega⟩, ?_, h.lit, ?_, ?_, ?_⟩, ?_⟩
        · show s.L.length + (s.E ++ [(s.L.length : Int)]).length ≤ tokE T n (n - p.off) p.off
          simp only [List.length_append, List.length_singleton]
          omega
        · show ((s.E ++ [(s.L.length : Int)]).length : Int) ≤ hc
          simp only [List.length_append, List.length_singleton]
          omega
        · intro i j x y hij hx hy
          show x ≤ y
          rcases Nat.lt_or_ge j s.E.length with hj | hj
          · rw [List.getElem?_append_left (by omega)] at hx
            rw [List.getElem?_append_left hj] at hy
            exact h.asc i j x y hij hx hy
          · have hxr : x ≤ s.L.length := by
              rcases List.mem_append.1 (List.mem_of_getElem? hx) with z | z
              · exact (h.rng x z).2
              · rw [List.mem_singleton.1 z]; exact Int.le_refl _
            rw [List.getElem?_append_right hj] at hy
            have hy2 := List.mem_of_getElem? hy
            rw [List.mem_singleton.1 hy2]
            exact hxr
        · intro x hx
          show 0 ≤ x ∧ x ≤ s.L.length
          rcases List.mem_append.1 hx with z | z
          · exact h.rng x z
          · rw [List.mem_singleton.1 z]; omega
        · show s.p.off < tokE T n (n - p.off) p.off
          omega
      · next hq1 =>
        cases k
        refine ⟨⟨⟨hte.2, by show 1 ≤ p.line ∧ p.line ≤ ((tokE T n (n - p.off) p.off : Nat) : Int) + 1; omega, by show p.bol ≤ tokE T n (n - p.off) p.off; omega⟩, ?_, ?_, h.cnt, h.asc, ?_⟩, ?_⟩
        · show (s.L ++ [(litP N).1]).length + s.E.length ≤ tokE T n (n - p.off) p.off
          simp only [List.length_append, List.length_singleton]
          omega
        · intro x hx
          rcases List.mem_append.1 hx with z | z
          · exact h.lit x z
          · rw [List.mem_singleton.1 z]; exact ⟨hok.2.resolve_left hq1, hvr⟩
        · intro x hx
          have := h.rng x hx
          show 0 ≤ x ∧ x ≤ ((s.L ++ [(litP N).1]).length : Nat)
          simp only [List.length_append, List.length_singleton]
          omega
        · show s.p.off < tokE T n (n - p.off) p.off
          omega
    · cases k
  · split at k
    · cases k
    · split at k <;> cases k
theorem fst_ok {n : Nat} {hv hc : Int} (hc0 : 0 ≤ hc) {p : Plc} (hp : PlOk n p) : FOk n hv hc ⟨p, [], []⟩ := ⟨hp, Nat.zero_le _, fun x h => (by cases h), hc0, fun i j x y _ h => (by cases h), fun x h => (by cases h)⟩
/-! ### What the header gives -/
theorem numP_nat (T : Nat → Int) (off e : Nat) (lim : Int) (hl : 0 ≤ lim) (h : (numP T off e lim false).2 = 2) : 0 ≤ (numP T off e lim false).1 ∧ (numP T off e lim false).1 ≤ lim := by
  unfold numP at h ⊢
  dsimp only at h ⊢
  rw [Bool.false_and, show (if false = true then off + 1 else off) = off from rfl] at h ⊢
  by_cases hi : off = e
  · rw [if_pos hi] at h; cases h
  · rw [if_neg hi] at h ⊢
    cases hd : digL T e lim (e - off) off 0 false with
    | none => rw [hd] at h; cases h
    | some x =>
      obtain ⟨v, g⟩ := x
      rw [hd] at h
      have hr := digL_rng T e lim _ _ _ _ _ _ (by omega) (fun _ => hl) hd
      rw [numR_some] at h ⊢
      cases g
      · exact ⟨by simp; exact hr.1, by simp; exact hr.2 rfl⟩
      · cases h
theorem hdEnd_ok {T : Nat → Int} {n : Nat} {v k : Int} {q : Plc} (hq : PlOk n q) : (∃ er p, hdEnd T n v k q = .bad er p ∧ er ≠ 0) ∨ (∃ p, hdEnd T n v k q = .ok v k p ∧ PlOk n p) := by
  unfold hdEnd
  split
  · exact .inl ⟨_, _, rfl, by decide⟩
  · exact .inr ⟨_, rfl, hq⟩
theorem hdNum2_ok {T : Nat → Int} {n : Nat} {v : Int} {q : Plc} (hq : PlOk n q) : (∃ er p, hdNum2 T n v q = .bad er p ∧ er ≠ 0) ∨ (∃ k p, hdNum2 T n v q = .ok v k p ∧ PlOk n p ∧ 0 ≤ k ∧ k ≤ 2147483647) := by
  unfold hdNum2
  split
  · have hcl := numP_cls T q.off (tokO T n q.off) 2147483647 false
    have hnr := numP_nat T q.off (tokO T n q.off) 2147483647 (by decide)
    generalize numP T q.off (tokO T n q.off) 2147483647 false = M at hcl hnr ⊢
    unfold hdN2
    split
    · exact .inl ⟨_, _, rfl, by decide⟩
    · split
      · exact .inl ⟨_, _, rfl, by decide⟩
      · have h2 := hnr (by omega)
        rcases hdEnd_ok (T := T) (v := v) (k := M.1) (hq.tok (T := T)).blk with h | ⟨p, h, hp⟩
        · exact .inl h
        · exact .inr ⟨_, p, h, hp, h2⟩
  · exact .inl ⟨_, _, rfl, by decide⟩
theorem hdNum1_ok {T : Nat → Int} {n : Nat} {q : Plc} (hq : PlOk n q) : (∃ er p, hdNum1 T n q = .bad er p ∧ er ≠ 0) ∨ (∃ v k p, hdNum1 T n q = .ok v k p ∧ PlOk n p ∧ 0 ≤ v ∧ v ≤ 16777215 ∧ 0 ≤ k ∧ k ≤ 2147483647) := by
  unfold hdNum1
  split
  · have hcl := numP_cls T q.off (tokO T n q.off) 16777215 false
    have hnr := numP_nat T q.off (tokO T n q.off) 16777215 (by decide)
    generalize numP T q.off (tokO T n q.off) 16777215 false = M at hcl hnr ⊢
    unfold hdN1
    split
    · exact .inl ⟨_, _, rfl, by decide⟩
    · split
      · exact .inl ⟨_, _, rfl, by decide⟩
      · have h2 := hnr (by omega)
        rcases hdNum2_ok (T := T) (v := M.1) (hq.tok (T := T)).blk with h | ⟨k, p, h, hp, hk⟩
        · exact .inl h
        · exact .inr ⟨_, k, p, h, hp, h2.1, h2.2, hk.1, hk.2⟩
  · exact .inl ⟨_, _, rfl, by decide⟩
theorem hdP_ok {T : Nat → Int} {n : Nat} {p : Plc} (hp : PlOk n p) : (∃ er q, hdP T n p = .bad er q ∧ er ≠ 0) ∨ (∃ v k q, hdP T n p = .ok v k q ∧ PlOk n q ∧ 0 ≤ v ∧ v ≤ 16777215 ∧ 0 ≤ k ∧ k ≤ 2147483647) := by
  unfold hdP
  have hs := (seekF_rng T n p hp).1
  split
  · split
    · unfold hdCnf
      split
      · split
        · exact hdNum1_ok ((hs.tok (T := T)).blk (T := T)).tok.blk
        · exact .inl ⟨_, _, rfl, by decide⟩
      · exact .inl ⟨_, _, rfl, by decide⟩
    · exact .inl ⟨_, _, rfl, by decide⟩
  · exact .inl ⟨_, _, rfl, by decide⟩
end Go.Proofs.Qxb6500773aGreat
