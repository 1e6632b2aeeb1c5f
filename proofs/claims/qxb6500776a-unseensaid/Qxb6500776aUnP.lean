import Derived.Test.Qxb6500776aSsm
namespace Go.Proofs.Qxb6500776a
open Go.RowKit

/-- A ship number of which team T need not know: the same in both worlds, or hidden from T. -/
def HidAt (L1 L2 : List Shp) (D1 D2 : List Det) (T i : Nat) : Prop :=
  (∃ r, shipP L1 i r ∧ shipP L2 i r) ∨ ((∀ s ∈ L1, s.id = (i : Int) → s.team ≠ (T : Int)) ∧ (∀ s ∈ L2, s.id = (i : Int) → s.team ≠ (T : Int)) ∧ tgtP D1 T i = false ∧ tgtP D2 T i = false)
theorem HidAt.symm {L1 L2 : List Shp} {D1 D2 : List Det} {T i : Nat} (h : HidAt L1 L2 D1 D2 T i) : HidAt L2 L1 D2 D1 T i := by
  rcases h with ⟨r, h1, h2⟩ | ⟨h1, h2, h3, h4⟩
  · exact .inl ⟨r, h2, h1⟩
  · exact .inr ⟨h2, h1, h4, h3⟩
theorem same_mem {L1 L2 : List Shp} {M : List Smk} (h1 : WOk L1 M) {i : Int} {r : Option Shp} (a : shipP L1 i r) (b : shipP L2 i r) {o : Shp} (ho : o ∈ L1) (hi : o.id = i) : o ∈ L2 := by
  cases r with
  | none => exact (a o ho hi).elim
  | some t =>
    obtain rfl : t = o := same_id h1 a.1 ho (a.2.trans hi.symm)
    exact b.1
theorem tgt_seen {B : Brd} {T i k : Nat} (hT : T < 4) (hi : i < 48) (hk : k < 4) (hs : (B T i k).seen = true) : tgtP (repN B 768) T i = true := by
  have h : hasP (repN B 768) T i k = true := by
    rw [has_rep, lkP_in B hT hi hk, if_pos hs]
  unfold tgtP
  rcases (by omega : k = 0 ∨ k = 1 ∨ k = 2 ∨ k = 3) with rfl | rfl | rfl | rfl
  · rw [show hasP (repN B 768) T i 0 = true from h]; simp
  · rw [show hasP (repN B 768) T i 1 = true from h]; simp
  · rw [show hasP (repN B 768) T i 2 = true from h]; simp
  · rw [show hasP (repN B 768) T i 3 = true from h]; simp
theorem unseen_half {L1 L2 : List Shp} {M : List Smk} {B1 : Brd} {D2 : List Det} (h1 : WOk L1 M) (b1 : Bd (DF (L1.filter Shp.afloat) M) B1) {T : Nat} (hT : T < 4) (hh : ∀ i, i < 48 → HidAt L1 L2 (repN B1 768) D2 T i)
    {i k : Nat} (hi : i < 48) (o t : Shp) (ho : o.team = (T : Int)) (ht : t.id = (i : Int)) (hd : DF (L1.filter Shp.afloat) M o t k) : DF (L2.filter Shp.afloat) M o t k := by
  obtain ⟨hoA, hk, hse, htA, hne⟩ := hd
  have ho1 := List.mem_filter.1 hoA
  have ht1 := List.mem_filter.1 htA
  have hs : (B1 T i k).seen = true := by
    cases e : (B1 T i k).seen
    · exact (b1.none _ _ _ e o t ⟨hoA, hk, hse, htA, hne⟩ ho ht).elim
    · rfl
  have hid := (h1.ok o ho1.1).id
  obtain ⟨a, ha⟩ : ∃ a : Nat, o.id = a := ⟨o.id.toNat, by omega⟩
  have ho2 : o ∈ L2 := by
    rcases hh a (by omega) with ⟨r, x, y⟩ | ⟨x, _⟩
    · exact same_mem h1 x y ho1.1 ha
    · exact (x o ho1.1 ha ho).elim
  have ht2 : t ∈ L2 := by
    rcases hh i hi with ⟨r, x, y⟩ | ⟨_, _, x, _⟩
    · exact same_mem h1 x y ht1.1 ht
    · rw [tgt_seen hT hi hk hs] at x; cases x
  exact ⟨List.mem_filter.2 ⟨ho2, ho1.2⟩, hk, hse, List.mem_filter.2 ⟨ht2, ht1.2⟩, hne⟩
theorem filt_rep {B1 B2 : Brd} {T : Nat} (h : ∀ i k : Nat, i < 48 → k < 4 → lkP B1 T i k = lkP B2 T i k) : ∀ n, n ≤ 768 → (repN B1 n).filter (fun d => d.team == (T : Int)) = (repN B2 n).filter (fun d => d.team == (T : Int))
  | 0, _ => rfl
  | n + 1, hn => by
    rw [repN, repN, List.filter_append, List.filter_append, filt_rep h n (by omega)]
    congr 1
    by_cases e : n / 192 = T
    · rw [e, h _ _ (by omega) (by omega)]
    · have k1 : ∀ B : Brd, (if (lkP B (n / 192 : Nat) (n % 192 / 4 : Nat) (n % 4 : Nat)).2 then [(lkP B (n / 192 : Nat) (n % 192 / 4 : Nat) (n % 4 : Nat)).1] else []).filter (fun d => d.team == (T : Int)) = [] := fun B => by
        split
        · next hc =>
          obtain ⟨e1, _⟩ := lk_fields hc
          rw [List.filter_cons, if_neg (by rw [e1]; simp; omega)]
          rfl
        · rfl
      rw [k1, k1]
/-- What is hidden from a team does not change its list. -/
theorem unseen_eq {L1 L2 : List Shp} {M : List Smk} {B1 B2 : Brd} (h1 : WOk L1 M) (h2 : WOk L2 M) (b1 : Bd (DF (L1.filter Shp.afloat) M) B1) (b2 : Bd (DF (L2.filter Shp.afloat) M) B2) {T : Nat} (hT : T < 4)
    (hh : ∀ i, i < 48 → HidAt L1 L2 (repN B1 768) (repN B2 768) T i) : (repN B1 768).filter (fun d => d.team == (T : Int)) = (repN B2 768).filter (fun d => d.team == (T : Int)) :=
  filt_rep (fun _ _ hi hk => lk_uniq b1 b2 hT hi hk (fun o t ho ht => ⟨unseen_half h1 b1 hT hh hi o t ho ht, unseen_half h2 b2 hT (fun j hj => (hh j hj).symm) hi o t ho ht⟩) (DF_inj h1)) 768 (Nat.le_refl _)
end Go.Proofs.Qxb6500776a
