import Derived.Test.Qxb6500778aMB
namespace Go.Proofs.Qxb6500778a
open Go.RowKit

/-! ### The real parser's tokens against the model's words -/
/-- the kind of the token that a word is -/
def kOf (l : List Int) : Int := match l with
  | [] => 0
  | c :: r => if wbP c = true then (if dgB (c :: r) = true then 2 else if (dgB r && (c == 114)) = true then 3 else 1)
    else if c = 47 then 4 else if c = 123 then 5 else if c = 125 then 6 else 7
def vOf (l : List Int) : Int := if kOf l = 2 then dgV l else if kOf l = 3 then dgV (l.drop 1) else 0
/-- a word is empty, one byte that is no word byte, or a run of word bytes -/
def Wordy (l : List Int) : Prop := l = [] ∨ (∃ c, l = [c] ∧ wbP c = false) ∨ (l ≠ [] ∧ l.all wbP = true)
structure TW (t : Tok) (y : Wd) : Prop where
  q : t.q = y.q
  k : t.k = kOf y.t
  v : t.v = vOf y.t
  x : kOf y.t = 1 → t.x = strOfNums y.t
  wy : Wordy y.t
  by_ : Byt y.t
theorem wl_all : ∀ (l : List Int), (l.take (wlW l)).all wbP = true
  | [] => rfl
  | c :: r => by
    rw [wlW]
    split
    · rename_i h
      rw [List.take_succ_cons, List.all_cons, h, wl_all r]
      rfl
    · rfl
theorem wl_cons {c : Int} {r : List Int} (h : wbP c = true) : ((c :: r).take (wlW (c :: r))) = c :: r.take (wlW r) := by
  rw [wlW, if_pos h, List.take_succ_cons]
theorem byt_sub {s : List Int} (h : Byt s) (i n : Nat) : Byt ((s.drop i).take n) := fun c hc => h c (List.mem_of_mem_drop (List.mem_of_mem_take hc))
theorem sk_end_q {s : List Int} {o : Nat} (ho : o ≤ s.length) (h : s[o + skS false (s.drop o)]? = none) : o + skS false (s.drop o) = s.length := by
  have h1 := List.getElem?_eq_none_iff.1 h
  have h2 := skS_le false (s.drop o)
  rw [List.length_drop] at h2
  omega
/-- a token and the words from there on -/
theorem tok_word {s : List Int} (hb : Byt s) {o : Nat} (ho : o ≤ s.length) :
    (wds s (s.length + 1) o = [] ∧ TW (nxT s o).1 ⟨[], s.length⟩) ∨ ∃ y, wds s (s.length + 1) o = y :: wds s (s.length + 1) (nxT s o).2 ∧ y.t ≠ [] ∧ TW (nxT s o).1 y := by
  obtain ⟨q, hq⟩ : ∃ q, o + skS false (s.drop o) = q := ⟨_, rfl⟩
  cases hc : s[q]? with
  | none =>
    left
    have hqn : q = s.length := by rw [← hq] at hc ⊢; exact sk_end_q ho hc
    refine ⟨by rw [wds, hq, hc], ?_⟩
    have e : nxT s o = (⟨0, q, ⟨#[]⟩, 0⟩, q) := by unfold nxT; simp only [hq, hc]
    rw [e, hqn]
    exact ⟨rfl, rfl, rfl, fun h => (by cases h), .inl rfl, fun c hc => (by cases hc)⟩
  | some c =>
    right
    have hqi := (List.getElem?_eq_some_iff.1 hc).1
    have hcb : Byt [c] := fun d hd => hb d (by
      rcases List.mem_cons.1 hd with rfl | hd
      · exact List.mem_of_getElem? hc
      · cases hd)
    by_cases hw : wbP c = true
    · obtain ⟨n1, n2, n3, n4, n5⟩ := wb_not hw
      have e : nxT s o = (wdT c q ((s.drop q).take (wlW (s.drop q))), q + wlW (s.drop q)) := by
        unfold nxT
        simp only [hq, hc]
        rw [if_neg n3, if_neg n4, if_neg n5, if_neg (by rw [hw]; decide)]
      have hwl := wl_pos hc hw
      refine ⟨⟨(s.drop q).take (wlW (s.drop q)), q⟩, ?_, ?_, ?_⟩
      · rw [wds, hq, hc]
        simp only []
        rw [if_pos hw, e, wds_fuel s s.length (s.length + 1) _ (by omega) (by omega)]
      · rw [drop_cons hc, wl_cons hw]
        exact fun h => by cases h
      · rw [e]
        have hd := drop_cons hc
        have ht : (s.drop q).take (wlW (s.drop q)) = c :: (s.drop (q + 1)).take (wlW (s.drop (q + 1))) := by rw [hd]; exact wl_cons hw
        have hk : kOf ((s.drop q).take (wlW (s.drop q))) = if dgB ((s.drop q).take (wlW (s.drop q))) = true then 2 else if (dgB (((s.drop q).take (wlW (s.drop q))).drop 1) && (c == 114)) = true then 3 else 1 := by
          rw [ht]
          unfold kOf
          simp only []
          rw [if_pos hw]
          rfl
        have hall := wl_all (s.drop q)
        have hby := byt_sub hb q (wlW (s.drop q))
        have hne : (s.drop q).take (wlW (s.drop q)) ≠ [] := by rw [ht]; exact fun h => by cases h
        generalize (s.drop q).take (wlW (s.drop q)) = X at *
        unfold wdT
        by_cases h1 : dgB X = true
        · rw [if_pos h1] at hk
          simp only [if_pos h1]
          exact ⟨rfl, hk.symm, by unfold vOf; rw [if_pos hk], fun h => absurd (hk.symm.trans h) (by decide), .inr (.inr ⟨hne, hall⟩), hby⟩
        · rw [if_neg h1] at hk
          simp only [if_neg h1]
          by_cases h2 : (dgB (X.drop 1) && (c == 114)) = true
          · rw [if_pos h2] at hk
            simp only [if_pos h2]
            exact ⟨rfl, hk.symm, by unfold vOf; rw [hk, if_neg (by decide), if_pos rfl], fun h => absurd (hk.symm.trans h) (by decide), .inr (.inr ⟨hne, hall⟩), hby⟩
          · rw [if_neg h2] at hk
            simp only [if_neg h2]
            exact ⟨rfl, hk.symm, by unfold vOf; rw [hk, if_neg (by decide), if_neg (by decide)], fun _ => rfl, .inr (.inr ⟨hne, hall⟩), hby⟩
    · have hwf : wbP c = false := by simpa using hw
      have hk : kOf [c] = if c = 47 then 4 else if c = 123 then 5 else if c = 125 then 6 else 7 := by
        unfold kOf
        simp only []
        rw [if_neg hw]
      have e : nxT s o = (⟨kOf [c], q, ⟨#[]⟩, 0⟩, q + 1) := by
        unfold nxT
        simp only [hq, hc]
        rw [hk]
        by_cases h1 : c = 47
        · rw [if_pos h1, if_pos h1]
        · rw [if_neg h1, if_neg h1]
          by_cases h2 : c = 123
          · rw [if_pos h2, if_pos h2]
          · rw [if_neg h2, if_neg h2]
            by_cases h3 : c = 125
            · rw [if_pos h3, if_pos h3]
            · rw [if_neg h3, if_neg h3, if_pos hwf]
      have hkn : kOf [c] ≠ 1 ∧ kOf [c] ≠ 2 ∧ kOf [c] ≠ 3 := by
        rw [hk]
        split
        · decide
        · split
          · decide
          · split <;> decide
      refine ⟨⟨[c], q⟩, ?_, fun h => (by cases h), ?_⟩
      · rw [wds, hq, hc]
        simp only []
        rw [if_neg hw, e, wds_fuel s s.length (s.length + 1) _ (by omega) (by omega)]
      · rw [e]
        exact ⟨rfl, rfl, by unfold vOf; rw [if_neg hkn.2.1, if_neg hkn.2.2], fun h => absurd h hkn.1, .inr (.inl ⟨c, rfl, hwf⟩), hcb⟩
end Go.Proofs.Qxb6500778a
