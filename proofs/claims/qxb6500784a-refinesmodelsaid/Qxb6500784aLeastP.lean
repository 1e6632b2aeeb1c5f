import Derived.Test.Qxb6500784aSrchP
namespace Go.Proofs.Qxb6500784a
open Go.RowKit

def maskOf (P : Nat → Bool) : Nat → Nat
  | 0 => 0
  | k + 1 => maskOf P k ||| (if P k then 2 ^ k else 0)
theorem maskOf_bit (P : Nat → Bool) : ∀ (k j : Nat), (maskOf P k).testBit j = true ↔ j < k ∧ P j = true
  | 0, j => by simp [maskOf]
  | k + 1, j => by
    unfold maskOf
    rw [Nat.testBit_or, Bool.or_eq_true, maskOf_bit P k j]
    by_cases h : P k = true
    · rw [if_pos h, Nat.testBit_two_pow, decide_eq_true_eq]
      constructor
      · rintro (⟨h1, h2⟩ | rfl)
        · exact ⟨by omega, h2⟩
        · exact ⟨by omega, h⟩
      · rintro ⟨h1, h2⟩
        rcases Nat.lt_or_ge j k with z | z
        · exact Or.inl ⟨z, h2⟩
        · exact Or.inr (by omega)
    · rw [if_neg h]
      constructor
      · rintro (⟨h1, h2⟩ | h2)
        · exact ⟨by omega, h2⟩
        · simp at h2
      · rintro ⟨h1, h2⟩
        rcases Nat.lt_or_ge j k with z | z
        · exact Or.inl ⟨z, h2⟩
        · have : j = k := by omega
          subst this; exact absurd h2 h
open Classical in
theorem needM_spec (n : Nat) (L : Nat → Leg) : NeedBits n L (needM n L) := by
  have hx : ∃ m, NeedBits n L m := by
    refine ⟨fun i => if i < n then maskOf (fun j => decide (∃ k, k < (L i).nn ∧ (L i).nd k = (L j).id)) n else 0, fun i j => ?_⟩
    show (if i < n then maskOf (fun j => decide (∃ k, k < (L i).nn ∧ (L i).nd k = (L j).id)) n else 0).testBit j = true ↔ _
    by_cases hi : i < n
    · rw [if_pos hi, maskOf_bit, decide_eq_true_eq]
      exact ⟨fun h => ⟨hi, h.1, h.2⟩, fun h => ⟨h.2.1, h.2.2⟩⟩
    · rw [if_neg hi]
      constructor
      · intro h; simp at h
      · intro h; exact absurd h.1 hi
  unfold needM
  rw [dif_pos hx]
  exact Classical.choose_spec hx
theorem bCode_facts {n : Nat} {L : Nat → Leg} (h : bCode n L = 0) : (∀ i j, i < j → j < n → (L i).id ≠ (L j).id) ∧ (∀ i k, i < n → k < (L i).nn → ∃ j, j < n ∧ (L j).id = (L i).nd k) := by
  unfold bCode at h
  split at h
  · cases h
  · split at h
    · cases h
    · split at h
      · rename_i hx; exact absurd h hx
      · split at h
        · cases h
        · split at h
          · cases h
          · rename_i h1 h2
            refine ⟨fun i j hij hj e => h1 ⟨i, j, hij, hj, e⟩, fun i k hi hk => ?_⟩
            refine Classical.byContradiction fun hne => h2 ⟨i, k, hi, hk, fun j hj e => hne ⟨j, hj, e⟩⟩
def FitsM (m : Nat → Nat) (V : List Nat) : Prop := ∀ (k x : Nat), V[k]? = some x → ∀ j, (m x).testBit j = true → ∃ t, t < k ∧ V[t]? = some j
theorem fitsM_of {n : Nat} {L : Nat → Leg} {m : Nat → Nat} {V : List Nat} (hm : NeedBits n L m) (hid : ∀ i j, i < j → j < n → (L i).id ≠ (L j).id) (hV : ∀ x, x ∈ V → x < n) (h : FitsP L V) : FitsM m V := by
  intro k x hx j hj
  obtain ⟨_, hjn, q, hq, e⟩ := (hm x j).1 hj
  obtain ⟨t, y, ht, hy, ey⟩ := h k x hx q hq
  have hyn := hV y (List.mem_of_getElem? hy)
  rw [e] at ey
  rcases Nat.lt_trichotomy y j with z | z | z
  · exact absurd ey (hid y j z hjn)
  · subst z; exact ⟨t, ht, hy⟩
  · exact absurd ey.symm (hid j y z hyn)
theorem fitsP_of {n : Nat} {L : Nat → Leg} {m : Nat → Nat} {V : List Nat} (hm : NeedBits n L m) (hall : ∀ i k, i < n → k < (L i).nn → ∃ j, j < n ∧ (L j).id = (L i).nd k) (hV : ∀ x, x ∈ V → x < n) (h : FitsM m V) : FitsP L V := by
  intro k x hx q hq
  have hxn := hV x (List.mem_of_getElem? hx)
  obtain ⟨j, hj, ej⟩ := hall x q hxn hq
  obtain ⟨t, ht, hy⟩ := h k x hx j ((hm x j).2 ⟨hxn, hj, q, hq, ej.symm⟩)
  exact ⟨t, j, ht, hy, ej⟩
theorem sub_len : ∀ (A B : List Nat), A.Nodup → (∀ x, x ∈ A → x ∈ B) → A.length ≤ B.length
  | [], _, _, _ => by simp
  | a :: A, B, hn, h => by
    have hn' := List.nodup_cons.1 hn
    have hb := h a (by simp)
    have := sub_len A (B.erase a) hn'.2 fun x hx => (List.mem_erase_of_ne (fun (e : x = a) => hn'.1 (by rw [← e]; exact hx))).2 (h x (by simp [hx]))
    have e := List.length_erase_of_mem hb
    have := List.length_pos_of_mem hb
    simp
    omega
theorem all_in {n : Nat} {r : List Nat} (hn : r.Nodup) (hl : r.length = n) (hm : ∀ x, x ∈ r → x < n) {x : Nat} (hx : x < n) : x ∈ r := by
  refine Classical.byContradiction fun h => ?_
  have := len_le n (x :: r) (List.nodup_cons.2 ⟨h, hn⟩) fun y hy => by
    rcases List.mem_cons.1 hy with e | e
    · rw [e]; exact hx
    · exact hm y e
  simp at this
  omega
open Classical in
theorem fitsB_iff {L : Nat → Leg} {V : List Nat} : fitsB L V = true ↔ FitsP L V := decide_eq_true_iff
/-- What search finds goes on from its prefix and fits. -/
theorem srch_ext {n : Nat} {L : Nat → Leg} : ∀ (f : Nat) (p r : List Nat), p.Nodup → (∀ x, x ∈ p → x < n) → srch n L f p = some r → ∃ s, r = p ++ s ∧ FitsP L r ∧ r.length = p.length + f ∧ r.Nodup ∧ ∀ x, x ∈ r → x < n
  | 0, p, r, hn, hm, h => by
    unfold srch at h
    split at h
    · rename_i hf
      injection h with h
      subst h
      exact ⟨[], by simp, fitsB_iff.1 hf, rfl, hn, hm⟩
    · cases h
  | f + 1, p, r, hn, hm, h => by
    unfold srch at h
    obtain ⟨t, _, ht, hg⟩ := firstOf_of h
    split at hg
    · cases hg
    · rename_i hp
      obtain ⟨s, hs, h1, h2, h3, h4⟩ := srch_ext f (p ++ [t]) r (List.nodup_append.2 ⟨hn, by simp, fun a ha b hb => by simp at hb; rw [hb]; exact fun e => hp (e ▸ ha)⟩) (fun x hx => by rcases List.mem_append.1 hx with e | e; exact hm x e; rw [List.mem_singleton.1 e]; omega) hg
      exact ⟨t :: s, by rw [hs]; simp, h1, by rw [h2]; simp; omega, h3, h4⟩
structure SInv (n : Nat) (m : Nat → Nat) (D : Nat) (O : List Nat) : Prop where
  lt : D < 256
  bit : ∀ j, D.testBit j = true ↔ j ∈ O
  nodup : O.Nodup
  mem : ∀ x, x ∈ O → x < n
  fits : FitsM m O
theorem and_zero {a D j : Nat} (hD : D < 256) (h : a &&& (255 - D) = 0) (hj : j < 8) (ha : a.testBit j = true) : D.testBit j = true := by
  cases hd : D.testBit j
  · have : (a &&& (255 - D)).testBit j = true := by rw [Nat.testBit_and, ha, nbit hD hj, hd]; rfl
    rw [h] at this
    simp at this
  · rfl
theorem SInv.step {n : Nat} {m : Nat → Nat} {D i : Nat} {O : List Nat} (h : SInv n m D O) (hn : n ≤ 8) (hm : ∀ i j, (m i).testBit j = true → j < n) (hi : i < n) (hr : ready m D i = true) : SInv n m (D ||| 2 ^ i) (O ++ [i]) := by
  unfold ready at hr
  rw [Bool.and_eq_true, decide_eq_true_eq] at hr
  have hni : i ∉ O := fun e => by
    rw [(h.bit i).2 e] at hr
    simp at hr
  refine ⟨or_lt8 h.lt (by omega), fun j => ?_, ?_, ?_, ?_⟩
  · rw [Nat.testBit_or, Bool.or_eq_true, h.bit j, Nat.testBit_two_pow, decide_eq_true_eq]
    simp [eq_comm]
  · exact List.nodup_append.2 ⟨h.nodup, by simp, fun a ha b hb => by simp at hb; rw [hb]; exact fun e => hni (e ▸ ha)⟩
  · intro x hx
    rcases List.mem_append.1 hx with e | e
    · exact h.mem x e
    · rw [List.mem_singleton.1 e]; exact hi
  · intro k x hx j hj
    rcases Nat.lt_or_ge k O.length with z | z
    · rw [List.getElem?_append_left z] at hx
      obtain ⟨t, ht, hy⟩ := h.fits k x hx j hj
      exact ⟨t, ht, by rw [List.getElem?_append_left (by omega)]; exact hy⟩
    · have hk : k = O.length := by
        have := (List.getElem?_eq_some_iff.1 hx).1
        simp at this
        omega
      subst hk
      simp at hx
      subst hx
      have hjO := (h.bit j).1 (and_zero h.lt hr.2 (by have := hm i j hj; omega) hj)
      obtain ⟨t, ht⟩ := List.getElem?_of_mem hjO
      have htl := (List.getElem?_eq_some_iff.1 ht).1
      exact ⟨t, htl, by rw [List.getElem?_append_left htl]; exact ht⟩
theorem srch_sort {n : Nat} {L : Nat → Leg} {m : Nat → Nat} (hn : n ≤ 8) (hb : NeedBits n L m) (hid : ∀ i j, i < j → j < n → (L i).id ≠ (L j).id) (hall : ∀ i k, i < n → k < (L i).nn → ∃ j, j < n ∧ (L j).id = (L i).nd k) :
    ∀ (f D : Nat) (p : List Nat), SInv n m D p → p.length + f = n → (sortF n m f D p).1.length = n → srch n L f p = some (sortF n m f D p).1
  | 0, D, p, h, hl, he => by
    unfold srch
    rw [if_pos (fitsB_iff.2 (fitsP_of hb hall h.mem h.fits))]
    rfl
  | f + 1, D, p, h, hl, he => by
    have hmn : ∀ i j, (m i).testBit j = true → j < n := fun i j hij => ((hb i j).1 hij).2.1
    cases hp : pick n m D with
    | none => rw [sortF_miss hp] at he; simp at he; omega
    | some i =>
      rw [sortF_hit hp] at he ⊢
      obtain ⟨hi, hr, hbef⟩ := pick_some' hp
      have hs := h.step hn hmn hi hr
      have IH := srch_sort hn hb hid hall f _ _ hs (by simp; omega) he
      have hni : i ∉ p := fun e => by
        unfold ready at hr
        rw [(h.bit i).2 e] at hr
        simp at hr
      unfold srch
      refine firstOf_some (t := i) ?_ (Nat.zero_le _) (by omega) fun j _ hj => ?_
      · show (if i ∈ p then none else srch n L f (p ++ [i])) = _
        rw [if_neg hni]; exact IH
      · show (if j ∈ p then none else srch n L f (p ++ [j])) = none
        by_cases hjp : j ∈ p
        · rw [if_pos hjp]
        · rw [if_neg hjp]
          cases hsr : srch n L f (p ++ [j]) with
          | none => rfl
          | some r =>
            exfalso
            obtain ⟨s, hs1, h1, h2, h3, h4⟩ := srch_ext f (p ++ [j]) r (List.nodup_append.2 ⟨h.nodup, by simp, fun a ha b hb' => by simp at hb'; rw [hb']; exact fun e => hjp (e ▸ ha)⟩) (fun x hx => by rcases List.mem_append.1 hx with e | e; exact h.mem x e; rw [List.mem_singleton.1 e]; omega) hsr
            have hf := fitsM_of hb hid h4 h1
            have hnr := hbef j hj
            unfold ready at hnr
            have hDj : D.testBit j = false := by
              cases hd : D.testBit j
              · rfl
              · exact absurd ((h.bit j).1 hd) hjp
            rw [hDj] at hnr
            have hne : m j &&& (255 - D) ≠ 0 := by simpa using hnr
            obtain ⟨b, hbb⟩ := Nat.exists_testBit_of_ne_zero hne
            rw [Nat.testBit_and, Bool.and_eq_true] at hbb
            have hb8 := hmn j b hbb.1
            have hDb : D.testBit b = false := by
              have := hbb.2
              rw [nbit h.lt (by omega)] at this
              simpa using this
            obtain ⟨t, ht, hy⟩ := hf p.length j (by rw [hs1]; simp) b hbb.1
            rw [hs1, List.append_assoc, List.getElem?_append_left ht] at hy
            have := (h.bit b).2 (List.mem_of_getElem? hy)
            rw [hDb] at this
            cases this
theorem sinv_nil (n : Nat) (m : Nat → Nat) : SInv n m 0 [] := ⟨by omega, fun j => by simp, List.nodup_nil, fun x h => by simp at h, fun k x h => by simp at h⟩
theorem sortF_inv {n : Nat} {m : Nat → Nat} (hn : n ≤ 8) (hm : ∀ i j, (m i).testBit j = true → j < n) : ∀ (f D : Nat) (p : List Nat), SInv n m D p → SInv n m (sortF n m f D p).2 (sortF n m f D p).1
  | 0, D, p, h => h
  | f + 1, D, p, h => by
    cases hp : pick n m D with
    | none => rw [sortF_miss hp]; exact h
    | some i =>
      rw [sortF_hit hp]
      obtain ⟨hi, hr, _⟩ := pick_some' hp
      exact sortF_inv hn hm f _ _ (h.step hn hm hi hr)
theorem least_ok {n : Nat} {L : Nat → Leg} (hz : bCode n L = 0) (hs : stuckP n (needM n L) = 0) :
    srch n L n [] = some (sortP n (needM n L)).1 ∧ (sortP n (needM n L)).1.length = n ∧ (∀ x, x ∈ (sortP n (needM n L)).1 → x < n) ∧ fitsB L (sortP n (needM n L)).1 = true := by
  obtain ⟨h0, h8⟩ := bCode_zero hz
  obtain ⟨hid, hall⟩ := bCode_facts hz
  have hb := needM_spec n L
  generalize needM n L = m at *
  have hmn : ∀ i j, (m i).testBit j = true → j < n := fun i j hij => ((hb i j).1 hij).2.1
  have hi : SInv n m (sortP n m).2 (sortP n m).1 := sortF_inv h8 hmn n 0 [] (sinv_nil n m)
  have hlen : (sortP n m).1.length = n := by
    refine Classical.byContradiction fun hne => ?_
    have hin : ∀ x, x ∈ List.range n → x ∈ (sortP n m).1 := by
      intro x hx
      have hxn := List.mem_range.1 hx
      refine (hi.bit x).1 ?_
      cases hd : (sortP n m).2.testBit x
      · have := stuck_bit' h8 hxn hne hd
        rw [hs] at this
        simp at this
      · rfl
    have a := sub_len (List.range n) _ List.nodup_range hin
    have b := len_le n _ hi.nodup hi.mem
    simp at a
    omega
  exact ⟨srch_sort h8 hb hid hall n 0 [] (sinv_nil n m) (by simp) hlen, hlen, hi.mem, fitsB_iff.2 (fitsP_of hb hall hi.mem hi.fits)⟩
theorem least_none {n : Nat} {L : Nat → Leg} (hz : bCode n L = 0) (hs : stuckP n (needM n L) ≠ 0) : srch n L n [] = none := by
  obtain ⟨h0, h8⟩ := bCode_zero hz
  obtain ⟨hid, hall⟩ := bCode_facts hz
  have hb := needM_spec n L
  generalize needM n L = m at *
  have hmn : ∀ i j, (m i).testBit j = true → j < n := fun i j hij => ((hb i j).1 hij).2.1
  cases hr : srch n L n [] with
  | none => rfl
  | some r =>
    exfalso
    obtain ⟨s, hs1, h1, h2, h3, h4⟩ := srch_ext n [] r List.nodup_nil (fun x h => by simp at h) hr
    have hf := fitsM_of hb hid h4 h1
    have key : ∀ (k x : Nat), r[k]? = some x → (stuckP n m).testBit x = false := by
      intro k
      induction k using Nat.strongRecOn with
      | _ k ih =>
        intro x hx
        cases hbx : (stuckP n m).testBit x
        · rfl
        · exfalso
          obtain ⟨j, hj⟩ := Nat.exists_testBit_of_ne_zero (stuck_needs h8 hmn hbx)
          rw [Nat.testBit_and, Bool.and_eq_true] at hj
          obtain ⟨t, ht, hy⟩ := hf k x hx j hj.1
          have := ih t ht j hy
          rw [hj.2] at this
          cases this
    obtain ⟨x, hx⟩ := Nat.exists_testBit_of_ne_zero hs
    have hxn := (stuck_bit h8 x hx).1
    obtain ⟨k, hk⟩ := List.getElem?_of_mem (all_in h3 (by simpa using h2) h4 hxn)
    rw [key k x hk] at hx
    cases hx
end Go.Proofs.Qxb6500784a
