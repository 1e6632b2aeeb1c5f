import Derived.Test.Qxb6500774aTg2
namespace Go.Proofs.Qxb6500774a
open Go.RowKit
set_option linter.unusedVariables false
set_option linter.unusedSimpArgs false

/-! ### What the tokens of a text are -/
def isT (t : TK) : Prop := t.k = 2 ∨ t.k = 3 ∨ t.k = 4 ∨ t.k = 5
instance (t : TK) : Decidable (isT t) := inferInstanceAs (Decidable (_ ∨ _))
theorem skS_o (s : List Int) : ∀ (k : Nat) (q : Pl), q.o ≤ s.length → q.o ≤ (skS s k q).2.o ∧ (skS s k q).2.o ≤ s.length
  | 0, q, h => ⟨Nat.le_refl _, h⟩
  | k + 1, q, h => by
    unfold skS
    split
    · next hn =>
      split
      · have := skS_o s k (stpQ s 1 q) (by rw [stpQ_o]; omega)
        rw [stpQ_o] at this
        omega
      · split
        · have h2 := eolK_rng s (s.length - q.o) q.o h
          have := skS_o s k ⟨eolK s (s.length - q.o) q.o, q.l, q.b⟩ h2.2
          dsimp only at this
          omega
        · split
          · split
            · exact ⟨Nat.le_refl _, h⟩
            · next hc =>
              have h3 := cmtK_rng s (s.length - (q.o + 2)) (q.o + 2)
              have := skS_o s k (stpQ s (cmtK s (s.length - (q.o + 2)) (q.o + 2) + 2 - q.o) q) (by rw [stpQ_o]; omega)
              rw [stpQ_o] at this
              omega
          · exact ⟨Nat.le_refl _, h⟩
    · exact ⟨Nat.le_refl _, h⟩
theorem skP_o (s : List Int) (q : Pl) (h : q.o ≤ s.length) : q.o ≤ (skP s q).2.o ∧ (skP s q).2.o ≤ s.length := skS_o s _ q h
theorem byP_ne {s : List Int} {i : Nat} (h : byP s (i : Int) ≠ 0) : i < s.length := by
  unfold byP at h
  split at h
  · omega
  · exact absurd rfl h
theorem byP_drop {s : List Int} {i : Nat} (h : i < s.length) : ∃ r, s.drop i = byP s (i : Int) :: r := by
  refine ⟨s.drop (i + 1), ?_⟩
  have e : s[i]? = some s[i] := List.getElem?_eq_getElem h
  rw [byP_at e, List.drop_eq_getElem_cons h]
theorem wlen_pos {s : List Int} {i : Nat} (h : i < s.length) (hc : (ltP (byP s (i : Int)) || dgP (byP s (i : Int))) = true) : 0 < wlen (s.drop i) := by
  obtain ⟨r, hr⟩ := byP_drop h
  rw [hr, wlen, if_pos hc]
  omega
theorem mk_len (s : List Int) {o : Nat} (h : o < s.length) : o + (mkP (byP s o) (byP s ((o + 1 : Nat) : Int))).length ≤ s.length := by
  unfold mkP
  split
  · next h2 =>
    have : byP s ((o + 1 : Nat) : Int) ≠ 0 := by
      unfold twoM at h2
      intro z
      rw [z] at h2
      simp at h2
    have := byP_ne this
    show o + 2 ≤ _
    omega
  · split
    · show o + 1 ≤ _; omega
    · show o + 0 ≤ _; omega
theorem negT_k {t : TK} (h : isT (negT t)) : negT t = t ∧ 0 ≤ t.v := by
  unfold negT at h ⊢
  split
  · next hv =>
    rw [if_pos hv] at h
    have : (1 : Int) = 2 ∨ (1 : Int) = 3 ∨ (1 : Int) = 4 ∨ (1 : Int) = 5 := h
    omega
  · exact ⟨rfl, by omega⟩
theorem nx2_o (s : List Int) (q : Pl) (h : q.o ≤ s.length) : q.o ≤ (nx2 s q).2.o ∧ (nx2 s q).2.o ≤ s.length ∧ (isT (nx2 s q).1 → q.o < (nx2 s q).2.o) := by
  unfold nx2
  split
  · refine ⟨Nat.le_refl _, h, fun z => ?_⟩
    have z : (0 : Int) = 2 ∨ (0 : Int) = 3 ∨ (0 : Int) = 4 ∨ (0 : Int) = 5 := z
    omega
  · next hn =>
    have hn : q.o < s.length := by omega
    have hw := wlen_drop s h
    split
    · next hd =>
      have := wlen_pos hn (by rw [hd, Bool.or_true])
      refine ⟨?_, ?_, fun _ => ?_⟩ <;> dsimp only <;> omega
    · split
      · split
        · refine ⟨Nat.le_refl _, h, fun z => ?_⟩
          have z : (1 : Int) = 2 ∨ (1 : Int) = 3 ∨ (1 : Int) = 4 ∨ (1 : Int) = 5 := z
          omega
        · next hm =>
          have := mk_len s hn
          have : 0 < (mkP (byP s q.o) (byP s ((q.o + 1 : Nat) : Int))).length := List.length_pos_iff.2 hm
          refine ⟨?_, ?_, fun _ => ?_⟩ <;> dsimp only <;> omega
      · next hl =>
        have hl : ltP (byP s q.o) = true := by simpa using hl
        split
        · next ht =>
          have : q.o + 1 < s.length := byP_ne (by rw [ht.2]; decide)
          have := wlen_drop s (o := q.o + 2) (by omega)
          refine ⟨?_, ?_, fun _ => ?_⟩ <;> dsimp only <;> omega
        · have := wlen_pos hn (by rw [hl, Bool.true_or])
          refine ⟨?_, ?_, fun _ => ?_⟩ <;> dsimp only <;> omega
theorem next_o (s : List Int) (q : Pl) (h : q.o ≤ s.length) : q.o ≤ (nextP s q).2.o ∧ (nextP s q).2.o ≤ s.length ∧ (isT (nextP s q).1 → q.o < (nextP s q).2.o) := by
  have h1 := skP_o s q h
  unfold nextP
  split
  · have := nx2_o s _ h1.2
    refine ⟨by omega, this.2.1, fun z => ?_⟩
    have := this.2.2 z
    omega
  · refine ⟨h1.1, h1.2, fun z => ?_⟩
    have z : (1 : Int) = 2 ∨ (1 : Int) = 3 ∨ (1 : Int) = 4 ∨ (1 : Int) = 5 := z
    omega
theorem tks_o (s : List Int) : ∀ k, (tks s k).2.o ≤ s.length
  | 0 => by
    unfold tks
    split
    · exact Nat.zero_le _
    · exact (next_o s _ (Nat.zero_le _)).2.1
  | k + 1 => (next_o s _ (tks_o s k)).2.1
/-- how much is left -/
def lft (s : List Int) : PSt → Nat
  | .at k _ => if isT (tks s k).1 then s.length + 1 - (tks s k).2.o else 0
  | .bad _ _ _ => 0
theorem lft_take {s : List Int} {k : Nat} {d e : Int} (h : isT (tks s k).1) : lft s (.at (k + 1) e) < lft s (.at k d) := by
  have h1 := tks_o s k
  have h2 := next_o s _ h1
  have e1 : lft s (.at k d) = s.length + 1 - (tks s k).2.o := if_pos h
  rw [e1]
  show (if isT (tks s (k + 1)).1 then s.length + 1 - (tks s (k + 1)).2.o else 0) < _
  split
  · next h3 => have := h2.2.2 h3; show s.length + 1 - (nextP s (tks s k).2).2.o < _; omega
  · omega
theorem lft_le (s : List Int) (st : PSt) : lft s st ≤ s.length + 1 := by
  cases st with
  | «at» k d => show (if isT (tks s k).1 then s.length + 1 - (tks s k).2.o else 0) ≤ _; split <;> omega
  | bad e l c => exact Nat.zero_le _
/-! ### Names and numbers -/
theorem wlen_all : ∀ (l : List Int), ∀ c ∈ l.take (wlen l), (ltP c || dgP c) = true
  | [] => fun c h => by simp at h
  | a :: l => fun c h => by
    rw [wlen] at h
    split at h
    · next ha =>
      rw [List.take_succ_cons] at h
      rcases List.mem_cons.1 h with rfl | h
      · exact ha
      · exact wlen_all l c h
    · simp at h
def wdI (c : Int) : Prop := (48 ≤ c ∧ c ≤ 57) ∨ (65 ≤ c ∧ c ≤ 90) ∨ c = 95
theorem up_wd {c : Int} (h : (ltP c || dgP c) = true) : wdI (upP c) := by
  unfold ltP dgP at h
  simp at h
  unfold upP wdI
  split <;> omega
theorem run1_wd (s : List Int) (o : Nat) : ∀ c ∈ run1 s o, wdI c := fun c h => by
  unfold run1 at h
  obtain ⟨a, h1, rfl⟩ := List.mem_map.1 h
  exact up_wd (wlen_all _ a h1)
theorem wd_fin : ∀ m : Fin 128, ((48 ≤ m.val ∧ m.val ≤ 57) ∨ (65 ≤ m.val ∧ m.val ≤ 90) ∨ m.val = 95) → wdC (UInt8.ofNat m.val) = true ∧ ((48 ≤ UInt8.ofNat m.val && UInt8.ofNat m.val ≤ 57) = true → 48 ≤ m.val ∧ m.val ≤ 57) := by decide +kernel
theorem wd_of {c : Int} (h : wdI c) : wdC (UInt8.ofNat c.toNat) = true ∧ ((48 ≤ UInt8.ofNat c.toNat && UInt8.ofNat c.toNat ≤ 57) = true → 48 ≤ c ∧ c ≤ 57) := by
  unfold wdI at h
  have := wd_fin ⟨c.toNat, by omega⟩ (by dsimp only; omega)
  refine ⟨this.1, fun z => ?_⟩
  have := this.2 z
  dsimp only at this
  omega
theorem gN_run {s : List Int} {o : Nat} (h : o < s.length) (hd : dgP (byP s (o : Int)) = false) (hl : ltP (byP s (o : Int)) = true) (hk : kwP (strOfNums (run1 s o)).toList = false) : gN (strOfNums (run1 s o)) = true := by
  obtain ⟨r, hr⟩ := byP_drop h
  have hw := run1_wd s o
  have e : run1 s o = upP (byP s (o : Int)) :: ((r.take (wlen r)).map upP) := by
    unfold run1
    rw [hr, wlen, if_pos (by rw [hl, Bool.true_or]), List.take_succ_cons, List.map_cons]
  have hf : ¬ (48 ≤ upP (byP s (o : Int)) ∧ upP (byP s (o : Int)) ≤ 57) := by
    unfold ltP at hl
    unfold dgP at hd
    simp at hl hd
    unfold upP
    split <;> omega
  unfold gN
  rw [hk, ByteArray.toList_eq, strOfNums_data]
  rw [e] at hw ⊢
  generalize upP (byP s (o : Int)) = a at *
  generalize (r.take (wlen r)).map upP = L at *
  rw [List.map_cons]
  simp only [List.isEmpty_cons, Bool.not_false, Bool.true_and, Bool.and_true]
  rw [Bool.and_eq_true]
  refine ⟨?_, ?_⟩
  · cases hq : (48 ≤ UInt8.ofNat a.toNat && UInt8.ofNat a.toNat ≤ 57) with
    | false => rfl
    | true => exact absurd ((wd_of (hw a (List.mem_cons_self ..))).2 hq) hf
  · rw [List.all_eq_true]
    intro x hx
    rw [← List.map_cons (f := fun n : Int => UInt8.ofNat n.toNat)] at hx
    obtain ⟨c, h1, rfl⟩ := List.mem_map.1 hx
    exact (wd_of (hw c h1)).1
theorem decP_le : ∀ (l : List Int) (n : Int), 0 ≤ n → n ≤ 9223372036854775807 → decP l n ≤ 9223372036854775807
  | [], n, _, h => h
  | c :: l, n, h0, h => by
    unfold decP
    split
    · decide
    · next hd =>
      have hd : 48 ≤ c ∧ c ≤ 57 := by unfold dgP at hd; simpa using hd
      split
      · decide
      · next ht =>
        have e : (9223372036854775807 - (c - 48)).tdiv 10 = (9223372036854775807 - (c - 48)) / 10 := Int.tdiv_eq_ediv_of_nonneg (by omega)
        rw [e] at ht
        exact decP_le l _ (by omega) (by omega)
theorem decimalP_le (l : List Int) : decimalP l ≤ 9223372036854775807 := by
  unfold decimalP
  split
  · decide
  · exact decP_le l 0 (by decide) (by decide)
theorem msV_le (l : List Int) : msV l ≤ 9223372036854775807 := by
  unfold msV
  split
  · exact decimalP_le _
  · decide
/-- what a token of a text is -/
structure TkIs (n : Nat) (t : TK) : Prop where
  nm : t.k = 2 → gN t.x = true ∧ (strL t.x).length ≤ n
  num : t.k = 3 ∨ t.k = 4 → 0 ≤ t.v ∧ t.v ≤ 9223372036854775807
  bol : t.k = 5 → t.v = 0 ∨ t.v = 1
theorem nx2_is (s : List Int) (q : Pl) (h : q.o ≤ s.length) : TkIs s.length (nx2 s q).1 := by
  unfold nx2
  split
  · exact ⟨fun z => absurd z (by show ¬ (0 : Int) = 2; decide), fun z => absurd z (by show ¬ ((0 : Int) = 3 ∨ (0 : Int) = 4); decide), fun z => absurd z (by show ¬ (0 : Int) = 5; decide)⟩
  · next hn =>
    have hn : q.o < s.length := by omega
    split
    · refine ⟨fun z => ?_, fun z => ?_, fun z => ?_⟩
      · have h1 := (negT_k (.inl z)).1
        rw [h1] at z
        exact absurd z (by show ¬ (3 : Int) = 2; decide)
      · have h1 := negT_k (t := { tk0 q with k := 3, v := decimalP (run1 s q.o) }) (by rcases z with z | z; exact .inr (.inl z); exact .inr (.inr (.inl z)))
        rw [h1.1]
        exact ⟨h1.2, decimalP_le _⟩
      · have h1 := (negT_k (.inr (.inr (.inr z)))).1
        rw [h1] at z
        exact absurd z (by show ¬ (3 : Int) = 5; decide)
    · next hd =>
      have hd : dgP (byP s q.o) = false := by simpa using hd
      split
      · split
        · exact ⟨fun z => absurd z (by show ¬ (1 : Int) = 2; decide), fun z => absurd z (by show ¬ ((1 : Int) = 3 ∨ (1 : Int) = 4); decide), fun z => absurd z (by show ¬ (1 : Int) = 5; decide)⟩
        · exact ⟨fun z => absurd z (by show ¬ (5 : Int) = 2; decide), fun z => absurd z (by show ¬ ((5 : Int) = 3 ∨ (5 : Int) = 4); decide), fun z => .inl rfl⟩
      · next hl =>
        have hl : ltP (byP s q.o) = true := by simpa using hl
        split
        · refine ⟨fun z => ?_, fun z => ?_, fun z => ?_⟩
          · have h1 := (negT_k (.inl z)).1
            rw [h1] at z
            exact absurd z (by show ¬ (4 : Int) = 2; decide)
          · have h1 := negT_k (t := { tk0 q with k := 4, v := msV (run1 s (q.o + 2)) }) (by rcases z with z | z; exact .inr (.inl z); exact .inr (.inr (.inl z)))
            rw [h1.1]
            exact ⟨h1.2, msV_le _⟩
          · have h1 := (negT_k (.inr (.inr (.inr z)))).1
            rw [h1] at z
            exact absurd z (by show ¬ (4 : Int) = 5; decide)
        · unfold wordT
          dsimp only
          refine ⟨fun z => ?_, fun z => ?_, fun z => ?_⟩
          · dsimp only at z ⊢
            split at z
            · cases z
            · next hk =>
              refine ⟨gN_run hn hd hl (by simpa using hk), ?_⟩
              rw [← strL_len, str_size, run1_len]
              have := wlen_drop s h
              omega
          · dsimp only at z
            split at z <;> omega
          · dsimp only
            split
            · exact .inr rfl
            · exact .inl rfl
theorem next_is (s : List Int) (q : Pl) (h : q.o ≤ s.length) : TkIs s.length (nextP s q).1 := by
  unfold nextP
  split
  · exact nx2_is s _ (skP_o s q h).2
  · exact ⟨fun z => absurd z (by show ¬ (1 : Int) = 2; decide), fun z => absurd z (by show ¬ ((1 : Int) = 3 ∨ (1 : Int) = 4); decide), fun z => absurd z (by show ¬ (1 : Int) = 5; decide)⟩
theorem tks_is (s : List Int) : ∀ k, TkIs s.length (tks s k).1
  | 0 => by
    unfold tks
    split
    · exact ⟨fun z => absurd z (by show ¬ (1 : Int) = 2; decide), fun z => absurd z (by show ¬ ((1 : Int) = 3 ∨ (1 : Int) = 4); decide), fun z => absurd z (by show ¬ (1 : Int) = 5; decide)⟩
    · exact next_is s _ (Nat.zero_le _)
  | k + 1 => next_is s _ (tks_o s k)
end Go.Proofs.Qxb6500774a
