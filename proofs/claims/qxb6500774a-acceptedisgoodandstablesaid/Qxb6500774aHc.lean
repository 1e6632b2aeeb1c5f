import Derived.Test.Qxb6500774aHb
namespace Go.Proofs.Qxb6500774a
open Go.RowKit
set_option linter.unusedVariables false
set_option linter.unusedSimpArgs false
variable {s : List Int}

/-! ### What is read is good, and not too deep, and not too long -/
theorem powP_cases (t : List UInt8) : powP t = 0 ∨ (t.length ≤ 3 ∧ 1 ≤ powP t ∧ powP t ≤ 7) := by
  by_cases h : powP t = 0
  · exact .inl h
  · right
    have : t = [79, 82] ∨ t = [88, 79, 82] ∨ t = [65, 78, 68] ∨ t = [61] ∨ t = [60, 62] ∨ t = [60] ∨ t = [60, 61] ∨ t = [62] ∨ t = [62, 61] ∨ t = [43] ∨ t = [45] ∨ t = [42] ∨ t = [47] ∨ t = [77, 79, 68] := by
      apply Classical.byContradiction
      intro z
      simp only [not_or] at z
      apply h
      unfold powP
      simp [z]
    rcases this with rfl | rfl | rfl | rfl | rfl | rfl | rfl | rfl | rfl | rfl | rfl | rfl | rfl | rfl <;> decide
theorem powP_07 (t : List UInt8) : 0 ≤ powP t ∧ powP t ≤ 7 := by
  rcases powP_cases t with h | h <;> omega
/-- how deep a printed expression goes -/
def dE : E → Int → Nat
  | .num _ _ _, _ => 0
  | .tim _ _ _, _ => 0
  | .bol _ _ _, _ => 0
  | .nm _ _ _, _ => 0
  | .fld e _ _ _, _ => dE e 0
  | .idx e i _ _, _ => max (dE e 0) (1 + dE i 0)
  | .un _ e _ _, _ => 1 + dE e 8
  | .bin op a b _ _, m => (if powP op.toList < m then 1 else 0) + max (dE a (powP op.toList)) (dE b (powP op.toList + 1))
theorem dE_mono (e : E) {p q : Int} (h : p ≤ q) : dE e p ≤ dE e q := by
  cases e with
  | bin op a b l c =>
    unfold dE
    split
    · rw [if_pos (by omega)]; exact Nat.le_refl _
    · omega
  | _ => exact Nat.le_refl _
theorem dE_par (e : E) (p q : Int) : dE e p ≤ 1 + dE e q := by
  cases e with
  | bin op a b l c =>
    unfold dE
    split <;> split <;> omega
  | num v l c => exact Nat.zero_le _
  | tim v l c => exact Nat.zero_le _
  | bol v l c => exact Nat.zero_le _
  | nm v l c => exact Nat.zero_le _
  | fld e x l c => show dE e 0 ≤ 1 + dE e 0; omega
  | idx e i l c => show max (dE e 0) (1 + dE i 0) ≤ 1 + max (dE e 0) (1 + dE i 0); omega
  | un op e l c => show 1 + dE e 8 ≤ 1 + (1 + dE e 8); omega
/-- how long its text may be -/
def sz : E → Nat
  | .num _ _ _ => 20
  | .tim _ _ _ => 24
  | .bol _ _ _ => 5
  | .nm x _ _ => (strL x).length
  | .fld e x _ _ => sz e + 1 + (strL x).length
  | .idx e i _ _ => sz e + sz i + 2
  | .un _ e _ _ => sz e + 4
  | .bin _ a b _ _ => sz a + sz b + 7
theorem strL_toList (x : ByteArray) : (strL x).length = x.toList.length := by
  unfold strL
  rw [List.length_map, ByteArray.toList_eq]
theorem prE_len : ∀ (e : E), gE e → ∀ p, (prE e p).length ≤ sz e
  | .num v _ _, h, _ => by
    show (decL v.toNat).length ≤ 20
    have := decL_19 (v := v.toNat) (by have := h.2; omega)
    omega
  | .tim v _ _, h, _ => by
    show ([84, 35] ++ decL v.toNat ++ [109, 115]).length ≤ 24
    have := decL_19 (v := v.toNat) (by have := h.2; omega)
    simp only [List.length_append, List.length_cons, List.length_nil]
    omega
  | .bol v _ _, _, _ => by
    show (if v = 0 then ([70, 65, 76, 83, 69] : List Int) else [84, 82, 85, 69]).length ≤ 5
    split <;> decide
  | .nm x _ _, _, _ => Nat.le_refl _
  | .fld e x _ _, h, _ => by
    show (prE e 0 ++ ([46] ++ strL x)).length ≤ sz e + 1 + (strL x).length
    have := prE_len e h.1 0
    simp only [List.length_append, List.length_cons, List.length_nil]
    omega
  | .idx e i _ _, h, _ => by
    show (prE e 0 ++ ([91] ++ prE i 0) ++ [93]).length ≤ sz e + sz i + 2
    have := prE_len e h.1 0
    have := prE_len i h.2.1 0
    simp only [List.length_append, List.length_cons, List.length_nil]
    omega
  | .un op e _ _, h, _ => by
    show ((if op.toList = [78, 79, 84] then [78, 79, 84, 32] else strL op) ++ prE e 8).length ≤ sz e + 4
    have := prE_len e h.1 8
    rw [List.length_append]
    have : (if op.toList = [78, 79, 84] then ([78, 79, 84, 32] : List Int) else strL op).length ≤ 4 := by
      rcases h.2 with rfl | rfl
      · decide +kernel
      · decide +kernel
    omega
  | .bin op a b _ _, h, m => by
    show ((if powP op.toList < m then [40] else []) ++ prE a (powP op.toList) ++ ([32] ++ strL op ++ [32] ++ prE b (powP op.toList + 1)) ++ (if powP op.toList < m then [41] else [])).length ≤ sz a + sz b + 7
    have h1 := prE_len a h.1 (powP op.toList)
    have h2 := prE_len b h.2.1 (powP op.toList + 1)
    have h3 : (strL op).length ≤ 3 := by
      rw [strL_toList]
      rcases powP_cases op.toList with q | q
      · have := h.2.2; omega
      · exact q.1
    have h4 : (if powP op.toList < m then ([40] : List Int) else []).length ≤ 1 := by split <;> simp
    have h5 : (if powP op.toList < m then ([41] : List Int) else []).length ≤ 1 := by split <;> simp
    simp only [List.length_append, List.length_cons, List.length_nil]
    omega
/-! states -/
theorem nb_at {st : PSt} (h : ¬ isB st) : ∃ k d, st = .at k d := by
  cases st with
  | «at» k d => exact ⟨k, d, rfl⟩
  | bad e l c => exact absurd trivial h
theorem nb_da {st : PSt} {d : Int} (h : ¬ isB st) (hd : DA d st) : ∃ k, st = .at k d := by
  obtain ⟨k, d', rfl⟩ := nb_at h
  have hd : d' = d := hd
  exact ⟨k, by rw [hd]⟩
theorem pj_nb {n : Nat} {j : Job} {st : PSt} {R : E × PSt} (h : pj s n j st = some R) (hR : ¬ isB R.2) : ¬ isB st := fun z => by
  obtain ⟨e, l, c, rfl⟩ := z.ex
  rw [pj_bad s e l c n j R h] at hR
  exact hR trivial
theorem exp_nb {u : ByteArray} {st : PSt} (h : ¬ isB (expectS s u st)) : ∃ k d, st = .at k d ∧ isK (tks s k).1 u = true ∧ expectS s u st = .at (k + 1) d := by
  unfold expectS at h
  split at h
  · next q =>
    obtain ⟨k, d, rfl, hk⟩ := at_cases q
    exact ⟨k, d, rfl, hk, expect_t hk⟩
  · exact absurd (failS_b s 5 st) h
theorem take_nb {kk : Int} {st : PSt} (h : ¬ isB (takeS s kk st).2) : ∃ k d, st = .at k d ∧ (tks s k).1.k = kk ∧ takeS s kk st = ((tks s k).1, .at (k + 1) d) := by
  cases st with
  | bad e l c => exact absurd trivial h
  | «at» k d =>
    by_cases hk : (tks s k).1.k = kk
    · exact ⟨k, d, rfl, hk, take_t hk⟩
    · unfold takeS at h
      dsimp only at h
      rw [if_neg hk] at h
      exact absurd (failS_b s 5 (.at k d)) h
theorem dec_nb {st : PSt} (h : ¬ isB (decS st)) : ∃ k d, st = .at k d ∧ decS st = .at k (d - 1) := by
  cases st with
  | bad e l c => exact absurd trivial h
  | «at» k d => exact ⟨k, d, rfl, rfl⟩
theorem open_nb {k : Nat} {d : Int} (h : (openS s (.at k d)).1 = true) : d < 64 ∧ (openS s (.at k d)).2 = .at (k + 1) (d + 1) := by
  unfold openS at h ⊢
  dsimp only at h ⊢
  by_cases h64 : 64 ≤ d
  · rw [if_pos h64] at h; cases h
  · rw [if_neg h64]; exact ⟨by omega, rfl⟩
theorem open_f {k : Nat} {d : Int} (h : ¬ (openS s (.at k d)).1 = true) : isB (openS s (.at k d)).2 := (openS_da (s := s) (d := d) (st := .at k d) rfl).2 h
theorem mulK {K a b : Nat} (h : a < b) : K * a + K ≤ K * b := by
  have : K * (a + 1) ≤ K * b := Nat.mul_le_mul_left K h
  rwa [Nat.mul_succ] at this
theorem mulE {K a b : Nat} (h : a ≤ b) : K * a ≤ K * b := Nat.mul_le_mul_left K h
def PreJ (s : List Int) (d : Int) : Job → PSt → Prop
  | .expr m, _ => 1 ≤ m ∧ m ≤ 8
  | .loop m e, st => (1 ≤ m ∧ m ≤ 8) ∧ gE e ∧ ∃ q, m ≤ q ∧ d + dE e q ≤ 64 ∧ powS s (q + 1) st = false
  | .oper, _ => True
  | .plac, _ => True
  | .placL e, _ => gE e ∧ e.isPl = true ∧ d + dE e 0 ≤ 64
def PostJ (s : List Int) (d : Int) : Job → E × PSt → Prop
  | .expr m, R => gE R.1 ∧ d + dE R.1 m ≤ 64 ∧ powS s m R.2 = false
  | .loop m _, R => gE R.1 ∧ d + dE R.1 m ≤ 64 ∧ powS s m R.2 = false
  | .oper, R => gE R.1 ∧ d + dE R.1 8 ≤ 64
  | .plac, R => gE R.1 ∧ R.1.isPl = true ∧ d + dE R.1 0 ≤ 64
  | .placL _, R => gE R.1 ∧ R.1.isPl = true ∧ d + dE R.1 0 ≤ 64
def szJ : Job → Nat
  | .loop _ e => sz e
  | .placL e => sz e
  | _ => 0
theorem pl_8 {e : E} (h : e.isPl = true) (p : Int) : dE e p = dE e 0 := by
  cases e with
  | nm x l c => rfl
  | fld e x l c => rfl
  | idx e i l c => rfl
  | _ => cases h
theorem powS_8 (st : PSt) : powS s 9 st = false := by
  unfold powS
  have := (powP_07 (tokS s st).x.toList).2
  rw [decide_eq_false (by omega), Bool.and_false]
theorem pj_ok (s : List Int) (K : Nat) (hK : s.length + 100 ≤ K) : ∀ (n : Nat) (j : Job) (k : Nat) (d : Int) (R : E × PSt), pj s n j (.at k d) = some R → (0 ≤ d ∧ d ≤ 64) → ¬ isB R.2 → PreJ s d j (.at k d) → PostJ s d j R ∧ sz R.1 + K * lft s R.2 ≤ szJ j + K * lft s (.at k d) := by
  intro n
  induction n with
  | zero => intro j k d R h; unfold pj at h; cases h
  | succ n ih =>
    intro j k d R h hd hR hp
    have is := tks_is s k
    cases j with
    | expr m =>
      unfold pj at h
      split at h
      · cases h
      · next e st1 h1 =>
        obtain ⟨k1, h2⟩ := nb_da (pj_nb h hR) (pj_da s n _ _ _ d h1 rfl)
        subst h2
        obtain ⟨⟨a1, a2⟩, a3⟩ := ih .oper k d (e, .at k1 d) h1 hd (fun z => z) trivial
        obtain ⟨b1, b2⟩ := ih (.loop m e) k1 d R h hd hR ⟨hp, a1, 8, hp.2, a2, powS_8 _⟩
        refine ⟨b1, ?_⟩
        simp only [szJ] at a3 b2 ⊢
        omega
    | loop m left =>
      obtain ⟨hm, hg, q, hq1, hq2, hq3⟩ := hp
      unfold pj at h
      split at h
      · next hw =>
        obtain ⟨k', d', e1, hk, hm2⟩ := pow_cases hw
        injection e1 with e1 e2
        subst e1 e2
        rw [take_t hk] at h
        dsimp only at h
        have hown : powP (tks s k).1.x.toList ≤ q := by
          unfold powS tokS at hq3
          simp [hk] at hq3
          omega
        have hown7 := powP_07 (tks s k).1.x.toList
        generalize hown' : powP (tks s k).1.x.toList = own at *
        split at h
        · cases h
        · next r st2 h1 =>
          obtain ⟨k1, h2⟩ := nb_da (pj_nb h hR) (pj_da s n _ _ _ d h1 rfl)
          subst h2
          obtain ⟨⟨a1, a2, a3⟩, a4⟩ := ih (.expr (own + 1)) (k + 1) d (r, .at k1 d) h1 hd (fun z => z) ⟨by omega, by omega⟩
          have hl : lft s (.at (k + 1) d) < lft s (.at k d) := lft_take (.inr (.inr (.inr hk)))
          have hl := mulK (K := K) hl
          have hpre : PreJ s d (.loop m (.bin (tks s k).1.x left r left.l left.c)) (.at k1 d) := by
            refine ⟨hm, ⟨hg, a1, by rw [hown']; omega⟩, own, hm2, ?_, a3⟩
            have := dE_mono left (p := own) (q := q) hown
            unfold dE
            rw [hown', if_neg (by omega)]
            dsimp only at a2
            omega
          obtain ⟨b1, b2⟩ := ih (.loop m (.bin (tks s k).1.x left r left.l left.c)) k1 d R h hd hR hpre
          refine ⟨b1, ?_⟩
          simp only [szJ, sz] at a4 b2 ⊢
          omega
      · next hw =>
        injection h with h
        subst h
        refine ⟨⟨hg, ?_, by simpa using hw⟩, Nat.le_refl _⟩
        have := dE_mono left (p := m) (q := q) hq1
        dsimp only
        omega
    | oper =>
      unfold pj at h
      split at h
      · obtain ⟨⟨a1, a2, a3⟩, a4⟩ := ih .plac k d R h hd hR trivial
        exact ⟨⟨a1, by rw [pl_8 a2]; exact a3⟩, a4⟩
      split at h
      · next ha =>
        have hT : isT (tks s k).1 := by rcases ha with ha | ha <;> exact isK_T (show isK (tks s k).1 _ = true from ha)
        have hl : lft s (.at (k + 1) (d + 1)) < lft s (.at k d) := lft_take hT
        have hl := mulK (K := K) hl
        split at h
        · next ho =>
          obtain ⟨hd64, ho2⟩ := open_nb ho
          rw [ho2] at h
          split at h
          · cases h
          · next e st2 h1 =>
            injection h with h
            subst h
            obtain ⟨k1, d1, h2, h3⟩ := dec_nb hR
            have h4 : d1 = d + 1 := by have := pj_da s n _ _ _ (d + 1) h1 rfl; rw [h2] at this; exact this
            subst h2 h4
            obtain ⟨⟨a1, a2⟩, a3⟩ := ih .oper (k + 1) (d + 1) (e, .at k1 (d + 1)) h1 (by omega) (fun z => z) trivial
            refine ⟨⟨⟨a1, ?_⟩, ?_⟩, ?_⟩
            · rcases ha with ha | ha
              · left
                have := isK_x (show isK (tks s k).1 bNOT = true from ha)
                rw [ByteArray.toList_eq, ByteArray.toList_eq] at this
                show (tks s k).1.x = bNOT
                exact ByteArray.ext (Array.toList_inj.1 this)
              · right
                have := isK_x (show isK (tks s k).1 bMIN = true from ha)
                rw [ByteArray.toList_eq, ByteArray.toList_eq] at this
                show (tks s k).1.x = bMIN
                exact ByteArray.ext (Array.toList_inj.1 this)
            · show d + ((1 + dE e 8 : Nat) : Int) ≤ 64
              dsimp only at a2
              omega
            · dsimp only
              rw [lft_dec]
              simp only [szJ, sz] at a3 ⊢
              omega
        · next ho =>
          injection h with h
          subst h
          exact absurd (open_f ho) hR
      split at h
      · next ha =>
        have hT : isT (tks s k).1 := isK_T (show isK (tks s k).1 _ = true from ha)
        have hl : lft s (.at (k + 1) (d + 1)) < lft s (.at k d) := lft_take hT
        have hl := mulK (K := K) hl
        split at h
        · next ho =>
          obtain ⟨hd64, ho2⟩ := open_nb ho
          rw [ho2] at h
          split at h
          · cases h
          · next e st2 h1 =>
            injection h with h
            subst h
            obtain ⟨k1, d1, h2, h3, h4⟩ := exp_nb hR
            obtain ⟨k2, d2, h5, h6⟩ := dec_nb (st := st2) (by rw [h2]; exact fun z => z)
            have h7 : d2 = d + 1 := by have := pj_da s n _ _ _ (d + 1) h1 rfl; rw [h5] at this; exact this
            subst h5 h7
            obtain ⟨⟨a1, a2, a3⟩, a4⟩ := ih (.expr 1) (k + 1) (d + 1) (e, .at k2 (d + 1)) h1 (by omega) (fun z => z) ⟨by decide, by decide⟩
            refine ⟨⟨a1, ?_⟩, ?_⟩
            · have := dE_par e 8 1
              dsimp only at a2 ⊢
              omega
            · have := mulE (K := K) (lft_exp (s := s) bEND (decS (.at k2 (d + 1))))
              rw [lft_dec] at this
              simp only [szJ] at a4 ⊢
              omega
        · next ho =>
          injection h with h
          subst h
          exact absurd (open_f ho) hR
      split at h
      · next hk =>
        injection h with h
        subst h
        have hk : (tks s k).1.k = 3 := hk
        have hl : lft s (.at (k + 1) d) < lft s (.at k d) := lft_take (.inr (.inl hk))
        have hl := mulK (K := K) hl
        rw [take_t hk]
        refine ⟨⟨is.num (.inl hk), ?_⟩, ?_⟩
        · show d + ((0 : Nat) : Int) ≤ 64
          omega
        · show 20 + K * lft s (.at (k + 1) d) ≤ 0 + K * lft s (.at k d)
          omega
      split at h
      · next hk =>
        injection h with h
        subst h
        have hk : (tks s k).1.k = 4 := hk
        have hl : lft s (.at (k + 1) d) < lft s (.at k d) := lft_take (.inr (.inr (.inl hk)))
        have hl := mulK (K := K) hl
        rw [take_t hk]
        refine ⟨⟨is.num (.inr hk), ?_⟩, ?_⟩
        · show d + ((0 : Nat) : Int) ≤ 64
          omega
        · show 24 + K * lft s (.at (k + 1) d) ≤ 0 + K * lft s (.at k d)
          omega
      split at h
      · next ha =>
        injection h with h
        subst h
        have hk : (tks s k).1.k = 5 := by rcases ha with ha | ha <;> exact isK_k (show isK (tks s k).1 _ = true from ha)
        have hl : lft s (.at (k + 1) d) < lft s (.at k d) := lft_take (.inr (.inr (.inr hk)))
        have hl := mulK (K := K) hl
        rw [take_t hk]
        refine ⟨⟨is.bol hk, ?_⟩, ?_⟩
        · show d + ((0 : Nat) : Int) ≤ 64
          omega
        · show 5 + K * lft s (.at (k + 1) d) ≤ 0 + K * lft s (.at k d)
          omega
      · injection h with h
        subst h
        exact absurd (failS_b s 5 (.at k d)) hR
    | plac =>
      unfold pj at h
      obtain ⟨k1, d1, h1, hk, h3⟩ := take_nb (pj_nb h hR)
      injection h1 with h1 h2
      subst h1 h2
      rw [h3] at h
      dsimp only at h
      have hl : lft s (.at (k + 1) d) < lft s (.at k d) := lft_take (.inl hk)
      have hl := mulK (K := K) hl
      have hx := is.nm hk
      obtain ⟨b1, b2⟩ := ih _ (k + 1) d R h hd hR ⟨hx.1, rfl, by show d + ((0 : Nat) : Int) ≤ 64; omega⟩
      refine ⟨b1, ?_⟩
      simp only [szJ, sz] at b2 ⊢
      omega
    | placL e =>
      obtain ⟨hg, hpl, hde⟩ := hp
      unfold pj at h
      split at h
      · next ha =>
        obtain ⟨k', d', e1, hk, e2⟩ := accept_cases ha
        injection e1 with e1 e3
        subst e1 e3
        rw [e2] at h
        obtain ⟨k1, d1, h1, hk1, h3⟩ := take_nb (pj_nb h hR)
        injection h1 with h1 h2
        subst h1 h2
        rw [h3] at h
        dsimp only at h
        have hl : lft s (.at (k + 1 + 1) d) < lft s (.at (k + 1) d) := lft_take (.inl hk1)
        have hl := mulK (K := K) hl
        have hl2 : lft s (.at (k + 1) d) < lft s (.at k d) := lft_take (isK_T hk)
        have hl2 := mulK (K := K) hl2
        have hx := (tks_is s (k + 1)).nm hk1
        obtain ⟨b1, b2⟩ := ih _ (k + 1 + 1) d R h hd hR ⟨⟨hg, hx.1, hpl⟩, rfl, hde⟩
        refine ⟨b1, ?_⟩
        simp only [szJ, sz] at b2 ⊢
        omega
      split at h
      · next ha =>
        have hT : isT (tks s k).1 := isK_T (show isK (tks s k).1 _ = true from ha)
        have hl : lft s (.at (k + 1) (d + 1)) < lft s (.at k d) := lft_take hT
        have hl := mulK (K := K) hl
        split at h
        · next ho =>
          obtain ⟨hd64, ho2⟩ := open_nb ho
          rw [ho2] at h
          split at h
          · cases h
          · next i st2 h1 =>
            obtain ⟨k1, d1, h2, h3, h4⟩ := exp_nb (pj_nb h hR)
            obtain ⟨k2, d2, h5, h6⟩ := dec_nb (st := st2) (by rw [h2]; exact fun z => z)
            have h7 : d2 = d + 1 := by have := pj_da s n _ _ _ (d + 1) h1 rfl; rw [h5] at this; exact this
            subst h5 h7
            obtain ⟨⟨a1, a2, a3⟩, a4⟩ := ih (.expr 1) (k + 1) (d + 1) (i, .at k2 (d + 1)) h1 (by omega) (fun z => z) ⟨by decide, by decide⟩
            have h8 : d1 = d := by
              have : decS (.at k2 (d + 1)) = .at k2 (d + 1 - 1) := rfl
              rw [this] at h2
              injection h2 with _ h2
              omega
            subst h8
            rw [h4] at h
            have hm := mulE (K := K) (lft_exp (s := s) bKET (decS (.at k2 (d1 + 1))))
            rw [lft_dec, h4] at hm
            obtain ⟨b1, b2⟩ := ih _ (k1 + 1) d1 R h hd hR ⟨⟨hg, a1, hpl⟩, rfl, by
              have := dE_mono i (p := 0) (q := 1) (by decide)
              show d1 + ((max (dE e 0) (1 + dE i 0) : Nat) : Int) ≤ 64
              dsimp only at a2
              omega⟩
            refine ⟨b1, ?_⟩
            simp only [szJ, sz] at a4 b2 ⊢
            omega
        · next ho =>
          injection h with h
          subst h
          exact absurd (open_f ho) hR
      · injection h with h
        subst h
        exact ⟨⟨hg, hpl, hde⟩, Nat.le_refl _⟩
end Go.Proofs.Qxb6500774a
