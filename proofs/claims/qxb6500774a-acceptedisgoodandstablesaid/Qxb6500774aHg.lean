import Derived.Test.Qxb6500774aHf
namespace Go.Proofs.Qxb6500774a
open Go.RowKit
set_option linter.unusedVariables false
set_option linter.unusedSimpArgs false
variable {s : List Int}

/-! ### A text made of tokens is cut into these tokens -/
inductive Tok where
  | nm (x : ByteArray)
  | num (v : Nat)
  | tim (v : Nat)
  | sym (x : ByteArray)
def spell : Tok → List Int
  | .nm x => strL x
  | .num v => decL v
  | .tim v => [84, 35] ++ decL v ++ [109, 115]
  | .sym x => strL x
def tkIs : Tok → TK → Prop
  | .nm x, t => t.k = 2 ∧ t.x = x
  | .num v, t => t.k = 3 ∧ t.v = v
  | .tim v, t => t.k = 4 ∧ t.v = v
  | .sym x, t => t.k = 5 ∧ t.x = x ∧ t.v = if x.toList = [84, 82, 85, 69] then 1 else 0
def wdB (c : Int) : Bool := ltP c || dgP c
def sf (c : Int) : Bool := !wdB c && c != 35
def hdI : List Int → Int
  | [] => 0
  | c :: _ => c
def gT : Tok → Bool
  | .nm x => gN x
  | .num v => decide (v ≤ 9223372036854775807)
  | .tim v => decide (v ≤ 9223372036854775807)
  | .sym x => kwP x.toList || (match strL x with
    | [c] => oneM c
    | [c, d] => twoM c d
    | _ => false)
def fT : Tok → Int → Bool
  | .sym x, n => if kwP x.toList = true then sf n else (match strL x with
    | [c] => !twoM c n && !(c == 47 && n == 47) && !(c == 40 && n == 42)
    | _ => true)
  | _, n => sf n
def blk (c : Int) : Bool := c == 32 || c == 10
abbrev It := List Int × Tok
def flat : List It → List Int
  | [] => []
  | (w, t) :: L => w ++ spell t ++ flat L
def LXs : List It → List Int → Prop
  | [], _ => True
  | (w, t) :: L, rest => w.all blk = true ∧ gT t = true ∧ fT t (hdI (flat L ++ rest)) = true ∧ LXs L rest
theorem flat_app (A B : List It) : flat (A ++ B) = flat A ++ flat B := by
  induction A with
  | nil => rfl
  | cons x A ih =>
    obtain ⟨w, t⟩ := x
    show w ++ spell t ++ flat (A ++ B) = w ++ spell t ++ flat A ++ flat B
    rw [ih, List.append_assoc]
    simp
theorem LXs_app (A B : List It) (rest : List Int) : LXs (A ++ B) rest ↔ LXs A (flat B ++ rest) ∧ LXs B rest := by
  induction A with
  | nil => exact ⟨fun h => ⟨trivial, h⟩, fun h => h.2⟩
  | cons x A ih =>
    obtain ⟨w, t⟩ := x
    show (_ ∧ _ ∧ fT t (hdI (flat (A ++ B) ++ rest)) = true ∧ LXs (A ++ B) rest) ↔ (_ ∧ _ ∧ fT t (hdI (flat A ++ (flat B ++ rest))) = true ∧ LXs A (flat B ++ rest)) ∧ LXs B rest
    rw [ih, flat_app, List.append_assoc]
    constructor
    · rintro ⟨a, b, c, d, e⟩; exact ⟨⟨a, b, c, d⟩, e⟩
    · rintro ⟨⟨a, b, c, d⟩, e⟩; exact ⟨a, b, c, d, e⟩
/-! bytes -/
theorem byP_hd (s : List Int) (i : Nat) : byP s (i : Int) = hdI (s.drop i) := by
  by_cases h : i < s.length
  · obtain ⟨r, hr⟩ := byP_drop h
    rw [hr]
    rfl
  · rw [List.drop_eq_nil_of_le (by omega)]
    unfold byP
    rw [if_neg (by omega)]
    rfl
theorem drop_app {a b : List Int} {o : Nat} (h : s.drop o = a ++ b) : s.drop (o + a.length) = b := by
  rw [← List.drop_drop, h, List.drop_left]
theorem drop_lt {a b : List Int} {o : Nat} (h : s.drop o = a ++ b) (ha : a ≠ []) : o < s.length := by
  apply Classical.byContradiction
  intro z
  rw [List.drop_eq_nil_of_le (by omega)] at h
  have := List.append_eq_nil_iff.1 h.symm
  exact ha this.1
theorem wlen_app : ∀ (a b : List Int), (∀ c ∈ a, wdB c = true) → wdB (hdI b) = false → wlen (a ++ b) = a.length
  | [], b, _, h => by
    cases b with
    | nil => rfl
    | cons c r => show wlen (c :: r) = 0; rw [wlen, if_neg (by have : wdB c = false := h; unfold wdB at this; rw [this]; exact Bool.false_ne_true)]
  | c :: a, b, ha, h => by
    have hc := ha c (List.mem_cons_self ..)
    unfold wdB at hc
    rw [List.cons_append, wlen, if_pos hc, wlen_app a b (fun x hx => ha x (List.mem_cons_of_mem _ hx)) h]
    rfl
theorem run1_app {a b : List Int} {o : Nat} (h : s.drop o = a ++ b) (ha : ∀ c ∈ a, wdB c = true) (hb : wdB (hdI b) = false) : run1 s o = a.map upP ∧ wlen (s.drop o) = a.length := by
  have hw := wlen_app a b ha hb
  unfold run1
  rw [h, hw, List.take_left]
  exact ⟨rfl, rfl⟩
theorem up_id {a : List Int} (h : ∀ c ∈ a, wdI c) : a.map upP = a := by
  induction a with
  | nil => rfl
  | cons c a ih =>
    have hc := h c (List.mem_cons_self ..)
    unfold wdI at hc
    rw [List.map_cons, ih (fun x hx => h x (List.mem_cons_of_mem _ hx))]
    congr 1
    unfold upP
    rw [if_neg (by omega)]
theorem wd_B {c : Int} (h : wdI c) : wdB c = true := by
  unfold wdI at h
  unfold wdB ltP dgP
  simp
  omega
/-! white space -/
theorem skP_ws : ∀ (w r : List Int) (q : Pl), s.drop q.o = w ++ r → w.all blk = true → ∃ q', skP s q = skP s q' ∧ q'.o = q.o + w.length
  | [], r, q, _, _ => ⟨q, rfl, rfl⟩
  | c :: w, r, q, h, hb => by
    rw [List.all_cons, Bool.and_eq_true] at hb
    have hlt := drop_lt (a := c :: w) h (by simp)
    have hc : byP s q.o = c := by rw [byP_hd, h]; rfl
    have hc2 : c = 32 ∨ c = 10 := by have := hb.1; unfold blk at this; simpa using this
    have hs := skP_blank hlt (by rw [hc]; rcases hc2 with h | h <;> simp [h])
    have hd : s.drop (stpQ s 1 q).o = w ++ r := by
      rw [stpQ_o]
      exact drop_app (a := [c]) (b := w ++ r) h
    obtain ⟨q', h1, h2⟩ := skP_ws w r (stpQ s 1 q) hd hb.2
    exact ⟨q', hs.trans h1, by rw [h2, stpQ_o, List.length_cons]; omega⟩
/-! numerals -/
theorem decP_app : ∀ (a : List Int) (d n : Int), 48 ≤ d → d ≤ 57 → decP (a ++ [d]) n = (if decP a n = -1 then -1 else if (9223372036854775807 - (d - 48)).tdiv 10 < decP a n then -1 else decP a n * 10 + (d - 48)) ∨ n < 0
  | [], d, n, h1, h2 => by
    by_cases hn : n < 0
    · exact .inr hn
    · left
      have e : decP [] n = n := rfl
      rw [e, if_neg (by omega)]
      show (if dgP d = false then -1 else if (9223372036854775807 - (d - 48)).tdiv 10 < n then -1 else decP [] (n * 10 + (d - 48))) = _
      rw [if_neg (by unfold dgP; simp; omega)]
      rfl
  | c :: a, d, n, h1, h2 => by
    by_cases hn : n < 0
    · exact .inr hn
    · left
      rw [List.cons_append]
      unfold decP
      by_cases hd : dgP c = false
      · rw [if_pos hd, if_pos hd]; rfl
      · rw [if_neg hd, if_neg hd]
        have hd : 48 ≤ c ∧ c ≤ 57 := by unfold dgP at hd; simpa using hd
        by_cases ht : (9223372036854775807 - (c - 48)).tdiv 10 < n
        · rw [if_pos ht, if_pos ht]; rfl
        · rw [if_neg ht, if_neg ht]
          rcases decP_app a d (n * 10 + (c - 48)) h1 h2 with h | h
          · exact h
          · omega
theorem dec_ne (v : Nat) : decL v ≠ [] := by
  rw [decL]
  split
  · simp
  · simp
theorem dec_back : ∀ (v : Nat), v ≤ 9223372036854775807 → decP (decL v) 0 = v := by
  intro v
  induction v using Nat.strongRecOn with
  | ind v ih =>
    intro hv
    rw [decL]
    split
    · next h =>
      show (if dgP (48 + (v : Int)) = false then -1 else if (9223372036854775807 - (48 + (v : Int) - 48)).tdiv 10 < 0 then -1 else decP [] (0 * 10 + (48 + (v : Int) - 48))) = _
      rw [if_neg (by unfold dgP; simp; omega), if_neg (by rw [Int.tdiv_eq_ediv_of_nonneg (by omega)]; omega)]
      show 0 * 10 + (48 + (v : Int) - 48) = v
      omega
    · next h =>
      have h1 := ih (v / 10) (by omega) (by omega)
      rcases decP_app (decL (v / 10)) (48 + ((v % 10 : Nat) : Int)) 0 (by omega) (by omega) with e | e
      · rw [e, h1, if_neg (by omega), if_neg (by rw [Int.tdiv_eq_ediv_of_nonneg (by omega)]; omega)]
        omega
      · omega
theorem decimal_back {v : Nat} (h : v ≤ 9223372036854775807) : decimalP (decL v) = v := by
  unfold decimalP
  rw [if_neg (dec_ne v)]
  exact dec_back v h
theorem dec_wd : ∀ (v : Nat), ∀ c ∈ decL v, 48 ≤ c ∧ c ≤ 57 := by
  intro v
  induction v using Nat.strongRecOn with
  | ind v ih =>
    intro c hc
    rw [decL] at hc
    split at hc
    · simp at hc; omega
    · rcases List.mem_append.1 hc with q | q
      · exact ih (v / 10) (by omega) c q
      · simp at q; omega
theorem dec_wdI (v : Nat) : ∀ c ∈ decL v, wdI c := fun c hc => .inl (dec_wd v c hc)
/-! words -/
theorem strL_eq (x : ByteArray) : strL x = x.toList.map (fun b => (b.toNat : Int)) := by
  unfold strL
  rw [ByteArray.toList_eq]
theorem wdC_nat : ∀ b : UInt8, wdC b = true → ((48 ≤ b.toNat ∧ b.toNat ≤ 57) ∨ (65 ≤ b.toNat ∧ b.toNat ≤ 90) ∨ b.toNat = 95) ∧ (¬ (48 ≤ b && b ≤ 57) = true → ¬ (48 ≤ b.toNat ∧ b.toNat ≤ 57)) := by
  intro b h
  unfold wdC at h
  simp only [Bool.or_eq_true, Bool.and_eq_true, decide_eq_true_eq, beq_iff_eq, UInt8.le_iff_toNat_le] at h ⊢
  refine ⟨?_, fun z => z⟩
  rcases h with (h | h) | h
  · exact .inl h
  · exact .inr (.inl h)
  · right; right; rw [h]; rfl
theorem gN_facts {x : ByteArray} (h : gN x = true) : (∀ c ∈ strL x, wdI c) ∧ (∃ c r, strL x = c :: r ∧ ¬ (48 ≤ c ∧ c ≤ 57)) ∧ kwP x.toList = false := by
  unfold gN at h
  simp only [Bool.and_eq_true, Bool.not_eq_true'] at h
  obtain ⟨⟨⟨h1, h2⟩, h3⟩, h4⟩ := h
  rw [List.all_eq_true] at h4
  rw [strL_eq]
  refine ⟨?_, ?_, h3⟩
  · intro c hc
    obtain ⟨b, hb, rfl⟩ := List.mem_map.1 hc
    have := (wdC_nat b (h4 b hb)).1
    unfold wdI
    omega
  · cases hx : x.toList with
    | nil => rw [hx] at h1; cases h1
    | cons b r =>
      rw [hx] at h2 h4
      refine ⟨_, _, rfl, ?_⟩
      have := (wdC_nat b (h4 b (List.mem_cons_self ..))).2 (by dsimp only at h2; rw [h2]; exact Bool.false_ne_true)
      dsimp only
      omega
def fstB : List UInt8 → Bool
  | [] => false
  | b :: _ => !(48 ≤ b && b ≤ 57)
theorem kw_facts {x : ByteArray} (h : kwP x.toList = true) : (∀ c ∈ strL x, wdI c) ∧ ∃ c r, strL x = c :: r ∧ ¬ (48 ≤ c ∧ c ≤ 57) := by
  rw [strL_eq]
  generalize x.toList = t at *
  have key : t.all wdC = true ∧ fstB t = true := by
    have : t = [80, 82, 79, 71, 82, 65, 77] ∨ t = [69, 78, 68, 95, 80, 82, 79, 71, 82, 65, 77] ∨ t = [86, 65, 82] ∨ t = [86, 65, 82, 95, 73, 78, 80, 85, 84] ∨ t = [86, 65, 82, 95, 79, 85, 84, 80, 85, 84] ∨ t = [69, 78, 68, 95, 86, 65, 82] ∨ t = [65, 82, 82, 65, 89] ∨ t = [79, 70] ∨ t = [73, 70] ∨ t = [84, 72, 69, 78] ∨ t = [69, 76, 83, 73, 70] ∨ t = [69, 76, 83, 69] ∨ t = [69, 78, 68, 95, 73, 70] ∨ t = [70, 79, 82] ∨ t = [84, 79] ∨ t = [68, 79] ∨ t = [69, 78, 68, 95, 70, 79, 82] ∨ t = [82, 85, 78, 71] ∨ t = [83, 69, 84] ∨ t = [82, 69, 83, 69, 84] ∨ t = [73, 78, 86, 65, 82, 73, 65, 78, 84] ∨ t = [82, 69, 83, 80, 79, 78, 83, 69] ∨ t = [87, 73, 84, 72, 73, 78] ∨ t = [84, 82, 85, 69] ∨ t = [70, 65, 76, 83, 69] ∨ t = [79, 82] ∨ t = [88, 79, 82] ∨ t = [65, 78, 68] ∨ t = [77, 79, 68] ∨ t = [78, 79, 84] := by
      apply Classical.byContradiction
      intro z
      simp only [not_or] at z
      have : kwP t = false := by unfold kwP; simp [z]
      rw [this] at h
      cases h
    clear h
    rcases this with rfl | rfl | rfl | rfl | rfl | rfl | rfl | rfl | rfl | rfl | rfl | rfl | rfl | rfl | rfl | rfl | rfl | rfl | rfl | rfl | rfl | rfl | rfl | rfl | rfl | rfl | rfl | rfl | rfl | rfl <;> decide
  obtain ⟨h4, h2⟩ := key
  rw [List.all_eq_true] at h4
  refine ⟨?_, ?_⟩
  · intro c hc
    obtain ⟨b, hb, rfl⟩ := List.mem_map.1 hc
    have := (wdC_nat b (h4 b hb)).1
    unfold wdI
    omega
  · cases t with
    | nil => cases h2
    | cons b r =>
      refine ⟨_, _, rfl, ?_⟩
      have := (wdC_nat b (h4 b (List.mem_cons_self ..))).2 (by
        intro z
        simp only [fstB] at h2
        rw [z] at h2
        cases h2)
      dsimp only
      omega
theorem sf_wd {c : Int} (h : sf c = true) : wdB c = false ∧ c ≠ 35 := by
  unfold sf at h
  simpa using h
theorem wdB_not {c : Int} (h : wdB c = true) : ¬ (c = 32 ∨ c = 9 ∨ c = 13 ∨ c = 10) ∧ c ≠ 47 ∧ c ≠ 40 := by
  unfold wdB ltP dgP at h
  simp at h
  omega
theorem next_skip {q q' : Pl} (h : skP s q = skP s q') (hh : skP s q' = (true, q')) : nextP s q = nx2 s q' := by
  unfold nextP
  rw [h, hh, if_pos rfl]
theorem nx2_word {q : Pl} {x : ByteArray} {rest : List Int} (h : s.drop q.o = strL x ++ rest) (hx : ∀ c ∈ strL x, wdI c) (hf : ∃ c r, strL x = c :: r ∧ ¬ (48 ≤ c ∧ c ≤ 57)) (hr : sf (hdI rest) = true) : nx2 s q = (wordT q x, ⟨q.o + (strL x).length, q.l, q.b⟩) := by
  obtain ⟨c, r, hc, hnd⟩ := hf
  have hr := sf_wd hr
  have hlt := drop_lt h (by rw [hc]; simp)
  have hb : byP s q.o = c := by rw [byP_hd, h, hc]; rfl
  obtain ⟨h1, h2⟩ := run1_app h (fun c hc => wd_B (hx c hc)) hr.1
  rw [up_id hx] at h1
  have hwc : wdI c := hx c (by rw [hc]; exact List.mem_cons_self ..)
  unfold wdI at hwc
  unfold nx2
  rw [if_neg (by omega), hb, if_neg (by unfold dgP; simp; omega), if_neg (by unfold ltP; simp; omega), h1, h2, if_neg, str_of]
  rintro ⟨e1, e2⟩
  apply hr.2
  rw [byP_hd] at e2
  have := drop_app h
  rw [e1] at this
  rw [← this]
  exact e2
theorem nx2_num {q : Pl} {v : Nat} {rest : List Int} (h : s.drop q.o = decL v ++ rest) (hv : v ≤ 9223372036854775807) (hr : sf (hdI rest) = true) : (nx2 s q).1.k = 3 ∧ (nx2 s q).1.v = v ∧ (nx2 s q).2.o = q.o + (decL v).length := by
  have hr := sf_wd hr
  have hlt := drop_lt h (dec_ne v)
  have hd : 48 ≤ byP s q.o ∧ byP s q.o ≤ 57 := by
    rw [byP_hd, h]
    cases hq : decL v with
    | nil => exact absurd hq (dec_ne v)
    | cons c r => exact dec_wd v c (by rw [hq]; exact List.mem_cons_self ..)
  obtain ⟨h1, h2⟩ := run1_app h (fun c hc => wd_B (dec_wdI v c hc)) hr.1
  rw [up_id (dec_wdI v)] at h1
  unfold nx2
  rw [if_neg (by omega), if_pos (by unfold dgP; simp; omega), h1, h2, decimal_back hv]
  have e : negT { tk0 q with k := 3, v := (v : Int) } = { tk0 q with k := 3, v := (v : Int) } := if_neg (by show ¬ (v : Int) < 0; omega)
  rw [e]
  exact ⟨rfl, rfl, rfl⟩
theorem msV_back {v : Nat} (hv : v ≤ 9223372036854775807) : msV (decL v ++ [77, 83]) = v := by
  unfold msV
  have e : (decL v ++ [77, 83]).length - 2 = (decL v).length := by rw [List.length_append]; rfl
  rw [if_pos, e, List.take_left, decimal_back hv]
  refine ⟨by rw [List.length_append]; show 2 ≤ _ + 2; omega, ?_, ?_⟩
  · rw [e, List.getD_eq_getElem?_getD, List.getElem?_append_right (Nat.le_refl _), Nat.sub_self]
    rfl
  · have e1 : (decL v ++ [77, 83]).length - 1 = (decL v).length + 1 := by rw [List.length_append]; rfl
    rw [e1, List.getD_eq_getElem?_getD, List.getElem?_append_right (by omega), Nat.add_sub_cancel_left]
    rfl
theorem nx2_tim {q : Pl} {v : Nat} {rest : List Int} (h : s.drop q.o = [84, 35] ++ decL v ++ [109, 115] ++ rest) (hv : v ≤ 9223372036854775807) (hr : sf (hdI rest) = true) : (nx2 s q).1.k = 4 ∧ (nx2 s q).1.v = v ∧ (nx2 s q).2.o = q.o + (spell (.tim v)).length := by
  have hr := sf_wd hr
  have h0 : s.drop q.o = [84] ++ (35 :: (decL v ++ [109, 115] ++ rest)) := by rw [h]; simp
  have hlt := drop_lt h0 (by simp)
  have hb : byP s q.o = 84 := by rw [byP_hd, h0]; rfl
  have hb2 : byP s ((q.o + 1 : Nat) : Int) = 35 := by
    have := drop_app (a := [84]) h0
    rw [byP_hd, show q.o + 1 = q.o + ([84] : List Int).length from rfl, this]
    rfl
  obtain ⟨h1, h2⟩ := run1_app h0 (by decide) (by show wdB 35 = false; decide)
  have h3 : s.drop (q.o + 2) = (decL v ++ [109, 115]) ++ rest := by
    have : s.drop q.o = [84, 35] ++ (decL v ++ [109, 115] ++ rest) := by rw [h]; simp
    exact drop_app (a := [84, 35]) this
  obtain ⟨h4, h5⟩ := run1_app h3 (fun c hc => by
    rcases List.mem_append.1 hc with hc | hc
    · exact wd_B (dec_wdI v c hc)
    · rcases List.mem_cons.1 hc with rfl | hc
      · rfl
      · rcases List.mem_cons.1 hc with rfl | hc
        · rfl
        · cases hc) hr.1
  rw [List.map_append, up_id (dec_wdI v)] at h4
  unfold nx2
  rw [if_neg (by omega), hb, if_neg (by decide), if_neg (by decide), if_pos ⟨by rw [h1]; rfl, hb2⟩, h4, h5]
  have e0 : decL v ++ List.map upP [109, 115] = decL v ++ [77, 83] := rfl
  rw [e0, msV_back hv]
  have e : negT { tk0 q with k := 4, v := (v : Int) } = { tk0 q with k := 4, v := (v : Int) } := if_neg (by show ¬ (v : Int) < 0; omega)
  rw [e]
  refine ⟨rfl, rfl, ?_⟩
  show q.o + 2 + (decL v ++ [109, 115]).length = q.o + ([84, 35] ++ decL v ++ [109, 115]).length
  simp only [List.length_append, List.length_cons, List.length_nil]
  omega
theorem oneM_not {c : Int} (h : oneM c = true) : wdB c = false ∧ ¬ (c = 32 ∨ c = 9 ∨ c = 13 ∨ c = 10) := by
  unfold oneM at h
  simp only [Bool.or_eq_true, beq_iff_eq] at h
  unfold wdB ltP dgP
  simp
  omega
theorem twoM_one {c d : Int} (h : twoM c d = true) : oneM c = true ∧ ¬ (c = 47 ∧ d = 47) ∧ ¬ (c = 40 ∧ d = 42) := by
  unfold twoM at h
  unfold oneM
  simp only [Bool.or_eq_true, Bool.and_eq_true, beq_iff_eq] at h ⊢
  omega
theorem nx2_mark {q : Pl} {x : ByteArray} (hk : kwP x.toList = false) {m : List Int} (hm : mkP (byP s q.o) (byP s ((q.o + 1 : Nat) : Int)) = m) (hx : strL x = m) (hlt : q.o < s.length) (ho : oneM (byP s q.o) = true) (hne : m ≠ []) : tkIs (.sym x) (nx2 s q).1 ∧ (nx2 s q).2.o = q.o + (strL x).length := by
  have h0 := (oneM_not ho).1
  unfold wdB at h0
  rw [Bool.or_eq_false_iff] at h0
  unfold nx2
  rw [if_neg (by omega), if_neg (by rw [h0.2]; exact Bool.false_ne_true), if_pos h0.1, hm, if_neg hne, ← hx, str_of]
  refine ⟨⟨rfl, rfl, ?_⟩, rfl⟩
  rw [if_neg]
  · rfl
  · intro z
    rw [z] at hk
    cases hk
theorem next_item {q : Pl} {w : List Int} {t : Tok} {rest : List Int} (h : s.drop q.o = w ++ (spell t ++ rest)) (hw : w.all blk = true) (hg : gT t = true) (hf : fT t (hdI rest) = true) : tkIs t (nextP s q).1 ∧ (nextP s q).2.o = q.o + w.length + (spell t).length := by
  obtain ⟨q', h1, h2⟩ := skP_ws w (spell t ++ rest) q h hw
  have h3 : s.drop q'.o = spell t ++ rest := by rw [h2]; exact drop_app h
  rw [← h2]
  have here : ∀ c r, spell t = c :: r → wdB c = true → skP s q' = (true, q') := fun c r e hc => by
    have hlt := drop_lt h3 (by rw [e]; simp)
    have hb : byP s q'.o = c := by rw [byP_hd, h3, e]; rfl
    have := wdB_not hc
    exact skP_here hlt (by rw [hb]; exact this.1) (by rw [hb]; exact fun z => this.2.1 z.1) (by rw [hb]; exact fun z => this.2.2 z.1)
  cases t with
  | nm x =>
    obtain ⟨a1, ⟨c, r, a2, a3⟩, a4⟩ := gN_facts hg
    rw [next_skip h1 (here c r a2 (wd_B (a1 c (by rw [a2]; exact List.mem_cons_self ..))))]
    have e := nx2_word h3 a1 ⟨c, r, a2, a3⟩ hf
    rw [e]
    exact ⟨⟨by show (if kwP x.toList = true then (5 : Int) else 2) = 2; rw [a4]; rfl, rfl⟩, rfl⟩
  | num v =>
    have hv : v ≤ 9223372036854775807 := by simpa [gT] using hg
    cases hq : decL v with
    | nil => exact absurd hq (dec_ne v)
    | cons c r =>
      rw [next_skip h1 (here c r hq (wd_B (dec_wdI v c (by rw [hq]; exact List.mem_cons_self ..))))]
      obtain ⟨a1, a2, a3⟩ := nx2_num h3 hv hf
      exact ⟨⟨a1, a2⟩, a3⟩
  | tim v =>
    have hv : v ≤ 9223372036854775807 := by simpa [gT] using hg
    rw [next_skip h1 (here 84 _ rfl (by decide))]
    obtain ⟨a1, a2, a3⟩ := nx2_tim h3 hv hf
    exact ⟨⟨a1, a2⟩, a3⟩
  | sym x =>
    by_cases hk : kwP x.toList = true
    · obtain ⟨a1, c, r, a2, a3⟩ := kw_facts hk
      rw [next_skip h1 (here c r a2 (wd_B (a1 c (by rw [a2]; exact List.mem_cons_self ..))))]
      have hf : sf (hdI rest) = true := by simp only [fT] at hf; rw [if_pos hk] at hf; exact hf
      have e := nx2_word h3 a1 ⟨c, r, a2, a3⟩ hf
      rw [e]
      exact ⟨⟨by show (if kwP x.toList = true then (5 : Int) else 2) = 5; rw [hk]; rfl, rfl, rfl⟩, rfl⟩
    · have hk : kwP x.toList = false := by simpa using hk
      simp only [gT] at hg
      rw [hk, Bool.false_or] at hg
      simp only [fT] at hf
      rw [hk, if_neg Bool.false_ne_true] at hf
      have h3 : s.drop q'.o = strL x ++ rest := h3
      show tkIs (.sym x) _ ∧ _ = q'.o + (strL x).length
      split at hg
      · next c hx =>
        rw [hx] at h3 hf
        dsimp only at hf
        have hlt := drop_lt h3 (by simp)
        have hb : byP s q'.o = c := by rw [byP_hd, h3]; rfl
        have hb2 : byP s ((q'.o + 1 : Nat) : Int) = hdI rest := by
          have := drop_app (a := [c]) h3
          rw [byP_hd, show q'.o + 1 = q'.o + ([c] : List Int).length from rfl, this]
        simp only [Bool.and_eq_true, Bool.not_eq_true', Bool.and_eq_false_iff, beq_eq_false_iff_ne] at hf
        have hno := oneM_not hg
        rw [next_skip h1 (skP_here hlt (by rw [hb]; exact hno.2) (by rw [hb, hb2]; rintro ⟨z1, z2⟩; rcases hf.1.2 with q | q; exact q z1; exact q z2) (by rw [hb, hb2]; rintro ⟨z1, z2⟩; rcases hf.2 with q | q; exact q z1; exact q z2))]
        exact nx2_mark hk (m := [c]) (by rw [hb, hb2]; unfold mkP; rw [hf.1.1, if_neg Bool.false_ne_true, if_pos hg]) hx hlt (by rw [hb]; exact hg) (by simp)
      · next c d hx =>
        rw [hx] at h3
        have hlt := drop_lt h3 (by simp)
        have hb : byP s q'.o = c := by rw [byP_hd, h3]; rfl
        have hb2 : byP s ((q'.o + 1 : Nat) : Int) = d := by
          have := drop_app (a := [c]) (b := d :: rest) h3
          rw [byP_hd, show q'.o + 1 = q'.o + ([c] : List Int).length from rfl, this]
          rfl
        obtain ⟨t1, t2, t3⟩ := twoM_one hg
        have hno := oneM_not t1
        rw [next_skip h1 (skP_here hlt (by rw [hb]; exact hno.2) (by rw [hb, hb2]; exact t2) (by rw [hb, hb2]; exact t3))]
        exact nx2_mark hk (m := [c, d]) (by rw [hb, hb2]; unfold mkP; rw [if_pos hg]) hx hlt (by rw [hb]; exact t1) (by simp)
      · cases hg
theorem next_end {q : Pl} {w : List Int} (h : s.drop q.o = w) (hw : w.all blk = true) (hq : q.o ≤ s.length) : (nextP s q).1.k = 0 := by
  obtain ⟨q', h1, h2⟩ := skP_ws w [] q (by rw [h, List.append_nil]) hw
  have hl : w.length = s.length - q.o := by rw [← h, List.length_drop]
  have he : skP s q' = (true, q') := skP_end (by omega)
  rw [next_skip h1 he]
  unfold nx2
  rw [if_pos (by omega)]
  rfl
/-! the whole -/
def tq (s : List Int) (q : Pl) : Nat → TK × Pl
  | 0 => nextP s q
  | k + 1 => nextP s (tq s q k).2
theorem tq_shift (s : List Int) (q : Pl) : ∀ k, tq s q (k + 1) = tq s (nextP s q).2 k
  | 0 => rfl
  | k + 1 => by
    show nextP s (tq s q (k + 1)).2 = nextP s (tq s (nextP s q).2 k).2
    rw [tq_shift s q k]
theorem tks_tq (h : s.length ≤ 1048576) : ∀ k, tks s k = tq s ⟨0, 1, 0⟩ k
  | 0 => by unfold tks tq; rw [if_neg (by omega)]
  | k + 1 => by show nextP s (tks s k).2 = nextP s (tq s ⟨0, 1, 0⟩ k).2; rw [tks_tq h k]
theorem lex_from : ∀ (L : List It) (rest : List Int) (q : Pl), s.drop q.o = flat L ++ rest → LXs L rest → (∀ i x, L[i]? = some x → tkIs x.2 (tq s q i).1) ∧ (rest.all blk = true → q.o ≤ s.length → (tq s q L.length).1.k = 0)
  | [], rest, q, h, _ => ⟨fun i x hx => by simp at hx, fun hr hq => next_end h hr hq⟩
  | (w, t) :: L, rest, q, h, hl => by
    obtain ⟨a1, a2, a3, a4⟩ := hl
    have h0 : s.drop q.o = w ++ (spell t ++ (flat L ++ rest)) := by
      rw [h]
      show w ++ spell t ++ flat L ++ rest = _
      simp
    obtain ⟨b1, b2⟩ := next_item h0 a1 a2 a3
    have h1 : s.drop (nextP s q).2.o = flat L ++ rest := by
      rw [b2, Nat.add_assoc, ← List.length_append]
      exact drop_app (a := w ++ spell t) (by rw [h0]; simp)
    obtain ⟨c1, c2⟩ := lex_from L rest (nextP s q).2 h1 a4
    refine ⟨fun i x hx => ?_, fun hr hq => ?_⟩
    · cases i with
      | zero =>
        simp at hx
        subst hx
        exact b1
      | succ i =>
        rw [tq_shift]
        exact c1 i x (by simpa using hx)
    · rw [List.length_cons, tq_shift]
      exact c2 hr (next_o s q hq).2.1
/-- the tokens from k on -/
def Stm (s : List Int) (k : Nat) (L : List Tok) : Prop := ∀ i t, L[i]? = some t → tkIs t (tks s (k + i)).1
theorem Stm.app {k : Nat} {A B : List Tok} (h : Stm s k (A ++ B)) : Stm s k A ∧ Stm s (k + A.length) B :=
  ⟨fun i t hi => h i t (by rw [List.getElem?_append_left (List.getElem?_eq_some_iff.1 hi).1]; exact hi), fun i t hi => by
    have := h (A.length + i) t (by rw [List.getElem?_append_right (by omega), Nat.add_sub_cancel_left]; exact hi)
    rw [Nat.add_assoc]
    exact this⟩
theorem Stm.hd {k : Nat} {t : Tok} {L : List Tok} (h : Stm s k (t :: L)) : tkIs t (tks s k).1 ∧ Stm s (k + 1) L :=
  ⟨h 0 t rfl, fun i u hi => by
    have := h (i + 1) u (by simpa using hi)
    rw [show k + 1 + i = k + (i + 1) by omega]
    exact this⟩
theorem lex_all {L : List It} {rest : List Int} (h : s = flat L ++ rest) (hl : s.length ≤ 1048576) (hx : LXs L rest) (hr : rest.all blk = true) : Stm s 0 (L.map Prod.snd) ∧ (tks s L.length).1.k = 0 := by
  obtain ⟨h1, h2⟩ := lex_from (s := s) L rest ⟨0, 1, 0⟩ h hx
  refine ⟨fun i t hi => ?_, ?_⟩
  · rw [List.getElem?_map] at hi
    obtain ⟨x, hx, rfl⟩ := Option.map_eq_some_iff.1 hi
    rw [Nat.zero_add, tks_tq hl]
    exact h1 i x hx
  · rw [tks_tq hl]
    exact h2 hr (Nat.zero_le _)
end Go.Proofs.Qxb6500774a
