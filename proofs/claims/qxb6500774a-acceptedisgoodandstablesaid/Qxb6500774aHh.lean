import Derived.Test.Qxb6500774aHg
namespace Go.Proofs.Qxb6500774a
open Go.RowKit
set_option linter.unusedVariables false
set_option linter.unusedSimpArgs false
variable {s : List Int}

/-! ### The tokens of a printed expression -/
def itE : E → Int → List Int → List It
  | .num v _ _, _, w => [(w, .num v.toNat)]
  | .tim v _ _, _, w => [(w, .tim v.toNat)]
  | .bol v _ _, _, w => [(w, .sym (if v = 0 then bFAL else bTRU))]
  | .nm x _ _, _, w => [(w, .nm x)]
  | .fld e x _ _, _, w => itE e 0 w ++ [([], .sym bDOT), ([], .nm x)]
  | .idx e i _ _, _, w => itE e 0 w ++ (([], .sym bBRA) :: (itE i 0 [] ++ [([], .sym bKET)]))
  | .un op e _ _, _, w => (w, .sym op) :: itE e 8 (if op.toList = [78, 79, 84] then [32] else [])
  | .bin op a b _ _, m, w => if powP op.toList < m then (w, .sym bPAR) :: (itE a (powP op.toList) [] ++ (([32], .sym op) :: (itE b (powP op.toList + 1) [32] ++ [([], .sym bEND)])))
    else itE a (powP op.toList) w ++ (([32], .sym op) :: itE b (powP op.toList + 1) [32])
theorem pow_enum {t : List UInt8} (h : 0 < powP t) : t = [79, 82] ∨ t = [88, 79, 82] ∨ t = [65, 78, 68] ∨ t = [61] ∨ t = [60, 62] ∨ t = [60] ∨ t = [60, 61] ∨ t = [62] ∨ t = [62, 61] ∨ t = [43] ∨ t = [45] ∨ t = [42] ∨ t = [47] ∨ t = [77, 79, 68] := by
  apply Classical.byContradiction
  intro z
  simp only [not_or] at z
  have : powP t = 0 := by
    unfold powP
    simp [z]
  omega
theorem op_ok {x : ByteArray} (h : 0 < powP x.toList) : gT (.sym x) = true ∧ fT (.sym x) 32 = true := by
  simp only [gT, fT]
  rw [strL_eq]
  have := pow_enum h
  clear h
  rcases this with h | h | h | h | h | h | h | h | h | h | h | h | h | h <;> rw [h] <;> decide
theorem strL_toListE {x : ByteArray} {l : List UInt8} (h : x.toList = l) : strL x = l.map (fun b => (b.toNat : Int)) := by rw [strL_eq, h]
theorem tl_NOT : bNOT.toList = [78, 79, 84] := by rw [ByteArray.toList_eq]; rfl
theorem tl_MIN : bMIN.toList = [45] := by rw [ByteArray.toList_eq]; rfl
theorem flat_one (w : List Int) (t : Tok) : flat [(w, t)] = w ++ spell t := by
  show w ++ spell t ++ [] = _
  rw [List.append_nil]
theorem flat_cons (w : List Int) (t : Tok) (L : List It) : flat ((w, t) :: L) = w ++ spell t ++ flat L := rfl
theorem flat_itE : ∀ (e : E), gE e → ∀ (p : Int) (w : List Int), flat (itE e p w) = w ++ prE e p
  | .num v _ _, _, p, w => flat_one _ _
  | .tim v _ _, _, p, w => flat_one _ _
  | .bol v _ _, _, p, w => by
    show flat [_] = _
    rw [flat_one]
    congr 1
    show strL (if v = 0 then bFAL else bTRU) = if v = 0 then [70, 65, 76, 83, 69] else [84, 82, 85, 69]
    split <;> decide
  | .nm x _ _, _, p, w => flat_one _ _
  | .fld e x _ _, h, p, w => by
    show flat (itE e 0 w ++ [([], .sym bDOT), ([], .nm x)]) = w ++ (prE e 0 ++ ([46] ++ strL x))
    rw [flat_app, flat_itE e h.1 0 w, flat_cons, flat_one]
    show _ ++ ([] ++ [46] ++ ([] ++ strL x)) = _
    simp
  | .idx e i _ _, h, p, w => by
    show flat (itE e 0 w ++ (([], .sym bBRA) :: (itE i 0 [] ++ [([], .sym bKET)]))) = w ++ (prE e 0 ++ ([91] ++ prE i 0) ++ [93])
    rw [flat_app, flat_itE e h.1 0 w, flat_cons, flat_app, flat_itE i h.2.1 0 [], flat_one]
    show _ ++ ([] ++ [91] ++ ([] ++ prE i 0 ++ ([] ++ [93]))) = _
    simp
  | .un op e _ _, h, p, w => by
    show flat ((w, .sym op) :: itE e 8 (if op.toList = [78, 79, 84] then [32] else [])) = w ++ ((if op.toList = [78, 79, 84] then [78, 79, 84, 32] else strL op) ++ prE e 8)
    rw [flat_cons, flat_itE e h.1 8]
    split
    · next ho =>
      show w ++ strL op ++ _ = _
      rw [strL_toListE ho]
      simp
    · show w ++ strL op ++ _ = _
      simp
  | .bin op a b _ _, h, p, w => by
    show flat (if powP op.toList < p then (w, .sym bPAR) :: (itE a (powP op.toList) [] ++ (([32], .sym op) :: (itE b (powP op.toList + 1) [32] ++ [([], .sym bEND)]))) else itE a (powP op.toList) w ++ (([32], .sym op) :: itE b (powP op.toList + 1) [32])) = w ++ ((if powP op.toList < p then [40] else []) ++ prE a (powP op.toList) ++ ([32] ++ strL op ++ [32] ++ prE b (powP op.toList + 1)) ++ (if powP op.toList < p then [41] else []))
    split
    · rw [flat_cons, flat_app, flat_itE a h.1, flat_cons, flat_app, flat_itE b h.2.1, flat_one]
      show w ++ [40] ++ ([] ++ _ ++ ([32] ++ strL op ++ ([32] ++ _ ++ ([] ++ [41])))) = _
      simp
    · rw [flat_app, flat_itE a h.1, flat_cons, flat_itE b h.2.1]
      show _ ++ ([32] ++ strL op ++ _) = _
      simp
theorem hd_app {a : List Int} (h : a ≠ []) (b : List Int) : hdI (a ++ b) = hdI a := by
  cases a with
  | nil => exact absurd rfl h
  | cons c r => rfl
theorem hdE : ∀ (e : E), gE e → ∀ (p : Int), prE e p ≠ [] ∧ hdI (prE e p) ≠ 42
  | .num v _ _, h, p => by
    refine ⟨dec_ne _, ?_⟩
    show hdI (decL v.toNat) ≠ 42
    cases hq : decL v.toNat with
    | nil => exact absurd hq (dec_ne _)
    | cons c r => have := dec_wd _ c (by rw [hq]; exact List.mem_cons_self ..); show c ≠ 42; omega
  | .tim v _ _, _, p => ⟨by simp [prE], by show (84 : Int) ≠ 42; decide⟩
  | .bol v _ _, _, p => by
    simp only [prE]
    split
    · exact ⟨by simp, by decide⟩
    · exact ⟨by simp, by decide⟩
  | .nm x _ _, h, p => by
    obtain ⟨a1, ⟨c, r, a2, a3⟩, a4⟩ := gN_facts h
    show strL x ≠ [] ∧ hdI (strL x) ≠ 42
    have := a1 c (by rw [a2]; exact List.mem_cons_self ..)
    rw [a2]
    unfold wdI at this
    exact ⟨by simp, by show c ≠ 42; omega⟩
  | .fld e x _ _, h, p => by
    have := hdE e h.1 0
    show prE e 0 ++ _ ≠ [] ∧ hdI (prE e 0 ++ _) ≠ 42
    rw [hd_app this.1]
    exact ⟨by simp [this.1], this.2⟩
  | .idx e i _ _, h, p => by
    have := hdE e h.1 0
    show prE e 0 ++ ([91] ++ prE i 0) ++ [93] ≠ [] ∧ hdI (prE e 0 ++ ([91] ++ prE i 0) ++ [93]) ≠ 42
    rw [List.append_assoc, hd_app this.1]
    exact ⟨by simp, this.2⟩
  | .un op e _ _, h, p => by
    show (if op.toList = [78, 79, 84] then [78, 79, 84, 32] else strL op) ++ prE e 8 ≠ [] ∧ hdI ((if op.toList = [78, 79, 84] then [78, 79, 84, 32] else strL op) ++ prE e 8) ≠ 42
    rcases h.2 with rfl | rfl
    · rw [if_pos tl_NOT]
      exact ⟨by simp, by show (78 : Int) ≠ 42; decide⟩
    · rw [if_neg (by rw [tl_MIN]; decide)]
      show [45] ++ _ ≠ [] ∧ _
      exact ⟨by simp, by show (45 : Int) ≠ 42; decide⟩
  | .bin op a b _ _, h, p => by
    have := hdE a h.1 (powP op.toList)
    simp only [prE]
    split
    · exact ⟨by simp, by show (40 : Int) ≠ 42; decide⟩
    · rw [List.nil_append, List.append_assoc, hd_app this.1]
      exact ⟨by simp, this.2⟩
theorem fT_MIN (n : Int) : fT (.sym bMIN) n = true := by
  simp only [fT]
  rw [if_neg (by rw [tl_MIN]; decide), show strL bMIN = [45] from rfl]
  unfold twoM
  simp
theorem LXs_itE : ∀ (e : E), gE e → ∀ (p : Int) (w rest : List Int), w.all blk = true → sf (hdI rest) = true → LXs (itE e p w) rest
  | .num v _ _, h, p, w, rest, hw, hr => ⟨hw, by simp only [gT]; exact decide_eq_true (by have := h.2; omega), hr, trivial⟩
  | .tim v _ _, h, p, w, rest, hw, hr => ⟨hw, by simp only [gT]; exact decide_eq_true (by have := h.2; omega), hr, trivial⟩
  | .bol v _ _, h, p, w, rest, hw, hr => by
    show LXs [(w, .sym (if v = 0 then bFAL else bTRU))] rest
    refine ⟨hw, ?_, ?_, trivial⟩
    · split <;> decide +kernel
    · show fT _ (hdI rest) = true
      split
      · simp only [fT]; rw [if_pos (by decide +kernel)]; exact hr
      · simp only [fT]; rw [if_pos (by decide +kernel)]; exact hr
  | .nm x _ _, h, p, w, rest, hw, hr => ⟨hw, h, hr, trivial⟩
  | .fld e x _ _, h, p, w, rest, hw, hr => by
    show LXs (itE e 0 w ++ [([], .sym bDOT), ([], .nm x)]) rest
    rw [LXs_app]
    refine ⟨LXs_itE e h.1 0 w _ hw ?_, rfl, by decide +kernel, ?_, rfl, h.2.1, hr, trivial⟩
    · show sf 46 = true; decide
    · obtain ⟨a1, ⟨c, r, a2, a3⟩, a4⟩ := gN_facts h.2.1
      have hc : wdI c := a1 c (by rw [a2]; exact List.mem_cons_self ..)
      show fT (.sym bDOT) (hdI (strL x ++ [] ++ rest)) = true
      rw [a2]
      show fT (.sym bDOT) c = true
      simp only [fT]
      rw [if_neg (by decide +kernel), show strL bDOT = [46] from rfl]
      unfold wdI at hc
      unfold twoM
      simp
      omega
  | .idx e i _ _, h, p, w, rest, hw, hr => by
    show LXs (itE e 0 w ++ (([], .sym bBRA) :: (itE i 0 [] ++ [([], .sym bKET)]))) rest
    rw [LXs_app]
    refine ⟨LXs_itE e h.1 0 w _ hw ?_, rfl, by decide +kernel, ?_, ?_⟩
    · show sf 91 = true; decide
    · simp only [fT]
      rw [if_neg (by decide +kernel), show strL bBRA = [91] from rfl]
      unfold twoM
      simp
    · rw [LXs_app]
      refine ⟨LXs_itE i h.2.1 0 [] _ rfl ?_, rfl, by decide +kernel, ?_, trivial⟩
      · show sf 93 = true; decide
      · simp only [fT]
        rw [if_neg (by decide +kernel), show strL bKET = [93] from rfl]
        unfold twoM
        simp
  | .un op e _ _, h, p, w, rest, hw, hr => by
    show LXs ((w, .sym op) :: itE e 8 (if op.toList = [78, 79, 84] then [32] else [])) rest
    refine ⟨hw, ?_, ?_, LXs_itE e h.1 8 _ _ (by split <;> rfl) hr⟩
    · rcases h.2 with rfl | rfl <;> decide +kernel
    · rw [flat_itE e h.1]
      rcases h.2 with rfl | rfl
      · rw [if_pos tl_NOT]
        show fT (.sym bNOT) 32 = true
        decide +kernel
      · exact fT_MIN _
  | .bin op a b _ _, h, p, w, rest, hw, hr => by
    have ho := op_ok h.2.2
    show LXs (if powP op.toList < p then (w, .sym bPAR) :: (itE a (powP op.toList) [] ++ (([32], .sym op) :: (itE b (powP op.toList + 1) [32] ++ [([], .sym bEND)]))) else itE a (powP op.toList) w ++ (([32], .sym op) :: itE b (powP op.toList + 1) [32])) rest
    split
    · refine ⟨hw, by decide +kernel, ?_, ?_⟩
      · rw [flat_app, flat_itE a h.1, List.nil_append]
        have := hdE a h.1 (powP op.toList)
        rw [List.append_assoc, hd_app this.1]
        simp only [fT]
        rw [if_neg (by decide +kernel), show strL bPAR = [40] from rfl]
        unfold twoM
        simp
        exact this.2
      · rw [LXs_app]
        refine ⟨LXs_itE a h.1 _ [] _ rfl (by show sf 32 = true; decide), rfl, ho.1, ?_, ?_⟩
        · rw [flat_app, flat_itE b h.2.1]
          exact ho.2
        · rw [LXs_app]
          refine ⟨LXs_itE b h.2.1 _ [32] _ rfl (by show sf 41 = true; decide), rfl, by decide +kernel, ?_, trivial⟩
          simp only [fT]
          rw [if_neg (by decide +kernel), show strL bEND = [41] from rfl]
          unfold twoM
          simp
    · rw [LXs_app]
      refine ⟨LXs_itE a h.1 _ w _ hw (by show sf 32 = true; decide), rfl, ho.1, ?_, LXs_itE b h.2.1 _ [32] _ rfl hr⟩
      rw [flat_itE b h.2.1]
      exact ho.2
end Go.Proofs.Qxb6500774a
