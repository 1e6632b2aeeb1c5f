import Derived.Test.Qxb6500774aPl1
namespace Go.Proofs.Qxb6500774a
open Go.RowKit

/-! ### The law's text -/
def sPROG : List Int := [80, 82, 79, 71, 82, 65, 77, 32, 80, 32]
def sIF : List Int := [73, 70, 32, 88, 32, 84, 72, 69, 78, 32]
def sFOR : List Int := [70, 79, 82, 32, 73, 32, 58, 61, 32, 48, 32, 84, 79, 32, 49, 32, 68, 79, 32]
def sASG : List Int := [88, 32, 58, 61, 32]
def sEIF : List Int := [32, 69, 78, 68, 95, 73, 70, 59]
def sEFOR : List Int := [32, 69, 78, 68, 95, 70, 79, 82, 59]
def sEP : List Int := [32, 69, 78, 68, 95, 80, 82, 79, 71, 82, 65, 77]
def opn : Nat → List Int
  | 0 => [40]
  | 1 => [65, 91]
  | 2 => [78, 79, 84, 32]
  | _ => [45]
def cls : Nat → List Int
  | 0 => [41]
  | 1 => [93]
  | _ => []
def exT : List Nat → List Int
  | [] => [49]
  | k :: r => opn k ++ (exT r ++ cls k)
def hdT (i : Nat) : List Int := if i % 2 = 0 then sIF else sFOR
def endT (i : Nat) : List Int := if i % 2 = 0 then sEIF else sEFOR
def bdT (ks : List Nat) : Nat → Nat → List Int
  | 0, _ => sASG ++ (exT ks ++ [59])
  | m + 1, i => hdT i ++ (bdT ks m (i + 1) ++ endT i)
def itsAt : Nat → List Nat → List It
  | _, [] => []
  | o, 0 :: r => .par (tkS [40] o) (tkS [41] (o + 1 + (exT r).length)) :: itsAt (o + 1) r
  | o, 1 :: r => .idx (tkN [65] o) (tkS [91] (o + 1)) (tkS [93] (o + 2 + (exT r).length)) :: itsAt (o + 2) r
  | o, 2 :: r => .un (tkS [78, 79, 84] o) :: itsAt (o + 4) r
  | o, (_ + 3) :: r => .un (tkS [45] o) :: itsAt (o + 1) r
def numAt : Nat → List Nat → Nat
  | o, [] => o
  | o, k :: r => numAt (o + (opn k).length) r
theorem sep_cons {c : Int} (r : List Int) (h : wordC c = false) : Sep (c :: r) := fun d _ e => by injection e with e1; rw [← e1]; exact h
section
variable {s : List Int}
/-- The expression's tokens. -/
theorem lex_ex (hs : Sane s) (hl : s.length ≤ 1099511627776) : ∀ (ks : List Nat) (o b : Nat) (rest : List Int), s.drop o = List.replicate b 32 ++ (exT ks ++ rest) → Sep rest → Lex s o (toks (itsAt (o + b) ks) (tkD 1 (numAt (o + b) ks))) (o + b + (exT ks).length) rest
  | [], o, b, rest, h, hsep => (rd_num hs hl h (.inr rfl) hsep).lex
  | 0 :: r, o, b, rest, h, hsep => by
    have r1 := rd_one hs hl (o := o) (b := b) (c := 40) (rest := exT r ++ ([41] ++ rest)) (by rw [h]; simp [exT, opn, cls]) (by decide)
    have ih := lex_ex hs hl r (o + b + 1) 0 ([41] ++ rest) r1.2.2 (sep_cons _ (by decide))
    have r2 := rd_one hs hl (c := 41) (b := 0) (rest := rest) ih.rest (by decide)
    have e : o + b + 1 + 0 + (exT r).length + 0 + 1 = o + b + (exT (0 :: r)).length := by simp [exT, opn, cls]; omega
    rw [e] at r2
    simp only [itsAt, toks, numAt, opn, List.length_cons, List.length_nil]
    exact r1.lex.app (ih.app r2.lex)
  | 1 :: r, o, b, rest, h, hsep => by
    have r0 := rd_word hs hl (o := o) (b := b) (c := 65) (x := []) (rest := [91] ++ (exT r ++ ([93] ++ rest))) (by rw [h]; simp [exT, opn, cls]) (by decide) (by decide) (sep_cons _ (by decide)) (fun _ => by decide) (by decide) 2 (by decide)
    have r1 := rd_one hs hl (b := 0) (c := 91) (rest := exT r ++ ([93] ++ rest)) r0.2.2 (by decide)
    have ih := lex_ex hs hl r (o + b + 1 + 0 + 1) 0 ([93] ++ rest) r1.2.2 (sep_cons _ (by decide))
    have r2 := rd_one hs hl (c := 93) (b := 0) (rest := rest) ih.rest (by decide)
    have e : o + b + 1 + 0 + 1 + 0 + (exT r).length + 0 + 1 = o + b + (exT (1 :: r)).length := by simp [exT, opn, cls]; omega
    rw [e] at r2
    simp only [itsAt, toks, numAt, opn, List.length_cons, List.length_nil]
    exact r0.lex.app (r1.lex.app (ih.app r2.lex))
  | 2 :: r, o, b, rest, h, hsep => by
    have r0 := rd_word hs hl (o := o) (b := b) (c := 78) (x := [79, 84]) (rest := List.replicate 1 32 ++ (exT r ++ rest)) (by rw [h]; simp [exT, opn, cls]) (by decide) (by decide) (sep_cons _ (by decide)) (fun e => by cases e) (by decide) 5 (by decide)
    have ih := lex_ex hs hl r (o + b + 3) 1 rest r0.2.2 hsep
    have e : o + b + 3 + 1 + (exT r).length = o + b + (exT (2 :: r)).length := by simp [exT, opn, cls]; omega
    rw [e] at ih
    simp only [itsAt, toks, numAt, opn, List.length_cons, List.length_nil]
    exact r0.lex.app ih
  | (k + 3) :: r, o, b, rest, h, hsep => by
    have r0 := rd_one hs hl (o := o) (b := b) (c := 45) (rest := exT r ++ rest) (by rw [h]; simp [exT, opn, cls]) (by decide)
    have ih := lex_ex hs hl r (o + b + 1) 0 rest r0.2.2 hsep
    have e : o + b + 1 + 0 + (exT r).length = o + b + (exT ((k + 3) :: r)).length := by simp [exT, opn, cls]; omega
    rw [e] at ih
    simp only [itsAt, toks, numAt, opn, List.length_cons, List.length_nil]
    exact r0.lex.app ih
end
def smAt (ks : List Nat) : Nat → Nat → Nat → Sm
  | 0, _, o => .asg (tkN [88] o) (tkS [58, 61] (o + 2)) (itsAt (o + 5) ks) (tkD 1 (numAt (o + 5) ks))
  | m + 1, i, o => if i % 2 = 0 then .ifs (tkS [73, 70] o) (tkN [88] (o + 3)) (tkS [84, 72, 69, 78] (o + 5)) (smAt ks m (i + 1) (o + 10)) (tkS [59] (o + 10 + (bdT ks m (i + 1)).length - 1)) (tkS [69, 78, 68, 95, 73, 70] (o + 10 + (bdT ks m (i + 1)).length + 1))
      else .fors (tkS [70, 79, 82] o) (tkN [73] (o + 4)) (tkS [58, 61] (o + 6)) (tkD 0 (o + 9)) (tkS [84, 79] (o + 11)) (tkD 1 (o + 14)) (tkS [68, 79] (o + 16)) (smAt ks m (i + 1) (o + 19)) (tkS [59] (o + 19 + (bdT ks m (i + 1)).length - 1)) (tkS [69, 78, 68, 95, 70, 79, 82] (o + 19 + (bdT ks m (i + 1)).length + 1))
section
variable {s : List Int}
/-- The statement's tokens, its semicolon among them. -/
theorem lex_bd (hs : Sane s) (hl : s.length ≤ 1099511627776) (ks : List Nat) : ∀ (m i o b : Nat) (rest : List Int), s.drop o = List.replicate b 32 ++ (bdT ks m i ++ rest) → Lex s o (smT (smAt ks m i (o + b)) ++ [tkS [59] (o + b + (bdT ks m i).length - 1)]) (o + b + (bdT ks m i).length) rest
  | 0, i, o, b, rest, h => by
    have r0 := rd_word hs hl (o := o) (b := b) (c := 88) (x := []) (rest := List.replicate 1 32 ++ ([58, 61] ++ (List.replicate 1 32 ++ (exT ks ++ ([59] ++ rest))))) (by rw [h]; simp [bdT, sASG]) (by decide) (by decide) (sep_cons _ (by decide)) (fun _ => by decide) (by decide) 2 (by decide)
    have r1 := rd_asg hs hl r0.2.2
    have ih := lex_ex hs hl ks _ 1 ([59] ++ rest) r1.2.2 (sep_cons _ (by decide))
    have r2 := rd_one hs hl (b := 0) (c := 59) (rest := rest) ih.rest (by decide)
    have e1 : o + b + (bdT ks 0 i).length = o + b + 1 + 1 + 2 + 1 + (exT ks).length + 0 + 1 := by simp [bdT, sASG]; omega
    rw [e1]
    have e2 : o + b + 1 + 1 + 2 + 1 + (exT ks).length + 0 + 1 - 1 = o + b + 1 + 1 + 2 + 1 + (exT ks).length + 0 := by omega
    rw [e2]
    simp only [smAt, smT]
    exact r0.lex.app (r1.lex.app (ih.app r2.lex))
  | m + 1, i, o, b, rest, h => by
    by_cases hi : i % 2 = 0
    · have hH : hdT i = sIF := if_pos hi
      have hE : endT i = sEIF := if_pos hi
      rw [bdT, hH, hE] at h ⊢
      have r0 := rd_word hs hl (o := o) (b := b) (c := 73) (x := [70]) (rest := List.replicate 1 32 ++ ([88] ++ (List.replicate 1 32 ++ ([84, 72, 69, 78] ++ (List.replicate 1 32 ++ (bdT ks m (i + 1) ++ (sEIF ++ rest))))))) (by rw [h]; simp [sIF]) (by decide) (by decide) (sep_cons _ (by decide)) (fun e => by cases e) (by decide) 5 (by decide)
      have r1 := rd_word hs hl (c := 88) (x := []) r0.2.2 (by decide) (by decide) (sep_cons _ (by decide)) (fun _ => by decide) (by decide) 2 (by decide)
      have r2 := rd_word hs hl (c := 84) (x := [72, 69, 78]) r1.2.2 (by decide) (by decide) (sep_cons _ (by decide)) (fun e => by cases e) (by decide) 5 (by decide)
      have ih := lex_bd hs hl ks m (i + 1) _ 1 (sEIF ++ rest) r2.2.2
      have r3 := rd_word hs hl (b := 1) (c := 69) (x := [78, 68, 95, 73, 70]) (rest := [59] ++ rest) ih.rest (by decide) (by decide) (sep_cons _ (by decide)) (fun e => by cases e) (by decide) 5 (by decide)
      have r4 := rd_one hs hl (b := 0) (c := 59) (rest := rest) r3.2.2 (by decide)
      simp only [List.length_cons, List.length_nil] at r1 r2 ih r3 r4
      rw [smAt, if_pos hi]
      simp only [smT]
      have e1 : o + b + (sIF ++ (bdT ks m (i + 1) ++ sEIF)).length = o + b + (0 + 1 + 1) + 1 + (0 + 1) + 1 + (0 + 1 + 1 + 1 + 1) + 1 + (bdT ks m (i + 1)).length + 1 + (0 + 1 + 1 + 1 + 1 + 1 + 1) + 0 + 1 := by simp [sIF, sEIF]; omega
      rw [e1, Nat.add_sub_cancel]
      have L := r0.lex.app (r1.lex.app (r2.lex.app (ih.app (r3.lex.app r4.lex))))
      simpa [tkS, tkN, Nat.add_assoc] using L
    · have hH : hdT i = sFOR := if_neg hi
      have hE : endT i = sEFOR := if_neg hi
      rw [bdT, hH, hE] at h ⊢
      have r0 := rd_word hs hl (o := o) (b := b) (c := 70) (x := [79, 82]) (rest := List.replicate 1 32 ++ ([73] ++ (List.replicate 1 32 ++ ([58, 61] ++ (List.replicate 1 32 ++ ([48] ++ (List.replicate 1 32 ++ ([84, 79] ++ (List.replicate 1 32 ++ ([49] ++ (List.replicate 1 32 ++ ([68, 79] ++ (List.replicate 1 32 ++ (bdT ks m (i + 1) ++ (sEFOR ++ rest))))))))))))))) (by rw [h]; simp [sFOR]) (by decide) (by decide) (sep_cons _ (by decide)) (fun e => by cases e) (by decide) 5 (by decide)
      have r1 := rd_word hs hl (c := 73) (x := []) r0.2.2 (by decide) (by decide) (sep_cons _ (by decide)) (fun _ => by decide) (by decide) 2 (by decide)
      have r2 := rd_asg hs hl r1.2.2
      have r3 := rd_num hs hl r2.2.2 (.inl rfl) (sep_cons _ (by decide))
      have r4 := rd_word hs hl (c := 84) (x := [79]) r3.2.2 (by decide) (by decide) (sep_cons _ (by decide)) (fun e => by cases e) (by decide) 5 (by decide)
      have r5 := rd_num hs hl r4.2.2 (.inr rfl) (sep_cons _ (by decide))
      have r6 := rd_word hs hl (c := 68) (x := [79]) r5.2.2 (by decide) (by decide) (sep_cons _ (by decide)) (fun e => by cases e) (by decide) 5 (by decide)
      have ih := lex_bd hs hl ks m (i + 1) _ 1 (sEFOR ++ rest) r6.2.2
      have r7 := rd_word hs hl (b := 1) (c := 69) (x := [78, 68, 95, 70, 79, 82]) (rest := [59] ++ rest) ih.rest (by decide) (by decide) (sep_cons _ (by decide)) (fun e => by cases e) (by decide) 5 (by decide)
      have r8 := rd_one hs hl (b := 0) (c := 59) (rest := rest) r7.2.2 (by decide)
      simp only [List.length_cons, List.length_nil] at r1 r2 r3 r4 r5 r6 ih r7 r8
      rw [smAt, if_neg hi]
      simp only [smT]
      have e1 : o + b + (sFOR ++ (bdT ks m (i + 1) ++ sEFOR)).length = o + b + (0 + 1 + 1 + 1) + 1 + (0 + 1) + 1 + 2 + 1 + 1 + 1 + (0 + 1 + 1) + 1 + 1 + 1 + (0 + 1 + 1) + 1 + (bdT ks m (i + 1)).length + 1 + (0 + 1 + 1 + 1 + 1 + 1 + 1 + 1) + 0 + 1 := by simp [sFOR, sEFOR]; omega
      rw [e1, Nat.add_sub_cancel]
      have L := r0.lex.app (r1.lex.app (r2.lex.app (r3.lex.app (r4.lex.app (r5.lex.app (r6.lex.app (ih.app (r7.lex.app r8.lex))))))))
      simpa [tkS, tkN, tkD, Nat.add_assoc] using L
end
end Go.Proofs.Qxb6500774a
