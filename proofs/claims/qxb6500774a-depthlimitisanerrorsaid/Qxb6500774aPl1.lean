import Derived.Test.Qxb6500774aPp2
import Derived.Test.Qxb6500774aNx2
import Derived.Test.Qxb6500774aNx3
namespace Go.Proofs.Qxb6500774a
open Go.RowKit

/-! ### Tokens from bytes -/
def tkS (x : List Int) (o : Nat) : Tk := ⟨5, strOfNums x, 0, 0, 1, (o : Int) + 1⟩
def tkN (x : List Int) (o : Nat) : Tk := ⟨2, strOfNums x, 0, 0, 1, (o : Int) + 1⟩
def tkD (v : Int) (o : Nat) : Tk := ⟨3, ⟨#[]⟩, v, 0, 1, (o : Int) + 1⟩
def tkE (o : Nat) : Tk := ⟨0, ⟨#[]⟩, 0, 0, 1, (o : Int) + 1⟩
def wordC (c : Int) : Bool := ltP c || dgP c
def Sep (l : List Int) : Prop := ∀ c r, l = c :: r → wordC c = false
/-- The token t is read at o; the lexer then stands at o', with l to come. -/
def Rd (s : List Int) (o : Nat) (t : Tk) (o' : Nat) (l : List Int) : Prop := Nx s o t o' ∧ o' ≤ s.length ∧ s.drop o' = l
theorem blanks_rep (b : Nat) (c : Int) (r : List Int) (hc : c ≠ 32) : blanks (List.replicate b 32 ++ (c :: r)) = b := by
  induction b with
  | zero => rw [List.replicate_zero, List.nil_append, blanks, if_neg hc]
  | succ b ih => rw [List.replicate_succ, List.cons_append, blanks, if_pos rfl, ih]
theorem wlen_app : ∀ (x rest : List Int), (∀ c ∈ x, wordC c = true) → Sep rest → wlen (x ++ rest) = x.length
  | [], rest, _, hs => by
    cases rest with
    | nil => rfl
    | cons c r => rw [List.nil_append, wlen, if_neg (by have := hs c r rfl; rw [wordC] at this; simp [this])]; rfl
  | c :: x, rest, hx, hs => by
    have hc := hx c List.mem_cons_self
    rw [List.cons_append, wlen, if_pos (by rw [wordC] at hc; exact hc), wlen_app x rest (fun d hd => hx d (List.mem_cons_of_mem _ hd)) hs, List.length_cons]
theorem drop_add {s : List Int} {o : Nat} {u v : List Int} (h : s.drop o = u ++ v) : s.drop (o + u.length) = v := by
  rw [← List.drop_drop, h, List.drop_left]
theorem drop_lt {s : List Int} {o : Nat} {c : Int} {r : List Int} (h : s.drop o = c :: r) : s[o]? = some c ∧ o < s.length := by
  have h0 : (s.drop o)[0]? = some c := by rw [h]; rfl
  rw [List.getElem?_drop] at h0
  exact ⟨h0, (List.getElem?_eq_some_iff.1 h0).1⟩
theorem drop_le {s : List Int} {o : Nat} {l : List Int} (h : s.drop o = l) (hl : l ≠ []) : o ≤ s.length := by
  by_cases g : o ≤ s.length
  · exact g
  · exact absurd ((List.drop_eq_nil_of_le (by omega)).symm.trans h).symm hl
/-- The four cases share this. -/
theorem at_tok {s : List Int} {o b : Nat} {c : Int} {r : List Int} (h : s.drop o = List.replicate b 32 ++ (c :: r)) (hc : c ≠ 32) : o + blanks (s.drop o) = o + b ∧ s.drop (o + b) = c :: r ∧ s[o + b]? = some c ∧ o + b < s.length := by
  have h1 : s.drop (o + b) = c :: r := by have := drop_add h; rwa [List.length_replicate] at this
  exact ⟨by rw [h, blanks_rep b c r hc], h1, (drop_lt h1).1, (drop_lt h1).2⟩
theorem rd_word {s : List Int} (hs : Sane s) (hl : s.length ≤ 1099511627776) {o b : Nat} {c : Int} {x rest : List Int} (h : s.drop o = List.replicate b 32 ++ ((c :: x) ++ rest)) (hx : ∀ d ∈ c :: x, wordC d = true) (hc : ltP c = true ∧ dgP c = false) (hsep : Sep rest)
    (hT : x = [] → (c == 84) = false) (hTR : ((strOfNums (c :: x)).data.toList == [84, 82, 85, 69]) = false) (kd : Int) (hkd : kd = if kwP (strOfNums (c :: x)).data.toList then 5 else 2) :
    Rd s o ⟨kd, strOfNums (c :: x), 0, 0, 1, ((o + b : Nat) : Int) + 1⟩ (o + b + (c :: x).length) rest := by
  have hc32 : c ≠ 32 := fun e => by subst e; simp [ltP] at hc
  rw [List.cons_append] at h
  obtain ⟨h1, h2, h3, h4⟩ := at_tok h hc32
  have hd : s.drop (o + b) = (c :: x) ++ rest := by rw [h2]; rfl
  have hw : wlen (s.drop (o + b)) = (c :: x).length := by rw [hd, wlen_app _ _ hx hsep]
  have ht : (s.drop (o + b)).take (c :: x).length = c :: x := by rw [hd, List.take_left]
  have hle : (o + b) + (c :: x).length ≤ s.length := by
    have := congrArg List.length hd
    rw [List.length_drop, List.length_append] at this
    omega
  refine ⟨fun R w p a cp hlx => ?_, hle, drop_add hd⟩
  exact next_word w p a cp s o (o + b) hlx hs (by omega) hl h1 (by omega) c h3 hc.1 hc.2 (c :: x).length hw.symm _ (by rw [ht]) (fun e => hT (by simpa using e)) (by rw [ByteArray.toList_eq]; exact hTR) kd (by rw [ByteArray.toList_eq]; exact hkd)
theorem rd_one {s : List Int} (hs : Sane s) (hl : s.length ≤ 1099511627776) {o b : Nat} {c : Int} {rest : List Int} (h : s.drop o = List.replicate b 32 ++ ([c] ++ rest)) (h6 : c = 59 ∨ c = 40 ∨ c = 41 ∨ c = 91 ∨ c = 93 ∨ c = 45) :
    Rd s o (tkS [c] (o + b)) (o + b + 1) rest := by
  have hc32 : c ≠ 32 := by omega
  obtain ⟨h1, h2, h3, h4⟩ := at_tok (r := rest) h hc32
  refine ⟨fun R w p a cp hlx => ?_, by omega, drop_add (u := [c]) h2⟩
  exact next_one w p a cp s o (o + b) hlx hs (by omega) hl h1 (by omega) c h3 h6
theorem rd_asg {s : List Int} (hs : Sane s) (hl : s.length ≤ 1099511627776) {o b : Nat} {rest : List Int} (h : s.drop o = List.replicate b 32 ++ ([58, 61] ++ rest)) :
    Rd s o (tkS [58, 61] (o + b)) (o + b + 2) rest := by
  obtain ⟨h1, h2, h3, h4⟩ := at_tok (r := 61 :: rest) h (by decide)
  have h5 := drop_lt (drop_add (u := [58]) h2)
  refine ⟨fun R w p a cp hlx => ?_, by have := h5.2; simp at this; omega, drop_add (u := [58, 61]) h2⟩
  exact next_asg w p a cp s o (o + b) hlx hs (by omega) hl h1 (by omega) 58 h3 rfl h5.1
theorem rd_num {s : List Int} (hs : Sane s) (hl : s.length ≤ 1099511627776) {o b : Nat} {c : Int} {rest : List Int} (h : s.drop o = List.replicate b 32 ++ ([c] ++ rest)) (hc : c = 48 ∨ c = 49) (hsep : Sep rest) :
    Rd s o (tkD (c - 48) (o + b)) (o + b + 1) rest := by
  have hc32 : c ≠ 32 := by omega
  obtain ⟨h1, h2, h3, h4⟩ := at_tok (r := rest) h hc32
  have hx : ∀ d ∈ [c], wordC d = true := fun d hd => by rw [List.mem_singleton.1 hd]; rcases hc with rfl | rfl <;> decide
  have hw : wlen (s.drop (o + b)) = 1 := by rw [h2]; exact wlen_app [c] rest hx hsep
  have ht : (s.drop (o + b)).take 1 = [c] := by rw [h2]; rfl
  refine ⟨fun R w p a cp hlx => ?_, by omega, drop_add (u := [c]) h2⟩
  exact next_num w p a cp s o (o + b) hlx hs (by omega) hl h1 (by omega) c h3 (by rcases hc with rfl | rfl <;> decide) 1 hw.symm (c - 48) (by rw [ht]; rcases hc with rfl | rfl <;> decide) (by omega)
theorem rd_end {s : List Int} (hs : Sane s) (hl : s.length ≤ 1099511627776) : Rd s s.length (tkE s.length) s.length [] := by
  refine ⟨fun R w p a cp hlx => ?_, Nat.le_refl _, List.drop_length⟩
  exact next_end w p a cp s s.length s.length hlx hs (Nat.le_refl _) hl (by rw [List.drop_length]; rfl) (Nat.le_refl _) rfl
/-- Several tokens. -/
def Lex (s : List Int) : Nat → List Tk → Nat → List Int → Prop
  | o, [], o', l => o = o' ∧ s.drop o = l
  | o, t :: T, o', l => ∃ o1 l1, Rd s o t o1 l1 ∧ Lex s o1 T o' l
theorem Lex.app {s : List Int} : ∀ {T : List Tk} {o o1 o2 : Nat} {l l2 : List Int} {T2 : List Tk}, Lex s o T o1 l → Lex s o1 T2 o2 l2 → Lex s o (T ++ T2) o2 l2
  | [], _, _, _, _, _, _, h, h2 => by obtain ⟨rfl, _⟩ := h; exact h2
  | _ :: _, _, _, _, _, _, _, h, h2 => by
    obtain ⟨o', l', hr, hl⟩ := h
    exact ⟨o', l', hr, hl.app h2⟩
theorem Lex.str {s : List Int} : ∀ {T : List Tk} {o o1 : Nat} {l : List Int} {K : List Tk}, Lex s o T o1 l → Str s o1 K → Str s o (T ++ K)
  | [], _, _, _, _, h, h2 => by obtain ⟨rfl, _⟩ := h; exact h2
  | _ :: _, _, _, _, _, h, h2 => by
    obtain ⟨o', l', hr, hl⟩ := h
    exact ⟨o', hr.1, hr.2.1, hl.str h2⟩
theorem Rd.lex {s : List Int} {o : Nat} {t : Tk} {o' : Nat} {l : List Int} (h : Rd s o t o' l) : Lex s o [t] o' l := ⟨o', l, h, rfl, h.2.2⟩
theorem Lex.rest {s : List Int} : ∀ {T : List Tk} {o o1 : Nat} {l : List Int}, Lex s o T o1 l → s.drop o1 = l
  | [], _, _, _, h => by obtain ⟨rfl, h2⟩ := h; exact h2
  | _ :: _, _, _, _, h => by
    obtain ⟨_, _, _, hl⟩ := h
    exact hl.rest
end Go.Proofs.Qxb6500774a
