import Derived.Test.Qxb6500778aP3
import Derived.Test.Qxb6500778aE9
namespace Go.Proofs.Qxb6500778a
open Go.RowKit

/-! ### What is printed is parsed back, plain -/
def blk (l : List Int) : Bool := l.all (fun c => spP c && !(c == 35))
theorem sk_blk : ∀ (b : List Int) (c : Int) (r : List Int), blk b = true → spP c = false → c ≠ 35 → skS false (b ++ c :: r) = b.length
  | [], c, r, _, h1, h2 => by rw [List.nil_append, skS, if_neg h2, if_neg (by rw [h1]; decide)]; rfl
  | x :: b, c, r, hb, h1, h2 => by
    simp only [blk, List.all_cons, Bool.and_eq_true, Bool.not_eq_true', beq_eq_false_iff_ne] at hb
    rw [List.cons_append, skS, if_neg hb.1.2, if_pos hb.1.1, sk_blk b c r hb.2 h1 h2, List.length_cons]
theorem sk_end : ∀ (b : List Int), blk b = true → skS false b = b.length
  | [], _ => rfl
  | x :: b, hb => by
    simp only [blk, List.all_cons, Bool.and_eq_true, Bool.not_eq_true', beq_eq_false_iff_ne] at hb
    rw [skS, if_neg hb.1.2, if_pos hb.1.1, sk_end b hb.2, List.length_cons]
def nwb : List Int → Bool
  | [] => true
  | c :: _ => !(wbP c)
theorem wl_word : ∀ (wd r : List Int), wd.all wbP = true → nwb r = true → wlW (wd ++ r) = wd.length
  | [], [], _, _ => rfl
  | [], c :: r, _, h => by
    have h : wbP c = false := by simpa [nwb] using h
    rw [List.nil_append, wlW, if_neg (by rw [h]; decide)]; rfl
  | x :: wd, r, hw, hr => by
    rw [List.all_cons, Bool.and_eq_true] at hw
    rw [List.cons_append, wlW, if_pos hw.1, wl_word wd r hw.2 hr, List.length_cons]
theorem wb_not {c : Int} (h : wbP c = true) : spP c = false ∧ c ≠ 35 ∧ c ≠ 47 ∧ c ≠ 123 ∧ c ≠ 125 := by
  simp only [wbP, dgP, Bool.or_eq_true, decide_eq_true_eq] at h
  simp only [spP, Bool.or_eq_false_iff, beq_eq_false_iff_ne]
  omega
theorem at_q {s : List Int} {o : Nat} {b l : List Int} (hs : s.drop o = b ++ l) : s.drop (o + b.length) = l := by
  rw [← List.drop_drop, hs, List.drop_left]
theorem lex_word {s : List Int} {o : Nat} {b : List Int} {c : Int} {wd r : List Int} (hs : s.drop o = b ++ ((c :: wd) ++ r)) (hb : blk b = true) (hw : (c :: wd).all wbP = true) (hr : nwb r = true) : (nxT s o).1 = wdT c (o + b.length) (c :: wd) ∧ s.drop (nxT s o).2 = r := by
  have hc : wbP c = true := by rw [List.all_cons, Bool.and_eq_true] at hw; exact hw.1
  obtain ⟨n1, n2, n3, n4, n5⟩ := wb_not hc
  have hq : skS false (s.drop o) = b.length := by rw [hs, List.cons_append]; exact sk_blk b c _ hb n1 n2
  have hd := at_q hs
  have hg : s[o + b.length]? = some c := by rw [← List.head?_drop, hd]; rfl
  unfold nxT
  simp only [hq, hg]
  rw [if_neg n3, if_neg n4, if_neg n5, if_neg (by rw [hc]; decide), hd, wl_word _ _ hw hr]
  refine ⟨by simp only [List.take_left], ?_⟩
  simp only []
  rw [← List.drop_drop, hd, List.drop_left]
theorem lex_mark {s : List Int} {o : Nat} {b : List Int} {c k : Int} {r : List Int} (hs : s.drop o = b ++ c :: r) (hb : blk b = true) (hk : (c = 47 ∧ k = 4) ∨ (c = 123 ∧ k = 5) ∨ (c = 125 ∧ k = 6)) : (nxT s o).1.k = k ∧ s.drop (nxT s o).2 = r := by
  have n1 : spP c = false := by rcases hk with ⟨rfl, _⟩ | ⟨rfl, _⟩ | ⟨rfl, _⟩ <;> decide
  have n2 : c ≠ 35 := by omega
  have hq : skS false (s.drop o) = b.length := by rw [hs]; exact sk_blk b c _ hb n1 n2
  have hd := at_q hs
  have hg : s[o + b.length]? = some c := by rw [← List.head?_drop, hd]; rfl
  have hd2 : s.drop (o + b.length + 1) = r := by rw [← List.drop_drop, hd]; rfl
  unfold nxT
  simp only [hq, hg]
  rcases hk with ⟨rfl, rfl⟩ | ⟨rfl, rfl⟩ | ⟨rfl, rfl⟩
  · rw [if_pos rfl]; exact ⟨rfl, hd2⟩
  · rw [if_neg (by decide), if_pos rfl]; exact ⟨rfl, hd2⟩
  · rw [if_neg (by decide), if_neg (by decide), if_pos rfl]; exact ⟨rfl, hd2⟩
theorem lex_end {s : List Int} {o : Nat} (hb : blk (s.drop o) = true) : (nxT s o).1.k = 0 := by
  have hq := sk_end _ hb
  have hg : s[o + (s.drop o).length]? = none := by rw [List.getElem?_eq_none]; rw [List.length_drop]; omega
  unfold nxT
  simp only [hq, hg]
/-- numbers -/
theorem dgF_app : ∀ (a b : List Int) (v : Int), dgF (a ++ b) v = (dgF a v).bind (dgF b)
  | [], b, v => rfl
  | c :: a, b, v => by
    rw [List.cons_append, dgF, dgF]
    split
    · rfl
    · exact dgF_app a b _
theorem dec_dig : ∀ (v : Nat), (decL v).all dgP = true := by
  intro v
  induction v using Nat.strongRecOn with
  | ind v ih =>
    rw [decL]
    split
    · simp only [List.all_cons, List.all_nil, dgP, Bool.and_true, decide_eq_true_eq]; omega
    · rw [List.all_append, ih (v / 10) (by omega)]
      simp only [List.all_cons, List.all_nil, dgP, Bool.and_true, Bool.true_and, decide_eq_true_eq]; omega
theorem dec_val : ∀ (v : Nat), v ≤ 1000000 → dgF (decL v) 0 = some (v : Int) := by
  intro v
  induction v using Nat.strongRecOn with
  | ind v ih =>
    intro hv
    rw [decL]
    split
    · rw [dgF, if_neg (by simp only [dgP, decide_eq_false_iff_not]; omega), if_neg (by omega), dgF]
      congr 1
      omega
    · rw [dgF_app, ih (v / 10) (by omega) (by omega), Option.bind_some, dgF, if_neg (by simp only [dgP, decide_eq_false_iff_not]; omega), if_neg (by omega), dgF]
      congr 1
      omega
theorem dec_ne (v : Nat) : ∃ c r, decL v = c :: r := by
  rw [decL]
  split
  · exact ⟨_, _, rfl⟩
  · cases decL (v / 10) with
    | nil => exact ⟨_, _, rfl⟩
    | cons c r => exact ⟨_, _, rfl⟩
theorem dig_wb {c : Int} (h : dgP c = true) : wbP c = true := by unfold wbP; rw [h]; rfl
theorem dec_wb (v : Nat) : (decL v).all wbP = true := by
  rw [List.all_eq_true]
  intro c hc
  exact dig_wb (List.all_eq_true.1 (dec_dig v) c hc)
theorem dec_B {v : Nat} (hv : v ≤ 1000000) : dgB (decL v) = true ∧ dgV (decL v) = (v : Int) := by
  obtain ⟨c, r, e⟩ := dec_ne v
  unfold dgB dgV
  rw [dec_val v hv]
  refine ⟨?_, rfl⟩
  rw [e]
  simp
/-- a piece of the text -/
inductive TK where
  | W (y : ByteArray)
  | Nm (n : Nat)
  | Dv (n : Nat)
  | Sl
  | Op
  | Cl
  | End
def TK.text : TK → List Int
  | .W y => strL y
  | .Nm n => decL n
  | .Dv n => 114 :: decL n
  | .Sl => [47]
  | .Op => [123]
  | .Cl => [125]
  | .End => []
def kwOk (y : ByteArray) : Bool := (strL y).all wbP && (!(dgB (strL y)) && ((!(dgB ((strL y).drop 1) && ((strL y).headD 0 == 114))) && (((strOfNums (strL y)).toList == y.toList) && decide (0 < (strL y).length))))
def TK.ok : TK → Prop
  | .W y => kwOk y = true
  | .Nm n => n ≤ 1000000
  | .Dv n => n ≤ 1000000
  | _ => True
def TK.is (t : Tok) : TK → Prop
  | .W y => t.k = 1 ∧ t.x.toList = y.toList
  | .Nm n => t.k = 2 ∧ t.v = n
  | .Dv n => t.k = 3 ∧ t.v = n
  | .Sl => t.k = 4
  | .Op => t.k = 5
  | .Cl => t.k = 6
  | .End => t.k = 0
def render (ps : List (List Int × TK)) : List Int := ps.flatMap (fun p => p.1 ++ p.2.text)
theorem render_cons (b : List Int) (t : TK) (ps : List (List Int × TK)) : render ((b, t) :: ps) = b ++ (t.text ++ render ps) := by
  unfold render; rw [List.flatMap_cons, List.append_assoc]
theorem render_app (a b : List (List Int × TK)) : render (a ++ b) = render a ++ render b := by
  unfold render; rw [List.flatMap_append]
def TK.mk : TK → Bool
  | .Sl => true
  | .Op => true
  | .Cl => true
  | _ => false
structure PA (s : List Int) (x : PSt) (t : TK) (ps : List (List Int × TK)) : Prop where
  e : x.e = 0
  rest : s.drop x.o = render ps
  tok : t.is x.t
theorem adv_to {s : List Int} {x : PSt} {t : TK} {b : List Int} {ps : List (List Int × TK)} (he : x.e = 0) (hs : s.drop x.o = render ((b, t) :: ps)) (hb : blk b = true) (ht : t.ok) (hn : t.mk = false → nwb (render ps) = true) (hE : t = .End → ps = []) : PA s (advP s x) t ps := by
  rw [render_cons] at hs
  cases t with
  | W y =>
    have hk : kwOk y = true := ht
    simp only [kwOk, Bool.and_eq_true, Bool.not_eq_true', beq_iff_eq, decide_eq_true_eq] at hk
    obtain ⟨h1, h2, h3, h4, h5⟩ := hk
    simp only [TK.text] at hs
    obtain ⟨c, r, e⟩ : ∃ c r, strL y = c :: r := by
      cases hh : strL y with
      | nil => rw [hh] at h5; cases h5
      | cons c r => exact ⟨c, r, rfl⟩
    rw [e] at hs h1 h2 h3 h4
    obtain ⟨k1, k2⟩ := lex_word hs hb h1 (hn rfl)
    refine ⟨he, k2, ?_⟩
    show TK.is (nxT s x.o).1 _
    rw [k1]
    unfold wdT
    rw [if_neg (by rw [h2]; decide), if_neg (by simpa using h3)]
    exact ⟨rfl, h4⟩
  | Nm n =>
    simp only [TK.text] at hs
    obtain ⟨c, r, e⟩ := dec_ne n
    have h1 := dec_wb n
    obtain ⟨h2, h3⟩ := dec_B (v := n) ht
    rw [e] at hs h1 h2 h3
    obtain ⟨k1, k2⟩ := lex_word hs hb h1 (hn rfl)
    refine ⟨he, k2, ?_⟩
    show TK.is (nxT s x.o).1 _
    rw [k1]
    unfold wdT
    rw [if_pos h2]
    exact ⟨rfl, h3⟩
  | Dv n =>
    simp only [TK.text] at hs
    have h1 : (114 :: decL n).all wbP = true := by rw [List.all_cons, dec_wb n]; rfl
    obtain ⟨h2, h3⟩ := dec_B (v := n) ht
    obtain ⟨k1, k2⟩ := lex_word hs hb h1 (hn rfl)
    refine ⟨he, k2, ?_⟩
    show TK.is (nxT s x.o).1 _
    rw [k1]
    unfold wdT
    have h0 : dgB (114 :: decL n) = false := by unfold dgB; rw [dgF]; rfl
    rw [if_neg (by rw [h0]; decide), if_pos (by rw [List.drop_succ_cons, List.drop_zero, h2]; rfl)]
    exact ⟨rfl, h3⟩
  | Sl =>
    obtain ⟨k1, k2⟩ := lex_mark (k := 4) hs hb (by omega)
    exact ⟨he, k2, k1⟩
  | Op =>
    obtain ⟨k1, k2⟩ := lex_mark (k := 5) hs hb (by omega)
    exact ⟨he, k2, k1⟩
  | Cl =>
    obtain ⟨k1, k2⟩ := lex_mark (k := 6) hs hb (by omega)
    exact ⟨he, k2, k1⟩
  | End =>
    have hp := hE rfl
    subst hp
    simp only [TK.text, render, List.flatMap_nil, List.append_nil] at hs
    have hk := lex_end (s := s) (o := x.o) (by rw [hs]; exact hb)
    refine ⟨he, ?_, hk⟩
    show s.drop (nxT s x.o).2 = _
    have hq := sk_end _ (show blk (s.drop x.o) = true by rw [hs]; exact hb)
    have hg : s[x.o + (s.drop x.o).length]? = none := by rw [List.getElem?_eq_none]; rw [List.length_drop]; omega
    unfold nxT
    simp only [hq, hg]
    rw [List.drop_eq_nil_of_le (by rw [List.length_drop]; omega)]
    rfl
theorem PA.adv {s : List Int} {x : PSt} {t0 t : TK} {b : List Int} {ps : List (List Int × TK)} (h : PA s x t0 ((b, t) :: ps)) (hb : blk b = true) (ht : t.ok) (hn : t.mk = false → nwb (render ps) = true) (hE : t = .End → ps = []) : PA s (advP s x) t ps := adv_to h.e h.rest hb ht hn hE
section
variable {s : List Int} {x : PSt} {ps : List (List Int × TK)}
theorem PA.isW {y : ByteArray} (h : PA s x (.W y) ps) (z : ByteArray) : isW x z = (y.toList == z.toList) := by
  unfold Go.Proofs.Qxb6500778a.isW
  rw [h.tok.1, h.tok.2]
  rfl
theorem PA.word {y : ByteArray} (h : PA s x (.W y) ps) : wordP s y x = advP s x := by
  unfold wordP
  rw [if_pos h.e, if_pos (by rw [h.isW]; exact beq_self_eq_true _)]
theorem PA.eit1 {y z : ByteArray} (h : PA s x (.W y) ps) : eitP s y z x = advP s x ∧ eitB x y = true := by
  unfold eitP eitB
  rw [if_pos h.e, if_pos (by rw [h.isW]; exact beq_self_eq_true _), h.isW, h.e]
  exact ⟨rfl, by simp⟩
theorem PA.eit2 {y z : ByteArray} (h : PA s x (.W z) ps) (hn : (z.toList == y.toList) = false) : eitP s y z x = advP s x ∧ eitB x y = false := by
  unfold eitP eitB
  rw [if_pos h.e, if_neg (by rw [h.isW, hn]; decide), h.word, h.isW, hn, h.e]
  exact ⟨rfl, rfl⟩
theorem PA.num {n : Nat} {m : Int} (h : PA s x (.Nm n) ps) (hm : (n : Int) ≤ m) : bndP s 2 m x = advP s x ∧ bndV 2 m x = n := by
  unfold bndP bndV
  rw [if_pos h.e, if_pos h.tok.1, if_pos (by rw [h.tok.2]; exact hm), if_pos ⟨h.e, h.tok.1, by rw [h.tok.2]; exact hm⟩]
  exact ⟨rfl, h.tok.2⟩
theorem PA.dev {n : Nat} {m : Int} (h : PA s x (.Dv n) ps) (hm : (n : Int) ≤ m) : bndP s 3 m x = advP s x ∧ bndV 3 m x = n := by
  unfold bndP bndV
  rw [if_pos h.e, if_pos h.tok.1, if_pos (by rw [h.tok.2]; exact hm), if_pos ⟨h.e, h.tok.1, by rw [h.tok.2]; exact hm⟩]
  exact ⟨rfl, h.tok.2⟩
theorem PA.mark {t : TK} {k : Int} (h : PA s x t ps) (hk : x.t.k = k) : punctP s k x = advP s x := by
  unfold punctP
  rw [if_pos h.e, if_pos hk]
/-- a prefix -/
theorem PA.pref {p l : Nat} {b : List Int} {t : TK} {c : Chg} (h : PA s x (.Nm p) (([], .Sl) :: ([], .Nm l) :: (b, t) :: ps)) (hp : p ≤ 255) (hl : l ≤ 8) (ha : algB (p : Int) (l : Int) = true) (hn : nwb (render ((b, t) :: ps)) = true) (hb : blk b = true) (ht : t.ok) (hn2 : t.mk = false → nwb (render ps) = true) (hE : t = .End → ps = []) :
    PA s (prefX s x) t ps ∧ prefC s x c = { { c with pr := (p : Int) } with ln := (l : Int) } := by
  have h1 := h.num (m := 255) (by omega)
  have p1 := h.adv rfl trivial (fun e => by cases e) (fun e => by cases e)
  have h2 := p1.mark (k := 4) p1.tok
  have p2 := p1.adv rfl (show l ≤ 1000000 by omega) (fun _ => hn) (fun e => by cases e)
  have h3 := p2.num (m := 8) (by omega)
  have p3 := p2.adv hb ht hn2 hE
  unfold prefX prefC
  simp only [h1.1, h1.2, h2, h3.1, h3.2]
  rw [if_pos p3.e, if_neg (by rw [ha]; decide)]
  exact ⟨p3, trivial⟩
end
end Go.Proofs.Qxb6500778a
