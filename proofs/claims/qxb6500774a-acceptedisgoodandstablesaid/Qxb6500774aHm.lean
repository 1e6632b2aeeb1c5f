import Derived.Test.Qxb6500774aHl
namespace Go.Proofs.Qxb6500774a
open Go.RowKit
set_option linter.unusedVariables false
set_option linter.unusedSimpArgs false
variable {s : List Int}

/-! ### Printed statements are read back, the whole -/
/-- one statement, then the rest -/
theorem PSs.cons {j : SJob} {st st1 : PSt} {A T : S} {st2 : PSt} (hj : ∀ n, ps s (n + 1) .stmts st = (match ps s n j st with | none => none | some (A, st1) => match ps s n .stmts (expectS s bSEM st1) with | none => none | some (R, st2) => some (A.app R, st2))) (h1 : PSs s j st (A, st1)) (h2 : PSs s .stmts (expectS s bSEM st1) (T, st2)) : PSs s .stmts st (A.app T, st2) := by
  obtain ⟨n1, h1⟩ := h1
  obtain ⟨n2, h2⟩ := h2
  refine ⟨max n1 n2 + 1, ?_⟩
  rw [hj, ps_le (Nat.le_max_left n1 n2) h1]
  dsimp only
  rw [ps_le (Nat.le_max_right n1 n2) h2]
theorem stm_name {k : Nat} {d : Int} (h : (tks s k).1.k = 2) (n : Nat) : ps s (n + 1) .stmts (.at k d) = (match ps s n (.simple (tks s k).1.l (tks s k).1.c) (.at k d) with | none => none | some (A, st1) => match ps s n .stmts (expectS s bSEM st1) with | none => none | some (R, st2) => some (A.app R, st2)) := by
  conv => lhs; unfold ps
  rw [if_pos (show (tokS s (.at k d)).k = 2 from h)]
  rfl
theorem stm_if {k : Nat} {d : Int} (h : isK (tks s k).1 bIF = true) (n : Nat) : ps s (n + 1) .stmts (.at k d) = (match ps s n (.ifs (tks s k).1.l (tks s k).1.c) (.at k d) with | none => none | some (A, st1) => match ps s n .stmts (expectS s bSEM st1) with | none => none | some (R, st2) => some (A.app R, st2)) := by
  have h5 := isK_k h
  conv => lhs; unfold ps
  rw [if_neg (show ¬ (tokS s (.at k d)).k = 2 by show ¬ (tks s k).1.k = 2; omega), if_pos (show atS s bIF (.at k d) = true from h)]
  rfl
theorem stm_for {k : Nat} {d : Int} (h : isK (tks s k).1 bFOR = true) (n : Nat) : ps s (n + 1) .stmts (.at k d) = (match ps s n (.fors (tks s k).1.l (tks s k).1.c) (.at k d) with | none => none | some (A, st1) => match ps s n .stmts (expectS s bSEM st1) with | none => none | some (R, st2) => some (A.app R, st2)) := by
  have h5 := isK_k h
  have hx := isK_x h
  have n1 : atS s bIF (.at k d) = false := isK_ne rfl (by rw [hx, tl_FOR, tl_IF]; decide)
  conv => lhs; unfold ps
  rw [if_neg (show ¬ (tokS s (.at k d)).k = 2 by show ¬ (tks s k).1.k = 2; omega), if_neg (by rw [n1]; exact Bool.false_ne_true), if_pos (show atS s bFOR (.at k d) = true from h)]
  rfl
theorem PSs.rung {k : Nat} {d : Int} {st1 : PSt} {A T : S} {st2 : PSt} (h : isK (tks s k).1 bRUN = true) (h1 : PSs s (.rungs (tks s k).1.l (tks s k).1.c) (.at (k + 1) d) (A, st1)) (h2 : PSs s .stmts (expectS s bSEM st1) (T, st2)) : PSs s .stmts (.at k d) (A.app T, st2) := by
  obtain ⟨n1, h1⟩ := h1
  obtain ⟨n2, h2⟩ := h2
  have h5 := isK_k h
  have hx := isK_x h
  have m1 : atS s bIF (.at k d) = false := isK_ne rfl (by rw [hx, tl_RUN, tl_IF]; decide)
  have m2 : atS s bFOR (.at k d) = false := isK_ne rfl (by rw [hx, tl_RUN, tl_FOR]; decide)
  refine ⟨max n1 n2 + 1, ?_⟩
  unfold ps
  rw [if_neg (show ¬ (tokS s (.at k d)).k = 2 by show ¬ (tks s k).1.k = 2; omega), if_neg (by rw [m1]; exact Bool.false_ne_true), if_neg (by rw [m2]; exact Bool.false_ne_true), accept_t h, if_pos rfl]
  dsimp only
  rw [show (tokS s (.at k d)) = (tks s k).1 from rfl, ps_le (Nat.le_max_left n1 n2) h1]
  dsimp only
  rw [ps_le (Nat.le_max_right n1 n2) h2]
theorem PSs.nil {k : Nat} {d : Int} {x : ByteArray} (h : Edr x) (t : tkIs (.sym x) (tks s k).1) : PSs s .stmts (.at k d) (.nil, .at k d) := by
  have h5 := t.1
  have m1 : atS s bIF (.at k d) = false := isK_ne t.2.1 (by rw [tl_IF]; exact h.i)
  have m2 : atS s bFOR (.at k d) = false := isK_ne t.2.1 (by rw [tl_FOR]; exact h.f)
  have m3 : isK (tks s k).1 bRUN = false := isK_ne t.2.1 (by rw [tl_RUN]; exact h.r)
  refine ⟨1, ?_⟩
  unfold ps
  rw [if_neg (show ¬ (tokS s (.at k d)).k = 2 by show ¬ (tks s k).1.k = 2; omega), if_neg (by rw [m1]; exact Bool.false_ne_true), if_neg (by rw [m2]; exact Bool.false_ne_true), accept_n m3, if_neg Bool.false_ne_true]
theorem openT {k : Nat} {d : Int} (hd : d < 64) : openS s (.at k d) = (true, .at (k + 1) (d + 1)) := by unfold openS; dsimp only; rw [if_neg (by omega)]
theorem decT (k : Nat) (d : Int) : decS (.at k (d + 1)) = .at k d := by show PSt.at k (d + 1 - 1) = _; rw [show d + 1 - 1 = d by omega]
theorem PSs.asg {k k1 k2 : Nat} {d l c : Int} {t e : E} (h1 : PJ s .plac (.at k d) (t, .at k1 d)) (hk : tkIs (.sym bASG) (tks s k1).1) (h2 : PJ s (.expr 1) (.at (k1 + 1) d) (e, .at k2 d)) : PSs s (.simple l c) (.at k d) (.asg t e l c .nil, .at k2 d) := by
  obtain ⟨n1, h1⟩ := h1
  obtain ⟨n2, h2⟩ := h2
  refine ⟨max n1 n2 + 1, ?_⟩
  unfold ps
  rw [pj_le (Nat.le_max_left n1 n2) h1]
  dsimp only
  rw [accept_n (sym_Kn hk (by rw [tl_ASG, tl_PAR]; decide)), if_neg (by simp), expect_t (sym_K hk rfl), pj_le (Nat.le_max_right n1 n2) h2]
theorem PSs.call0 {k k1 : Nat} {d l c : Int} {x : ByteArray} {l' c' : Int} (h1 : PJ s .plac (.at k d) (.nm x l' c', .at k1 d)) (hk : tkIs (.sym bPAR) (tks s k1).1) (hk2 : tkIs (.sym bEND) (tks s (k1 + 1)).1) : PSs s (.simple l c) (.at k d) (.call x [] l c .nil, .at (k1 + 1 + 1) d) := by
  obtain ⟨n1, h1⟩ := h1
  refine ⟨n1 + 1, ?_⟩
  unfold ps
  rw [h1]
  dsimp only
  rw [accept_t (sym_K hk rfl), if_pos ⟨rfl, rfl⟩]
  dsimp only
  rw [if_pos (show atS s bEND (.at (k1 + 1) d) = true from sym_K hk2 rfl), expect_t (sym_K hk2 rfl)]
  rfl
theorem PSs.call {k k1 k2 : Nat} {d l c : Int} {x : ByteArray} {l' c' : Int} {L : List (ByteArray × E)} (h1 : PJ s .plac (.at k d) (.nm x l' c', .at k1 d)) (hk : tkIs (.sym bPAR) (tks s k1).1) (hn : (tks s (k1 + 1)).1.k = 2) (h2 : PAs s (.at (k1 + 1) d) (L, .at k2 d)) (hk2 : tkIs (.sym bEND) (tks s k2).1) : PSs s (.simple l c) (.at k d) (.call x L l c .nil, .at (k2 + 1) d) := by
  obtain ⟨n1, h1⟩ := h1
  obtain ⟨n2, h2⟩ := h2
  refine ⟨max n1 n2 + 1, ?_⟩
  have m : atS s bEND (.at (k1 + 1) d) = false := isK_f (by omega)
  unfold ps
  rw [pj_le (Nat.le_max_left n1 n2) h1]
  dsimp only
  rw [accept_t (sym_K hk rfl), if_pos ⟨rfl, rfl⟩]
  dsimp only
  rw [if_neg (by rw [m]; exact Bool.false_ne_true), pargs_le (Nat.le_max_right n1 n2) h2]
  dsimp only
  rw [expect_t (sym_K hk2 rfl)]
  rfl
theorem PSs.iff0 {k k1 : Nat} {d l c : Int} {A : S} (hd : d < 64) (h1 : PSs s .arms (.at (k + 1) (d + 1)) (A, .at k1 (d + 1))) (hk : tkIs (.sym bEIF) (tks s k1).1) : PSs s (.ifs l c) (.at k d) (.iff A .nil l c .nil, .at (k1 + 1) d) := by
  obtain ⟨n1, h1⟩ := h1
  refine ⟨n1 + 1, ?_⟩
  unfold ps
  rw [openT hd, if_pos rfl]
  dsimp only
  rw [h1]
  dsimp only
  rw [accept_n (sym_Kn hk (by rw [tl_EIF, tl_ELS]; decide)), if_neg Bool.false_ne_true, decT, expect_t (sym_K hk rfl)]
theorem PSs.iff {k k1 k2 : Nat} {d l c : Int} {A L : S} (hd : d < 64) (h1 : PSs s .arms (.at (k + 1) (d + 1)) (A, .at k1 (d + 1))) (hk : tkIs (.sym bELS) (tks s k1).1) (h2 : PSs s .stmts (.at (k1 + 1) (d + 1)) (L, .at k2 (d + 1))) (hk2 : tkIs (.sym bEIF) (tks s k2).1) : PSs s (.ifs l c) (.at k d) (.iff A L l c .nil, .at (k2 + 1) d) := by
  obtain ⟨n1, h1⟩ := h1
  obtain ⟨n2, h2⟩ := h2
  refine ⟨max n1 n2 + 1, ?_⟩
  unfold ps
  rw [openT hd, if_pos rfl]
  dsimp only
  rw [ps_le (Nat.le_max_left n1 n2) h1]
  dsimp only
  rw [accept_t (sym_K hk rfl), if_pos rfl]
  dsimp only
  rw [ps_le (Nat.le_max_right n1 n2) h2]
  dsimp only
  rw [decT, expect_t (sym_K hk2 rfl)]
theorem PSs.arm0 {k k1 k2 : Nat} {d : Int} {e : E} {L : S} (h1 : PJ s (.expr 1) (.at k d) (e, .at k1 d)) (hk : tkIs (.sym bTHN) (tks s k1).1) (h2 : PSs s .stmts (.at (k1 + 1) d) (L, .at k2 d)) (hk2 : isK (tks s k2).1 bELI = false) : PSs s .arms (.at k d) (.arm e L .nil, .at k2 d) := by
  obtain ⟨n1, h1⟩ := h1
  obtain ⟨n2, h2⟩ := h2
  refine ⟨max n1 n2 + 1, ?_⟩
  unfold ps
  rw [pj_le (Nat.le_max_left n1 n2) h1]
  dsimp only
  rw [expect_t (sym_K hk rfl), ps_le (Nat.le_max_right n1 n2) h2]
  dsimp only
  rw [accept_n hk2, if_neg Bool.false_ne_true]
theorem PSs.arm {k k1 k2 : Nat} {d : Int} {e : E} {L T : S} {st3 : PSt} (h1 : PJ s (.expr 1) (.at k d) (e, .at k1 d)) (hk : tkIs (.sym bTHN) (tks s k1).1) (h2 : PSs s .stmts (.at (k1 + 1) d) (L, .at k2 d)) (hk2 : tkIs (.sym bELI) (tks s k2).1) (h3 : PSs s .arms (.at (k2 + 1) d) (T, st3)) : PSs s .arms (.at k d) (.arm e L T, st3) := by
  obtain ⟨n1, h1⟩ := h1
  obtain ⟨n2, h2⟩ := h2
  obtain ⟨n3, h3⟩ := h3
  refine ⟨max n1 (max n2 n3) + 1, ?_⟩
  unfold ps
  rw [pj_le (show n1 ≤ max n1 (max n2 n3) by omega) h1]
  dsimp only
  rw [expect_t (sym_K hk rfl), ps_le (show n2 ≤ max n1 (max n2 n3) by omega) h2]
  dsimp only
  rw [accept_t (sym_K hk2 rfl), if_pos rfl]
  dsimp only
  rw [ps_le (show n3 ≤ max n1 (max n2 n3) by omega) h3]
theorem PSs.fr {k k1 k2 k3 : Nat} {d l c : Int} {x : ByteArray} {a e : E} {L : S} (hd : d < 64) (t1 : tkIs (.nm x) (tks s (k + 1)).1) (t2 : tkIs (.sym bASG) (tks s (k + 1 + 1)).1) (h1 : PJ s (.expr 1) (.at (k + 1 + 1 + 1) (d + 1)) (a, .at k1 (d + 1))) (t3 : tkIs (.sym bTO) (tks s k1).1) (h2 : PJ s (.expr 1) (.at (k1 + 1) (d + 1)) (e, .at k2 (d + 1))) (t4 : tkIs (.sym bDO) (tks s k2).1) (h3 : PSs s .stmts (.at (k2 + 1) (d + 1)) (L, .at k3 (d + 1))) (t5 : tkIs (.sym bEFR) (tks s k3).1) : PSs s (.fors l c) (.at k d) (.fr x a e L l c .nil, .at (k3 + 1) d) := by
  obtain ⟨n1, h1⟩ := h1
  obtain ⟨n2, h2⟩ := h2
  obtain ⟨n3, h3⟩ := h3
  refine ⟨max n1 (max n2 n3) + 1, ?_⟩
  unfold ps
  rw [openT hd, if_pos rfl]
  dsimp only
  rw [take_t t1.1]
  dsimp only
  rw [expect_t (sym_K t2 rfl), pj_le (show n1 ≤ max n1 (max n2 n3) by omega) h1]
  dsimp only
  rw [expect_t (sym_K t3 rfl), pj_le (show n2 ≤ max n1 (max n2 n3) by omega) h2]
  dsimp only
  rw [expect_t (sym_K t4 rfl), ps_le (show n3 ≤ max n1 (max n2 n3) by omega) h3]
  dsimp only
  rw [decT, expect_t (sym_K t5 rfl), t1.2]
theorem PSs.rungs {k k1 k2 : Nat} {d l c : Int} {e : E} {L : List (ByteArray × E)} (h1 : PJ s (.expr 1) (.at k d) (e, .at k1 d)) (t1 : tkIs (.sym bARR) (tks s k1).1) (h2 : PCs s (.at (k1 + 1) d) (L, .at k2 d)) : PSs s (.rungs l c) (.at k d) (.rung e L l c .nil, .at k2 d) := by
  obtain ⟨n1, h1⟩ := h1
  obtain ⟨n2, h2⟩ := h2
  refine ⟨max n1 n2 + 1, ?_⟩
  unfold ps
  rw [pj_le (Nat.le_max_left n1 n2) h1]
  dsimp only
  rw [expect_t (sym_K t1 rfl), pcoils_le (Nat.le_max_right n1 n2) h2]
/-- what is to be shown -/
structure BkS (s : List Int) (A : S) : Prop where
  st : wf A false → ∀ (k : Nat) (d : Int) (n : Nat) (f : Bool) (x : ByteArray), Stm s k (tkl (itS A n f)) → 0 ≤ d → d + dS A ≤ 64 → Edr x → tkIs (.sym x) (tks s (k + (itS A n f).length)).1 → ∃ A', A'.er = A.er ∧ PSs s .stmts (.at k d) (A', .at (k + (itS A n f).length) d)
  ar : wf A true → A.isNil = false → ∀ (k : Nat) (d : Int) (n : Nat) (f : Bool) (x : ByteArray), Stm s k (tkl (itS A n f)) → 0 ≤ d → d + dS A ≤ 64 → (x = bELS ∨ x = bEIF) → tkIs (.sym x) (tks s (k + (itS A n f).length)).1 → tkIs (.sym (if f = true then bIF else bELI)) (tks s k).1 ∧ ∃ A', A'.er = A.er ∧ PSs s .arms (.at (k + 1) d) (A', .at (k + (itS A n f).length) d)
theorem backS (s : List Int) : ∀ (A : S), gS A → BkS s A
  | .nil, _ => ⟨fun _ k d n f x _ _ _ hx ht => ⟨.nil, rfl, PSs.nil hx ht⟩, fun _ z => by cases z⟩
  | .asg t e l c r, h => ⟨fun hw k d n f x hs h0 hd hx ht => by
      have ih := (backS s r h.2.2.2).st hw.2
      simp only [dS] at hd
      have hl : k + (itS (.asg t e l c r) n f).length = k + (itE t 0 (mg n)).length + 1 + (itE e 0 [32]).length + 1 + (itS r n true).length := by
        simp only [itS, List.length_append, List.length_cons]
        omega
      rw [hl] at ht ⊢
      simp only [itS] at hs
      rw [tkl_app] at hs
      obtain ⟨s1, s2⟩ := hs.app
      rw [tkl_len] at s2
      obtain ⟨t1, s3⟩ := s2.hd
      have s3 : Stm s _ (tkl (itE e 0 [32] ++ (([], .sym bSEM) :: itS r n true))) := s3
      rw [tkl_app] at s3
      obtain ⟨s4, s5⟩ := s3.app
      rw [tkl_len] at s5
      obtain ⟨t2, s6⟩ := s5.hd
      obtain ⟨a0, t', a1, a2⟩ := back_pl h.1 h.2.2.1 s1 h0 (by omega) stp_ASG t1
      obtain ⟨e', b1, b2⟩ := back_ex h.2.1 s4 h0 (by omega) stp_SEM t2
      obtain ⟨r', c1, c2⟩ := ih _ d n true x s6 h0 (by omega) hx ht
      refine ⟨.asg t' e' _ _ r', ?_, PSs.cons (stm_name a0) (PSs.asg a2 t1 b2) (by rw [expect_t (sym_K t2 rfl)]; exact c2)⟩
      show S.asg t'.er e'.er 0 0 r'.er = S.asg t.er e.er 0 0 r.er
      rw [a1, b1, c1], fun hw => by cases hw.1⟩
  | .call y ag l c r, h => ⟨fun hw k d n f x hs h0 hd hx ht => by
      have ih := (backS s r h.2.2).st hw.2
      simp only [dS] at hd
      have hl : k + (itS (.call y ag l c r) n f).length = k + 1 + 1 + (itA ag true).length + 1 + 1 + (itS r n true).length := by
        simp only [itS, List.length_append, List.length_cons]
        omega
      rw [hl] at ht ⊢
      have hs : Stm s k (.nm y :: .sym bPAR :: tkl (itA ag true ++ (([], .sym bEND) :: ([], .sym bSEM) :: itS r n true))) := hs
      obtain ⟨t1, s1⟩ := hs.hd
      obtain ⟨t2, s2⟩ := s1.hd
      rw [tkl_app] at s2
      obtain ⟨s3, s4⟩ := s2.app
      rw [tkl_len] at s4
      obtain ⟨t3, s5⟩ := s4.hd
      obtain ⟨t4, s6⟩ := s5.hd
      obtain ⟨r', c1, c2⟩ := ih _ d n true x s6 h0 (by omega) hx ht
      have hp : PJ s .plac (.at k d) (.nm y (tks s k).1.l (tks s k).1.c, .at (k + 1) d) := by
        have := PJ.plac (d := d) t1.1 (PJ.placE (stp_PAR.fol t2))
        rw [t1.2] at this
        exact this
      by_cases ha : ag = []
      · subst ha
        have t4 : tkIs (.sym bSEM) (tks s (k + 1 + 1 + 1)).1 := t4
        refine ⟨.call y [] _ _ r', ?_, PSs.cons (stm_name t1.1) (PSs.call0 hp t2 t3) (by rw [expect_t (sym_K t4 rfl)]; exact c2)⟩
        show S.call y (erP []) 0 0 r'.er = S.call y (erP []) 0 0 r.er
        rw [c1]
      · have t3' : tkIs (.sym bEND) (tks s (k + 1 + 1 + (tkl (itA ag true)).length)).1 := by rw [tkl_len]; exact t3
        obtain ⟨b0, L', b1, b2⟩ := back_args ag ha h.2.1 (k + 1 + 1) d s3 h0 (by omega) t3'
        rw [tkl_len] at b2
        refine ⟨.call y L' _ _ r', ?_, PSs.cons (stm_name t1.1) (PSs.call hp t2 b0 b2 t3) (by rw [expect_t (sym_K t4 rfl)]; exact c2)⟩
        show S.call y (erP L') 0 0 r'.er = S.call y (erP ag) 0 0 r.er
        rw [c1, b1], fun hw => by cases hw.1⟩
  | .iff A L l c r, h => ⟨fun hw k d n f x hs h0 hd hx ht => by
      have ih := (backS s r h.2.2.2).st hw.2.2.2
      have ihA := (backS s A h.1).ar hw.2.1 h.2.2.1
      have ihL := (backS s L h.2.1).st hw.2.2.1
      simp only [dS] at hd
      have hs : Stm s k (tkl (itS A n true ++ ((if L.isNil = true then [] else (mg n, .sym bELS) :: itS L (n + 1) true) ++ ((mg n, .sym bEIF) :: ([], .sym bSEM) :: itS r n true)))) := hs
      rw [tkl_app, tkl_app] at hs
      obtain ⟨s1, s2⟩ := hs.app
      rw [tkl_len] at s2
      by_cases hn : L.isNil = true
      · have hL : L = .nil := by cases L with | nil => rfl | _ => cases hn
        subst hL
        have s2 : Stm s (k + (itS A n true).length) (.sym bEIF :: .sym bSEM :: tkl (itS r n true)) := s2
        obtain ⟨t1, s3⟩ := s2.hd
        obtain ⟨t2, s4⟩ := s3.hd
        have hl : k + (itS (.iff A .nil l c r) n f).length = k + (itS A n true).length + 1 + 1 + (itS r n true).length := by
          simp only [itS, S.isNil, if_true, List.length_append, List.length_cons, List.length_nil]
          omega
        rw [hl] at ht ⊢
        obtain ⟨a0, A', a1, a2⟩ := ihA k (d + 1) n true bEIF s1 (by omega) (by omega) (.inr rfl) t1
        obtain ⟨r', c1, c2⟩ := ih _ d n true x s4 h0 (by omega) hx ht
        refine ⟨.iff A' .nil _ _ r', ?_, PSs.cons (stm_if (sym_K a0 rfl)) (PSs.iff0 (by omega) a2 t1) (by rw [expect_t (sym_K t2 rfl)]; exact c2)⟩
        show S.iff A'.er .nil 0 0 r'.er = S.iff A.er .nil 0 0 r.er
        rw [a1, c1]
      · rw [if_neg hn] at s2
        have s2 : Stm s (k + (itS A n true).length) (.sym bELS :: (tkl (itS L (n + 1) true) ++ (.sym bEIF :: .sym bSEM :: tkl (itS r n true)))) := s2
        obtain ⟨t1, s3⟩ := s2.hd
        obtain ⟨s4, s5⟩ := s3.app
        rw [tkl_len] at s5
        obtain ⟨t2, s6⟩ := s5.hd
        obtain ⟨t3, s7⟩ := s6.hd
        have hl : k + (itS (.iff A L l c r) n f).length = k + (itS A n true).length + 1 + (itS L (n + 1) true).length + 1 + 1 + (itS r n true).length := by
          simp only [itS]
          rw [if_neg hn]
          simp only [List.length_append, List.length_cons]
          omega
        rw [hl] at ht ⊢
        obtain ⟨a0, A', a1, a2⟩ := ihA k (d + 1) n true bELS s1 (by omega) (by omega) (.inl rfl) t1
        obtain ⟨L', b1, b2⟩ := ihL _ (d + 1) (n + 1) true bEIF s4 (by omega) (by omega) edr_EIF t2
        obtain ⟨r', c1, c2⟩ := ih _ d n true x s7 h0 (by omega) hx ht
        refine ⟨.iff A' L' _ _ r', ?_, PSs.cons (stm_if (sym_K a0 rfl)) (PSs.iff (by omega) a2 t1 b2 t2) (by rw [expect_t (sym_K t3 rfl)]; exact c2)⟩
        show S.iff A'.er L'.er 0 0 r'.er = S.iff A.er L.er 0 0 r.er
        rw [a1, b1, c1], fun hw => by cases hw.1⟩
  | .arm e L r, h => ⟨(fun hw => by cases hw.1), fun hw _ k d n f x hs h0 hd hx ht => by
      have ihL := (backS s L h.2.1).st hw.2.1
      have ihr := (backS s r h.2.2).ar hw.2.2
      simp only [dS] at hd
      have hs : Stm s k (.sym (if f = true then bIF else bELI) :: tkl (itE e 0 [32] ++ (([32], .sym bTHN) :: (itS L (n + 1) true ++ itS r n false)))) := hs
      obtain ⟨t1, s1⟩ := hs.hd
      rw [tkl_app] at s1
      obtain ⟨s2, s3⟩ := s1.app
      rw [tkl_len] at s3
      obtain ⟨t2, s4⟩ := s3.hd
      have s4 : Stm s _ (tkl (itS L (n + 1) true ++ itS r n false)) := s4
      rw [tkl_app] at s4
      obtain ⟨s5, s6⟩ := s4.app
      rw [tkl_len] at s6
      have hl : k + (itS (.arm e L r) n f).length = k + 1 + (itE e 0 [32]).length + 1 + (itS L (n + 1) true).length + (itS r n false).length := by
        simp only [itS, List.length_append, List.length_cons]
        omega
      rw [hl] at ht ⊢
      refine ⟨t1, ?_⟩
      obtain ⟨e', a1, a2⟩ := back_ex h.1 s2 h0 (by omega) stp_THN t2
      by_cases hn : r.isNil = true
      · have hr : r = .nil := by cases r with | nil => rfl | _ => cases hn
        subst hr
        have ht : tkIs (.sym x) (tks s (k + 1 + (itE e 0 [32]).length + 1 + (itS L (n + 1) true).length)).1 := ht
        obtain ⟨L', b1, b2⟩ := ihL _ d (n + 1) true x s5 h0 (by omega) (by rcases hx with rfl | rfl; exact edr_ELS; exact edr_EIF) ht
        refine ⟨.arm e' L' .nil, ?_, PSs.arm0 a2 t2 b2 (sym_Kn ht (by rcases hx with rfl | rfl; rw [tl_ELS, tl_ELI]; decide; rw [tl_EIF, tl_ELI]; decide))⟩
        show S.arm e'.er L'.er .nil = S.arm e.er L.er .nil
        rw [a1, b1]
      · have hn : r.isNil = false := by simpa using hn
        obtain ⟨t3, r', c1, c2⟩ := ihr hn _ d n false x s6 h0 (by omega) hx ht
        obtain ⟨L', b1, b2⟩ := ihL _ d (n + 1) true bELI s5 h0 (by omega) edr_ELI t3
        refine ⟨.arm e' L' r', ?_, PSs.arm a2 t2 b2 t3 c2⟩
        show S.arm e'.er L'.er r'.er = S.arm e.er L.er r.er
        rw [a1, b1, c1]⟩
  | .fr y a e L l c r, h => ⟨fun hw k d n f x hs h0 hd hx ht => by
      have ih := (backS s r h.2.2.2.2).st hw.2.2
      have ihL := (backS s L h.2.2.2.1).st hw.2.1
      simp only [dS] at hd
      have hs : Stm s k (.sym bFOR :: .nm y :: .sym bASG :: tkl (itE a 0 [32] ++ (([32], .sym bTO) :: (itE e 0 [32] ++ (([32], .sym bDO) :: (itS L (n + 1) true ++ ((mg n, .sym bEFR) :: ([], .sym bSEM) :: itS r n true))))))) := hs
      obtain ⟨t1, s1⟩ := hs.hd
      obtain ⟨t2, s2⟩ := s1.hd
      obtain ⟨t3, s3⟩ := s2.hd
      rw [tkl_app] at s3
      obtain ⟨s4, s5⟩ := s3.app
      rw [tkl_len] at s5
      obtain ⟨t4, s6⟩ := s5.hd
      have s6 : Stm s _ (tkl (itE e 0 [32] ++ (([32], .sym bDO) :: (itS L (n + 1) true ++ ((mg n, .sym bEFR) :: ([], .sym bSEM) :: itS r n true))))) := s6
      rw [tkl_app] at s6
      obtain ⟨s7, s8⟩ := s6.app
      rw [tkl_len] at s8
      obtain ⟨t5, s9⟩ := s8.hd
      have s9 : Stm s _ (tkl (itS L (n + 1) true ++ ((mg n, .sym bEFR) :: ([], .sym bSEM) :: itS r n true))) := s9
      rw [tkl_app] at s9
      obtain ⟨s10, s11⟩ := s9.app
      rw [tkl_len] at s11
      obtain ⟨t6, s12⟩ := s11.hd
      obtain ⟨t7, s13⟩ := s12.hd
      have hl : k + (itS (.fr y a e L l c r) n f).length = k + 1 + 1 + 1 + (itE a 0 [32]).length + 1 + (itE e 0 [32]).length + 1 + (itS L (n + 1) true).length + 1 + 1 + (itS r n true).length := by
        simp only [itS, List.length_append, List.length_cons]
        omega
      rw [hl] at ht ⊢
      obtain ⟨a', a1, a2⟩ := back_ex h.2.1 s4 (show (0 : Int) ≤ d + 1 by omega) (by omega) stp_TO t4
      obtain ⟨e', b1, b2⟩ := back_ex h.2.2.1 s7 (show (0 : Int) ≤ d + 1 by omega) (by omega) stp_DO t5
      obtain ⟨L', c1, c2⟩ := ihL _ (d + 1) (n + 1) true bEFR s10 (by omega) (by omega) edr_EFR t6
      obtain ⟨r', d1, d2⟩ := ih _ d n true x s13 h0 (by omega) hx ht
      refine ⟨.fr y a' e' L' _ _ r', ?_, PSs.cons (stm_for (sym_K t1 rfl)) (PSs.fr (by omega) t2 t3 a2 t4 b2 t5 c2 t6) (by rw [expect_t (sym_K t7 rfl)]; exact d2)⟩
      show S.fr y a'.er e'.er L'.er 0 0 r'.er = S.fr y a.er e.er L.er 0 0 r.er
      rw [a1, b1, c1, d1], fun hw => by cases hw.1⟩
  | .rung e cs l c r, h => ⟨fun hw k d n f x hs h0 hd hx ht => by
      have ih := (backS s r h.2.2.2).st hw.2
      simp only [dS] at hd
      have hs : Stm s k (.sym bRUN :: tkl (itE e 0 [32] ++ (([32], .sym bARR) :: (itC cs true ++ (([], .sym bSEM) :: itS r n true))))) := hs
      obtain ⟨t1, s1⟩ := hs.hd
      rw [tkl_app] at s1
      obtain ⟨s2, s3⟩ := s1.app
      rw [tkl_len] at s3
      obtain ⟨t2, s4⟩ := s3.hd
      have s4 : Stm s _ (tkl (itC cs true ++ (([], .sym bSEM) :: itS r n true))) := s4
      rw [tkl_app] at s4
      obtain ⟨s5, s6⟩ := s4.app
      rw [tkl_len] at s6
      obtain ⟨t3, s7⟩ := s6.hd
      have hl : k + (itS (.rung e cs l c r) n f).length = k + 1 + (itE e 0 [32]).length + 1 + (itC cs true).length + 1 + (itS r n true).length := by
        simp only [itS, List.length_append, List.length_cons]
        omega
      rw [hl] at ht ⊢
      obtain ⟨e', a1, a2⟩ := back_ex h.1 s2 h0 (by omega) stp_ARR t2
      have t3' : tkIs (.sym bSEM) (tks s (k + 1 + (itE e 0 [32]).length + 1 + (tkl (itC cs true)).length)).1 := by rw [tkl_len]; exact t3
      obtain ⟨L', b1, b2⟩ := back_coils cs h.2.2.1 h.2.1 _ d s5 h0 (by omega) t3'
      rw [tkl_len] at b2
      obtain ⟨r', c1, c2⟩ := ih _ d n true x s7 h0 (by omega) hx ht
      refine ⟨.rung e' L' _ _ r', ?_, PSs.rung (sym_K t1 rfl) (PSs.rungs a2 t2 b2) (by rw [expect_t (sym_K t3 rfl)]; exact c2)⟩
      show S.rung e'.er (erP L') 0 0 r'.er = S.rung e.er (erP cs) 0 0 r.er
      rw [a1, b1, c1], fun hw => by cases hw.1⟩
end Go.Proofs.Qxb6500774a
