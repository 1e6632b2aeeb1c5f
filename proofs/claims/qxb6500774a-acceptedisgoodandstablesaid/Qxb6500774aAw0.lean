import Derived.Test.Qxb6500774aSd2
import Derived.Test.Qxb6500774aSd3
import Derived.Test.Qxb6500774aKx1
import Derived.Test.Qxb6500774aKx2
import Derived.Test.Qxb6500774aOp1
namespace Go.Proofs.Qxb6500774a
open Go.RowKit
set_option linter.unusedVariables false
set_option linter.unusedSimpArgs false

/-! ### What the law needs of the parts -/
def txL (v : OpV) : List Int := (List.range v.tn).map v.T
theorem txL_len (v : OpV) : (txL v).length = v.tn := by unfold txL; rw [List.length_map, List.length_range]
theorem txL_at {v : OpV} {i : Nat} {c : Int} (h : (txL v)[i]? = some c) : i < v.tn ∧ c = v.T i := by
  have hlt := (List.getElem?_eq_some_iff.1 h).1
  rw [txL_len] at hlt
  unfold txL at h
  rw [List.getElem?_map, List.getElem?_range hlt] at h
  injection h with h
  exact ⟨hlt, h.symm⟩
theorem BT.src {w : World} {v : OpV} (h : BT w v.ta v.tn v.T) : SrcAt w v.ta (txL v) := fun i c hc => by
  obtain ⟨hi, rfl⟩ := txL_at hc
  obtain ⟨g, off, e, hx, _⟩ := h i hi
  exact ⟨g, off, e, hx⟩
theorem BT.lt {w : World} {v : OpV} (h : BT w v.ta v.tn v.T) : ∀ (i : Nat) c, (txL v)[i]? = some c → ∀ g off, v.ta = some ⟨g, off, none⟩ → g < w.heap.size := fun i c hc g off e => by
  obtain ⟨hi, _⟩ := txL_at hc
  obtain ⟨g', off', e', hx, _⟩ := h i hi
  rw [e] at e'
  injection e' with e'
  injection e' with e1 e2
  subst e1
  exact World.block_lt_of_cell? _ _ hx
def szI : Option E → Nat
  | none => 0
  | some e => sz e
theorem szD_eq (x : Dc) : szD x = (strL x.nm).length + (strL x.ty).length + 200 + szI x.ini := by unfold szD szI; cases x.ini <;> rfl
theorem prDs_len : ∀ (L : List Dc) (pv : Option ByteArray), (∀ x ∈ L, gD x) → (prDs pv L).length ≤ szDs L
  | [], _, _ => Nat.le_refl _
  | x :: L, pv, h => by
    have h1 := prDs_len L (some x.cls) (fun y hy => h y (List.mem_cons_of_mem _ hy))
    have gx := h x (List.mem_cons_self ..)
    have hc : (strL x.cls).length ≤ 10 := by rcases gx.cls with e | e | e <;> rw [e] <;> decide
    have hlo := decL_19 (v := x.lo.toNat) (by have := gx.lo; omega)
    have hhi := decL_19 (v := x.hi.toNat) (by have := gx.hi; omega)
    have a1 : (if hdC pv x = true then strL x.cls ++ [10] else []).length ≤ 11 := by
      split
      · rw [List.length_append]; show _ + 1 ≤ _; omega
      · exact Nat.zero_le _
    have a2 : (if ftC x L = true then ([69, 78, 68, 95, 86, 65, 82, 10] : List Int) else []).length ≤ 8 := by split <;> decide
    have a3 : (if x.arr = true then ([65, 82, 82, 65, 89, 32, 91] : List Int) ++ decL x.lo.toNat ++ [46, 46] ++ decL x.hi.toNat ++ [93, 32, 79, 70, 32] else []).length ≤ 60 := by
      split
      · simp only [List.length_append, List.length_cons, List.length_nil]; omega
      · exact Nat.zero_le _
    have a4 : (prI x.ini).length ≤ 4 + szI x.ini := by
      cases hi : x.ini with
      | none => exact Nat.zero_le _
      | some e =>
        have := prE_len e (gx.ini e hi) 0
        show ([32, 58, 61, 32] ++ prE e 0).length ≤ 4 + sz e
        rw [List.length_append]
        show 4 + _ ≤ _
        omega
    have a5 : (prD1 x).length ≤ (strL x.nm).length + (strL x.ty).length + 80 + szI x.ini := by
      have e2 : prD1 x = [32, 32] ++ strL x.nm ++ [32, 58, 32] ++ (if x.arr = true then [65, 82, 82, 65, 89, 32, 91] ++ decL x.lo.toNat ++ [46, 46] ++ decL x.hi.toNat ++ [93, 32, 79, 70, 32] else []) ++ strL x.ty ++ prI x.ini ++ [59, 10] := by unfold prD1 prI; cases x.ini <;> rfl
      rw [e2]
      simp only [List.length_append, List.length_cons, List.length_nil] at a3 ⊢
      omega
    simp only [prDs, szDs, List.length_append]
    rw [szD_eq]
    omega
/-- a program that was read prints to a text of no great length -/
theorem prog_room {s : List Int} {n : Nat} {R : Pg × PSt} (h : pprog s n = some R) (hR : ¬ isB R.2) (hs : s.length ≤ 65536) : gPg R.1 ∧ (prPg R.1).length ≤ 1099511627776 ∧ 1 + sdep R.1.bd ≤ 1000000 ∧ (R.1.nm.size ≤ 4611686018427387904) ∧ szDs R.1.ds ≤ 4611686018427387904 ∧ szS R.1.bd ≤ 4611686018427387904 := by
  obtain ⟨g, h1, h2⟩ := pprog_ok s n R h hR
  have hm : (s.length + 1000) * (s.length + 1) ≤ 66536 * 65537 := Nat.mul_le_mul (by omega) (by omega)
  have d0 := sdep_dS R.1.bd false g.wf
  rw [if_neg Bool.false_ne_true] at d0
  have hdb := g.db
  have l1 := prDs_len R.1.ds none g.ds
  have l2 := pr_len R.1.bd 1 true g.bd (by omega)
  have e : (prPg R.1).length = 8 + (strL R.1.nm).length + 1 + (prDs none R.1.ds).length + (pr R.1.bd 1 true).length + 12 := by
    unfold prPg
    simp only [List.length_append, List.length_cons, List.length_nil]
  exact ⟨g, by omega, by omega, by rw [strL_len]; omega, by omega, by omega⟩
theorem fl_at {st : PSt} (h : ¬ isB st) : fltV st = .agg #[.int .i64 0, .int .i64 0, .int .i64 0] := by
  cases st with
  | «at» k d => rfl
  | bad e l c => exact absurd trivial h
theorem at_bad {st : PSt} (h : isAt st) : ¬ isB st := by
  cases st with
  | «at» k d => exact fun z => z
  | bad e l c => exact h.elim
theorem nb_is {st : PSt} (h : ¬ isB st) {d : Int} (hd : DA d st) (h0 : 0 ≤ d ∧ d ≤ 64) : isAt st := by
  cases st with
  | «at» k e => have hd : e = d := hd; show 0 ≤ e ∧ e ≤ 64; omega
  | bad e l c => exact absurd trivial h
theorem pprog_at {s : List Int} {n : Nat} {R : Pg × PSt} (h : pprog s n = some R) (hR : ¬ isB R.2) : isAt R.2 := by
  refine nb_is hR (d := 0) ?_ ⟨by decide, by decide⟩
  unfold pprog at h
  split at h
  · cases h
  · next L st3 h1 =>
    split at h
    · cases h
    · next A st4 h2 =>
      injection h with h
      subst h
      exact takeS_da (expectS_da (ps_da s _ _ _ _ _ h2 (pbl_da s _ _ _ _ _ h1 (takeS_da (expectS_da (show DA 0 (.at 0 0) from rfl) _) 2))) _) 0
theorem pprop_at {s : List Int} {n : Nat} {R : Pp × PSt} (h : pprop s n = some R) (hR : ¬ isB R.2) : isAt R.2 := by
  refine nb_is hR (d := 0) ?_ ⟨by decide, by decide⟩
  unfold pprop at h
  split at h
  · split at h
    · cases h
    · next e1 st1 h1 =>
      split at h
      · cases h
      · next e2 st2 h2 =>
        injection h with h
        subst h
        exact takeS_da (expectS_da (pj_da s _ _ _ _ _ h2 (expectS_da (takeS_da (expectS_da (pj_da s _ _ _ _ _ h1 (acceptS_da (show DA 0 (.at 0 0) from rfl) _)) _) 3) _)) _) 0
  · split at h
    · cases h
    · next e1 st1 h1 =>
      injection h with h
      subst h
      exact takeS_da (expectS_da (pj_da s _ _ _ _ _ h1 (expectS_da (show DA 0 (.at 0 0) from rfl) _)) _) 0
/-- the first token of too long a text -/
theorem long_tok {s : List Int} (h : 1048576 < s.length) : (tks s 0).1 = ⟨1, ⟨#[]⟩, 0, 1, 1, 1⟩ := by
  unfold tks
  rw [if_pos h]
theorem long_fail {s : List Int} (h : 1048576 < s.length) : failS s 5 (.at 0 0) = .bad 1 1 1 := by
  show PSt.bad (if (tks s 0).1.k = 1 then (tks s 0).1.e else 5) (tks s 0).1.l (tks s 0).1.c = _
  rw [long_tok h]
  rfl
theorem long_exp {s : List Int} (h : 1048576 < s.length) (u : ByteArray) : expectS s u (.at 0 0) = .bad 1 1 1 := by
  unfold expectS
  rw [if_neg (show ¬ atS s u (.at 0 0) = true by show ¬ isK (tks s 0).1 u = true; rw [long_tok h]; exact Bool.false_ne_true), long_fail h]
theorem long_prog {s : List Int} (h : 1048576 < s.length) {n : Nat} {R : Pg × PSt} (hp : pprog s n = some R) : R.2 = .bad 1 1 1 ∧ R.1.nm = nb := by
  unfold pprog at hp
  rw [long_exp h] at hp
  split at hp
  · cases hp
  · next L st3 h1 =>
    have e1 : st3 = .bad 1 1 1 := pbl_bad s 1 1 1 n .outer (L, st3) h1
    rw [e1] at hp
    split at hp
    · cases hp
    · next A st4 h2 =>
      have e2 : st4 = .bad 1 1 1 := ps_bad s 1 1 1 n .stmts (A, st4) h2
      injection hp with hp
      subst hp
      rw [e2]
      exact ⟨by rw [expect_bad]; rfl, rfl⟩
theorem long_acc {s : List Int} (h : 1048576 < s.length) (u : ByteArray) : (acceptS s u (.at 0 0)).1 = false := by
  have : isK (tks s 0).1 u = false := by rw [long_tok h]; rfl
  rw [accept_n this]
theorem long_prop {s : List Int} (h : 1048576 < s.length) {n : Nat} {R : Pp × PSt} (hp : pprop s n = some R) : R.2 = .bad 1 1 1 := by
  unfold pprop at hp
  rw [if_neg (by rw [long_acc h]; exact Bool.false_ne_true), long_exp h] at hp
  split at hp
  · cases hp
  · next e1 st1 h1 =>
    have e2 : st1 = .bad 1 1 1 := pj_bad s 1 1 1 n _ (e1, st1) h1
    injection hp with hp
    subst hp
    rw [e2]
    show (takeS s 0 (expectS s bSEM (.bad 1 1 1))).2 = _
    rw [expect_bad]
    rfl
theorem gN_ne {x : ByteArray} (h : gN x = true) : (x.toList == nb.toList) = false := by
  obtain ⟨_, ⟨c, r, hc, _⟩, _⟩ := gN_facts h
  cases hq : x.toList with
  | nil => rw [strL_eq, hq] at hc; cases hc
  | cons a l => rw [show nb.toList = [] by rw [ByteArray.toList_eq]; rfl]; rfl
theorem PGM.nd {w w' : World} {D : Nat → Prop} {P : Pg} {vd vb : SLc} (h : PGM w D P vd vb) (ex : Ex (fun _ => False) w w') : PGM w' ND P vd vb := by
  obtain ⟨F, G, h1, h2, h3, h4⟩ := h
  exact ⟨F, G, h1.keep ex (fun _ z => z.elim) (fun _ z => z.elim), h2.keep ex (fun _ z => z.elim) (fun _ z => z.elim), h3.keep ex (fun _ z => z.elim) (fun _ z => z.elim), h4.keep ex (fun _ z => z.elim) (fun _ z => z.elim)⟩
theorem good_call {w : World} {P : Pg} {vd vb : SLc} (g : gPg P) (h : PGM w ND P vd vb) (h1 : P.nm.size ≤ 4611686018427387904) (h2 : szDs P.ds ≤ 4611686018427387904) (h3 : szS P.bd ≤ 4611686018427387904) : Calls Try.prog 10 #[.agg #[.string P.nm, slV vd, slV vb]] w (RdB w true) := by
  obtain ⟨F, G, a1, a2, a3, a4⟩ := h
  obtain ⟨A, rfl, b2⟩ := dc_good P.ds F a2 g.ds h2
  exact goodProg_yes w P.nm vd vb A a1 b2 g.nm h1 (fun W hW => goodStmts_yes P.bd g.bd h3 W vb G (a3.low hW) (a4.low hW))
/-- after the second reading of a program -/
theorem prog_after {P : Pg} (g : gPg P) {n : Nat} {R : Pg × PSt} (hR : pprog (prPg P) n = some R) {w0 w : World} {vd vb ud ub : SLc} {y : ByteArray} (hm : PGM w ND P vd vb) (hy : y = R.1.nm) (hm2 : isAt R.2 → PGM w (fun k => k < w0.heap.size) R.1 ud ub) : ∃ (er l c : Int) (sm : Bool), fltV R.2 = .agg #[.int .i64 er, .int .i64 l, .int .i64 c] ∧ (∀ W, Ex (fun _ => False) w W → Calls Try.prog 15 #[.agg #[.string P.nm, slV vd, slV vb], .agg #[.string y, slV ud, slV ub], .bool false] W (RdB W sm)) ∧ ∀ W, Calls Try.prog 13 #[.agg #[.int .i64 er, .int .i64 l, .int .i64 c], .int .i64 ((prPg P).length : Nat), .int .i64 0, .bool sm] W (RdB W true) := by
  by_cases hl : 1048576 < (prPg P).length
  · obtain ⟨e1, e2⟩ := long_prog hl hR
    refine ⟨1, 1, 1, false, by rw [e1]; rfl, fun W hW => ?_, fun W => came_long W 1 1 _ false hl⟩
    rw [hy, e2]
    exact sameProg_no W P.nm nb vd vb ud ub (gN_ne g.nm)
  · obtain ⟨e1, e2⟩ := prog_back g (by omega) hR
    have m2 := (hm2 e2).nd (Ex.refl _ _)
    refine ⟨0, 0, 0, true, fl_at (at_bad e2), fun W hW => ?_, fun W => came_ok W 0 0 _ (by omega)⟩
    obtain ⟨F, G, a1, a2, a3, a4⟩ := hm.nd hW
    obtain ⟨F', G', b1, b2, b3, b4⟩ := m2.nd hW
    have hn : y = P.nm := by
      rw [hy]
      have := congrArg Pg.nm e1
      exact this
    have hd : erD P.ds = erD R.1.ds := (congrArg Pg.ds e1).symm
    have hb : P.bd.er = R.1.bd.er := (congrArg Pg.bd e1).symm
    rw [hn]
    obtain ⟨A, B, rfl, rfl, c3, c4⟩ := dc_pairs P.ds R.1.ds F F' a2 b2 hd
    exact sameProg_yes W P.nm vd vb ud ub A B a1 b1 c3 c4 (fun V hV => sameS_er (a3.low hV) (a4.low hV) (b3.low hV) (b4.low hV) hb)
/-! properties -/
theorem prop_room {s : List Int} {n : Nat} {R : Pp × PSt} (h : pprop s n = some R) (hR : ¬ isB R.2) (hs : s.length ≤ 65536) : gPp R.1 ∧ (prPp R.1).length ≤ 1099511627776 ∧ sz R.1.p ≤ 4611686018427387904 ∧ ∀ e, R.1.q = some e → sz e ≤ 4611686018427387904 := by
  obtain ⟨g, h2⟩ := pprop_ok s n R h hR
  have hm : (s.length + 1000) * (s.length + 1) ≤ 66536 * 65537 := Nat.mul_le_mul (by omega) (by omega)
  have l1 := prE_len R.1.p g.p 0
  have l2 := decL_19 (v := R.1.wi.toNat) (by have := g.wi; omega)
  refine ⟨g, ?_, ?_, ?_⟩
  · unfold prPp
    cases hq : R.1.q with
    | none =>
      split
      · simp only [List.length_append, List.length_cons, List.length_nil]; omega
      · simp only [List.length_append, List.length_cons, List.length_nil]; omega
    | some e =>
      rw [hq] at h2
      dsimp only at h2
      have l3 := prE_len e (g.q e hq).1 0
      split
      · simp only [List.length_append, List.length_cons, List.length_nil]; omega
      · simp only [List.length_append, List.length_cons, List.length_nil]; omega
  · have : sz R.1.p ≤ sz R.1.p + (match R.1.q with | none => 0 | some e => sz e) := Nat.le_add_right _ _
    omega
  · intro e he
    rw [he] at h2
    dsimp only at h2
    omega
theorem OE.nd {w w' : World} {D : Nat → Prop} {o : Option E} {f : XP} (h : OE w D o f) (ex : Ex (fun _ => False) w w') : OE w' ND o f := h.keep ex (fun _ z => z.elim) (fun _ z => z.elim)
theorem ET.nd {w w' : World} {D : Nat → Prop} {o : E} {f : XP} (h : ET w D o f) (ex : Ex (fun _ => False) w w') : ET w' ND o f := h.keep ex (fun _ z => z.elim) (fun _ z => z.elim)
/-- a property in memory -/
structure PPM (w : World) (P : Pp) (f1 f2 : XP) : Prop where
  p : ET w ND P.p f1
  q : OE w ND P.q f2
theorem PPM.low {w w' : World} {P : Pp} {f1 f2 : XP} (h : PPM w P f1 f2) (ex : Ex (fun _ => False) w w') : PPM w' P f1 f2 := ⟨h.p.low ex, h.q.nd ex⟩
theorem print_prop {w : World} {P : Pp} {f1 f2 : XP} (g : gPp P) (h : PPM w P f1 f2) (hl : (prPp P).length ≤ 1099511627776) : Calls Try.prog 18 #[prV P.re f1 P.wi f2] w (TxPost w (prPp P)) := by
  obtain ⟨re, p, wi, q⟩ := P
  cases re with
  | false =>
    have e : prPp ⟨false, p, wi, q⟩ = [73, 78, 86, 65, 82, 73, 65, 78, 84, 32] ++ prE p 0 ++ [59, 10] := if_neg Bool.false_ne_true
    rw [e] at hl ⊢
    exact pp_inv p g.p w ND f1 f2 wi h.p hl
  | true =>
    have hq := g.re rfl
    cases q with
    | none => cases hq
    | some q =>
      have hw : 0 ≤ wi ∧ wi ≤ 9223372036854775807 := g.wi
      have e : prPp ⟨true, p, wi, some q⟩ = [82, 69, 83, 80, 79, 78, 83, 69, 32] ++ prE p 0 ++ ([32, 87, 73, 84, 72, 73, 78, 32] ++ decL wi.toNat ++ [32, 84, 72, 69, 78, 32]) ++ prE q 0 ++ [59, 10] := if_pos rfl
      rw [e] at hl ⊢
      have := pp_rsp p q wi.toNat g.p (g.q q rfl).1 (by omega) w ND f1 f2 h.p hl h.q
      rw [show ((wi.toNat : Nat) : Int) = wi by omega] at this
      exact this
theorem goodp_call {w : World} {P : Pp} {f1 f2 : XP} (g : gPp P) (h : PPM w P f1 f2) (h1 : sz P.p ≤ 4611686018427387904) (h2 : ∀ e, P.q = some e → sz e ≤ 4611686018427387904) : Calls Try.prog 17 #[prV P.re f1 P.wi f2] w (RdB w true) := by
  obtain ⟨re, p, wi, q⟩ := P
  cases re with
  | false =>
    obtain ⟨hq, hw⟩ := g.nr rfl
    have hq : q = none := hq
    have hw : wi = 0 := hw
    subst hq
    exact goodProp_f w wi f1 f2 hw h.q (fun W hW => goodE p g.p h1 W f1 (h.p.low hW))
  | true =>
    have hq := g.re rfl
    cases q with
    | none => cases hq
    | some q => exact goodProp_t w wi f1 f2 g.wi.1 (fun W hW => goodE q (g.q q rfl).1 (h2 q rfl) W f2 (ET.low h.q hW)) (fun W hW => goodE p g.p h1 W f1 (h.p.low hW))
theorem x00_same (W : World) : Calls Try.prog 42 #[xV x00, xV x00, .bool false] W (RdB W true) := by
  have := sameExpr_any .nil W .nil false x00 x00 [] [] (RW.nil W ND) rfl (RW.nil W ND) rfl
  rw [show (hdZ false x00 x00 && sZ false .nil .nil) = true by simp [hdZ, eqB_rfl, sZ]] at this
  exact this
theorem same_oe {W : World} {o o' : Option E} {f f' : XP} (h : OE W ND o f) (h' : OE W ND o' f') (he : o.map E.er = o'.map E.er) : Calls Try.prog 42 #[xV f, xV f', .bool false] W (RdB W true) := by
  cases o with
  | none =>
    cases o' with
    | some e' => cases he
    | none => rw [show f = x00 from h, show f' = x00 from h']; exact x00_same W
  | some e =>
    cases o' with
    | none => cases he
    | some e' => injection he with he; exact same_er h h' he
/-- SameExpr of a part of a property with a leaf answers -/
theorem tot_oe {w : World} {o : Option E} {f f' : XP} (h : OE w ND o f) (hq : f'.q = none ∧ f'.ql = 0 ∧ f'.qc = 0) : ∃ b, ∀ W, Ex (fun _ => False) w W → Calls Try.prog 42 #[xV f, xV f', .bool false] W (RdB W b) := by
  have hr : ∀ W, RW W ND [] ⟨f'.q, f'.ql, f'.qc⟩ := fun W => by rw [hq.1, hq.2.1, hq.2.2]; exact RW.nil W ND
  cases o with
  | none =>
    rw [show f = x00 from h]
    exact ⟨_, fun W _ => sameExpr_any .nil W .nil false x00 f' [] [] (RW.nil W ND) rfl (hr W) rfl⟩
  | some e => exact same_tot (B := .nil) (FB := []) h (hr w) rfl false
end Go.Proofs.Qxb6500774a
