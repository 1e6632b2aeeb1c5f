import Derived.Test.Qxb6500774aHm
namespace Go.Proofs.Qxb6500774a
open Go.RowKit
set_option linter.unusedVariables false
set_option linter.unusedSimpArgs false
variable {s : List Int}

/-! ### Printed declarations are read back -/
def itI : Option E → List It
  | none => []
  | some e => ([32], .sym bASG) :: itE e 0 [32]
def itR (x : Dc) : List It := if x.arr = true then [([32], .sym bARY), ([32], .sym bBRA), ([], .num x.lo.toNat), ([], .sym bDD), ([], .num x.hi.toNat), ([], .sym bKET), ([32], .sym bOF)] else []
def itD (x : Dc) : List It := ([10, 32, 32], .nm x.nm) :: ([32], .sym bCOL) :: (itR x ++ (([32], .nm x.ty) :: (itI x.ini ++ [([], .sym bSEM)])))
def itDs : Option ByteArray → List Dc → List It
  | _, [] => []
  | pv, x :: L => (if hdC pv x = true then [([10], .sym x.cls)] else []) ++ (itD x ++ ((if ftC x L = true then [([10], .sym bEVR)] else []) ++ itDs (some x.cls) L))
def prI : Option E → List Int
  | none => []
  | some e => [32, 58, 61, 32] ++ prE e 0
theorem flat_itI {o : Option E} (h : ∀ e, o = some e → gE e) : flat (itI o) = prI o := by
  cases o with
  | none => rfl
  | some e =>
    simp only [itI]
    rw [flat_cons, flat_itE e (h e rfl)]
    show [32] ++ [58, 61] ++ _ = [32, 58, 61, 32] ++ prE e 0
    simp
theorem flat_itD {x : Dc} (h : gD x) : [10] ++ prD1 x = flat (itD x) ++ [10] := by
  unfold itD
  rw [flat_cons, flat_cons, flat_app, flat_cons, flat_app, flat_itI h.ini, flat_one]
  have e1 : flat (itR x) = (if x.arr = true then [32, 65, 82, 82, 65, 89, 32, 91] ++ decL x.lo.toNat ++ [46, 46] ++ decL x.hi.toNat ++ [93, 32, 79, 70] else []) := by
    unfold itR
    split
    · rw [flat_cons, flat_cons, flat_cons, flat_cons, flat_cons, flat_cons, flat_one]
      show [32] ++ [65, 82, 82, 65, 89] ++ ([32] ++ [91] ++ ([] ++ decL x.lo.toNat ++ ([] ++ [46, 46] ++ ([] ++ decL x.hi.toNat ++ ([] ++ [93] ++ ([32] ++ [79, 70])))))) = _
      simp
    · rfl
  rw [e1]
  show _ = [10, 32, 32] ++ strL x.nm ++ ([32] ++ [58] ++ (_ ++ ([32] ++ strL x.ty ++ (_ ++ ([] ++ [59]))))) ++ [10]
  have e2 : prD1 x = [32, 32] ++ strL x.nm ++ [32, 58, 32] ++ (if x.arr = true then [65, 82, 82, 65, 89, 32, 91] ++ decL x.lo.toNat ++ [46, 46] ++ decL x.hi.toNat ++ [93, 32, 79, 70, 32] else []) ++ strL x.ty ++ prI x.ini ++ [59, 10] := by unfold prD1 prI; cases x.ini <;> rfl
  rw [e2]
  split <;> simp
theorem flat_itDs : ∀ (L : List Dc) (pv : Option ByteArray), (∀ x ∈ L, gD x) → [10] ++ prDs pv L = flat (itDs pv L) ++ [10]
  | [], _, _ => rfl
  | x :: L, pv, h => by
    have ih := flat_itDs L (some x.cls) (fun y hy => h y (List.mem_cons_of_mem _ hy))
    have hx := flat_itD (h x (List.mem_cons_self ..))
    simp only [itDs, prDs]
    rw [flat_app, flat_app, flat_app]
    have e1 : [10] ++ (if hdC pv x = true then strL x.cls ++ [10] else []) = flat (if hdC pv x = true then [([10], Tok.sym x.cls)] else []) ++ [10] := by
      split
      · rw [flat_one]; show _ = [10] ++ strL x.cls ++ [10]; simp
      · rfl
    have e2 : [10] ++ (if ftC x L = true then [69, 78, 68, 95, 86, 65, 82, 10] else []) = flat (if ftC x L = true then [([10], Tok.sym bEVR)] else []) ++ [10] := by
      split
      · rfl
      · rfl
    generalize (if hdC pv x = true then strL x.cls ++ [10] else []) = a1 at *
    generalize (if ftC x L = true then ([69, 78, 68, 95, 86, 65, 82, 10] : List Int) else []) = a2 at *
    generalize flat (if hdC pv x = true then [([10], Tok.sym x.cls)] else []) = b1 at *
    generalize flat (if ftC x L = true then [([10], Tok.sym bEVR)] else []) = b2 at *
    calc [10] ++ (a1 ++ prD1 x ++ a2 ++ prDs (some x.cls) L) = ([10] ++ a1) ++ prD1 x ++ a2 ++ prDs (some x.cls) L := by simp
      _ = b1 ++ ([10] ++ prD1 x) ++ a2 ++ prDs (some x.cls) L := by rw [e1]; simp
      _ = b1 ++ flat (itD x) ++ ([10] ++ a2) ++ prDs (some x.cls) L := by rw [hx]; simp
      _ = b1 ++ flat (itD x) ++ b2 ++ ([10] ++ prDs (some x.cls) L) := by rw [e2]; simp
      _ = b1 ++ (flat (itD x) ++ (b2 ++ flat (itDs (some x.cls) L))) ++ [10] := by rw [ih]; simp
theorem tl_VAR : bVAR.toList = [86, 65, 82] := by rw [ByteArray.toList_eq]; rfl
theorem tl_VIN : bVIN.toList = [86, 65, 82, 95, 73, 78, 80, 85, 84] := by rw [ByteArray.toList_eq]; rfl
theorem tl_VOU : bVOU.toList = [86, 65, 82, 95, 79, 85, 84, 80, 85, 84] := by rw [ByteArray.toList_eq]; rfl
theorem tl_EVR : bEVR.toList = [69, 78, 68, 95, 86, 65, 82] := by rw [ByteArray.toList_eq]; rfl
theorem tl_ARY : bARY.toList = [65, 82, 82, 65, 89] := by rw [ByteArray.toList_eq]; rfl
theorem cls_kw {x : ByteArray} (h : x = bVAR ∨ x = bVIN ∨ x = bVOU) : kwP x.toList = true := by
  rcases h with rfl | rfl | rfl <;> decide +kernel
theorem LXs_itD {x : Dc} (h : gD x) (rest : List Int) : LXs (itD x) rest := by
  unfold itD
  have k32 : sf 32 = true := by decide
  refine ⟨rfl, h.nm, k32, rfl, by decide +kernel, ?_, ?_⟩
  · have e1 : ∀ R, hdI (flat (itR x ++ (([32], .nm x.ty) :: R)) ++ rest) = 32 := fun R => by
      unfold itR
      split <;> rfl
    rw [e1]
    decide +kernel
  · rw [LXs_app]
    refine ⟨?_, rfl, h.ty, ?_, ?_⟩
    · unfold itR
      split
      · have hlo := h.lo
        have hhi := h.hi
        have k46 : sf 46 = true := by decide
        have k93 : sf 93 = true := by decide
        have hd : ∀ (v : Nat) (R : List Int), 48 ≤ hdI (decL v ++ R) ∧ hdI (decL v ++ R) ≤ 57 := fun v R => by
          cases hq : decL v with
          | nil => exact absurd hq (dec_ne v)
          | cons c r => exact dec_wd v c (by rw [hq]; exact List.mem_cons_self ..)
        refine ⟨rfl, by decide +kernel, fT_kw (by decide +kernel) k32, rfl, by decide +kernel, ?_, rfl, ?_, k46, rfl, by decide +kernel, ?_, rfl, ?_, k93, rfl, by decide +kernel, ?_, rfl, by decide +kernel, fT_kw (by decide +kernel) k32, trivial⟩
        · simp only [fT]
          rw [if_neg (by decide +kernel), show strL bBRA = [91] from rfl]
          unfold twoM
          simp
        · simp only [gT]; exact decide_eq_true (by omega)
        · simp only [fT]
          rw [if_neg (by decide +kernel), show strL bDD = [46, 46] from rfl]
        · simp only [gT]; exact decide_eq_true (by omega)
        · simp only [fT]
          rw [if_neg (by decide +kernel), show strL bKET = [93] from rfl]
          unfold twoM
          simp
      · exact trivial
    · cases x.ini with
      | none => show sf 59 = true; decide
      | some e => exact k32
    · rw [LXs_app]
      refine ⟨?_, rfl, by decide +kernel, fT_SEM _, trivial⟩
      cases hi : x.ini with
      | none => exact trivial
      | some e =>
        have he := h.ini e hi
        refine ⟨rfl, by decide +kernel, ?_, LXs_itE e he 0 [32] _ rfl (by show sf 59 = true; decide)⟩
        rw [flat_itE e he]
        show fT (.sym bASG) 32 = true
        decide +kernel
theorem sf_itDs (L : List Dc) (pv : Option ByteArray) (rest : List Int) (h : sf (hdI rest) = true) : sf (hdI (flat (itDs pv L) ++ rest)) = true := by
  cases L with
  | nil => exact h
  | cons x L =>
    simp only [itDs]
    split
    · show sf 10 = true; decide
    · show sf 10 = true; decide
theorem LXs_itDs : ∀ (L : List Dc) (pv : Option ByteArray) (rest : List Int), (∀ x ∈ L, gD x) → sf (hdI rest) = true → LXs (itDs pv L) rest
  | [], _, _, _, _ => trivial
  | x :: L, pv, rest, h, hr => by
    have ih := LXs_itDs L (some x.cls) rest (fun y hy => h y (List.mem_cons_of_mem _ hy)) hr
    have hx := h x (List.mem_cons_self ..)
    have k10 : sf 10 = true := by decide
    simp only [itDs]
    rw [LXs_app, LXs_app, LXs_app]
    refine ⟨?_, LXs_itD hx _, ?_, ih⟩
    · split
      · exact ⟨rfl, gT_kw (cls_kw hx.cls), fT_kw (cls_kw hx.cls) k10, trivial⟩
      · exact trivial
    · split
      · exact ⟨rfl, by decide +kernel, fT_kw (by decide +kernel) (sf_itDs L (some x.cls) rest hr), trivial⟩
      · exact trivial
/-! reading -/
def Dc.er (x : Dc) : Dc := ⟨x.cls, x.nm, x.ty, x.arr, x.lo, x.hi, x.ini.map E.er, 0, 0⟩
theorem pdecl_mono {n : Nat} {cls : ByteArray} {st : PSt} {R : Dc × PSt} (h : pdecl s n cls st = some R) : pdecl s (n + 1) cls st = some R := by
  unfold pdecl at h ⊢
  split at h
  · next ha =>
    rw [if_pos ha]
    split at h
    · cases h
    · next e st4 h1 => rw [pj_mono s _ _ _ _ h1]; exact h
  · next ha => rw [if_neg ha]; exact h
theorem pbl_mono (s : List Int) : ∀ (n : Nat) (j : BJob) (st : PSt) (R : List Dc × PSt), pbl s n j st = some R → pbl s (n + 1) j st = some R := by
  intro n
  induction n with
  | zero => intro j st R h; unfold pbl at h; cases h
  | succ n ih =>
    intro j st R h
    cases j with
    | outer =>
      unfold pbl at h ⊢
      split at h
      · next hv => rw [if_pos hv]; exact ih _ _ _ h
      · next hv => rw [if_neg hv]; exact h
    | inner cls =>
      unfold pbl at h ⊢
      split at h
      · next hv =>
        rw [if_pos hv]
        split at h
        · cases h
        · next x st1 h1 =>
          rw [pdecl_mono h1]
          dsimp only
          split at h
          · cases h
          · next L st2 h2 => rw [ih _ _ _ h2]; exact h
      · next hv => rw [if_neg hv]; exact ih _ _ _ h
theorem pdecl_le {n m : Nat} (h : n ≤ m) {cls : ByteArray} {st : PSt} {R : Dc × PSt} (hp : pdecl s n cls st = some R) : pdecl s m cls st = some R := by
  obtain ⟨k, rfl⟩ := Nat.exists_eq_add_of_le h
  induction k with
  | zero => exact hp
  | succ k ih => exact pdecl_mono (ih (by omega))
theorem pbl_le {n m : Nat} (h : n ≤ m) {j : BJob} {st : PSt} {R : List Dc × PSt} (hp : pbl s n j st = some R) : pbl s m j st = some R := by
  obtain ⟨k, rfl⟩ := Nat.exists_eq_add_of_le h
  induction k with
  | zero => exact hp
  | succ k ih => exact pbl_mono s _ _ _ _ (ih (by omega))
def PBs (s : List Int) (j : BJob) (st : PSt) (R : List Dc × PSt) : Prop := ∃ n, pbl s n j st = some R
theorem back_may {x : Dc} (h : gD x) {k : Nat} {d : Int} (hs : Stm s k (tkl (itR x))) (hn : (tks s (k + (itR x).length)).1.k = 2) : mayArr s (.at k d) = ((x.arr, x.lo, x.hi), .at (k + (itR x).length) d) := by
  unfold mayArr
  by_cases ha : x.arr = true
  · have e : itR x = [([32], .sym bARY), ([32], .sym bBRA), ([], .num x.lo.toNat), ([], .sym bDD), ([], .num x.hi.toNat), ([], .sym bKET), ([32], .sym bOF)] := if_pos ha
    rw [e] at hs ⊢
    have hs : Stm s k [.sym bARY, .sym bBRA, .num x.lo.toNat, .sym bDD, .num x.hi.toNat, .sym bKET, .sym bOF] := hs
    obtain ⟨t1, s1⟩ := hs.hd
    obtain ⟨t2, s2⟩ := s1.hd
    obtain ⟨t3, s3⟩ := s2.hd
    obtain ⟨t4, s4⟩ := s3.hd
    obtain ⟨t5, s5⟩ := s4.hd
    obtain ⟨t6, s6⟩ := s5.hd
    obtain ⟨t7, _⟩ := s6.hd
    rw [accept_t (sym_K t1 rfl), if_pos rfl]
    unfold arrS
    dsimp only
    rw [expect_t (sym_K t2 rfl), take_t t3.1]
    dsimp only
    rw [expect_t (sym_K t4 rfl), take_t t5.1]
    dsimp only
    rw [expect_t (sym_K t6 rfl), expect_t (sym_K t7 rfl), t3.2, t5.2, ha]
    have hlo := h.lo
    have hhi := h.hi
    rw [show ((x.lo.toNat : Nat) : Int) = x.lo by omega, show ((x.hi.toNat : Nat) : Int) = x.hi by omega]
    rfl
  · have e : itR x = [] := if_neg ha
    rw [e] at hn ⊢
    have hn : (tks s k).1.k = 2 := hn
    rw [accept_n (isK_f (by omega)), if_neg Bool.false_ne_true]
    have ha : x.arr = false := by simpa using ha
    have := h.na ha
    rw [ha, this.1, this.2]
    rfl
theorem back_decl {x : Dc} (h : gD x) {k : Nat} {d : Int} (hs : Stm s k (tkl (itD x))) (h0 : 0 ≤ d) (hd : d + dD x ≤ 64) : (tks s k).1.k = 2 ∧ ∃ n x', x'.er = x.er ∧ pdecl s n x.cls (.at k d) = some (x', .at (k + (itD x).length) d) := by
  have hl : k + (itD x).length = k + 1 + 1 + (itR x).length + 1 + (itI x.ini).length + 1 := by
    simp only [itD, List.length_cons, List.length_append, List.length_nil]
    omega
  rw [hl]
  have hs : Stm s k (.nm x.nm :: .sym bCOL :: tkl (itR x ++ (([32], .nm x.ty) :: (itI x.ini ++ [([], .sym bSEM)])))) := hs
  obtain ⟨t1, s1⟩ := hs.hd
  obtain ⟨t2, s2⟩ := s1.hd
  rw [tkl_app] at s2
  obtain ⟨s3, s4⟩ := s2.app
  rw [tkl_len] at s4
  obtain ⟨t3, s5⟩ := s4.hd
  have s5 : Stm s _ (tkl (itI x.ini ++ [([], .sym bSEM)])) := s5
  rw [tkl_app] at s5
  obtain ⟨s6, s7⟩ := s5.app
  rw [tkl_len] at s7
  obtain ⟨t4, _⟩ := s7.hd
  have hm := back_may (d := d) h s3 t3.1
  refine ⟨t1.1, ?_⟩
  cases hi : x.ini with
  | none =>
    rw [hi] at t4
    have t4 : tkIs (.sym bSEM) (tks s (k + 1 + 1 + (itR x).length + 1)).1 := t4
    refine ⟨0, ⟨x.cls, x.nm, x.ty, x.arr, x.lo, x.hi, none, (tks s k).1.l, (tks s k).1.c⟩, ?_, ?_⟩
    · unfold Dc.er
      rw [hi]
    · unfold pdecl
      rw [take_t t1.1]
      dsimp only
      rw [expect_t (sym_K t2 rfl), hm]
      dsimp only
      rw [take_t t3.1]
      dsimp only
      rw [accept_n (sym_Kn t4 (by rw [tl_SEM, tl_ASG]; decide)), if_neg Bool.false_ne_true, expect_t (sym_K t4 rfl), t1.2, t3.2]
      rfl
  | some e =>
    have he := h.ini e hi
    rw [hi] at s6 t4
    unfold dD at hd
    rw [hi] at hd
    dsimp only at hd
    have s6 : Stm s _ (.sym bASG :: tkl (itE e 0 [32])) := s6
    obtain ⟨t5, s8⟩ := s6.hd
    have hl2 : k + 1 + 1 + (itR x).length + 1 + (itI (some e)).length = k + 1 + 1 + (itR x).length + 1 + 1 + (itE e 0 [32]).length := by
      simp only [itI, List.length_cons]
      omega
    rw [hl2] at t4 ⊢
    obtain ⟨e', a1, n, a2⟩ := back_ex he s8 h0 hd stp_SEM t4
    refine ⟨n, ⟨x.cls, x.nm, x.ty, x.arr, x.lo, x.hi, some e', (tks s k).1.l, (tks s k).1.c⟩, ?_, ?_⟩
    · unfold Dc.er
      rw [hi]
      dsimp only [Option.map_some]
      rw [a1]
    · unfold pdecl
      rw [take_t t1.1]
      dsimp only
      rw [expect_t (sym_K t2 rfl), hm]
      dsimp only
      rw [take_t t3.1]
      dsimp only
      rw [accept_t (sym_K t5 rfl), if_pos rfl]
      dsimp only
      rw [a2]
      dsimp only
      rw [expect_t (sym_K t4 rfl), t1.2, t3.2]
      rfl
theorem PBs.decl {k : Nat} {d : Int} {cls : ByteArray} {x : Dc} {L : List Dc} {st1 st2 : PSt} (hk : (tks s k).1.k = 2) (h1 : ∃ n, pdecl s n cls (.at k d) = some (x, st1)) (h2 : PBs s (.inner cls) st1 (L, st2)) : PBs s (.inner cls) (.at k d) (x :: L, st2) := by
  obtain ⟨n1, h1⟩ := h1
  obtain ⟨n2, h2⟩ := h2
  refine ⟨max n1 n2 + 1, ?_⟩
  unfold pbl
  rw [if_pos (show (tokS s (.at k d)).k = 2 from hk), pdecl_le (Nat.le_max_left n1 n2) h1]
  dsimp only
  rw [pbl_le (Nat.le_max_right n1 n2) h2]
theorem PBs.close {k : Nat} {d : Int} {cls : ByteArray} {R : List Dc × PSt} (t : tkIs (.sym bEVR) (tks s k).1) (h : PBs s .outer (.at (k + 1) d) R) : PBs s (.inner cls) (.at k d) R := by
  obtain ⟨n, h⟩ := h
  refine ⟨n + 1, ?_⟩
  unfold pbl
  rw [if_neg (show ¬ (tokS s (.at k d)).k = 2 by show ¬ (tks s k).1.k = 2; have := t.1; omega), expect_t (sym_K t rfl)]
  exact h
theorem PBs.open {k : Nat} {d : Int} {cls : ByteArray} {R : List Dc × PSt} (hc : cls = bVAR ∨ cls = bVIN ∨ cls = bVOU) (t : tkIs (.sym cls) (tks s k).1) (h : PBs s (.inner cls) (.at (k + 1) d) R) : PBs s .outer (.at k d) R := by
  obtain ⟨n, h⟩ := h
  refine ⟨n + 1, ?_⟩
  have hv : isVar s (.at k d) = true := by
    unfold isVar
    rcases hc with rfl | rfl | rfl
    · rw [show atS s bVAR (.at k d) = true from sym_K t rfl]; rfl
    · rw [show atS s bVIN (.at k d) = true from sym_K t rfl]; simp
    · rw [show atS s bVOU (.at k d) = true from sym_K t rfl]; simp
  unfold pbl
  rw [if_pos hv, take_t t.1, t.2.1]
  exact h
theorem PBs.stop {k : Nat} {d : Int} (h : isVar s (.at k d) = false) : PBs s .outer (.at k d) ([], .at k d) := ⟨1, by unfold pbl; rw [if_neg (by rw [h]; exact Bool.false_ne_true)]⟩
def erD (L : List Dc) : List Dc := L.map Dc.er
theorem back_rest : ∀ (L : List Dc) (x : Dc), (x.cls = bVAR ∨ x.cls = bVIN ∨ x.cls = bVOU) → (∀ y ∈ L, gD y) → ∀ (k : Nat) (d : Int), Stm s k (tkl ((if ftC x L = true then [([10], .sym bEVR)] else []) ++ itDs (some x.cls) L)) → 0 ≤ d → d + dDs L ≤ 64 → isVar s (.at (k + ((if ftC x L = true then [([10], Tok.sym bEVR)] else []) ++ itDs (some x.cls) L).length) d) = false → ∃ L', erD L' = erD L ∧ PBs s (.inner x.cls) (.at k d) (L', .at (k + ((if ftC x L = true then [([10], Tok.sym bEVR)] else []) ++ itDs (some x.cls) L).length) d)
  | [], x, hc, _, k, d, hs, _, _, hv => by
    have t : tkIs (.sym bEVR) (tks s k).1 := hs 0 _ rfl
    exact ⟨[], rfl, PBs.close t (PBs.stop hv)⟩
  | y :: L, x, hc, h, k, d, hs, h0, hd, hv => by
    have hy := h y (List.mem_cons_self ..)
    have ih := back_rest L y hy.cls (fun z hz => h z (List.mem_cons_of_mem _ hz))
    simp only [dDs] at hd
    by_cases he : y.cls.toList = x.cls.toList
    · have e1 : ftC x (y :: L) = false := by simp [ftC, he]
      have e2 : hdC (some x.cls) y = false := by simp [hdC, he]
      have ec : y.cls = x.cls := ba_eq he
      have e3 : (if ftC x (y :: L) = true then [([10], Tok.sym bEVR)] else []) ++ itDs (some x.cls) (y :: L) = itD y ++ ((if ftC y L = true then [([10], Tok.sym bEVR)] else []) ++ itDs (some y.cls) L) := by
        rw [e1]
        simp only [itDs]
        rw [e2]
        rfl
      rw [e3] at hs hv ⊢
      rw [tkl_app] at hs
      obtain ⟨s1, s2⟩ := hs.app
      rw [tkl_len] at s2
      have hl : k + (itD y ++ ((if ftC y L = true then [([10], Tok.sym bEVR)] else []) ++ itDs (some y.cls) L)).length = k + (itD y).length + ((if ftC y L = true then [([10], Tok.sym bEVR)] else []) ++ itDs (some y.cls) L).length := by rw [List.length_append]; omega
      rw [hl] at hv ⊢
      obtain ⟨a0, n, y', a1, a2⟩ := back_decl (d := d) hy s1 h0 (by omega)
      obtain ⟨L', b1, b2⟩ := ih _ d s2 h0 (by omega) hv
      rw [ec] at a2 b2
      refine ⟨y' :: L', ?_, PBs.decl a0 ⟨n, a2⟩ (by rw [ec]; exact b2)⟩
      unfold erD at b1 ⊢
      rw [List.map_cons, List.map_cons, b1, a1]
    · have e1 : ftC x (y :: L) = true := by simp [ftC, he]
      have e2 : hdC (some x.cls) y = true := by simp [hdC]; exact fun z => he z.symm
      have e3 : (if ftC x (y :: L) = true then [([10], Tok.sym bEVR)] else []) ++ itDs (some x.cls) (y :: L) = ([10], .sym bEVR) :: ([10], .sym y.cls) :: (itD y ++ ((if ftC y L = true then [([10], Tok.sym bEVR)] else []) ++ itDs (some y.cls) L)) := by
        rw [e1]
        simp only [itDs]
        rw [e2]
        rfl
      rw [e3] at hs hv ⊢
      obtain ⟨t1, s1⟩ := hs.hd
      obtain ⟨t2, s2⟩ := s1.hd
      have s2 : Stm s _ (tkl (itD y ++ ((if ftC y L = true then [([10], Tok.sym bEVR)] else []) ++ itDs (some y.cls) L))) := s2
      rw [tkl_app] at s2
      obtain ⟨s3, s4⟩ := s2.app
      rw [tkl_len] at s4
      have hl : k + ((([10], .sym bEVR) : It) :: ([10], .sym y.cls) :: (itD y ++ ((if ftC y L = true then [([10], Tok.sym bEVR)] else []) ++ itDs (some y.cls) L))).length = k + 1 + 1 + (itD y).length + ((if ftC y L = true then [([10], Tok.sym bEVR)] else []) ++ itDs (some y.cls) L).length := by rw [List.length_cons, List.length_cons, List.length_append]; omega
      rw [hl] at hv ⊢
      obtain ⟨a0, n, y', a1, a2⟩ := back_decl (d := d) hy s3 h0 (by omega)
      obtain ⟨L', b1, b2⟩ := ih _ d s4 h0 (by omega) hv
      refine ⟨y' :: L', ?_, PBs.close t1 (PBs.open hy.cls t2 (PBs.decl a0 ⟨n, a2⟩ b2))⟩
      unfold erD at b1 ⊢
      rw [List.map_cons, List.map_cons, b1, a1]
theorem back_ds (L : List Dc) (h : ∀ y ∈ L, gD y) {k : Nat} {d : Int} (hs : Stm s k (tkl (itDs none L))) (h0 : 0 ≤ d) (hd : d + dDs L ≤ 64) (hv : isVar s (.at (k + (itDs none L).length) d) = false) : ∃ L', erD L' = erD L ∧ PBs s .outer (.at k d) (L', .at (k + (itDs none L).length) d) := by
  cases L with
  | nil => exact ⟨[], rfl, PBs.stop hv⟩
  | cons y L =>
    have hy := h y (List.mem_cons_self ..)
    simp only [dDs] at hd
    have e3 : itDs none (y :: L) = ([10], .sym y.cls) :: (itD y ++ ((if ftC y L = true then [([10], Tok.sym bEVR)] else []) ++ itDs (some y.cls) L)) := rfl
    rw [e3] at hs hv ⊢
    obtain ⟨t2, s2⟩ := hs.hd
    have s2 : Stm s _ (tkl (itD y ++ ((if ftC y L = true then [([10], Tok.sym bEVR)] else []) ++ itDs (some y.cls) L))) := s2
    rw [tkl_app] at s2
    obtain ⟨s3, s4⟩ := s2.app
    rw [tkl_len] at s4
    have hl : k + ((([10], .sym y.cls) : It) :: (itD y ++ ((if ftC y L = true then [([10], Tok.sym bEVR)] else []) ++ itDs (some y.cls) L))).length = k + 1 + (itD y).length + ((if ftC y L = true then [([10], Tok.sym bEVR)] else []) ++ itDs (some y.cls) L).length := by rw [List.length_cons, List.length_append]; omega
    rw [hl] at hv ⊢
    obtain ⟨a0, n, y', a1, a2⟩ := back_decl (d := d) hy s3 h0 (by omega)
    obtain ⟨L', b1, b2⟩ := back_rest L y hy.cls (fun z hz => h z (List.mem_cons_of_mem _ hz)) _ d s4 h0 (by omega) hv
    refine ⟨y' :: L', ?_, PBs.open hy.cls t2 (PBs.decl a0 ⟨n, a2⟩ b2)⟩
    unfold erD at b1 ⊢
    rw [List.map_cons, List.map_cons, b1, a1]
/-! ### Programs and properties -/
theorem not_var {k : Nat} {d : Int} {x : ByteArray} (t : tkIs (.sym x) (tks s k).1) (h1 : x.toList ≠ [86, 65, 82]) (h2 : x.toList ≠ [86, 65, 82, 95, 73, 78, 80, 85, 84]) (h3 : x.toList ≠ [86, 65, 82, 95, 79, 85, 84, 80, 85, 84]) : isVar s (.at k d) = false := by
  unfold isVar
  rw [show atS s bVAR (.at k d) = false from sym_Kn t (by rw [tl_VAR]; exact h1), show atS s bVIN (.at k d) = false from sym_Kn t (by rw [tl_VIN]; exact h2), show atS s bVOU (.at k d) = false from sym_Kn t (by rw [tl_VOU]; exact h3)]
  rfl
theorem not_var2 {k : Nat} {d : Int} (t : (tks s k).1.k = 2) : isVar s (.at k d) = false := by
  unfold isVar
  have n1 : ∀ u, atS s u (.at k d) = false := fun u => isK_f (by omega)
  rw [n1, n1, n1]
  rfl
theorem pl_first : ∀ (e : E), e.isPl = true → gE e → ∀ (w : List Int), ∃ x L, tkl (itE e 0 w) = .nm x :: L
  | .nm x _ _, _, _, w => ⟨x, [], rfl⟩
  | .fld e x _ _, _, h, w => by
    obtain ⟨y, L, hy⟩ := pl_first e h.2.2 h.1 w
    refine ⟨y, L ++ tkl [([], .sym bDOT), ([], .nm x)], ?_⟩
    show tkl (itE e 0 w ++ [([], .sym bDOT), ([], .nm x)]) = _
    rw [tkl_app, hy]
    rfl
  | .idx e i _ _, _, h, w => by
    obtain ⟨y, L, hy⟩ := pl_first e h.2.2 h.1 w
    refine ⟨y, L ++ tkl (([], .sym bBRA) :: (itE i 0 [] ++ [([], .sym bKET)])), ?_⟩
    show tkl (itE e 0 w ++ (([], .sym bBRA) :: (itE i 0 [] ++ [([], .sym bKET)]))) = _
    rw [tkl_app, hy]
    rfl
  | .num _ _ _, h, _, _ => by cases h
  | .tim _ _ _, h, _, _ => by cases h
  | .bol _ _ _, h, _, _ => by cases h
  | .un _ _ _ _, h, _, _ => by cases h
  | .bin _ _ _ _ _, h, _, _ => by cases h
theorem tl_EPR : bEPR.toList = [69, 78, 68, 95, 80, 82, 79, 71, 82, 65, 77] := by rw [ByteArray.toList_eq]; rfl
theorem body_var {A : S} (hg : gS A) (hw : wf A false) {k : Nat} {d : Int} (hs : Stm s k (tkl (itS A 1 true))) (ht : tkIs (.sym bEPR) (tks s (k + (itS A 1 true).length)).1) : isVar s (.at k d) = false := by
  cases A with
  | nil => exact not_var (x := bEPR) ht (by rw [tl_EPR]; decide) (by rw [tl_EPR]; decide) (by rw [tl_EPR]; decide)
  | asg t e l c r =>
    simp only [itS] at hs
    rw [tkl_app] at hs
    obtain ⟨x, L, hx⟩ := pl_first t hg.2.2.1 hg.1 (mg 1)
    rw [hx] at hs
    exact not_var2 (hs 0 _ rfl).1
  | call x ag l c r => exact not_var2 (show tkIs (.nm x) (tks s k).1 from hs 0 _ rfl).1
  | iff A L l c r =>
    simp only [itS] at hs
    cases A with
    | nil => have := hg.2.2.1; cases this
    | asg t e l c r => have := hw.2.1.1; cases this
    | call x ag l c r => have := hw.2.1.1; cases this
    | iff A L l c r => have := hw.2.1.1; cases this
    | arm e L r =>
      have t : tkIs (.sym bIF) (tks s k).1 := hs 0 _ rfl
      exact not_var t (by rw [tl_IF]; decide) (by rw [tl_IF]; decide) (by rw [tl_IF]; decide)
    | fr x a e L l c r => have := hw.2.1.1; cases this
    | rung e cs l c r => have := hw.2.1.1; cases this
  | arm e L r => have := hw.1; cases this
  | fr x a e L l c r =>
    have t : tkIs (.sym bFOR) (tks s k).1 := hs 0 _ rfl
    exact not_var t (by rw [tl_FOR]; decide) (by rw [tl_FOR]; decide) (by rw [tl_FOR]; decide)
  | rung e cs l c r =>
    have t : tkIs (.sym bRUN) (tks s k).1 := hs 0 _ rfl
    exact not_var t (by rw [tl_RUN]; decide) (by rw [tl_RUN]; decide) (by rw [tl_RUN]; decide)
def Pg.er (P : Pg) : Pg := ⟨P.nm, erD P.ds, P.bd.er⟩
def itP (P : Pg) : List It := ([], .sym bPRG) :: ([32], .nm P.nm) :: (itDs none P.ds ++ (itS P.bd 1 true ++ [([10], .sym bEPR)]))
theorem flat_itP {P : Pg} (h : gPg P) : prPg P = flat (itP P) ++ [10] := by
  unfold itP prPg
  rw [flat_cons, flat_cons, flat_app, flat_app, flat_one]
  have e1 := flat_itDs P.ds none h.ds
  have e2 := flat_itS P.bd 1 true false h.bd h.wf (fun z => by cases z)
  rw [if_neg (by simp)] at e2
  show _ = [] ++ [80, 82, 79, 71, 82, 65, 77] ++ ([32] ++ strL P.nm ++ (flat (itDs none P.ds) ++ (flat (itS P.bd 1 true) ++ ([10] ++ [69, 78, 68, 95, 80, 82, 79, 71, 82, 65, 77])))) ++ [10]
  generalize flat (itDs none P.ds) = a at *
  generalize flat (itS P.bd 1 true) = b at *
  calc ([80, 82, 79, 71, 82, 65, 77, 32] ++ strL P.nm ++ [10]) ++ prDs none P.ds ++ pr P.bd 1 true ++ [69, 78, 68, 95, 80, 82, 79, 71, 82, 65, 77, 10] = [80, 82, 79, 71, 82, 65, 77, 32] ++ strL P.nm ++ ([10] ++ prDs none P.ds) ++ pr P.bd 1 true ++ [69, 78, 68, 95, 80, 82, 79, 71, 82, 65, 77, 10] := by simp
    _ = [80, 82, 79, 71, 82, 65, 77, 32] ++ strL P.nm ++ a ++ ([10] ++ pr P.bd 1 true) ++ [69, 78, 68, 95, 80, 82, 79, 71, 82, 65, 77, 10] := by rw [e1]; simp
    _ = _ := by rw [e2]; simp
theorem LXs_itP {P : Pg} (h : gPg P) : LXs (itP P) [10] := by
  unfold itP
  have k10 : sf 10 = true := by decide
  have k32 : sf 32 = true := by decide
  refine ⟨rfl, by decide +kernel, fT_kw (by decide +kernel) k32, rfl, h.nm, ?_, ?_⟩
  · show sf (hdI (flat (itDs none P.ds ++ (itS P.bd 1 true ++ [([10], .sym bEPR)])) ++ [10])) = true
    rw [flat_app, flat_app, List.append_assoc, List.append_assoc]
    exact sf_itDs _ _ _ (sf_itS _ _ _ false h.wf h.bd _ k10)
  · rw [LXs_app, LXs_app]
    refine ⟨LXs_itDs _ _ _ h.ds ?_, LXs_itS _ _ _ false _ h.bd h.wf k10, rfl, by decide +kernel, fT_kw (by decide +kernel) k10, trivial⟩
    rw [flat_app, List.append_assoc]
    exact sf_itS _ _ _ false h.wf h.bd _ k10
theorem edr_EPR : Edr bEPR := ⟨by rw [tl_EPR]; decide, by rw [tl_EPR]; decide, by rw [tl_EPR]; decide⟩
theorem pprog_det {n m : Nat} {R R' : Pg × PSt} (h : pprog s n = some R) (h' : pprog s m = some R') : R = R' := by
  have mono : ∀ {a b : Nat} {Q : Pg × PSt}, a ≤ b → pprog s a = some Q → pprog s b = some Q := by
    intro a b Q hab hq
    unfold pprog at hq ⊢
    split at hq
    · cases hq
    · next L st3 h1 =>
      rw [pbl_le hab h1]
      dsimp only
      split at hq
      · cases hq
      · next A st4 h2 => rw [ps_le hab h2]; exact hq
  have h1 := mono (Nat.le_max_left n m) h
  have h2 := mono (Nat.le_max_right n m) h'
  rw [h1] at h2
  injection h2
/-- a good program's text is read back -/
theorem prog_back {P : Pg} (h : gPg P) (hl : (prPg P).length ≤ 1048576) {n : Nat} {R : Pg × PSt} (hR : pprog (prPg P) n = some R) : R.1.er = P.er ∧ isAt R.2 := by
  have e := flat_itP h
  obtain ⟨s0, tend⟩ := lex_all e hl (LXs_itP h) (by decide)
  generalize prPg P = s at *
  have s0 : Stm s 0 (.sym bPRG :: .nm P.nm :: tkl (itDs none P.ds ++ (itS P.bd 1 true ++ [([10], .sym bEPR)]))) := s0
  obtain ⟨t1, s1⟩ := s0.hd
  obtain ⟨t2, s2⟩ := s1.hd
  rw [tkl_app] at s2
  obtain ⟨s3, s4⟩ := s2.app
  rw [tkl_len, tkl_app] at s4
  obtain ⟨s5, s6⟩ := s4.app
  rw [tkl_len] at s6
  obtain ⟨t3, _⟩ := s6.hd
  have hdd := h.dd
  have hdb := h.db
  obtain ⟨L', a1, n1, a2⟩ := back_ds P.ds h.ds s3 (show (0 : Int) ≤ 0 by decide) (by omega) (body_var h.bd h.wf s5 t3)
  obtain ⟨A', b1, n2, b2⟩ := (backS s P.bd h.bd).st h.wf _ 0 1 true bEPR s5 (by decide) (by omega) edr_EPR t3
  have hend : (tks s (0 + 1 + 1 + (itDs none P.ds).length + (itS P.bd 1 true).length + 1)).1.k = 0 := by
    have : (itP P).length = 0 + 1 + 1 + (itDs none P.ds).length + (itS P.bd 1 true).length + 1 := by
      simp only [itP, List.length_cons, List.length_append, List.length_nil]
      omega
    rw [this] at tend
    exact tend
  have hp : pprog s (max n1 n2) = some (⟨P.nm, L', A'⟩, .at (0 + 1 + 1 + (itDs none P.ds).length + (itS P.bd 1 true).length + 1 + 1) 0) := by
    unfold pprog
    rw [expect_t (sym_K t1 rfl), take_t t2.1]
    dsimp only
    rw [pbl_le (Nat.le_max_left n1 n2) a2]
    dsimp only
    rw [ps_le (Nat.le_max_right n1 n2) b2]
    dsimp only
    rw [expect_t (sym_K t3 rfl), take_t hend, t2.2]
  have := pprog_det hR hp
  subst this
  refine ⟨?_, by show (0 : Int) ≤ 0 ∧ (0 : Int) ≤ 64; decide⟩
  show (⟨P.nm, erD L', A'.er⟩ : Pg) = ⟨P.nm, erD P.ds, P.bd.er⟩
  rw [a1, b1]
def Pp.er (P : Pp) : Pp := ⟨P.re, P.p.er, P.wi, P.q.map E.er⟩
theorem tl_RSP : bRSP.toList = [82, 69, 83, 80, 79, 78, 83, 69] := by rw [ByteArray.toList_eq]; rfl
theorem tl_INV : bINV.toList = [73, 78, 86, 65, 82, 73, 65, 78, 84] := by rw [ByteArray.toList_eq]; rfl
theorem tl_WIT : bWIT.toList = [87, 73, 84, 72, 73, 78] := by rw [ByteArray.toList_eq]; rfl
theorem stp_WIT : Stp bWIT := ⟨by rw [tl_WIT]; decide, by rw [tl_WIT]; decide, by rw [tl_WIT]; decide⟩
theorem pprop_det {n m : Nat} {R R' : Pp × PSt} (h : pprop s n = some R) (h' : pprop s m = some R') : R = R' := by
  have mono : ∀ {a b : Nat} {Q : Pp × PSt}, a ≤ b → pprop s a = some Q → pprop s b = some Q := by
    intro a b Q hab hq
    unfold pprop at hq ⊢
    split at hq
    · next ha =>
      rw [if_pos ha]
      split at hq
      · cases hq
      · next e1 st1 h1 =>
        rw [pj_le hab h1]
        dsimp only
        split at hq
        · cases hq
        · next e2 st2 h2 => rw [pj_le hab h2]; exact hq
    · next ha =>
      rw [if_neg ha]
      split at hq
      · cases hq
      · next e1 st1 h1 => rw [pj_le hab h1]; exact hq
  have h1 := mono (Nat.le_max_left n m) h
  have h2 := mono (Nat.le_max_right n m) h'
  rw [h1] at h2
  injection h2
theorem prop_back {P : Pp} (h : gPp P) (hl : (prPp P).length ≤ 1048576) {n : Nat} {R : Pp × PSt} (hR : pprop (prPp P) n = some R) : R.1.er = P.er ∧ isAt R.2 := by
  have k32 : sf 32 = true := by decide
  have k59 : sf 59 = true := by decide
  cases hre : P.re with
  | true =>
    have hq := h.re hre
    obtain ⟨q, hq⟩ : ∃ q, P.q = some q := by
      cases hz : P.q with
      | none => rw [hz] at hq; cases hq
      | some q => exact ⟨q, rfl⟩
    obtain ⟨gq, dq⟩ := h.q q hq
    have hwi := h.wi
    have e : prPp P = flat (([], .sym bRSP) :: (itE P.p 0 [32] ++ (([32], .sym bWIT) :: ([32], .num P.wi.toNat) :: ([32], .sym bTHN) :: (itE q 0 [32] ++ [([], .sym bSEM)])))) ++ [10] := by
      unfold prPp
      rw [if_pos hre, hq, flat_cons, flat_app, flat_itE P.p h.p, flat_cons, flat_cons, flat_cons, flat_app, flat_itE q gq, flat_one]
      show _ = [] ++ [82, 69, 83, 80, 79, 78, 83, 69] ++ ([32] ++ prE P.p 0 ++ ([32] ++ [87, 73, 84, 72, 73, 78] ++ ([32] ++ decL P.wi.toNat ++ ([32] ++ [84, 72, 69, 78] ++ ([32] ++ prE q 0 ++ ([] ++ [59])))))) ++ [10]
      simp
    have lx : LXs (([], .sym bRSP) :: (itE P.p 0 [32] ++ (([32], .sym bWIT) :: ([32], .num P.wi.toNat) :: ([32], .sym bTHN) :: (itE q 0 [32] ++ [([], .sym bSEM)])))) [10] := by
      refine ⟨rfl, by decide +kernel, fT_kw (by decide +kernel) ?_, ?_⟩
      · rw [flat_app, flat_itE P.p h.p]; exact k32
      · rw [LXs_app]
        refine ⟨LXs_itE P.p h.p 0 [32] _ rfl k32, rfl, by decide +kernel, fT_kw (by decide +kernel) k32, rfl, by simp only [gT]; exact decide_eq_true (by omega), k32, rfl, by decide +kernel, fT_kw (by decide +kernel) ?_, ?_⟩
        · rw [flat_app, flat_itE q gq]; exact k32
        · rw [LXs_app]
          exact ⟨LXs_itE q gq 0 [32] _ rfl k59, rfl, by decide +kernel, fT_SEM _, trivial⟩
    obtain ⟨s0, tend⟩ := lex_all e hl lx (by decide)
    generalize prPp P = s at *
    have s0 : Stm s 0 (.sym bRSP :: tkl (itE P.p 0 [32] ++ (([32], .sym bWIT) :: ([32], .num P.wi.toNat) :: ([32], .sym bTHN) :: (itE q 0 [32] ++ [([], .sym bSEM)])))) := s0
    obtain ⟨t1, s1⟩ := s0.hd
    rw [tkl_app] at s1
    obtain ⟨s2, s3⟩ := s1.app
    rw [tkl_len] at s3
    obtain ⟨t2, s4⟩ := s3.hd
    obtain ⟨t3, s5⟩ := s4.hd
    obtain ⟨t4, s6⟩ := s5.hd
    have s6 : Stm s _ (tkl (itE q 0 [32] ++ [([], .sym bSEM)])) := s6
    rw [tkl_app] at s6
    obtain ⟨s7, s8⟩ := s6.app
    rw [tkl_len] at s8
    obtain ⟨t5, _⟩ := s8.hd
    have hdp := h.dp
    obtain ⟨p', a1, n1, a2⟩ := back_ex h.p s2 (show (0 : Int) ≤ 0 by decide) (by omega) stp_WIT t2
    obtain ⟨q', b1, n2, b2⟩ := back_ex gq s7 (show (0 : Int) ≤ 0 by decide) (by omega) stp_SEM t5
    have hend : (tks s (0 + 1 + (itE P.p 0 [32]).length + 1 + 1 + 1 + (itE q 0 [32]).length + 1)).1.k = 0 := by
      have : ((([], .sym bRSP) : It) :: (itE P.p 0 [32] ++ (([32], .sym bWIT) :: ([32], .num P.wi.toNat) :: ([32], .sym bTHN) :: (itE q 0 [32] ++ [([], .sym bSEM)])))).length = 0 + 1 + (itE P.p 0 [32]).length + 1 + 1 + 1 + (itE q 0 [32]).length + 1 := by
        simp only [List.length_cons, List.length_append, List.length_nil]
        omega
      rw [this] at tend
      exact tend
    have hp : pprop s (max n1 n2) = some (⟨true, p', P.wi, some q'⟩, .at (0 + 1 + (itE P.p 0 [32]).length + 1 + 1 + 1 + (itE q 0 [32]).length + 1 + 1) 0) := by
      unfold pprop
      rw [accept_t (sym_K t1 rfl), if_pos rfl]
      dsimp only
      rw [pj_le (Nat.le_max_left n1 n2) a2]
      dsimp only
      rw [expect_t (sym_K t2 rfl), take_t t3.1]
      dsimp only
      rw [expect_t (sym_K t4 rfl), pj_le (Nat.le_max_right n1 n2) b2]
      dsimp only
      rw [expect_t (sym_K t5 rfl), take_t hend, t3.2, show ((P.wi.toNat : Nat) : Int) = P.wi by omega]
    have := pprop_det hR hp
    subst this
    refine ⟨?_, by show (0 : Int) ≤ 0 ∧ (0 : Int) ≤ 64; decide⟩
    show (⟨true, p'.er, P.wi, some q'.er⟩ : Pp) = ⟨P.re, P.p.er, P.wi, P.q.map E.er⟩
    rw [a1, b1, hre, hq]
    rfl
  | false =>
    obtain ⟨hq, hw⟩ := h.nr hre
    have e : prPp P = flat (([], .sym bINV) :: (itE P.p 0 [32] ++ [([], .sym bSEM)])) ++ [10] := by
      unfold prPp
      rw [if_neg (by rw [hre]; exact Bool.false_ne_true), flat_cons, flat_app, flat_itE P.p h.p, flat_one]
      show _ = [] ++ [73, 78, 86, 65, 82, 73, 65, 78, 84] ++ ([32] ++ prE P.p 0 ++ ([] ++ [59])) ++ [10]
      simp
    have lx : LXs (([], .sym bINV) :: (itE P.p 0 [32] ++ [([], .sym bSEM)])) [10] := by
      refine ⟨rfl, by decide +kernel, fT_kw (by decide +kernel) ?_, ?_⟩
      · rw [flat_app, flat_itE P.p h.p]; exact k32
      · rw [LXs_app]
        exact ⟨LXs_itE P.p h.p 0 [32] _ rfl k59, rfl, by decide +kernel, fT_SEM _, trivial⟩
    obtain ⟨s0, tend⟩ := lex_all e hl lx (by decide)
    generalize prPp P = s at *
    have s0 : Stm s 0 (.sym bINV :: tkl (itE P.p 0 [32] ++ [([], .sym bSEM)])) := s0
    obtain ⟨t1, s1⟩ := s0.hd
    rw [tkl_app] at s1
    obtain ⟨s2, s3⟩ := s1.app
    rw [tkl_len] at s3
    obtain ⟨t2, _⟩ := s3.hd
    have hdp := h.dp
    obtain ⟨p', a1, n1, a2⟩ := back_ex h.p s2 (show (0 : Int) ≤ 0 by decide) (by omega) stp_SEM t2
    have hend : (tks s (0 + 1 + (itE P.p 0 [32]).length + 1)).1.k = 0 := by
      have : ((([], .sym bINV) : It) :: (itE P.p 0 [32] ++ [([], .sym bSEM)])).length = 0 + 1 + (itE P.p 0 [32]).length + 1 := by
        simp only [List.length_cons, List.length_append, List.length_nil]
        omega
      rw [this] at tend
      exact tend
    have hp : pprop s n1 = some (⟨false, p', 0, none⟩, .at (0 + 1 + (itE P.p 0 [32]).length + 1 + 1) 0) := by
      unfold pprop
      rw [accept_n (sym_Kn t1 (by rw [tl_INV, tl_RSP]; decide)), if_neg Bool.false_ne_true, expect_t (sym_K t1 rfl), a2]
      dsimp only
      rw [expect_t (sym_K t2 rfl), take_t hend]
    have := pprop_det hR hp
    subst this
    refine ⟨?_, by show (0 : Int) ≤ 0 ∧ (0 : Int) ≤ 64; decide⟩
    show (⟨false, p'.er, 0, none⟩ : Pp) = ⟨P.re, P.p.er, P.wi, P.q.map E.er⟩
    rw [a1, hre, hq, hw]
    rfl
end Go.Proofs.Qxb6500774a
