import Derived.Test.Qxb6500773aGreatYd
namespace Go.Proofs.Qxb6500773aGreat
open Go.RowKit

/-! ### Values of clauses -/
theorem em_eq {k : Int} {V A C : List Int} (h : AsR k V A) (hr : ∀ x ∈ V, -1 ≤ x ∧ x ≤ 1) (hC : ∀ x ∈ C, LitOk x) : emP (C.map dimP) A = evalP V C (-1) := by
  have hm : ∀ y : Int, ((C.map dimP).any (fun d => mvP A d == y) = true ↔ ∃ l ∈ C, lvP V l = y) := fun y => by
    rw [List.any_map, List.any_eq_true]
    constructor
    · rintro ⟨l, hl, e⟩
      exact ⟨l, hl, by rw [lv_mv h hr (hC l hl)]; simpa using e⟩
    · rintro ⟨l, hl, e⟩
      exact ⟨l, hl, by rw [lv_mv h hr (hC l hl)] at e; simpa using e⟩
  unfold emP
  by_cases h1 : ∃ l ∈ C, lvP V l = 1
  · rw [if_pos ((hm 1).2 h1), eval_val V C (-1) h1]
  · rw [if_neg (fun z => h1 ((hm 1).1 z)), eval_not V C (-1) h1]
    by_cases h2 : ∃ l ∈ C, lvP V l = 0
    · rw [if_pos ((hm 0).2 h2), if_pos h2]
    · rw [if_neg (fun z => h2 ((hm 0).1 z)), if_neg h2]
/-- the free literals so far, and what the real reader keeps of them -/
def SI (F : List Int) (fr : Int) (op : Bool) : Prop := (F = [] ∧ fr = 0 ∧ op = false) ∨ (LitOk fr ∧ F = [dimP fr] ∧ op = false) ∨ (op = true ∧ LitOk fr ∧ 2 ≤ F.length ∧ dimP fr ∈ F)
theorem frS_ge (A F : List Int) (d : Int) : F.length ≤ (frS A F d).length ∧ (∀ x ∈ F, x ∈ frS A F d) := by
  unfold frS
  split
  · exact ⟨by simp, fun x hx => List.mem_append_left _ hx⟩
  · exact ⟨Nat.le_refl _, fun x hx => hx⟩
def msR (F : List Int) : Int × Int := if F.length = 0 then (2, 0) else if F.length = 1 then (3, gt F 0) else (0, 0)
theorem st_eq {k : Int} {V A : List Int} (h : AsR k V A) (hr : ∀ x ∈ V, -1 ≤ x ∧ x ≤ 1) : ∀ (C F : List Int) (fr : Int) (op : Bool), (∀ x ∈ C, LitOk x) → SI F fr op →
    ((statP V C fr op).1, dimP (statP V C fr op).2) = if ∃ l ∈ C, lvP V l = 1 then (1, 0) else msR ((C.map dimP).foldl (frS A) F)
  | [], F, fr, op, _, hs => by
    rw [if_neg (fun ⟨l, hl, _⟩ => by cases hl)]
    unfold statP msR
    rw [List.map_nil, List.foldl_nil]
    rcases hs with ⟨h1, h2, h3⟩ | ⟨h1, h2, h3⟩ | ⟨h1, h2, h3, _⟩
    · subst h1 h2 h3; rfl
    · subst h2 h3
      unfold LitOk at h1
      rw [if_neg (by decide), if_neg (by omega)]
      rfl
    · subst h1
      rw [if_pos rfl, if_neg (by omega), if_neg (by omega)]
      rfl
  | l :: C, F, fr, op, hC, hs => by
    have hl := hC l List.mem_cons_self
    have hC' : ∀ x ∈ C, LitOk x := fun x hx => hC x (List.mem_cons_of_mem _ hx)
    have hv := lv_mv h hr hl
    have hvr := lv_rng hr l
    unfold statP
    rw [List.map_cons, List.foldl_cons]
    by_cases h1 : lvP V l = 1
    · rw [if_pos h1, if_pos ⟨l, List.mem_cons_self, h1⟩]
      rfl
    · rw [if_neg h1]
      have hex : (∃ x ∈ l :: C, lvP V x = 1) ↔ ∃ x ∈ C, lvP V x = 1 := by
        constructor
        · rintro ⟨x, hx, e⟩
          rcases List.mem_cons.1 hx with z | z
          · subst z; exact absurd e h1
          · exact ⟨x, z, e⟩
        · rintro ⟨x, hx, e⟩; exact ⟨x, List.mem_cons_of_mem _ hx, e⟩
      have key : ∀ (F' : List Int) (fr' : Int) (op' : Bool), SI F' fr' op' → frS A F (dimP l) = F' → ((statP V C fr' op').1, dimP (statP V C fr' op').2) = if ∃ x ∈ l :: C, lvP V x = 1 then (1, 0) else msR ((C.map dimP).foldl (frS A) (frS A F (dimP l))) := fun F' fr' op' hs' e => by
        rw [e, st_eq h hr C F' fr' op' hC' hs']
        by_cases hq : ∃ x ∈ C, lvP V x = 1
        · rw [if_pos hq, if_pos (hex.2 hq)]
        · rw [if_neg hq, if_neg (fun z => hq (hex.1 z))]
      by_cases h2 : lvP V l = -1 ∨ l = fr
      · rw [if_pos h2]
        refine key F fr op hs ?_
        unfold frS
        rw [if_neg]
        rintro ⟨z1, z2⟩
        rcases h2 with z | z
        · rw [hv, z1] at z; cases z
        · subst z
          have : dimP l ∈ F := by
            rcases hs with ⟨_, q, _⟩ | ⟨_, q, _⟩ | ⟨_, _, _, q⟩
            · unfold LitOk at hl; omega
            · rw [q]; simp
            · exact q
          rw [(mem_iff _ _).2 this] at z2
          cases z2
      · rw [if_neg h2]
        have h0 : lvP V l = 0 := by
          have a1 : lvP V l ≠ -1 := fun z => h2 (.inl z)
          clear hex key
          omega
        have hm0 : mvP A (dimP l) = 0 := by rw [← hv]; exact h0
        by_cases hf : fr = 0
        · rw [if_pos hf]
          rcases hs with ⟨q1, q2, q3⟩ | ⟨q1, _, _⟩ | ⟨_, q1, _, _⟩
          · subst q1 q3
            refine key [dimP l] l false (.inr (.inl ⟨hl, rfl, rfl⟩)) ?_
            unfold frS
            rw [if_pos ⟨hm0, rfl⟩]
            rfl
          · unfold LitOk at q1; omega
          · unfold LitOk at q1; omega
        · rw [if_neg hf]
          rcases hs with ⟨_, q2, _⟩ | ⟨q1, q2, q3⟩ | ⟨q1, q2, q3, q4⟩
          · exact absurd q2 hf
          · subst q2
            refine key ([dimP fr] ++ [dimP l]) fr true (.inr (.inr ⟨rfl, q1, by simp, by simp⟩)) ?_
            unfold frS
            have hnm : memP [dimP fr] (dimP l) = false := by
              rw [Bool.eq_false_iff]
              intro z
              have := (mem_iff _ _).1 z
              rw [List.mem_singleton] at this
              exact h2 (.inr (dim_inj hl q1 this))
            rw [if_pos ⟨hm0, hnm⟩]
          · have hg := frS_ge A F (dimP l)
            exact key _ fr true (.inr (.inr ⟨rfl, q2, by omega, hg.2 _ q4⟩)) rfl
theorem ms_eq {k : Int} {V A C : List Int} (h : AsR k V A) (hr : ∀ x ∈ V, -1 ≤ x ∧ x ≤ 1) (hC : ∀ x ∈ C, LitOk x) : msP (C.map dimP) A = ((statP V C 0 false).1, dimP (statP V C 0 false).2) := by
  rw [st_eq h hr C [] 0 false hC (.inl ⟨rfl, rfl, rfl⟩)]
  unfold msP
  rw [em_eq h hr hC]
  by_cases h1 : ∃ l ∈ C, lvP V l = 1
  · rw [if_pos (eval_val V C (-1) h1), if_pos h1]
  · rw [if_neg (by rw [eval_not V C (-1) h1]; split <;> decide), if_neg h1]
    rfl
theorem em_rng2 (V C : List Int) : evalP V C (-1) = 1 ∨ evalP V C (-1) = 0 ∨ evalP V C (-1) = -1 := by
  by_cases h1 : ∃ l ∈ C, lvP V l = 1
  · exact .inl (eval_val V C (-1) h1)
  · rw [eval_not V C (-1) h1]
    split
    · exact .inr (.inl rfl)
    · exact .inr (.inr rfl)
/-! ### Formulas -/
def evs (V L E : List Int) (i n : Nat) : List Int := (List.range' i n).map fun j => evalP V (clP L E j) (-1)
theorem evs_succ (V L E : List Int) (i n : Nat) : evs V L E i (n + 1) = evalP V (clP L E i) (-1) :: evs V L E (i + 1) n := by
  unfold evs
  rw [List.range'_succ, List.map_cons]
theorem fe_eq (V L E : List Int) : ∀ (n i : Nat) (s : Int), feP V L E i n s = if (evs V L E i n).any (fun x => x == -1) = true then -1 else if (evs V L E i n).any (fun x => x == 0) = true then 0 else s
  | 0, i, s => by simp [feP, evs]
  | n + 1, i, s => by
    unfold feP
    rw [evs_succ, List.any_cons, List.any_cons]
    have hr := em_rng2 V (clP L E i)
    generalize evalP V (clP L E i) (-1) = e at *
    by_cases h1 : e = -1
    · rw [if_pos h1, if_pos (by simp [h1])]
    · have e1 : (e == -1) = false := by simp [h1]
      rw [if_neg h1, e1, Bool.false_or]
      by_cases h0 : e = 0
      · rw [if_pos h0, fe_eq V L E n (i + 1) 0, show (e == 0) = true by simp [h0], Bool.true_or, if_pos rfl]
        split
        · rfl
        · split <;> rfl
      · rw [if_neg h0, fe_eq V L E n (i + 1) s, show (e == 0) = false by simp [h0], Bool.false_or]
theorem clsM_evs {k : Int} {V A L E : List Int} (h : AsR k V A) (hr : ∀ x ∈ V, -1 ≤ x ∧ x ≤ 1) (hL : ∀ x ∈ L, LitOk x) : (clsM L E).map (fun C => emP C A) = evs V L E 0 E.length := by
  unfold clsM evs
  rw [List.map_map, List.range_eq_range']
  refine List.map_congr_left fun i _ => ?_
  show emP ((clP L E i).map dimP) A = _
  exact em_eq h hr (clP_ok hL i)
theorem mef_eq {k : Int} {V A L E : List Int} (h : AsR k V A) (hr : ∀ x ∈ V, -1 ≤ x ∧ x ≤ 1) (hL : ∀ x ∈ L, LitOk x) : mefP (clsM L E) A = feP V L E 0 E.length 1 := by
  rw [fe_eq, ← clsM_evs h hr hL, List.any_map, List.any_map]
  rfl
theorem mff_eq {k : Int} {V A L E : List Int} (h : AsR k V A) (hr : ∀ x ∈ V, -1 ≤ x ∧ x ≤ 1) (hL : ∀ x ∈ L, LitOk x) : mffP A (clsM L E) 0 = ffP (fun v => v == -1) V L E 0 E.length := by
  have hk : ∀ (n i : Nat), mffP A ((List.range' i n).map fun j => (clP L E j).map dimP) i = ffP (fun v => v == -1) V L E i n := by
    intro n
    induction n with
    | zero => intro i; rfl
    | succ n ih =>
      intro i
      rw [List.range'_succ, List.map_cons]
      unfold mffP ffP
      rw [em_eq h hr (clP_ok hL i), ih (i + 1)]
      by_cases h1 : evalP V (clP L E i) (-1) = -1
      · rw [if_pos h1, if_pos (by simp [h1])]
      · rw [if_neg h1, if_neg (by simp [h1])]
  have := hk E.length 0
  unfold clsM
  rw [List.range_eq_range']
  exact this
theorem sat_eq (V L E : List Int) : ∀ (n i : Nat), (ffP (fun v => v != 1) V L E i n < 0 ↔ ∀ x ∈ evs V L E i n, x = 1)
  | 0, i => by simp [ffP, evs]
  | n + 1, i => by
    unfold ffP
    rw [evs_succ]
    by_cases h1 : evalP V (clP L E i) (-1) = 1
    · rw [if_neg (by simp [h1]), sat_eq V L E n (i + 1)]
      simp [h1]
    · rw [if_pos (by simp [h1])]
      constructor
      · intro z; omega
      · intro z; exact absurd (z _ List.mem_cons_self) h1
theorem evs_rng (V L E : List Int) (i n : Nat) : ∀ x ∈ evs V L E i n, x = 1 ∨ x = 0 ∨ x = -1 := fun x hx => by
  unfold evs at hx
  obtain ⟨j, _, rfl⟩ := List.mem_map.1 hx
  exact em_rng2 V _
theorem fe_one (V L E : List Int) (n i : Nat) : feP V L E i n 1 = 1 ↔ ∀ x ∈ evs V L E i n, x = 1 := by
  have hr := evs_rng V L E i n
  rw [fe_eq]
  by_cases h1 : (evs V L E i n).any (fun x => x == -1) = true
  · rw [if_pos h1]
    refine ⟨fun z => absurd z (by decide), fun z => ?_⟩
    obtain ⟨x, hx, e⟩ := List.any_eq_true.1 h1
    have := z x hx
    subst this
    cases e
  · rw [if_neg h1]
    by_cases h0 : (evs V L E i n).any (fun x => x == 0) = true
    · rw [if_pos h0]
      refine ⟨fun z => absurd z (by decide), fun z => ?_⟩
      obtain ⟨x, hx, e⟩ := List.any_eq_true.1 h0
      have := z x hx
      subst this
      cases e
    · rw [if_neg h0]
      refine ⟨fun _ x hx => ?_, fun _ => rfl⟩
      rcases hr x hx with z | z | z
      · exact z
      · exact absurd (List.any_eq_true.2 ⟨x, hx, by simp [z]⟩) h0
      · exact absurd (List.any_eq_true.2 ⟨x, hx, by simp [z]⟩) h1
/-! ### Texts -/
theorem fo_eq {nv : Int} (h0 : 0 ≤ nv) (L E : List Int) : foT nv L E = pdP nv.toNat (clsM L E) := by
  have hd : ∀ n : Nat, decI (n : Int) = (lowD n).reverse := fun n => by
    unfold decI
    rw [if_neg (by omega), Int.natAbs_natCast]
    rfl
  obtain ⟨m, rfl⟩ : ∃ m : Nat, nv = (m : Int) := ⟨nv.toNat, by omega⟩
  unfold foT pdP hdT hdM clsT
  rw [clsM_len, hd, hd, Int.toNat_natCast]
  congr 1
  unfold clsM
  rw [List.flatMap_map]
  congr 1
  funext i
  exact clT_pc _
theorem stT_pt (d : Bool) (C : List Int) : stT d C = ptP (d, C.map dimP) := by
  unfold stT ptP
  rw [clT_pc]
theorem dr_eq (L E : List Int) (D : List Bool) : drT L E D E.length = ptB (stpM L E D) := by
  unfold drT ptB stpM
  rw [List.flatMap_map]
  congr 1
  funext i
  exact stT_pt _ _
theorem cls_at {L E : List Int} {i : Nat} (hi : i < E.length) : (clsM L E).getD i [] = (clP L E i).map dimP := by
  unfold clsM
  rw [List.getD_eq_getElem?_getD, List.getElem?_map, List.getElem?_range hi]
  rfl
theorem stp_at {L E : List Int} {D : List Bool} {i : Nat} (hi : i < E.length) : (stpM L E D).getD i (false, []) = (D.getD i false, (clP L E i).map dimP) := by
  unfold stpM
  rw [List.getD_eq_getElem?_getD, List.getElem?_map, List.getElem?_range hi]
  rfl
/-! ### All literals -/
theorem cat_take {L E : List Int} (h : EOk L E) : ∀ k, k ≤ E.length → (List.range k).flatMap (clP L E) = L.take (loP E k)
  | 0, _ => by simp [loP]
  | k + 1, hk => by
    rw [List.range_succ, List.flatMap_append, cat_take h k (by omega)]
    have h1 := h.lo (show k < E.length by omega)
    simp only [List.flatMap_cons, List.flatMap_nil, List.append_nil]
    unfold clP
    rw [← List.take_append_drop (loP E k) (L.take (loP E (k + 1))), List.take_take, Nat.min_eq_left h1.1, List.drop_append]
    rw [List.length_take, show loP E k - min (loP E k) L.length = 0 by omega]
    simp
theorem cat_all {L E : List Int} (h : EOk L E) (hc : clsP E = L.length) : (List.range E.length).flatMap (clP L E) = L := by
  rw [cat_take h E.length (Nat.le_refl _), loP_cls, hc, Int.toNat_natCast, List.take_length]
theorem mxA_dim {C : List Int} (h : ∀ x ∈ C, LitOk x) (n : Int) : mxA n (C.map dimP) = C.foldl mxS n := by
  unfold mxA
  induction C generalizing n with
  | nil => rfl
  | cons l C ih =>
    rw [List.map_cons, List.foldl_cons, List.foldl_cons, ih (fun x hx => h x (List.mem_cons_of_mem _ hx))]
    rw [abs_dim (h l List.mem_cons_self)]
    rfl
theorem mxS_V (t l : Int) : mxS t l = mxV t (l / 2) := rfl
theorem mxV_assoc (a b c : Int) : mxV (mxV a b) c = mxV a (mxV b c) := by
  unfold mxV
  by_cases h1 : a < b <;> by_cases h2 : b < c <;> simp only [if_pos, if_neg, h1, h2, not_false_eq_true]
  · rw [if_pos (by omega)]
  · split <;> omega
theorem mxS_fold (a : Int) : ∀ (C : List Int) (b : Int), C.foldl mxS (mxV a b) = mxV a (C.foldl mxS b)
  | [], b => rfl
  | l :: C, b => by
    rw [List.foldl_cons, List.foldl_cons, mxS_V, mxV_assoc, ← mxS_V, mxS_fold a C]
theorem mx_nv {nv : Int} (h0 : 0 ≤ nv) {C : List Int} : C.foldl mxS nv = mxV nv (mxP C) := by
  have := mxS_fold nv C 0
  rw [show mxV nv 0 = nv by unfold mxV; rw [if_neg (by omega)]] at this
  exact this
theorem mxQ_eq {L E : List Int} {D : List Bool} (h : EOk L E) (hc : clsP E = L.length) (hL : ∀ x ∈ L, LitOk x) : mxQ 0 (stpM L E D) = mxP L := by
  have hk : ∀ (I : List Nat) (n : Int), (I.map fun i => (D.getD i false, (clP L E i).map dimP)).foldl (fun n s => mxA n s.2) n = (I.flatMap (clP L E)).foldl mxS n := by
    intro I
    induction I with
    | nil => intro n; rfl
    | cons i I ih =>
      intro n
      rw [List.map_cons, List.foldl_cons, List.flatMap_cons, List.foldl_append, ih]
      rw [mxA_dim (clP_ok hL i)]
  unfold mxQ stpM
  rw [hk, cat_all h hc]
  rfl
theorem emQ_eq (L E : List Int) (D : List Bool) : emQ (stpM L E D) = if aeP L E D 0 E.length = true then 1 else 0 := by
  have hk : ∀ (n i : Nat), (((List.range' i n).map fun i => (D.getD i false, (clP L E i).map dimP)).any (fun s => !s.1 && s.2.length == 0)) = aeP L E D i n := by
    intro n
    induction n with
    | zero => intro i; rfl
    | succ n ih =>
      intro i
      rw [List.range'_succ, List.map_cons, List.any_cons, ih (i + 1)]
      conv => rhs; unfold aeP
      rw [List.length_map]
      by_cases h1 : D.getD i false = false ∧ (clP L E i).length = 0
      · rw [if_pos h1, h1.1, h1.2]
        rfl
      · rw [if_neg h1]
        have : (!D.getD i false && (clP L E i).length == 0) = false := by
          cases h2 : D.getD i false with
          | true => rfl
          | false => simp; exact fun z => h1 ⟨h2, by rw [z]; rfl⟩
        rw [this, Bool.false_or]
  have := hk E.length 0
  unfold emQ stpM
  rw [List.range_eq_range', this]
/-! ### The whole formula, the whole proof -/
theorem clsM_push {L E C : List Int} (h : EOk L E) (hc : clsP E = L.length) : clsM (L ++ C) (E ++ [((L ++ C).length : Int)]) = clsM L E ++ [C.map dimP] := by
  rw [clsM_end, clsM_lit h]
  unfold pndM
  rw [hc, Int.toNat_natCast, List.drop_left]
theorem stpM_push {L E C : List Int} {D : List Bool} (h : EOk L E) (hD : D.length = E.length) (hc : clsP E = L.length) (d : Bool) : stpM (L ++ C) (E ++ [((L ++ C).length : Int)]) (D ++ [d]) = stpM L E D ++ [(d, C.map dimP)] := by
  rw [stpM_end _ _ hD, stpM_lit h]
  unfold pndM
  rw [hc, Int.toNat_natCast, List.drop_left]
theorem loP_sum {L E : List Int} (h : EOk L E) {i : Nat} (hi : i < E.length) : loP E (i + 1) = loP E i + (clP L E i).length := by
  have := h.lo hi
  rw [clP_len h hi]
  omega
theorem map_dim_inj {C D : List Int} (hC : ∀ x ∈ C, LitOk x) (hD : ∀ x ∈ D, LitOk x) (h : C.map dimP = D.map dimP) : C = D := by
  have := congrArg (List.map packP) h
  rw [List.map_map, List.map_map] at this
  have e : ∀ {C : List Int}, (∀ x ∈ C, LitOk x) → C.map (packP ∘ dimP) = C := fun {C} hC => by
    conv => rhs; rw [← List.map_id C]
    exact List.map_congr_left fun x hx => pack_dim (hC x hx)
  rw [e hC, e hD] at this
  exact this
theorem parts_inj {L E L' E' : List Int} (h : EOk L E) (h' : EOk L' E') (hc : clsP E = L.length) (hc' : clsP E' = L'.length) (hl : E.length = E'.length) (hp : ∀ i, i < E.length → clP L E i = clP L' E' i) : E = E' ∧ L = L' := by
  have hlo : ∀ i, i ≤ E.length → loP E i = loP E' i := by
    intro i
    induction i with
    | zero => intro _; rfl
    | succ i ih =>
      intro hi
      rw [loP_sum h (by omega), loP_sum h' (by omega), ih (by omega), hp i (by omega)]
  constructor
  · apply List.ext_getElem?
    intro i
    by_cases hi : i < E.length
    · rw [(h.lo hi).2.2.1, (h'.lo (by omega)).2.2.1, hlo (i + 1) (by omega)]
    · rw [List.getElem?_eq_none (by omega), List.getElem?_eq_none (by omega)]
  · rw [← cat_all h hc, ← cat_all h' hc', ← hl]
    have : ∀ (I : List Nat), (∀ i ∈ I, i < E.length) → I.flatMap (clP L E) = I.flatMap (clP L' E') := by
      intro I
      induction I with
      | nil => intro _; rfl
      | cons i I ih =>
        intro hI
        rw [List.flatMap_cons, List.flatMap_cons, hp i (hI i List.mem_cons_self), ih (fun j hj => hI j (List.mem_cons_of_mem _ hj))]
    exact this _ (fun i hi => List.mem_range.1 hi)
theorem clsM_inj {L E L' E' : List Int} (h : EOk L E) (h' : EOk L' E') (hc : clsP E = L.length) (hc' : clsP E' = L'.length) (hL : ∀ x ∈ L, LitOk x) (hL' : ∀ x ∈ L', LitOk x) : clsM L E = clsM L' E' ↔ E = E' ∧ L = L' := by
  constructor
  · intro e
    have hl : E.length = E'.length := by have := congrArg List.length e; rwa [clsM_len, clsM_len] at this
    refine parts_inj h h' hc hc' hl (fun i hi => ?_)
    have := congrArg (fun F : List (List Int) => F.getD i []) e
    rw [cls_at hi, cls_at (by omega)] at this
    exact map_dim_inj (clP_ok hL i) (clP_ok hL' i) this
  · rintro ⟨rfl, rfl⟩; rfl
theorem stpM_len (L E : List Int) (D : List Bool) : (stpM L E D).length = E.length := by unfold stpM; simp
theorem stpM_inj {L E L' E' : List Int} {D D' : List Bool} (h : EOk L E) (h' : EOk L' E') (hc : clsP E = L.length) (hc' : clsP E' = L'.length) (hD : D.length = E.length) (hD' : D'.length = E'.length) (hL : ∀ x ∈ L, LitOk x) (hL' : ∀ x ∈ L', LitOk x) : stpM L E D = stpM L' E' D' ↔ (E = E' ∧ L = L') ∧ D = D' := by
  constructor
  · intro e
    have hl : E.length = E'.length := by have := congrArg List.length e; rwa [stpM_len, stpM_len] at this
    have hp : ∀ i, i < E.length → D.getD i false = D'.getD i false ∧ clP L E i = clP L' E' i := fun i hi => by
      have := congrArg (fun F : List (Bool × List Int) => F.getD i (false, [])) e
      rw [stp_at hi, stp_at (by omega)] at this
      injection this with h1 h2
      exact ⟨h1, map_dim_inj (clP_ok hL i) (clP_ok hL' i) h2⟩
    refine ⟨parts_inj h h' hc hc' hl (fun i hi => (hp i hi).2), ?_⟩
    apply List.ext_getElem?
    intro i
    by_cases hi : i < E.length
    · have := (hp i hi).1
      rw [List.getD_eq_getElem?_getD, List.getD_eq_getElem?_getD, List.getElem?_eq_getElem (by omega), List.getElem?_eq_getElem (by omega)] at this
      rw [List.getElem?_eq_getElem (by omega), List.getElem?_eq_getElem (by omega)]
      simpa using this
    · rw [List.getElem?_eq_none (by omega), List.getElem?_eq_none (by omega)]
  · rintro ⟨⟨rfl, rfl⟩, rfl⟩; rfl
/-! ### Equal assignments -/
theorem eqv_iff (V U : List Int) : ∀ (m i : Nat), eqvP V U i m = true ↔ ∀ j, i ≤ j → j < i + m → varP V (j : Int) = varP U (j : Int)
  | 0, i => by
    unfold eqvP
    refine ⟨fun _ j h1 h2 => by omega, fun _ => rfl⟩
  | m + 1, i => by
    unfold eqvP
    by_cases h : varP V (i : Int) = varP U (i : Int)
    · rw [if_pos h, eqv_iff V U m (i + 1)]
      constructor
      · intro z j h1 h2
        by_cases e : j = i
        · rw [e]; exact h
        · exact z j (by omega) (by omega)
      · intro z j h1 h2; exact z j (by omega) (by omega)
    · rw [if_neg h]
      refine ⟨fun z => by simp at z, fun z => absurd (z i (Nat.le_refl _) (by omega)) h⟩
theorem nz_eq : ∀ (V U : List Int), (∀ v : Nat, V.getD v 0 = U.getD v 0) → nzP V = nzP U
  | [], [], _ => rfl
  | [], u :: U, h => by
    have h0 := h 0
    have ih := nz_eq [] U (fun v => by have := h (v + 1); simpa using this)
    unfold nzP at ih ⊢
    simp at h0
    subst h0
    simpa using ih
  | v :: V, [], h => by
    have h0 := h 0
    have ih := nz_eq V [] (fun v => by have := h (v + 1); simpa using this)
    unfold nzP at ih ⊢
    simp at h0
    subst h0
    simpa using ih
  | v :: V, u :: U, h => by
    have h0 := h 0
    have ih := nz_eq V U (fun v => by have := h (v + 1); simpa using this)
    simp at h0
    subst h0
    unfold nzP at ih ⊢
    rw [List.filter_cons, List.filter_cons]
    split
    · rw [List.length_cons, List.length_cons]; omega
    · exact ih
theorem getD_0 {k : Int} {V : List Int} (h : VOk k V) : V.getD 0 0 = 0 := by
  rw [List.getD_eq_getElem?_getD]
  cases hv : V[0]? with
  | none => rfl
  | some x => exact h.z0 x hv
theorem eqa_eq {k q : Int} {V U A B : List Int} (hA : AsR k V A) (hB : AsR q U B) (hV : VOk k V) (hU : VOk q U) : eqaP V U k q = true ↔ cmP (srP A) (srP B) = 0 := by
  have hvar : ∀ (V : List Int) (j : Nat), 1 ≤ j → varP V (j : Int) = V.getD j 0 := fun V j hj => by unfold varP; rw [if_pos (by omega), Int.toNat_natCast]
  have h1 : cmP (srP A) (srP B) = 0 ↔ ∀ v : Nat, 1 ≤ v → V.getD v 0 = U.getD v 0 := by
    rw [cm_zero]
    constructor
    · intro e v hv
      have hm : ∀ x, x ∈ A ↔ x ∈ B := fun x => by rw [← (sr_all A).1, ← (sr_all B).1, e]
      have a1 := hA.val v hv
      have b1 := hB.val v hv
      rw [hm, hm] at a1
      have r1 := getD_rng hV.rng v
      have r2 := getD_rng hU.rng v
      by_cases c1 : V.getD v 0 = 1
      · rw [c1, b1.1.1 (a1.1.2 c1)]
      · by_cases c2 : V.getD v 0 = -1
        · rw [c2, b1.2.1 (a1.2.2 c2)]
        · have d1 : U.getD v 0 ≠ 1 := fun z => c1 (a1.1.1 (b1.1.2 z))
          have d2 : U.getD v 0 ≠ -1 := fun z => c2 (a1.2.1 (b1.2.2 z))
          omega
    · intro e
      have hm : ∀ x, x ∈ A ↔ x ∈ B := fun x => by
        have key : ∀ {k q : Int} {V U A B : List Int}, AsR k V A → AsR q U B → (∀ v : Nat, 1 ≤ v → V.getD v 0 = U.getD v 0) → ∀ x, x ∈ A → x ∈ B := fun {k q V U A B} hA hB e x hx => by
          have h0 := (hA.di x hx).2
          by_cases hn : x < 0
          · obtain ⟨v, hv⟩ : ∃ v : Nat, x = -(v : Int) := ⟨(-x).toNat, by omega⟩
            subst hv
            exact (hB.val v (by omega)).2.2 (by rw [← e v (by omega)]; exact (hA.val v (by omega)).2.1 hx)
          · obtain ⟨v, hv⟩ : ∃ v : Nat, x = (v : Int) := ⟨x.toNat, by omega⟩
            subst hv
            exact (hB.val v (by omega)).1.2 (by rw [← e v (by omega)]; exact (hA.val v (by omega)).1.1 hx)
        exact ⟨key hA hB e x, key hB hA (fun v hv => (e v hv).symm) x⟩
      have h2 : (srP A).map packP = (srP B).map packP := lt_unique (sr_pack A).1 (sr_pack B).1 (fun x => by
        rw [(sr_pack A).2, (sr_pack B).2]
        exact ⟨fun ⟨d, hd, e⟩ => ⟨d, (hm d).1 hd, e⟩, fun ⟨d, hd, e⟩ => ⟨d, (hm d).2 hd, e⟩⟩)
      have h3 := congrArg (List.map dimP) h2
      rw [map_back, map_back] at h3
      exact h3
  rw [h1]
  unfold eqaP
  have hbig : ∀ (V : List Int) (v : Nat), V.length ≤ v → V.getD v 0 = 0 := fun V v hv => by rw [List.getD_eq_getElem?_getD, List.getElem?_eq_none hv]; rfl
  have h3 : eqvP V U 1 (if V.length - 1 < U.length - 1 then U.length - 1 else V.length - 1) = true ↔ ∀ v : Nat, 1 ≤ v → V.getD v 0 = U.getD v 0 := by
    rw [eqv_iff]
    constructor
    · intro e v hv
      by_cases hb : v < 1 + (if V.length - 1 < U.length - 1 then U.length - 1 else V.length - 1)
      · have := e v hv hb
        rwa [hvar V v hv, hvar U v hv] at this
      · rw [hbig V v (by split at hb <;> omega), hbig U v (by split at hb <;> omega)]
    · intro e j hj _
      rw [hvar V j hj, hvar U j hj]
      exact e j hj
  by_cases hkq : k = q
  · rw [if_pos hkq]; exact h3
  · rw [if_neg hkq]
    refine ⟨fun z => by simp at z, fun e => absurd ?_ hkq⟩
    rw [hV.cnt, hU.cnt]
    refine nz_eq V U (fun v => ?_)
    by_cases hv : 1 ≤ v
    · exact e v hv
    · rw [show v = 0 by omega, getD_0 hV, getD_0 hU]
/-! ### Total -/
theorem tot_eq {k : Int} {V A : List Int} (h : AsR k V A) (hr : ∀ x ∈ V, -1 ≤ x ∧ x ≤ 1) : ∀ (m i : Nat), 1 ≤ i → mtotP A i m = totP V i m
  | 0, _, _ => rfl
  | m + 1, i, hi => by
    unfold mtotP totP
    rw [(mv_pos h hr hi).1, tot_eq h hr m (i + 1) (by omega)]
theorem tot_no {V : List Int} : ∀ (m i : Nat), V.length ≤ i + m → 0 < m → V.length < i + m → totP V i m = false
  | 0, _, _, h, _ => by omega
  | m + 1, i, h1, _, h3 => by
    unfold totP
    split
    · rfl
    · rename_i hz
      have hi : i < V.length := by
        rcases Nat.lt_or_ge i V.length with z | z
        · exact z
        · exact absurd (by rw [List.getD_eq_getElem?_getD, List.getElem?_eq_none z]; rfl) hz
      exact tot_no m (i + 1) (by omega) (by omega) (by omega)
theorem total_eq {k : Int} {V A : List Int} (h : AsR k V A) (hr : ∀ x ∈ V, -1 ≤ x ∧ x ≤ 1) (m : Int) : mtotP A 1 m.toNat = totalP V m := by
  rw [tot_eq h hr _ 1 (Nat.le_refl _)]
  unfold totalP
  by_cases hm : ((V.length - 1 : Nat) : Int) < m
  · rw [if_pos hm]
    exact tot_no _ _ (by omega) (by omega) (by omega)
  · rw [if_neg hm]
end Go.Proofs.Qxb6500773aGreat
