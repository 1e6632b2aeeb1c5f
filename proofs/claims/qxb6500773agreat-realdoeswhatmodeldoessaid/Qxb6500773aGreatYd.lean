import Derived.Test.Qxb6500773aGreatYc
import Derived.Test.Qxb6500773aGreatOk2
import Derived.Test.Qxb6500773aGreatOd
namespace Go.Proofs.Qxb6500773aGreat
open Go.RowKit

/-! ### Literals: packed and plain -/
theorem bf_pack (x y : Int) : bfP x y = decide (packP x < packP y) := by
  unfold bfP packP absP
  by_cases hx : x < 0 <;> by_cases hy : y < 0 <;> simp only [if_pos, if_neg, hx, hy, not_false_eq_true]
  all_goals
    split
    · congr 1; exact propext (by omega)
    · congr 1; exact propext (by omega)
theorem pack_dim {l : Int} (h : LitOk l) : packP (dimP l) = l := (dim_pack h).1
theorem pack_inj {x y : Int} (h : packP x = packP y) : x = y := by
  have := congrArg dimP h
  rw [dim_pk, dim_pk] at this
  exact this
theorem dim_inj {x y : Int} (hx : LitOk x) (hy : LitOk y) (h : dimP x = dimP y) : x = y := by rw [← pack_dim hx, ← pack_dim hy, h]
theorem lit_di {l : Int} (h : LitOk l) : DI (dimP l) ∧ dimP l ≠ 0 := by
  unfold LitOk at h
  unfold DI dimP
  split <;> omega
theorem di_lit {d : Int} (h : DI d) (h0 : d ≠ 0) : LitOk (packP d) := by
  unfold DI at h
  unfold LitOk packP
  split <;> omega
theorem abs_dim {l : Int} (h : LitOk l) : absP (dimP l) = l / 2 := by
  unfold LitOk at h
  unfold absP dimP
  split <;> split <;> omega
theorem map_dim {X : List Int} (h : ncE X = 0) : (X.map fun d => (fromP d).1) = X.map packP := by
  refine List.map_congr_left fun d hd => ?_
  have := ncE_di h d hd
  unfold DI at this
  rw [from_pack this.2 this.1]
theorem map_back (X : List Int) : (X.map packP).map dimP = X := by
  rw [List.map_map]
  have : (dimP ∘ packP) = id := funext fun d => dim_pk
  rw [this, List.map_id]
theorem lits_ok {X : List Int} (h : ncE X = 0) : ∀ x ∈ X.map packP, LitOk x := fun x hx => by
  obtain ⟨d, hd, rfl⟩ := List.mem_map.1 hx
  have := ncE_di h d hd
  exact di_lit this.1 this.2
/-! ### The assignment -/
structure AsR (k : Int) (V A : List Int) : Prop where
  val : ∀ v : Nat, 1 ≤ v → ((v : Int) ∈ A ↔ V.getD v 0 = 1) ∧ (-(v : Int) ∈ A ↔ V.getD v 0 = -1)
  nd : (A.map absP).Nodup
  di : ∀ x ∈ A, DI x ∧ x ≠ 0
  len : (A.length : Int) = k
theorem getD_rng {V : List Int} (h : ∀ x ∈ V, -1 ≤ x ∧ x ≤ 1) (v : Nat) : -1 ≤ V.getD v 0 ∧ V.getD v 0 ≤ 1 := by
  rw [List.getD_eq_getElem?_getD]
  cases hv : V[v]? with
  | none => simp
  | some x => exact h x (List.mem_of_getElem? hv)
theorem mv_pos {k : Int} {V A : List Int} (h : AsR k V A) (hr : ∀ x ∈ V, -1 ≤ x ∧ x ≤ 1) {v : Nat} (hv : 1 ≤ v) : mvP A (v : Int) = V.getD v 0 ∧ mvP A (-(v : Int)) = -(V.getD v 0) := by
  have h1 := h.val v hv
  have h2 := getD_rng hr v
  unfold mvP
  simp only [mem_iff, Int.neg_neg, h1.1, h1.2]
  constructor
  · split
    · omega
    · split <;> omega
  · split
    · omega
    · split <;> omega
theorem lv_mv {k : Int} {V A : List Int} (h : AsR k V A) (hr : ∀ x ∈ V, -1 ≤ x ∧ x ≤ 1) {l : Int} (hl : LitOk l) : lvP V l = mvP A (dimP l) := by
  unfold LitOk at hl
  obtain ⟨v, hv⟩ : ∃ v : Nat, l / 2 = (v : Int) := ⟨(l / 2).toNat, by omega⟩
  have h1 := mv_pos h hr (v := v) (by omega)
  unfold lvP varP dimP
  rw [hv, if_pos (show (1 : Int) ≤ (v : Int) by omega), Int.toNat_natCast]
  split
  · rw [h1.1]
  · rw [h1.2]
theorem abs_mem {A : List Int} {v : Nat} (hv : 1 ≤ v) : (∃ x ∈ A, absP x = (v : Int)) ↔ (v : Int) ∈ A ∨ -(v : Int) ∈ A := by
  constructor
  · rintro ⟨x, hx, e⟩
    unfold absP at e
    split at e
    · right; rw [show -(v : Int) = x by omega]; exact hx
    · left; rw [← e]; exact hx
  · rintro (h | h)
    · exact ⟨_, h, by unfold absP; rw [if_neg (by omega)]⟩
    · exact ⟨_, h, by unfold absP; rw [if_pos (by omega)]; omega⟩
theorem filt_cut {a : Int} : ∀ {A : List Int}, (A.map absP).Nodup → (A.filter (fun y => absP y != a)).length + (if ∃ x ∈ A, absP x = a then 1 else 0) = A.length
  | [], _ => by simp
  | x :: A, h => by
    rw [List.map_cons, List.nodup_cons] at h
    have ih := filt_cut (a := a) h.2
    by_cases hx : absP x = a
    · have hn : ¬ ∃ y ∈ A, absP y = a := fun ⟨y, hy, e⟩ => h.1 (by rw [hx, ← e]; exact List.mem_map_of_mem hy)
      rw [if_neg hn] at ih
      rw [if_pos ⟨x, List.mem_cons_self, hx⟩, List.filter_cons, if_neg (by simp [hx]), List.length_cons]
      omega
    · have he : (∃ y ∈ x :: A, absP y = a) ↔ ∃ y ∈ A, absP y = a := by
        constructor
        · rintro ⟨y, hy, e⟩
          rcases List.mem_cons.1 hy with z | z
          · subst z; exact absurd e hx
          · exact ⟨y, z, e⟩
        · rintro ⟨y, hy, e⟩; exact ⟨y, List.mem_cons_of_mem _ hy, e⟩
      rw [List.filter_cons, if_pos (by simp [hx]), List.length_cons, List.length_cons]
      by_cases hc : ∃ y ∈ A, absP y = a
      · rw [if_pos hc] at ih; rw [if_pos (he.2 hc)]; omega
      · rw [if_neg hc] at ih; rw [if_neg (fun z => hc (he.1 z))]; omega
theorem filt_nd {a : Int} {A : List Int} (h : (A.map absP).Nodup) : ((A.filter (fun y => absP y != a)).map absP).Nodup := List.Sublist.nodup (List.Sublist.map _ List.filter_sublist) h
theorem grow_getD (V : List Int) (m : Int) (i : Nat) : (growP V m).getD i 0 = V.getD i 0 := by
  unfold growP
  generalize (if 16777215 < m then 16777215 else m) = M
  split
  · rfl
  · rw [List.getD_eq_getElem?_getD, List.getD_eq_getElem?_getD]
    by_cases hi : i < V.length
    · rw [List.getElem?_append_left hi]
    · rw [List.getElem?_append_right (by omega), List.getElem?_eq_none (l := V) (by omega)]
      cases hq : (List.replicate (gszP V.length M.toNat - V.length) (0 : Int))[i - V.length]? with
      | none => rfl
      | some x => rw [List.eq_of_mem_replicate (List.mem_of_getElem? hq)]; rfl
theorem AsR.grow {k : Int} {V A : List Int} (h : AsR k V A) (m : Int) : AsR k (growP V m) A := ⟨fun v hv => by rw [grow_getD]; exact h.val v hv, h.nd, h.di, h.len⟩
theorem set_getD {V : List Int} {i : Nat} (x : Int) (hi : i < V.length) (j : Nat) : (V.set i x).getD j 0 = if j = i then x else V.getD j 0 := by
  rw [List.getD_eq_getElem?_getD, List.getD_eq_getElem?_getD, List.getElem?_set]
  by_cases h : i = j
  · subst h; rw [if_pos rfl, if_pos hi, if_pos rfl]; rfl
  · rw [if_neg h, if_neg (fun z => h z.symm)]
theorem abs_ne {u v : Nat} (h : u ≠ v) : absP (u : Int) ≠ (v : Int) ∧ absP (-(u : Int)) ≠ (v : Int) := by
  unfold absP
  constructor
  · split <;> omega
  · split <;> omega
/-- a literal is made true -/
theorem AsR.set {k : Int} {V A : List Int} (h : AsR k V A) (hV : VOk k V) {d : Int} (hd : DI d) (h0 : d ≠ 0) : AsR (setN V k (packP d)) (setP V (packP d)) (asgP A d) := by
  unfold DI at hd
  obtain ⟨v, hv⟩ : ∃ v : Nat, absP d = (v : Int) := ⟨(absP d).toNat, by unfold absP; split <;> omega⟩
  have hv1 : 1 ≤ v := by unfold absP at hv; split at hv <;> omega
  have hv2 : (v : Int) ≤ 16777215 := by unfold absP at hv; split at hv <;> omega
  have hgl := grow_len V (v : Int) hV.len (by omega) hv2
  rw [Int.toNat_natCast] at hgl
  unfold setP setN asgP
  rw [pack_abs, hv, Int.toNat_natCast, grow_getD]
  have hmem := abs_mem (A := A) hv1
  have hval := h.val v hv1
  have hr := getD_rng hV.rng v
  refine ⟨fun u hu => ?_, ?_, fun x hx => ?_, ?_⟩
  · rw [set_getD _ hgl.1, grow_getD]
    by_cases huv : u = v
    · subst huv
      rw [if_pos rfl]
      have hf : ∀ x : Int, absP x = (u : Int) → (x ∈ A.filter (fun y => absP y != (u : Int)) ++ [d] ↔ x = d) := fun x e => by
        rw [List.mem_append, List.mem_filter, List.mem_singleton]
        simp [e]
      rw [hf _ (by unfold absP; rw [if_neg (by omega)]), hf _ (by unfold absP; rw [if_pos (by omega)]; omega)]
      unfold absP at hv
      unfold packP
      by_cases hd0 : d < 0
      · rw [if_pos hd0] at hv
        rw [if_pos hd0, if_neg (by omega)]
        constructor <;> constructor <;> intro z <;> omega
      · rw [if_neg hd0] at hv
        rw [if_neg hd0, if_pos (by omega)]
        constructor <;> constructor <;> intro z <;> omega
    · rw [if_neg huv]
      have hne := abs_ne huv
      have hf : ∀ x : Int, absP x ≠ (v : Int) → (x ∈ A.filter (fun y => absP y != (v : Int)) ++ [d] ↔ x ∈ A) := fun x e => by
        have hxd : x ≠ d := fun z => e (by rw [z]; exact hv)
        rw [List.mem_append, List.mem_filter, List.mem_singleton]
        simp [e, hxd]
      rw [hf _ hne.1, hf _ hne.2]
      exact h.val u hu
  · rw [List.map_append, List.nodup_append]
    refine ⟨filt_nd h.nd, by simp, fun a ha b hb => ?_⟩
    rw [List.map_singleton, List.mem_singleton] at hb
    obtain ⟨y, hy, e⟩ := List.mem_map.1 ha
    have := (List.mem_filter.1 hy).2
    intro z
    have h2 : absP y ≠ (v : Int) := by simpa using this
    exact h2 (by rw [e, z, hb, hv])
  · rcases List.mem_append.1 hx with q | q
    · exact h.di x (List.mem_filter.1 q).1
    · rw [List.mem_singleton] at q; subst q; exact ⟨hd, h0⟩
  · have hl := filt_cut (a := (v : Int)) h.nd
    have hk := h.len
    rw [List.length_append, List.length_singleton]
    by_cases hz : V.getD v 0 = 0
    · rw [if_pos hz]
      rw [if_neg (by rw [hmem, hval.1, hval.2]; omega)] at hl
      omega
    · rw [if_neg hz]
      rw [if_pos (by rw [hmem, hval.1, hval.2]; omega)] at hl
      omega
theorem AsR.sets {C : List Int} : ∀ {k : Int} {V A : List Int}, AsR k V A → VOk k V → (∀ x ∈ C, DI x ∧ x ≠ 0) → AsR (setsN V k (C.map packP)) (setsP V (C.map packP)) (C.foldl asgP A) := by
  induction C with
  | nil => intro k V A h _ _; exact h
  | cons d C ih =>
    intro k V A h hV hC
    have hd := hC d List.mem_cons_self
    exact ih (h.set hV hd.1 hd.2) (set_ok hV (di_lit hd.1 hd.2)) (fun x hx => hC x (List.mem_cons_of_mem _ hx))
/-- a variable loses its value -/
theorem AsR.unset {k : Int} {V A : List Int} (h : AsR k V A) (hV : VOk k V) {a : Int} (ha : 1 ≤ a) : AsR (if varP V a = 0 then k else k - 1) (if varP V a = 0 then V else V.set a.toNat 0) (A.filter (fun y => absP y != a)) := by
  obtain ⟨v, hv⟩ : ∃ v : Nat, a = (v : Int) := ⟨a.toNat, by omega⟩
  subst hv
  have hv1 : 1 ≤ v := by omega
  have hmem := abs_mem (A := A) hv1
  have hval := h.val v hv1
  have hr := getD_rng hV.rng v
  have hvar : varP V (v : Int) = V.getD v 0 := by unfold varP; rw [if_pos ha, Int.toNat_natCast]
  have hl := filt_cut (a := (v : Int)) h.nd
  have hk := h.len
  rw [hvar, Int.toNat_natCast]
  have hf : ∀ (u : Nat), u ≠ v → (((u : Int) ∈ A.filter (fun y => absP y != (v : Int)) ↔ (u : Int) ∈ A) ∧ (-(u : Int) ∈ A.filter (fun y => absP y != (v : Int)) ↔ -(u : Int) ∈ A)) := fun u huv => by
    have hne := abs_ne huv
    rw [List.mem_filter, List.mem_filter]
    simp [hne.1, hne.2]
  have hg : (v : Int) ∉ A.filter (fun y => absP y != (v : Int)) ∧ -(v : Int) ∉ A.filter (fun y => absP y != (v : Int)) := by
    rw [List.mem_filter, List.mem_filter]
    have e1 : absP (v : Int) = v := by unfold absP; rw [if_neg (by omega)]
    have e2 : absP (-(v : Int)) = v := by unfold absP; rw [if_pos (by omega)]; omega
    simp [e1, e2]
  by_cases hz : V.getD v 0 = 0
  · rw [if_pos hz, if_pos hz]
    rw [if_neg (by rw [hmem, hval.1, hval.2]; omega)] at hl
    refine ⟨fun u hu => ?_, filt_nd h.nd, fun x hx => h.di x (List.mem_filter.1 hx).1, by omega⟩
    by_cases huv : u = v
    · subst huv
      exact ⟨⟨fun z => absurd z hg.1, fun z => by omega⟩, ⟨fun z => absurd z hg.2, fun z => by omega⟩⟩
    · rw [(hf u huv).1, (hf u huv).2]; exact h.val u hu
  · rw [if_neg hz, if_neg hz]
    rw [if_pos (by rw [hmem, hval.1, hval.2]; omega)] at hl
    have hlt : v < V.length := by
      rcases Nat.lt_or_ge v V.length with z | z
      · exact z
      · exact absurd (by rw [List.getD_eq_getElem?_getD, List.getElem?_eq_none z]; rfl) hz
    refine ⟨fun u hu => ?_, filt_nd h.nd, fun x hx => h.di x (List.mem_filter.1 hx).1, by omega⟩
    rw [set_getD _ hlt]
    by_cases huv : u = v
    · subst huv
      rw [if_pos rfl]
      exact ⟨⟨fun z => absurd z hg.1, fun z => by omega⟩, ⟨fun z => absurd z hg.2, fun z => by omega⟩⟩
    · rw [if_neg huv, (hf u huv).1, (hf u huv).2]; exact h.val u hu
theorem AsR.clear {k : Int} {V A : List Int} (h : AsR k V A) : AsR (if k = 0 then k else 0) (if k = 0 then V else List.replicate V.length 0) [] := by
  have hl := h.len
  by_cases hk : k = 0
  · rw [if_pos hk, if_pos hk]
    have : A = [] := List.length_eq_zero_iff.1 (by omega)
    rw [this] at h
    exact h
  · rw [if_neg hk, if_neg hk]
    refine ⟨fun v hv => ?_, by simp, fun x hx => (by cases hx), rfl⟩
    have : (List.replicate V.length (0 : Int)).getD v 0 = 0 := by
      rw [List.getD_eq_getElem?_getD]
      cases hq : (List.replicate V.length (0 : Int))[v]? with
      | none => rfl
      | some x => rw [List.eq_of_mem_replicate (List.mem_of_getElem? hq)]; rfl
    rw [this]
    simp
theorem AsR.nil {V : List Int} (h : ∀ v : Nat, V.getD v 0 = 0) : AsR 0 V [] := ⟨fun v _ => by rw [h v]; simp, by simp, fun x hx => (by cases hx), rfl⟩
/-! ### Sorted lists -/
theorem srS_mem {F : List Int} {d x : Int} : x ∈ srS F d ↔ x ∈ F ∨ x = d := by
  unfold srS
  by_cases hm : memP F d = true
  · rw [if_pos hm]
    exact ⟨fun z => .inl z, fun z => z.elim id (fun z => by rw [z]; exact (mem_iff F d).1 hm)⟩
  · rw [if_neg hm]
    have hd : d ∉ F := fun z => hm ((mem_iff F d).2 z)
    rw [List.mem_append, List.mem_append, List.mem_singleton, List.mem_filter, List.mem_filter, bf_pack, bf_pack, decide_eq_true_eq, decide_eq_true_eq]
    constructor
    · rintro ((z | z) | z)
      · exact .inl z.1
      · exact .inr z
      · exact .inl z.1
    · rintro (z | z)
      · have : packP x ≠ packP d := fun e => hd (by rw [← pack_inj e]; exact z)
        rcases Int.lt_or_gt_of_ne this with q | q
        · exact .inl (.inl ⟨z, q⟩)
        · exact .inr ⟨z, q⟩
      · exact .inl (.inr z)
theorem srS_asc {F : List Int} {d : Int} (h : F.Pairwise (fun x y => packP x < packP y)) : (srS F d).Pairwise (fun x y => packP x < packP y) := by
  unfold srS
  split
  · exact h
  · rw [List.pairwise_append, List.pairwise_append]
    refine ⟨⟨h.filter _, List.pairwise_singleton _ _, fun x hx y hy => ?_⟩, h.filter _, fun x hx y hy => ?_⟩
    · rw [List.mem_singleton] at hy
      subst hy
      have := (List.mem_filter.1 hx).2
      rw [bf_pack, decide_eq_true_eq] at this
      exact this
    · have h2 := (List.mem_filter.1 hy).2
      rw [bf_pack, decide_eq_true_eq] at h2
      rcases List.mem_append.1 hx with z | z
      · have h1 := (List.mem_filter.1 z).2
        rw [bf_pack, decide_eq_true_eq] at h1
        omega
      · rw [List.mem_singleton] at z
        subst z
        exact h2
theorem sr_all (C : List Int) : (∀ x, x ∈ srP C ↔ x ∈ C) ∧ (srP C).Pairwise (fun x y => packP x < packP y) := by
  have h : ∀ (C F P : List Int), (∀ x, x ∈ F ↔ x ∈ P) → F.Pairwise (fun x y => packP x < packP y) → (∀ x, x ∈ C.foldl srS F ↔ x ∈ P ∨ x ∈ C) ∧ (C.foldl srS F).Pairwise (fun x y => packP x < packP y) := by
    intro C
    induction C with
    | nil => intro F P h1 h2; exact ⟨fun x => by rw [List.foldl_nil, h1]; simp, h2⟩
    | cons d C ih =>
      intro F P h1 h2
      obtain ⟨i1, i2⟩ := ih (srS F d) (P ++ [d]) (fun x => by rw [srS_mem, h1]; simp) (srS_asc h2)
      refine ⟨fun x => ?_, i2⟩
      rw [List.foldl_cons, i1]
      simp [or_assoc]
  obtain ⟨h1, h2⟩ := h C [] [] (fun x => Iff.rfl) List.Pairwise.nil
  exact ⟨fun x => (h1 x).trans (by simp), h2⟩
theorem sr_pack (C : List Int) : ((srP C).map packP).Pairwise (· < ·) ∧ ∀ x, x ∈ (srP C).map packP ↔ ∃ d ∈ C, packP d = x := by
  obtain ⟨h1, h2⟩ := sr_all C
  refine ⟨List.pairwise_map.2 h2, fun x => ?_⟩
  rw [List.mem_map]
  constructor
  · rintro ⟨d, hd, e⟩; exact ⟨d, (h1 d).1 hd, e⟩
  · rintro ⟨d, hd, e⟩; exact ⟨d, (h1 d).2 hd, e⟩
/-- the model's order and the real one -/
theorem sr_eq {C L : List Int} (hL : L.Pairwise (· < ·)) (hm : ∀ x, x ∈ L ↔ ∃ d ∈ C, packP d = x) : L.map dimP = srP C := by
  obtain ⟨h1, h2⟩ := sr_pack C
  have : L = (srP C).map packP := lt_unique hL h1 (fun x => by rw [hm, h2])
  rw [this, map_back]
theorem nf_sr (C : List Int) : (nfP (C.map packP)).1.map dimP = srP C := sr_eq (nf_asc _) (fun x => by rw [nf_mem, List.mem_map])
theorem clT_pc (C : List Int) : clT C = pcP (C.map dimP) := by
  unfold clT pcP litsT pcB
  rw [List.flatMap_map]
theorem tau_eq {C : List Int} (hC : ∀ x ∈ C, DI x ∧ x ≠ 0) : (nfP (C.map packP)).2 = C.any (fun d => memP C (-d)) := by
  rw [Bool.eq_iff_iff, nf_tau, List.any_eq_true]
  constructor
  · rintro ⟨x, hx, h0, h1⟩
    obtain ⟨d, hd, rfl⟩ := List.mem_map.1 hx
    obtain ⟨e, he, h2⟩ := List.mem_map.1 h1
    refine ⟨d, hd, (mem_iff _ _).2 ?_⟩
    have : e = -d := by
      unfold packP at h0 h2
      split at h0 <;> split at h2 <;> omega
    rw [← this]; exact he
  · rintro ⟨d, hd, h⟩
    have hn := (mem_iff _ _).1 h
    have h0 := (hC d hd).2
    by_cases hd0 : d < 0
    · refine ⟨packP (-d), List.mem_map_of_mem hn, by unfold packP; rw [if_neg (by omega)]; omega, ?_⟩
      rw [show packP (-d) + 1 = packP d by unfold packP; rw [if_neg (by omega), if_pos hd0]]
      exact List.mem_map_of_mem hd
    · refine ⟨packP d, List.mem_map_of_mem hd, by unfold packP; rw [if_neg hd0]; omega, ?_⟩
      rw [show packP d + 1 = packP (-d) by unfold packP; rw [if_neg hd0, if_pos (by omega)]; omega]
      exact List.mem_map_of_mem hn
theorem true_sr {k : Int} {V A : List Int} (h : AsR k V A) (hr : ∀ x ∈ V, -1 ≤ x ∧ x ≤ 1) : (trueP V (if V.length = 0 then 1 else V.length)).map dimP = srP A := by
  refine sr_eq ?_ (fun x => ?_)
  · unfold trueP
    rw [List.pairwise_map]
    refine (List.pairwise_lt_range.filter _).imp ?_
    intro a b hab
    split <;> split <;> omega
  · unfold trueP
    rw [List.mem_map]
    constructor
    · rintro ⟨v, hv, e⟩
      have h2 := of_decide_eq_true (List.mem_filter.1 hv).2
      have h3 := h.val v h2.1
      have h4 := getD_rng hr v
      by_cases hm : V.getD v 0 = -1
      · rw [if_pos hm] at e
        exact ⟨-(v : Int), h3.2.2 hm, by unfold packP; rw [if_pos (by omega)]; omega⟩
      · rw [if_neg hm] at e
        exact ⟨(v : Int), h3.1.2 (by omega), by unfold packP; rw [if_neg (by omega)]; omega⟩
    · rintro ⟨d, hd, e⟩
      have h0 := (h.di d hd).2
      obtain ⟨v, hv⟩ : ∃ v : Nat, absP d = (v : Int) := ⟨(absP d).toNat, by unfold absP; split <;> omega⟩
      have hv1 : 1 ≤ v := by unfold absP at hv; split at hv <;> omega
      have h3 := h.val v hv1
      have hnz : ∀ y : Int, y ≠ 0 → V.getD v 0 = y → v ∈ (List.range (if V.length = 0 then 1 else V.length)).filter (fun v : Nat => decide (1 ≤ v ∧ V.getD v 0 ≠ 0)) := fun y hy e => by
        have hlt : v < V.length := by
          rcases Nat.lt_or_ge v V.length with z | z
          · exact z
          · rw [List.getD_eq_getElem?_getD, List.getElem?_eq_none z] at e
            exact absurd e.symm hy
        rw [List.mem_filter, List.mem_range]
        exact ⟨by split <;> omega, decide_eq_true ⟨hv1, by rw [e]; exact hy⟩⟩
      refine ⟨v, ?_⟩
      unfold absP at hv
      by_cases hd0 : d < 0
      · rw [if_pos hd0] at hv
        have h5 := h3.2.1 (by rw [← hv, Int.neg_neg]; exact hd)
        refine ⟨hnz _ (by decide) h5, ?_⟩
        rw [if_pos h5, ← e]
        unfold packP
        rw [if_pos hd0]
        omega
      · rw [if_neg hd0] at hv
        have h5 := h3.1.1 (by rw [← hv]; exact hd)
        refine ⟨hnz _ (by decide) h5, ?_⟩
        rw [if_neg (by omega), ← e]
        unfold packP
        rw [if_neg hd0]
        omega
/-! ### Comparison -/
theorem cm_eq : ∀ {C D : List Int}, (∀ x ∈ C, LitOk x) → (∀ x ∈ D, LitOk x) → cmP (C.map dimP) (D.map dimP) = cmpP C D
  | [], [], _, _ => rfl
  | [], _ :: _, _, _ => rfl
  | _ :: _, [], _, _ => rfl
  | x :: C, y :: D, hC, hD => by
    have hx := hC x List.mem_cons_self
    have hy := hD y List.mem_cons_self
    rw [List.map_cons, List.map_cons]
    unfold cmP cmpP
    rw [bf_pack, bf_pack, pack_dim hx, pack_dim hy, cm_eq (fun z hz => hC z (List.mem_cons_of_mem _ hz)) (fun z hz => hD z (List.mem_cons_of_mem _ hz))]
    by_cases h1 : x < y
    · rw [if_pos (decide_eq_true h1), if_neg (show ¬ x = y by omega), if_pos h1]
    · by_cases h2 : y < x
      · rw [if_neg (show ¬ decide (x < y) = true by simpa using h1), if_pos (decide_eq_true h2), if_neg (show ¬ x = y by omega), if_neg h1]
      · rw [if_neg (show ¬ decide (x < y) = true by simpa using h1), if_neg (show ¬ decide (y < x) = true by simpa using h2), if_pos (show x = y by omega)]
theorem cm_zero : ∀ (C D : List Int), cmP C D = 0 ↔ C = D
  | [], [] => by simp [cmP]
  | [], _ :: _ => by simp [cmP]
  | _ :: _, [] => by simp [cmP]
  | x :: C, y :: D => by
    unfold cmP
    rw [bf_pack, bf_pack]
    by_cases h1 : packP x < packP y
    · rw [if_pos (decide_eq_true h1)]
      refine ⟨fun z => absurd z (by decide), fun z => ?_⟩
      injection z with z _
      subst z
      omega
    · by_cases h2 : packP y < packP x
      · rw [if_neg (show ¬ decide (packP x < packP y) = true by simpa using h1), if_pos (decide_eq_true h2)]
        refine ⟨fun z => absurd z (by decide), fun z => ?_⟩
        injection z with z _
        subst z
        omega
      · rw [if_neg (show ¬ decide (packP x < packP y) = true by simpa using h1), if_neg (show ¬ decide (packP y < packP x) = true by simpa using h2), cm_zero C D]
        have : x = y := pack_inj (by omega)
        subst this
        simp
theorem sameP_iff : ∀ (F G : List (List Int)), sameP F G = true ↔ F = G
  | [], [] => by simp [sameP]
  | [], _ :: _ => by simp [sameP]
  | _ :: _, [] => by simp [sameP]
  | C :: F, D :: G => by
    unfold sameP
    by_cases h : cmP C D = 0
    · rw [if_pos h, sameP_iff F G]
      rw [cm_zero] at h
      subst h
      simp
    · rw [if_neg h]
      rw [cm_zero] at h
      simp [h]
theorem sf_iff (nv : Int) (F : List (List Int)) (nw : Int) (G : List (List Int)) : sfP nv F nw G = true ↔ nv = nw ∧ F = G := by
  unfold sfP
  by_cases h1 : nv = nw
  · rw [if_pos h1]
    by_cases h2 : F.length = G.length
    · rw [if_pos h2, sameP_iff]; simp [h1]
    · rw [if_neg h2]
      refine ⟨fun z => by simp at z, fun z => absurd (by rw [z.2]) h2⟩
  · rw [if_neg h1]; simp [h1]
theorem sameQ_iff : ∀ (F G : List (Bool × List Int)), sameQ F G = true ↔ F = G
  | [], [] => by simp [sameQ]
  | [], _ :: _ => by simp [sameQ]
  | _ :: _, [] => by simp [sameQ]
  | (c, C) :: F, (d, D) :: G => by
    unfold sameQ
    dsimp only
    by_cases h1 : c = d
    · rw [if_pos h1]
      by_cases h : cmP C D = 0
      · rw [if_pos h, sameQ_iff F G]
        rw [cm_zero] at h
        subst h h1
        simp
      · rw [if_neg h]
        rw [cm_zero] at h
        simp [h]
    · rw [if_neg h1]; simp [h1]
theorem ss_iff (F G : List (Bool × List Int)) : ssP F G = true ↔ F = G := by
  unfold ssP
  by_cases h2 : F.length = G.length
  · rw [if_pos h2, sameQ_iff]
  · rw [if_neg h2]
    refine ⟨fun z => by simp at z, fun z => absurd (by rw [z]) h2⟩
end Go.Proofs.Qxb6500773aGreat
