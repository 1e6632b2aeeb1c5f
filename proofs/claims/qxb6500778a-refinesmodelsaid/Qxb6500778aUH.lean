import Derived.Test.Qxb6500778aUG
namespace Go.Proofs.Qxb6500778a
open Go.RowKit

/-! ### A model's configuration as a list of 304 cells -/
def mnC (M : MN) (vr va : Nat → Value) : List Value :=
  ((List.range 16).map vr ++ (List.range 16).map va) ++ ((List.range 16).map (fun d => Value.bool (M.up d)) ++ (List.range 16).flatMap (fun d => (List.range 16).map (fun e => Value.bool (M.lk d e))))
section
variable (M : MN) (vr va : Nat → Value)
theorem rg_map (f : Nat → Value) (d : Nat) (h : d < 16) : ((List.range 16).map f)[d]? = some (f d) := by
  rw [List.getElem?_map, List.getElem?_range h]; rfl
theorem rg_len (f : Nat → Value) : ((List.range 16).map f).length = 16 := by rw [List.length_map, List.length_range]
theorem lk_flat (h : Nat → Nat → Value) : ((List.range 16).flatMap (fun d => (List.range 16).map (h d))).length = 256 := by
  have := flat_len (fun d => (List.range 16).map (h d)) 16 (fun _ => rg_len _) (List.range 16)
  simpa using this
theorem mnC_len : (mnC M vr va).length = 304 := by
  unfold mnC
  rw [List.length_append, List.length_append, List.length_append, rg_len, rg_len, rg_len, lk_flat (fun d e => .bool (M.lk d e))]
theorem mnC_r (d : Nat) (h : d < 16) : (mnC M vr va)[d]? = some (vr d) := by
  unfold mnC
  rw [List.getElem?_append_left (by rw [List.length_append, rg_len, rg_len]; omega), List.getElem?_append_left (by rw [rg_len]; exact h), rg_map _ _ h]
theorem mnC_a (d : Nat) (h : d < 16) : (mnC M vr va)[16 + d]? = some (va d) := by
  unfold mnC
  rw [List.getElem?_append_left (by rw [List.length_append, rg_len, rg_len]; omega), List.getElem?_append_right (by rw [rg_len]; omega), rg_len, Nat.add_sub_cancel_left, rg_map _ _ h]
theorem mnC_u (d : Nat) (h : d < 16) : (mnC M vr va)[32 + d]? = some (.bool (M.up d)) := by
  unfold mnC
  rw [List.getElem?_append_right (by rw [List.length_append, rg_len, rg_len]; omega), List.length_append, rg_len, rg_len, Nat.add_sub_cancel_left, List.getElem?_append_left (by rw [rg_len]; exact h), rg_map _ _ h]
theorem mnC_l (d e : Nat) (h : d < 16) (he : e < 16) : (mnC M vr va)[48 + (d * 16 + e)]? = some (.bool (M.lk d e)) := by
  unfold mnC
  rw [List.getElem?_append_right (by rw [List.length_append, rg_len, rg_len]; omega), List.length_append, rg_len, rg_len, List.getElem?_append_right (by rw [rg_len]; omega), rg_len, show 48 + (d * 16 + e) - (16 + 16) - 16 = d * 16 + e by omega]
  have := flat_at (fun d => (List.range 16).map (fun e => Value.bool (M.lk d e))) 16 (fun _ => rg_len _) (List.range 16) d d (by rw [List.getElem?_range h]) e he
  rw [this, rg_map _ _ he]
end
/-- the rows of a configuration -/
structure MV (w : World) (M : MN) (vr va : Nat → Value) : Prop where
  ro : ∀ d, d < 16 → w.ownsRow 0 77 3 (vr d) (M.rt d).length (flatR (M.rt d))
  ao : ∀ d, d < 16 → w.ownsRow 0 81 4 (va d) (M.ac d).length (flatA (M.ac d))
section
variable {w w' : World} {b o : Nat} {M : MN} {vr va : Nat → Value}
theorem MA.mv (h : MA w b o M vr va) : MV w M vr va := ⟨h.ro, h.ao⟩
theorem MV.new (h : MV w M vr va) (e : Ex (fun _ => False) w w') : MV w' M vr va := ⟨fun d hd => own_kept (h.ro d hd) e (fun _ _ z => z), fun d hd => own_kept (h.ao d hd) e (fun _ _ z => z)⟩
theorem MV.keep {S : Nat → Prop} (h : MV w M vr va) (e : Ex S w w') (hr : ∀ d, d < 16 → ∀ k, (vr d).ownBlock = some k → ¬ S k) (ha : ∀ d, d < 16 → ∀ k, (va d).ownBlock = some k → ¬ S k) : MV w' M vr va := ⟨fun d hd => own_kept (h.ro d hd) e (hr d hd), fun d hd => own_kept (h.ao d hd) e (ha d hd)⟩
/-- cells and rows make a configuration -/
theorem MV.ma (h : MV w M vr va) (hr : w.rangeAt b o (mnC M vr va)) : MA w b o M vr va :=
  ⟨fun d hd => hr d _ (mnC_r M vr va d hd), fun d hd => by have := hr (16 + d) _ (mnC_a M vr va d hd); rwa [← Nat.add_assoc] at this, fun d hd => by have := hr (32 + d) _ (mnC_u M vr va d hd); rwa [← Nat.add_assoc] at this, fun d e hd he => by have := hr (48 + (d * 16 + e)) _ (mnC_l M vr va d e hd he); rwa [← Nat.add_assoc] at this, h.ro, h.ao⟩
theorem mnC_case (j : Nat) (h : j < 304) : j < 16 ∨ (∃ d, d < 16 ∧ j = 16 + d) ∨ (∃ d, d < 16 ∧ j = 32 + d) ∨ ∃ d e, d < 16 ∧ e < 16 ∧ j = 48 + (d * 16 + e) := by
  by_cases h1 : j < 16
  · exact .inl h1
  · by_cases h2 : j < 32
    · exact .inr (.inl ⟨j - 16, by omega, by omega⟩)
    · by_cases h3 : j < 48
      · exact .inr (.inr (.inl ⟨j - 32, by omega, by omega⟩))
      · exact .inr (.inr (.inr ⟨(j - 48) / 16, (j - 48) % 16, by omega, by omega, by omega⟩))
theorem MA.range (h : MA w b o M vr va) : w.rangeAt b o (mnC M vr va) := fun j v hj => by
  have hlt : j < 304 := by have := (List.getElem?_eq_some_iff.1 hj).1; rwa [mnC_len] at this
  rcases mnC_case j hlt with h1 | ⟨d, hd, rfl⟩ | ⟨d, hd, rfl⟩ | ⟨d, e, hd, he, rfl⟩
  · rw [mnC_r M vr va j h1] at hj; rw [← hj]; exact h.r j h1
  · rw [mnC_a M vr va d hd] at hj; rw [← hj, ← Nat.add_assoc]; exact h.a d hd
  · rw [mnC_u M vr va d hd] at hj; rw [← hj, ← Nat.add_assoc]; exact h.u d hd
  · rw [mnC_l M vr va d e hd he] at hj; rw [← hj, ← Nat.add_assoc]; exact h.l d e hd he
theorem MV.one (h : MV w M vr va) : ∀ u ∈ mnC M vr va, u.oneCell' = true := fun u hu => by
  obtain ⟨j, hj⟩ := List.mem_iff_getElem?.1 hu
  have hlt : j < 304 := by have := (List.getElem?_eq_some_iff.1 hj).1; rwa [mnC_len] at this
  rcases mnC_case j hlt with h1 | ⟨d, hd, rfl⟩ | ⟨d, hd, rfl⟩ | ⟨d, e, hd, he, rfl⟩
  · rw [mnC_r M vr va j h1] at hj; injection hj with hj; subst hj; obtain ⟨sa, sc, e⟩ := own_len (h.ro j h1); rw [e]; rfl
  · rw [mnC_a M vr va d hd] at hj; injection hj with hj; subst hj; obtain ⟨sa, sc, e⟩ := own_len (h.ao d hd); rw [e]; rfl
  · rw [mnC_u M vr va d hd] at hj; injection hj with hj; subst hj; rfl
  · rw [mnC_l M vr va d e hd he] at hj; injection hj with hj; subst hj; rfl
end
/-- A copy in the making: the rows of the first D devices are new and apart, the others are old. -/
structure MXn (w : World) (b Bs D : Nat) (M : MN) (vr va : Nat → Value) : Prop where
  ma : MA w b 0 M vr va
  fz : ∀ j, w.frozen? ⟨b, j, none⟩ = false
  hb : b < Bs
  rb : ∀ d, d < D → ∀ k, (vr d).ownBlock = some k → Bs ≤ k
  ab : ∀ d, d < D → ∀ k, (va d).ownBlock = some k → Bs ≤ k
  rr : ∀ d d' k, d < D → d' < D → (vr d).ownBlock = some k → (vr d').ownBlock = some k → d = d'
  aa : ∀ d d' k, d < D → d' < D → (va d).ownBlock = some k → (va d').ownBlock = some k → d = d'
  ra : ∀ d d' k, d < D → d' < D → (vr d).ownBlock = some k → (va d').ownBlock = some k → False
  lr : ∀ d, D ≤ d → d < 16 → ∀ k, (vr d).ownBlock = some k → k < b
  la : ∀ d, D ≤ d → d < 16 → ∀ k, (va d).ownBlock = some k → k < b
section
variable {w w' : World} {b Bs D : Nat} {M : MN} {vr va : Nat → Value}
theorem MXn.lt (h : MXn w b Bs D M vr va) : b < w.heap.size := World.block_lt_of_cell? _ _ (h.ma.r 0 (by omega))
theorem MXn.mx (h : MXn w b Bs 16 M vr va) : MX w b M vr va :=
  ⟨h.ma, h.fz, fun d hd k hk => by have := h.rb d hd k hk; have := h.hb; omega, fun d hd k hk => by have := h.ab d hd k hk; have := h.hb; omega, h.rr, h.aa, h.ra⟩
theorem MXn.ext {M' : MN} (h : MXn w b Bs D M vr va) (e : M = M') : MXn w b Bs D M' vr va := e ▸ h
theorem MXn.new (h : MXn w b Bs D M vr va) (e : Ex (fun _ => False) w w') : MXn w' b Bs D M vr va :=
  ⟨h.ma.new e, fun j => (e.frozen (fun z => z) h.lt).trans (h.fz j), h.hb, h.rb, h.ab, h.rr, h.aa, h.ra, h.lr, h.la⟩
theorem MXn.setR (h : MXn w b Bs D M vr va) {d : Nat} (hd : d < D) (hD : D ≤ 16) (e : Ex (fun k => some k = (vr d).ownBlock) w w') {L : List Rt} {v : Value} (ho : w'.ownsRow 0 77 3 v L.length (flatR L)) (hv : ∀ k, v.ownBlock = some k → (vr d).ownBlock = some k ∨ w.heap.size ≤ k) (hBs : Bs ≤ w.heap.size) :
    MXn (w'.setCell ⟨b, 0 + d, none⟩ v) b Bs D { M with rt := upd M.rt d L } (upd vr d v) va := by
  have hbB := h.hb
  have hb : ¬ some b = (vr d).ownBlock := fun z => by have := h.rb d hd b z.symm; omega
  have hc := e.cell hb (h.ma.r d (by omega))
  have e2 : Ex (fun k => k = b) w' (w'.setCell ⟨b, 0 + d, none⟩ v) := (Ex.refl (fun k => k = b) w').set (p := b) rfl _
  have hvb : ∀ k, v.ownBlock = some k → Bs ≤ k := fun k hk => by
    rcases hv k hk with z | z
    · exact h.rb d hd k z
    · omega
  have rne : ∀ k, k < 16 → k ≠ d → ∀ j, (vr k).ownBlock = some j → ¬ some j = (vr d).ownBlock := fun k hk hkd j hj z => by
    by_cases hkD : k < D
    · exact hkd (h.rr k d j hkD hd hj z.symm)
    · have := h.lr k (by omega) hk j hj
      have := h.rb d hd j z.symm
      omega
  have ane : ∀ k, k < 16 → ∀ j, (va k).ownBlock = some j → ¬ some j = (vr d).ownBlock := fun k hk j hj z => by
    by_cases hkD : k < D
    · exact h.ra d k j hd hkD z.symm hj
    · have := h.la k (by omega) hk j hj
      have := h.rb d hd j z.symm
      omega
  have rnb : ∀ k, k < 16 → ∀ j, (vr k).ownBlock = some j → ¬ j = b := fun k hk j hj z => by
    by_cases hkD : k < D
    · have := h.rb k hkD j hj; omega
    · have := h.lr k (by omega) hk j hj; omega
  have anb : ∀ k, k < 16 → ∀ j, (va k).ownBlock = some j → ¬ j = b := fun k hk j hj z => by
    by_cases hkD : k < D
    · have := h.ab k hkD j hj; omega
    · have := h.la k (by omega) hk j hj; omega
  refine ⟨⟨fun k hk => ?_, fun k hk => ?_, fun k hk => ?_, fun k f hk hf => ?_, fun k hk => ?_, fun k hk => ?_⟩, fun j => by rw [set_frozen]; exact (e.frozen hb h.lt).trans (h.fz j), h.hb, fun k hk j hj => ?_, h.ab, fun x y k hx hy h1 h2 => ?_, h.aa, fun x y k hx hy h1 h2 => ?_, fun k hk hk2 j hj => ?_, h.la⟩
  · rw [upd_get]
    by_cases hkd : k = d
    · subst hkd; rw [if_pos rfl]; exact World.cell?_setCell_same _ _ _ hc
    · rw [if_neg hkd]; exact set_any _ b _ _ _ hc (e.cell hb (h.ma.r k hk)) (by omega)
  · exact set_any _ b _ _ _ hc (e.cell hb (h.ma.a k hk)) (by omega)
  · exact set_any _ b _ _ _ hc (e.cell hb (h.ma.u k hk)) (by omega)
  · exact set_any _ b _ _ _ hc (e.cell hb (h.ma.l k f hk hf)) (by omega)
  · show World.ownsRow _ _ _ _ (upd vr d v k) (upd M.rt d L k).length (flatR (upd M.rt d L k))
    rw [upd_get, upd_get]
    by_cases hkd : k = d
    · subst hkd; rw [if_pos rfl, if_pos rfl]; exact own_kept ho e2 (fun j hj (z : j = b) => by have := hvb j hj; omega)
    · rw [if_neg hkd, if_neg hkd]
      exact own_kept (own_kept (h.ma.ro k hk) e (rne k hk hkd)) e2 (rnb k hk)
  · exact own_kept (own_kept (h.ma.ao k hk) e (ane k hk)) e2 (anb k hk)
  · rw [upd_get] at hj
    split at hj
    · exact hvb j hj
    · exact h.rb k hk j hj
  · rw [upd_get] at h1 h2
    by_cases hxd : x = d
    · rw [if_pos hxd] at h1
      by_cases hyd : y = d
      · rw [hxd, hyd]
      · rw [if_neg hyd] at h2
        rcases hv k h1 with z | z
        · exact absurd (h.rr y d k hy hd h2 z) hyd
        · have := ((h.ma.ro y (by omega)).lt k h2).2; omega
    · rw [if_neg hxd] at h1
      by_cases hyd : y = d
      · rw [if_pos hyd] at h2
        rcases hv k h2 with z | z
        · exact absurd (h.rr x d k hx hd h1 z) hxd
        · have := ((h.ma.ro x (by omega)).lt k h1).2; omega
      · rw [if_neg hyd] at h2
        exact h.rr x y k hx hy h1 h2
  · rw [upd_get] at h1
    by_cases hxd : x = d
    · rw [if_pos hxd] at h1
      rcases hv k h1 with z | z
      · exact h.ra d y k hd hy z h2
      · have := ((h.ma.ao y (by omega)).lt k h2).2; omega
    · rw [if_neg hxd] at h1
      exact h.ra x y k hx hy h1 h2
  · rw [upd_get, if_neg (by omega)] at hj
    exact h.lr k hk hk2 j hj
theorem MXn.setA (h : MXn w b Bs D M vr va) {d : Nat} (hd : d < D) (hD : D ≤ 16) (e : Ex (fun k => some k = (va d).ownBlock) w w') {L : List Rl} {v : Value} (ho : w'.ownsRow 0 81 4 v L.length (flatA L)) (hv : ∀ k, v.ownBlock = some k → (va d).ownBlock = some k ∨ w.heap.size ≤ k) (hBs : Bs ≤ w.heap.size) :
    MXn (w'.setCell ⟨b, 0 + 16 + d, none⟩ v) b Bs D { M with ac := upd M.ac d L } vr (upd va d v) := by
  have hbB := h.hb
  have hb : ¬ some b = (va d).ownBlock := fun z => by have := h.ab d hd b z.symm; omega
  have hc := e.cell hb (h.ma.a d (by omega))
  have e2 : Ex (fun k => k = b) w' (w'.setCell ⟨b, 0 + 16 + d, none⟩ v) := (Ex.refl (fun k => k = b) w').set (p := b) rfl _
  have hvb : ∀ k, v.ownBlock = some k → Bs ≤ k := fun k hk => by
    rcases hv k hk with z | z
    · exact h.ab d hd k z
    · omega
  have rne : ∀ k, k < 16 → k ≠ d → ∀ j, (va k).ownBlock = some j → ¬ some j = (va d).ownBlock := fun k hk hkd j hj z => by
    by_cases hkD : k < D
    · exact hkd (h.aa k d j hkD hd hj z.symm)
    · have := h.la k (by omega) hk j hj
      have := h.ab d hd j z.symm
      omega
  have ane : ∀ k, k < 16 → ∀ j, (vr k).ownBlock = some j → ¬ some j = (va d).ownBlock := fun k hk j hj z => by
    by_cases hkD : k < D
    · exact h.ra k d j hkD hd hj z.symm
    · have := h.lr k (by omega) hk j hj
      have := h.ab d hd j z.symm
      omega
  have rnb : ∀ k, k < 16 → ∀ j, (vr k).ownBlock = some j → ¬ j = b := fun k hk j hj z => by
    by_cases hkD : k < D
    · have := h.rb k hkD j hj; omega
    · have := h.lr k (by omega) hk j hj; omega
  have anb : ∀ k, k < 16 → ∀ j, (va k).ownBlock = some j → ¬ j = b := fun k hk j hj z => by
    by_cases hkD : k < D
    · have := h.ab k hkD j hj; omega
    · have := h.la k (by omega) hk j hj; omega
  refine ⟨⟨fun k hk => ?_, fun k hk => ?_, fun k hk => ?_, fun k f hk hf => ?_, fun k hk => ?_, fun k hk => ?_⟩, fun j => by rw [set_frozen]; exact (e.frozen hb h.lt).trans (h.fz j), h.hb, h.rb, fun k hk j hj => ?_, h.rr, fun x y k hx hy h1 h2 => ?_, fun x y k hx hy h1 h2 => ?_, h.lr, fun k hk hk2 j hj => ?_⟩
  · exact set_any _ b _ _ _ hc (e.cell hb (h.ma.r k hk)) (by omega)
  · rw [upd_get]
    by_cases hkd : k = d
    · subst hkd; rw [if_pos rfl]; exact World.cell?_setCell_same _ _ _ hc
    · rw [if_neg hkd]; exact set_any _ b _ _ _ hc (e.cell hb (h.ma.a k hk)) (by omega)
  · exact set_any _ b _ _ _ hc (e.cell hb (h.ma.u k hk)) (by omega)
  · exact set_any _ b _ _ _ hc (e.cell hb (h.ma.l k f hk hf)) (by omega)
  · exact own_kept (own_kept (h.ma.ro k hk) e (ane k hk)) e2 (rnb k hk)
  · show World.ownsRow _ _ _ _ (upd va d v k) (upd M.ac d L k).length (flatA (upd M.ac d L k))
    rw [upd_get, upd_get]
    by_cases hkd : k = d
    · subst hkd; rw [if_pos rfl, if_pos rfl]; exact own_kept ho e2 (fun j hj (z : j = b) => by have := hvb j hj; omega)
    · rw [if_neg hkd, if_neg hkd]
      exact own_kept (own_kept (h.ma.ao k hk) e (rne k hk hkd)) e2 (anb k hk)
  · rw [upd_get] at hj
    split at hj
    · exact hvb j hj
    · exact h.ab k hk j hj
  · rw [upd_get] at h1 h2
    by_cases hxd : x = d
    · rw [if_pos hxd] at h1
      by_cases hyd : y = d
      · rw [hxd, hyd]
      · rw [if_neg hyd] at h2
        rcases hv k h1 with z | z
        · exact absurd (h.aa y d k hy hd h2 z) hyd
        · have := ((h.ma.ao y (by omega)).lt k h2).2; omega
    · rw [if_neg hxd] at h1
      by_cases hyd : y = d
      · rw [if_pos hyd] at h2
        rcases hv k h2 with z | z
        · exact absurd (h.aa x d k hx hd h1 z) hxd
        · have := ((h.ma.ao x (by omega)).lt k h1).2; omega
      · rw [if_neg hyd] at h2
        exact h.aa x y k hx hy h1 h2
  · rw [upd_get] at h2
    by_cases hyd : y = d
    · rw [if_pos hyd] at h2
      rcases hv k h2 with z | z
      · exact h.ra x d k hx hd h1 z
      · have := ((h.ma.ro x (by omega)).lt k h1).2; omega
    · rw [if_neg hyd] at h2
      exact h.ra x y k hx hy h1 h2
  · rw [upd_get, if_neg (by omega)] at hj
    exact h.la k hk hk2 j hj
/-- the next device's rows are emptied -/
theorem MXn.nil (h : MXn w b Bs D M vr va) (hD : D < 16) : MXn ((w.setCell ⟨b, 0 + D, none⟩ (.slice none 0 0)).setCell ⟨b, 0 + 16 + D, none⟩ (.slice none 0 0)) b Bs (D + 1) { M with rt := upd M.rt D [], ac := upd M.ac D [] } (upd vr D (.slice none 0 0)) (upd va D (.slice none 0 0)) := by
  have hbB := h.hb
  have c1 := h.ma.r D hD
  have c2 := set_any w b _ _ (.slice none 0 0) c1 (h.ma.a D hD) (by omega)
  have e : Ex (fun k => k = b) w ((w.setCell ⟨b, 0 + D, none⟩ (.slice none 0 0)).setCell ⟨b, 0 + 16 + D, none⟩ (.slice none 0 0)) := ((Ex.refl (fun k => k = b) w).set (p := b) rfl _).set (p := b) rfl _
  have st : ∀ j x, j ≠ 0 + D → j ≠ 0 + 16 + D → w.cell? ⟨b, j, none⟩ = some x → ((w.setCell ⟨b, 0 + D, none⟩ (.slice none 0 0)).setCell ⟨b, 0 + 16 + D, none⟩ (.slice none 0 0)).cell? ⟨b, j, none⟩ = some x := fun j x h1 h2 hx => set_any _ b _ _ _ c2 (set_any w b _ _ _ c1 hx h1) h2
  have rnb : ∀ k, k < 16 → ∀ j, (vr k).ownBlock = some j → ¬ j = b := fun k hk j hj z => by
    by_cases hkD : k < D
    · have := h.rb k hkD j hj; omega
    · have := h.lr k (by omega) hk j hj; omega
  have anb : ∀ k, k < 16 → ∀ j, (va k).ownBlock = some j → ¬ j = b := fun k hk j hj z => by
    by_cases hkD : k < D
    · have := h.ab k hkD j hj; omega
    · have := h.la k (by omega) hk j hj; omega
  have nn : ∀ (f : Nat → Value) k j, (upd f D (.slice none 0 0) k).ownBlock = some j → k ≠ D ∧ (f k).ownBlock = some j := fun f k j hj => by
    rw [upd_get] at hj
    by_cases hk : k = D
    · rw [if_pos hk] at hj; cases hj
    · rw [if_neg hk] at hj; exact ⟨hk, hj⟩
  refine ⟨⟨fun k hk => ?_, fun k hk => ?_, fun k hk => ?_, fun k f hk hf => ?_, fun k hk => ?_, fun k hk => ?_⟩, fun j => by rw [set_frozen, set_frozen]; exact h.fz j, h.hb, fun k hk j hj => ?_, fun k hk j hj => ?_, fun x y k hx hy h1 h2 => ?_, fun x y k hx hy h1 h2 => ?_, fun x y k hx hy h1 h2 => ?_, fun k hk hk2 j hj => ?_, fun k hk hk2 j hj => ?_⟩
  · rw [upd_get]
    by_cases hkd : k = D
    · subst hkd; rw [if_pos rfl]; exact set_any _ b _ _ _ c2 (World.cell?_setCell_same _ _ _ c1) (by omega)
    · rw [if_neg hkd]; exact st _ _ (by omega) (by omega) (h.ma.r k hk)
  · rw [upd_get]
    by_cases hkd : k = D
    · subst hkd; rw [if_pos rfl]; exact World.cell?_setCell_same _ _ _ c2
    · rw [if_neg hkd]; exact st _ _ (by omega) (by omega) (h.ma.a k hk)
  · exact st _ _ (by omega) (by omega) (h.ma.u k hk)
  · exact st _ _ (by omega) (by omega) (h.ma.l k f hk hf)
  · show World.ownsRow _ _ _ _ (upd vr D _ k) (upd M.rt D [] k).length (flatR (upd M.rt D [] k))
    rw [upd_get, upd_get]
    by_cases hkd : k = D
    · rw [if_pos hkd, if_pos hkd]; exact World.ownsRow_nil _ _ _ _
    · rw [if_neg hkd, if_neg hkd]; exact own_kept (h.ma.ro k hk) e (rnb k hk)
  · show World.ownsRow _ _ _ _ (upd va D _ k) (upd M.ac D [] k).length (flatA (upd M.ac D [] k))
    rw [upd_get, upd_get]
    by_cases hkd : k = D
    · rw [if_pos hkd, if_pos hkd]; exact World.ownsRow_nil _ _ _ _
    · rw [if_neg hkd, if_neg hkd]; exact own_kept (h.ma.ao k hk) e (anb k hk)
  · obtain ⟨n1, n2⟩ := nn vr k j hj; exact h.rb k (by omega) j n2
  · obtain ⟨n1, n2⟩ := nn va k j hj; exact h.ab k (by omega) j n2
  · obtain ⟨n1, n2⟩ := nn vr x k h1; obtain ⟨n3, n4⟩ := nn vr y k h2; exact h.rr x y k (by omega) (by omega) n2 n4
  · obtain ⟨n1, n2⟩ := nn va x k h1; obtain ⟨n3, n4⟩ := nn va y k h2; exact h.aa x y k (by omega) (by omega) n2 n4
  · obtain ⟨n1, n2⟩ := nn vr x k h1; obtain ⟨n3, n4⟩ := nn va y k h2; exact h.ra x y k (by omega) (by omega) n2 n4
  · obtain ⟨n1, n2⟩ := nn vr k j hj; exact h.lr k (by omega) hk2 j n2
  · obtain ⟨n1, n2⟩ := nn va k j hj; exact h.la k (by omega) hk2 j n2
end
end Go.Proofs.Qxb6500778a
