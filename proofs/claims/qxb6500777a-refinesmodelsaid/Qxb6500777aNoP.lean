import Derived.Test.Qxb6500777aCsP
namespace Go.Proofs.Qxb6500777a

/-! ### Plain of NumbersInOrder -/
/-- The other way round: each state is held by some slot. -/
def Stl2 (old : Nat → Slt) (P T : Tbl) : Prop := ∀ j, j < 64 → (old j).used = true → ∃ k, k < 64 ∧ (old k).used = true ∧ T.sl k = numd (P.sl j) (P.sl k).tr.num
section
variable {old : Nat → Slt} {P : Tbl}
theorem Stl2.first : Stl2 old P P := fun j hj hu => ⟨j, hj, hu, rfl⟩
theorem Stl2.ex {T : Tbl} (hs : Stl old P T) (h : Stl2 old P T) {a b : Nat} (ha : a < 64) (hb : b < 64) (hab : a ≠ b) (ua : (old a).used = true) (ub : (old b).used = true) : Stl2 old P (exP T a b) := by
  intro j hj uj
  obtain ⟨k, hk, uk, e⟩ := h j hj uj
  have sa : (exP T a b).sl a = numd (T.sl b) (T.sl a).tr.num := by
    show upd (upd T.sl a _) b _ a = _
    rw [upd_ne _ _ hab, upd_same]
  have sb : (exP T a b).sl b = numd (T.sl a) (T.sl b).tr.num := upd_same _ _ _
  by_cases e1 : k = a
  · subst e1
    exact ⟨b, hb, ub, by rw [sb, e, numd_numd, hs.num hb]⟩
  · by_cases e2 : k = b
    · subst e2
      exact ⟨a, ha, ua, by rw [sa, e, numd_numd, hs.num ha]⟩
    · refine ⟨k, hk, uk, ?_⟩
      have : (exP T a b).sl k = T.sl k := by
        show upd (upd T.sl a _) b _ k = _
        rw [upd_ne _ _ e2, upd_ne _ _ e1]
      rw [this, e]
/-- Both. -/
structure StB (old : Nat → Slt) (P T : Tbl) : Prop where
  a : Stl old P T
  b : Stl2 old P T
theorem StB.pair {s : Tbl × Bool} (h : StB old P s.1) {i j : Nat} (hi : i < 64) (hj : j < 64) (hij : i ≠ j) : StB old P (pairP old i j s).1 := by
  refine ⟨h.a.pair hi hj hij, ?_⟩
  unfold pairP
  split
  · next hc =>
    have ht := hc.1
    unfold twinP at ht
    rw [Bool.and_eq_true, Bool.and_eq_true] at ht
    rcases lohi s.1 i j with ⟨e1, e2, _⟩ | ⟨e1, e2, _⟩
    · rw [e1, e2]; exact h.b.ex h.a hj hi (fun e => hij e.symm) ht.1.2 ht.1.1
    · rw [e1, e2]; exact h.b.ex h.a hi hj hij ht.1.1 ht.1.2
  · exact h.b
theorem StB.row {s : Tbl × Bool} {i : Nat} (hi : i < 64) (h : StB old P s.1) : ∀ n, n ≤ 63 - i → StB old P (rowP old i n s).1
  | 0, _ => h
  | n + 1, hn => by rw [rowP]; exact (StB.row hi h n (by omega)).pair hi (by omega) (by omega)
theorem StB.pass {s : Tbl × Bool} (h : StB old P s.1) : ∀ n, n ≤ 64 → StB old P (passP old n s).1
  | 0, _ => h
  | n + 1, hn => by rw [passP]; exact StB.row (by omega) (StB.pass h n (by omega)) _ (Nat.le_refl _)
theorem StB.settles {T T' : Tbl} (hs : Settles old T T') : StB old P T → StB old P T' := by
  induction hs with
  | done T _ => exact fun h => StB.pass (s := (T, false)) h 64 (Nat.le_refl _)
  | more T T' _ _ ih => exact fun h => ih (StB.pass (s := (T, false)) h 64 (Nat.le_refl _))
end
/-- A detected target is followed after the drops just if it was before. -/
theorem follow_iff {best : Nat → Int} {W : Nat → Tgt} {X Y : Nat → Int} {T T2 : Tbl} (hT : TInv T) (hs : Settles T.sl (ph1 best W X Y T 64) T2) (hi3 : TInv (drR T2 64)) {t : Nat} (ht : t < 112) (hb : 0 < best t) : (drR T2 64).wh t = -1 ↔ T.wh t = -1 := by
  have hB := StB.settles (old := T.sl) (P := ph1 best W X Y T 64) hs ⟨Stl.first, Stl2.first⟩
  constructor
  · intro h
    rcases hT.wh2 t ht with z | ⟨j, hj, z1, z2, z3⟩
    · exact z
    · exfalso
      obtain ⟨k, hk, uk, e0⟩ := hB.b j hj z2
      obtain ⟨nn, e⟩ : ∃ nn, T2.sl k = numd (obsS best W X Y (T.sl j)) nn := by
        obtain ⟨nn, hnn⟩ : ∃ nn, ((ph1 best W X Y T 64).sl k).tr.num = nn := ⟨_, rfl⟩
        refine ⟨nn, ?_⟩
        rw [hnn, ph1_sl, if_pos hj] at e0
        exact e0
      have htg : (T2.sl k).tg = t := by rw [e]; exact (obs_same best W X Y (T.sl j)).2.1.trans z3
      have hus : (T2.sl k).used = true := by rw [e]; exact (obs_same best W X Y (T.sl j)).1.trans z2
      have hag : (T2.sl k).tr.ag = 0 := by
        rcases obs_ag (best := best) (W := W) (X := X) (Y := Y) z2 with ⟨_, y⟩ | ⟨y, _⟩
        · rw [e]; exact y
        · rw [z3, Int.toNat_natCast] at y; exact absurd hb y
      have e3 : (drR T2 64).sl k = T2.sl k := by rw [drR_sl, if_neg (fun y => by have := y.2.2; omega)]
      have := hi3.wh1 k hk (by rw [e3]; exact hus)
      rw [e3, htg, Int.toNat_natCast, h] at this
      omega
  · intro h
    rcases hi3.wh2 t ht with z | ⟨k, hk, z1, z2, z3⟩
    · exact z
    · exfalso
      obtain ⟨uk, e3⟩ := mid_used hs hk z2
      obtain ⟨j, hj, uj, _, e⟩ := (mid_spec hs k hk).2 uk
      rw [e3, e] at z3
      have htg : (T.sl j).tg = t := (obs_same best W X Y (T.sl j)).2.1.symm.trans z3
      have := hT.wh1 j hj uj
      rw [htg, Int.toNat_natCast, h] at this
      omega
/-! ### The contacts are sorted -/
theorem before_irr (a : Trk) : beforeP a a = false := by simp [beforeP]
theorem before_iff3 {a b : Trk} : beforeP a b = true ↔ a.x < b.x ∨ (a.x = b.x ∧ (a.y < b.y ∨ (a.y = b.y ∧ (a.co < b.co ∨ (a.co = b.co ∧ a.sp < b.sp))))) := by
  unfold beforeP
  split
  · rw [decide_eq_true_eq]; omega
  · split
    · rw [decide_eq_true_eq]; omega
    · split
      · rw [decide_eq_true_eq]; omega
      · rw [decide_eq_true_eq]; omega
def Srt (L : List Ctc) : Prop := L.Pairwise (fun a b => beforeP b.seen a.seen = false)
theorem nb_iff {a b : Trk} : beforeP a b = false ↔ ¬ (a.x < b.x ∨ (a.x = b.x ∧ (a.y < b.y ∨ (a.y = b.y ∧ (a.co < b.co ∨ (a.co = b.co ∧ a.sp < b.sp)))))) := by
  rw [← before_iff3]; simp
theorem posP_spec (c : Ctc) (L : List Ctc) (hL : Srt L) : ∀ n, n ≤ L.length → posP c L n ≤ n ∧ (∀ (j : Nat) (d : Ctc), j < posP c L n → L[j]? = some d → beforeP c.seen d.seen = false) ∧ (∀ (j : Nat) (d : Ctc), posP c L n ≤ j → j < n → L[j]? = some d → beforeP c.seen d.seen = true)
  | 0, _ => ⟨by rw [posP]; omega, fun j d h => by rw [posP] at h; omega, fun j d _ h => by omega⟩
  | n + 1, hn => by
    obtain ⟨h1, h2, h3⟩ := posP_spec c L hL n (by omega)
    have hg : L[n]? = some L[n] := List.getElem?_eq_getElem (by omega)
    cases hb : beforeP c.seen L[n].seen
    · rw [pos_stop hg hb]
      refine ⟨Nat.le_refl _, fun j d ha hd => ?_, fun j d ha hb' => by omega⟩
      rcases (by omega : j < n ∨ j = n) with z | rfl
      · have hp := List.pairwise_iff_getElem.1 hL j n (by omega) (by omega) z
        rw [List.getElem?_eq_getElem (by omega)] at hd
        cases hd
        rw [nb_iff] at *
        omega
      · rw [hg] at hd; cases hd; exact hb
    · rw [pos_go hg hb]
      refine ⟨by omega, h2, fun j d ha hb' hd => ?_⟩
      rcases (by omega : j < n ∨ j = n) with z | rfl
      · exact h3 j d ha z hd
      · rw [hg] at hd; cases hd; exact hb
theorem insP_sorted {c : Ctc} {L : List Ctc} (hL : Srt L) : Srt (insP c L) := by
  obtain ⟨h1, h2, h3⟩ := posP_spec c L hL L.length (Nat.le_refl _)
  unfold insP
  obtain ⟨k, hk⟩ : ∃ k, posP c L L.length = k := ⟨_, rfl⟩
  rw [hk] at h1 h2 h3 ⊢
  have a1 : ∀ d ∈ L.take k, beforeP c.seen d.seen = false := fun d hm => by
    obtain ⟨j, hj⟩ := List.mem_iff_getElem?.1 hm
    have hjk : j < k := by have := (List.getElem?_eq_some_iff.1 hj).1; rw [List.length_take] at this; omega
    rw [List.getElem?_take_of_lt hjk] at hj
    exact h2 j d hjk hj
  have a2 : ∀ d ∈ L.drop k, beforeP c.seen d.seen = true := fun d hm => by
    obtain ⟨j, hj⟩ := List.mem_iff_getElem?.1 hm
    rw [List.getElem?_drop] at hj
    exact h3 (k + j) d (by omega) (List.getElem?_eq_some_iff.1 hj).1 hj
  unfold Srt
  rw [List.pairwise_append, List.pairwise_cons]
  refine ⟨hL.sublist (List.take_sublist k L), ⟨fun d hd => ?_, hL.sublist (List.drop_sublist k L)⟩, fun x hx y hy => ?_⟩
  · have := a2 d hd
    rw [before_iff3] at this
    rw [nb_iff]
    omega
  · have hx' := a1 x hx
    rcases List.mem_cons.1 hy with rfl | hy
    · exact hx'
    · have h4 := a2 y hy
      rw [before_iff3] at h4
      rw [nb_iff] at *
      omega
theorem fr_sorted {best : Nat → Int} {W : Nat → Tgt} {T : Tbl} : ∀ n, Srt (frL best W T n)
  | 0 => List.Pairwise.nil
  | n + 1 => by
    rw [frL]
    split
    · exact fr_sorted n
    · exact insP_sorted (fr_sorted n)
end Go.Proofs.Qxb6500777a
