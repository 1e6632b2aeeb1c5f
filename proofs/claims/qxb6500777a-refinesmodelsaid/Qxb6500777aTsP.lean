import Derived.Test.Qxb6500777aFrP
namespace Go.Proofs.Qxb6500777a

/-! ### What a tick makes of each track -/
theorem alike_iff {a b : Slt} : alikeP a b = true ↔ a.tr.x = b.tr.x ∧ a.tr.y = b.tr.y ∧ a.tr.co = b.tr.co ∧ a.tr.sp = b.tr.sp ∧ a.tr.st = b.tr.st ∧ a.tr.ag = b.tr.ag ∧ a.sk = b.sk := by
  obtain ⟨_, _, ask, ⟨an, ax, ay, ac, as', at', ag⟩⟩ := a
  obtain ⟨_, _, bsk, ⟨bn, bx, by', bc, bs, bt, bg⟩⟩ := b
  unfold alikeP
  simp [and_assoc]
theorem alike_symm {a b : Slt} (h : alikeP a b = true) : alikeP b a = true := by
  rw [alike_iff] at *
  omega
theorem alike_trans {a b c : Slt} (h : alikeP a b = true) (k : alikeP b c = true) : alikeP a c = true := by
  rw [alike_iff] at *
  omega
theorem numd_self (s : Slt) : numd s s.tr.num = s := rfl
theorem numd_numd (s : Slt) (a b : Int) : numd (numd s a) b = numd s b := rfl
/-- What settling has done: a slot holds, under its own number, the state of one that had been its twin. -/
def Stl (old : Nat → Slt) (P T : Tbl) : Prop := ∀ k, k < 64 → ((old k).used = false → T.sl k = P.sl k) ∧ ((old k).used = true → ∃ j, j < 64 ∧ (old j).used = true ∧ alikeP (old k) (old j) = true ∧ T.sl k = numd (P.sl j) (P.sl k).tr.num)
section
variable {old : Nat → Slt} {P : Tbl}
theorem Stl.first : Stl old P P := fun k hk => ⟨fun _ => rfl, fun hu => ⟨k, hk, hu, alike_self _, rfl⟩⟩
theorem Stl.num {T : Tbl} (h : Stl old P T) {k : Nat} (hk : k < 64) : (T.sl k).tr.num = (P.sl k).tr.num := by
  cases hu : (old k).used
  · rw [(h k hk).1 hu]
  · obtain ⟨j, _, _, _, e⟩ := (h k hk).2 hu
    rw [e]; rfl
theorem Stl.ex {T : Tbl} (h : Stl old P T) {a b : Nat} (ha : a < 64) (hb : b < 64) (hab : a ≠ b) (ht : twinP old a b = true) : Stl old P (exP T a b) := by
  unfold twinP at ht
  rw [Bool.and_eq_true, Bool.and_eq_true] at ht
  obtain ⟨⟨ua, ub⟩, hal⟩ := ht
  intro k hk
  by_cases ea : k = a
  · subst ea
    refine ⟨fun hu => (by rw [ua] at hu; cases hu), fun _ => ?_⟩
    obtain ⟨j, hj, uj, aj, e⟩ := (h b hb).2 ub
    refine ⟨j, hj, uj, alike_trans hal aj, ?_⟩
    show upd (upd T.sl k _) b _ k = _
    rw [upd_ne _ _ hab, upd_same, e, numd_numd, h.num hk]
  · by_cases eb : k = b
    · subst eb
      refine ⟨fun hu => (by rw [ub] at hu; cases hu), fun _ => ?_⟩
      obtain ⟨j, hj, uj, aj, e⟩ := (h a ha).2 ua
      refine ⟨j, hj, uj, alike_trans (alike_symm hal) aj, ?_⟩
      show upd (upd T.sl a _) k _ k = _
      rw [upd_same, e, numd_numd, h.num hk]
    · have e : (exP T a b).sl k = T.sl k := by
        show upd (upd T.sl a _) b _ k = _
        rw [upd_ne _ _ eb, upd_ne _ _ ea]
      rw [e]
      exact h k hk
theorem twin_symm {i j : Nat} (h : twinP old i j = true) : twinP old j i = true := by
  unfold twinP at *
  rw [Bool.and_eq_true, Bool.and_eq_true] at *
  exact ⟨⟨h.1.2, h.1.1⟩, alike_symm h.2⟩
theorem Stl.pair {s : Tbl × Bool} (h : Stl old P s.1) {i j : Nat} (hi : i < 64) (hj : j < 64) (hij : i ≠ j) : Stl old P (pairP old i j s).1 := by
  unfold pairP
  split
  · next hc =>
    rcases lohi s.1 i j with ⟨e1, e2, _⟩ | ⟨e1, e2, _⟩
    · rw [e1, e2]; exact h.ex hj hi (fun e => hij e.symm) (twin_symm hc.1)
    · rw [e1, e2]; exact h.ex hi hj hij hc.1
  · exact h
theorem Stl.row {s : Tbl × Bool} {i : Nat} (hi : i < 64) (h : Stl old P s.1) : ∀ n, n ≤ 63 - i → Stl old P (rowP old i n s).1
  | 0, _ => h
  | n + 1, hn => by rw [rowP]; exact (Stl.row hi h n (by omega)).pair hi (by omega) (by omega)
theorem Stl.pass {s : Tbl × Bool} (h : Stl old P s.1) : ∀ n, n ≤ 64 → Stl old P (passP old n s).1
  | 0, _ => h
  | n + 1, hn => by rw [passP]; exact Stl.row (by omega) (Stl.pass h n (by omega)) _ (Nat.le_refl _)
theorem Stl.settles {T T' : Tbl} (hs : Settles old T T') : Stl old P T → Stl old P T' := by
  induction hs with
  | done T _ => exact fun h => Stl.pass (s := (T, false)) h 64 (Nat.le_refl _)
  | more T T' _ _ ih => exact fun h => ih (Stl.pass (s := (T, false)) h 64 (Nat.le_refl _))
end
/-- Slot k after the tracks are observed, settled and the old ones dropped. -/
theorem mid_spec {best : Nat → Int} {W : Nat → Tgt} {X Y : Nat → Int} {T T2 : Tbl} (hs : Settles T.sl (ph1 best W X Y T 64) T2) (k : Nat) (hk : k < 64) :
    ((T.sl k).used = false → T2.sl k = T.sl k) ∧ ((T.sl k).used = true → ∃ j, j < 64 ∧ (T.sl j).used = true ∧ alikeP (T.sl k) (T.sl j) = true ∧ T2.sl k = numd (obsS best W X Y (T.sl j)) (T.sl k).tr.num) := by
  obtain ⟨h1, h2⟩ := Stl.settles hs Stl.first k hk
  refine ⟨fun hu => ?_, fun hu => ?_⟩
  · rw [h1 hu, ph1_sl, if_pos hk]
    unfold obsS
    rw [if_neg (by rw [hu]; decide)]
  · obtain ⟨j, hj, uj, aj, e⟩ := h2 hu
    refine ⟨j, hj, uj, aj, ?_⟩
    rw [e, ph1_sl, if_pos hj, ph1_sl, if_pos hk, (obs_same best W X Y (T.sl k)).2.2]
theorem obs_ag {best : Nat → Int} {W : Nat → Tgt} {X Y : Nat → Int} {s : Slt} (hu : s.used = true) : (0 < best s.tg.toNat ∧ (obsS best W X Y s).tr.ag = 0) ∨ (¬ 0 < best s.tg.toNat ∧ (obsS best W X Y s).tr.ag = s.tr.ag + 1 ∧ (obsS best W X Y s).tr.st = s.tr.st) := by
  unfold obsS
  rw [if_pos hu]
  by_cases hb : 0 < best s.tg.toNat
  · left
    rw [if_pos hb]
    refine ⟨hb, ?_⟩
    unfold refreshP
    rw [credit_ag]
  · right
    rw [if_neg hb]
    exact ⟨hb, rfl, rfl⟩
/-- The track of slot k after that: young or a tick older. -/
theorem mid_ag {best : Nat → Int} {W : Nat → Tgt} {X Y : Nat → Int} {T T2 : Tbl} (hs : Settles T.sl (ph1 best W X Y T 64) T2) {k : Nat} (hk : k < 64) (hu : (T.sl k).used = true) :
    (T2.sl k).used = true ∧ (T2.sl k).tr.num = (T.sl k).tr.num ∧ ((T2.sl k).tr.ag = 0 ∨ ((T2.sl k).tr.ag = (T.sl k).tr.ag + 1 ∧ (T2.sl k).tr.st = (T.sl k).tr.st)) := by
  obtain ⟨j, hj, uj, aj, e⟩ := (mid_spec hs k hk).2 hu
  rw [alike_iff] at aj
  rw [e]
  refine ⟨(obs_same best W X Y (T.sl j)).1.trans uj, rfl, ?_⟩
  rcases obs_ag (best := best) (W := W) (X := X) (Y := Y) uj with ⟨_, h⟩ | ⟨_, h1, h2⟩
  · exact .inl h
  · right
    show (obsS best W X Y (T.sl j)).tr.ag = _ ∧ (obsS best W X Y (T.sl j)).tr.st = _
    omega
theorem mid_used {best : Nat → Int} {W : Nat → Tgt} {X Y : Nat → Int} {T T2 : Tbl} (hs : Settles T.sl (ph1 best W X Y T 64) T2) {k : Nat} (hk : k < 64) (hu : ((drR T2 64).sl k).used = true) : (T.sl k).used = true ∧ (drR T2 64).sl k = T2.sl k := by
  rw [drR_sl] at hu ⊢
  split at hu
  · cases hu
  · next hc =>
    rw [if_neg hc]
    refine ⟨?_, rfl⟩
    cases hh : (T.sl k).used
    · rw [(mid_spec hs k hk).1 hh, hh] at hu; cases hu
    · rfl
/-! ### Evictions -/
theorem evR_sl {g : Slt} {T : Tbl} : ∀ n k, (evR g n T).sl k = if k < n ∧ (T.sl k).used = true ∧ alikeP (T.sl k) g = true then slt0 else T.sl k
  | 0, k => by simp [evR]
  | n + 1, k => by
    have hn := evR_sl (g := g) (T := T) n n
    rw [if_neg (by omega)] at hn
    rw [evR]
    split
    · next hc =>
      rw [hn, Bool.and_eq_true] at hc
      show upd (evR g n T).sl n slt0 k = _
      by_cases e : k = n
      · subst e; rw [upd_same, if_pos ⟨by omega, hc⟩]
      · rw [upd_ne _ _ e, evR_sl n k]
        by_cases hk : k < n
        · simp [hk, show k < n + 1 by omega]
        · simp [hk, show ¬ k < n + 1 by omega]
    · next hc =>
      rw [hn, Bool.and_eq_true] at hc
      rw [evR_sl n k]
      by_cases e : k = n
      · subst e
        rw [if_neg (by omega), if_neg (fun z => hc z.2)]
      · by_cases hk : k < n
        · simp [hk, show k < n + 1 by omega]
        · simp [hk, show ¬ k < n + 1 by omega]
theorem worse_iff {a b : Trk} : worseP a b = true ↔ b.ag < a.ag ∨ (a.ag = b.ag ∧ (a.st < b.st ∨ (a.st = b.st ∧ a.num < b.num))) := by
  unfold worseP
  split
  · rw [decide_eq_true_eq]; omega
  · split
    · rw [decide_eq_true_eq]; omega
    · rw [decide_eq_true_eq]; omega
theorem vic_min (T : Tbl) : ∀ n v, vicP T n = some v → ∀ k, k < n → (T.sl k).used = true → worseP (T.sl k).tr (T.sl v).tr = false
  | 0, v, h, k, hk, _ => by omega
  | n + 1, v, h, k, hk, hu => by
    rw [vicP] at h
    cases e : vicP T n with
    | none =>
      rw [e] at h
      dsimp only at h
      split at h
      · cases h
        rcases (by omega : k < n ∨ k = n) with z | rfl
        · obtain ⟨x, hx⟩ := vic_some T n k z hu
          rw [e] at hx; cases hx
        · cases hw : worseP (T.sl k).tr (T.sl k).tr
          · rfl
          · rw [worse_iff] at hw; omega
      · cases h
    | some u =>
      rw [e] at h
      dsimp only at h
      split at h
      · next hc =>
        cases h
        rw [Bool.and_eq_true] at hc
        have hw := hc.2
        cases hx : worseP (T.sl k).tr (T.sl n).tr
        · rfl
        · exfalso
          rcases (by omega : k < n ∨ k = n) with z | rfl
          · have := vic_min T n u e k z hu
            have : worseP (T.sl k).tr (T.sl u).tr = true := by rw [worse_iff] at *; omega
            simp_all
          · rw [worse_iff] at hx; omega
      · next hc =>
        cases h
        rcases (by omega : k < n ∨ k = n) with z | rfl
        · exact vic_min T n v e k z hu
        · cases hx : worseP (T.sl k).tr (T.sl v).tr
          · rfl
          · rw [hu, hx] at hc; exact absurd rfl hc
/-- A number that no slot carries. -/
def NoN (T : Tbl) (x : Int) : Prop := ∀ k, k < 64 → (T.sl k).used = true → (T.sl k).tr.num ≠ x
/-- What holds while contacts come in: T3 as they began. -/
structure EvI (T3 T : Tbl) : Prop where
  inv : TInv T
  nx : T3.next ≤ T.next
  old : ∀ k, k < 64 → (T.sl k).used = true → (T.sl k).tr.num < T3.next → (T3.sl k).used = true ∧ T3.sl k = T.sl k
  new : ∀ k, k < 64 → (T.sl k).used = true → T3.next ≤ (T.sl k).tr.num → (T.sl k).tr.ag = 0
  gone : ∀ j, j < 64 → (T3.sl j).used = true → NoN T (T3.sl j).tr.num →
    (∀ k, k < 64 → (T.sl k).used = true → (T.sl k).tr.ag ≤ (T3.sl j).tr.ag ∧ (0 < (T3.sl j).tr.ag → (T.sl k).tr.ag = (T3.sl j).tr.ag → (T3.sl j).tr.st ≤ (T.sl k).tr.st)) ∧
    (0 < (T3.sl j).tr.ag → ∃ v, v < 64 ∧ (T3.sl v).used = true ∧ NoN T (T3.sl v).tr.num ∧ (T3.sl v).tr.ag = (T3.sl j).tr.ag ∧ (T3.sl v).tr.st = (T3.sl j).tr.st ∧ ∀ k, k < 64 → (T.sl k).used = true → (T.sl k).tr.ag = (T3.sl j).tr.ag → (T.sl k).tr.st = (T3.sl j).tr.st → (T3.sl v).tr.num < (T.sl k).tr.num)
theorem EvI.first {T3 : Tbl} (h : TInv T3) : EvI T3 T3 :=
  ⟨h, Int.le_refl _, fun k _ hu _ => ⟨hu, rfl⟩, fun k hk hu hn => by have := (h.num k hk hu).2; omega, fun j hj hu hn => absurd rfl (hn j hj hu)⟩
theorem EvI.evict {T3 T : Tbl} (h3 : TInv T3) (h : EvI T3 T) {v : Nat} (hv : vicP T 64 = some v) : EvI T3 (evictP T) := by
  obtain ⟨hvl, hvu⟩ := vic_lt T 64 v hv
  have hm := vic_min T 64 v hv
  have es : ∀ k, k < 64 → (evictP T).sl k = if (T.sl k).used = true ∧ alikeP (T.sl k) (T.sl v) = true then slt0 else T.sl k := fun k hk => by
    unfold evictP
    rw [hv]
    dsimp only
    rw [evR_sl]
    simp [hk]
  have ek : ∀ k, k < 64 → ((evictP T).sl k).used = true → (T.sl k).used = true ∧ (evictP T).sl k = T.sl k ∧ alikeP (T.sl k) (T.sl v) = false := fun k hk hu => by
    rw [es k hk] at hu ⊢
    split at hu
    · cases hu
    · next hc =>
      rw [if_neg hc]
      refine ⟨hu, rfl, ?_⟩
      cases ha : alikeP (T.sl k) (T.sl v)
      · rfl
      · exact absurd ⟨hu, ha⟩ hc
  have hno : ∀ x, NoN T x → NoN (evictP T) x := fun x hx k hk hu => by
    obtain ⟨a, b, _⟩ := ek k hk hu
    rw [b]; exact hx k hk a
  refine ⟨(h.inv.evict hv).1, by rw [evict_next]; exact h.nx, fun k hk hu hn => ?_, fun k hk hu hn => ?_, fun j hj uj hn => ?_⟩
  · obtain ⟨a, b, _⟩ := ek k hk hu
    rw [b] at hn ⊢
    exact h.old k hk a hn
  · obtain ⟨a, b, _⟩ := ek k hk hu
    rw [b] at hn ⊢
    exact h.new k hk a hn
  · by_cases hT : NoN T (T3.sl j).tr.num
    · obtain ⟨g1, g2⟩ := h.gone j hj uj hT
      refine ⟨fun k hk hu => ?_, fun h0 => ?_⟩
      · obtain ⟨a, b, _⟩ := ek k hk hu
        rw [b]; exact g1 k hk a
      · obtain ⟨y, y1, y2, y3, y4, y5, y6⟩ := g2 h0
        refine ⟨y, y1, y2, hno _ y3, y4, y5, fun k hk hu => ?_⟩
        obtain ⟨a, b, _⟩ := ek k hk hu
        rw [b]; exact y6 k hk a
    · -- it goes now
      obtain ⟨i, hi, ui, ei⟩ : ∃ i, i < 64 ∧ (T.sl i).used = true ∧ (T.sl i).tr.num = (T3.sl j).tr.num := by
        cases Classical.em (∃ i, i < 64 ∧ (T.sl i).used = true ∧ (T.sl i).tr.num = (T3.sl j).tr.num) with
        | inl z => exact z
        | inr z => exact absurd (fun k hk hu e => z ⟨k, hk, hu, e⟩) hT
      have hold := h.old i hi ui (by rw [ei]; exact (h3.num j hj uj).2)
      have hij : i = j := by
        by_cases e : i = j
        · exact e
        · exact absurd (by rw [hold.2]; exact ei) (h3.dif i j hi hj e hold.1 uj)
      subst hij
      have hal : alikeP (T.sl i) (T.sl v) = true := by
        cases ha : alikeP (T.sl i) (T.sl v)
        · exfalso
          have e2 : (evictP T).sl i = T.sl i := by rw [es i hi, if_neg (by rw [ha]; simp)]
          exact hn i hi (by rw [e2]; exact ui) (by rw [e2]; exact ei)
        · rfl
      have hai := alike_iff.1 hal
      rw [hold.2] at *
      refine ⟨fun k hk hu => ?_, fun h0 => ?_⟩
      · obtain ⟨a, b, c⟩ := ek k hk hu
        have hw := hm k hk a
        rw [b]
        have hw2 : ¬ worseP (T.sl k).tr (T.sl v).tr = true := by rw [hw]; decide
        rw [worse_iff] at hw2
        omega
      · have hvn : (T.sl v).tr.num < T3.next := by
          by_cases z : T3.next ≤ (T.sl v).tr.num
          · have := h.new v hvl hvu z; omega
          · omega
        have hvo := h.old v hvl hvu hvn
        refine ⟨v, hvl, hvo.1, ?_, by rw [hvo.2]; omega, by rw [hvo.2]; omega, fun k hk hu e1 e2 => ?_⟩
        · intro k hk hu e
          obtain ⟨a, b, c⟩ := ek k hk hu
          rw [b, hvo.2] at e
          by_cases z : k = v
          · subst z; rw [alike_self] at c; cases c
          · exact h.inv.dif k v hk hvl z a hvu e
        · obtain ⟨a, b, c⟩ := ek k hk hu
          rw [b] at e1 e2 ⊢
          rw [hvo.2]
          have hw := hm k hk a
          have hw2 : ¬ worseP (T.sl k).tr (T.sl v).tr = true := by rw [hw]; decide
          rw [worse_iff] at hw2
          have : (T.sl k).tr.num ≠ (T.sl v).tr.num := by
            by_cases z : k = v
            · subst z; rw [alike_self] at c; cases c
            · exact h.inv.dif k v hk hvl z a hvu
          omega
theorem EvI.admit {T3 T : Tbl} (h : EvI T3 T) {c : Ctc} {i : Nat} (hi : TInv (admitP T i c)) (hu : (T.sl i).used = false) (hc : c.seen.ag = 0) (h3 : TInv T3) : EvI T3 (admitP T i c) := by
  have hnw : (admitP T i c).sl i = newS T c := upd_same _ _ _
  have hol : ∀ k, k ≠ i → (admitP T i c).sl k = T.sl k := fun k e => upd_ne _ _ e
  have hnn : (newS T c).tr.num = T.next := (credit_same _ _).2.2
  have hna : (newS T c).tr.ag = 0 := by unfold newS; rw [credit_ag]; exact hc
  have hnx := h.nx
  have hback : ∀ j, j < 64 → (T3.sl j).used = true → NoN (admitP T i c) (T3.sl j).tr.num → NoN T (T3.sl j).tr.num := fun j hj uj hn k hk uk e => by
    by_cases z : k = i
    · subst z; rw [hu] at uk; cases uk
    · exact hn k hk (by rw [hol k z]; exact uk) (by rw [hol k z]; exact e)
  have hforth : ∀ j, j < 64 → (T3.sl j).used = true → NoN T (T3.sl j).tr.num → NoN (admitP T i c) (T3.sl j).tr.num := fun j hj uj hn k hk uk e => by
    by_cases z : k = i
    · subst z
      rw [hnw, hnn] at e
      have := (h3.num j hj uj).2
      omega
    · rw [hol k z] at uk e
      exact hn k hk uk e
  refine ⟨hi, by show T3.next ≤ T.next + 1; omega, fun k hk uk hn => ?_, fun k hk uk hn => ?_, fun j hj uj hn => ?_⟩
  · by_cases z : k = i
    · subst z; rw [hnw, hnn] at hn; omega
    · rw [hol k z] at uk hn ⊢; exact h.old k hk uk hn
  · by_cases z : k = i
    · subst z; rw [hnw]; exact hna
    · rw [hol k z] at uk hn ⊢; exact h.new k hk uk hn
  · obtain ⟨g1, g2⟩ := h.gone j hj uj (hback j hj uj hn)
    have hj0 := (h3.ok j hj).tr.ag
    refine ⟨fun k hk uk => ?_, fun h0 => ?_⟩
    · by_cases z : k = i
      · subst z; rw [hnw, hna]; exact ⟨hj0.1, fun a b => by omega⟩
      · rw [hol k z] at uk ⊢; exact g1 k hk uk
    · obtain ⟨y, y1, y2, y3, y4, y5, y6⟩ := g2 h0
      refine ⟨y, y1, y2, hforth y y1 y2 y3, y4, y5, fun k hk uk e1 e2 => ?_⟩
      by_cases z : k = i
      · subst z; rw [hnw, hna] at e1; omega
      · rw [hol k z] at uk e1 e2 ⊢; exact y6 k hk uk e1 e2
end Go.Proofs.Qxb6500777a
