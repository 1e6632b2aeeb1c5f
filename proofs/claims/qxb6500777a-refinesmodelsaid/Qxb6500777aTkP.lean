import Derived.Test.Qxb6500777aCpy
namespace Go.Proofs.Qxb6500777a

/-! ### A team's tick, plain -/
/-- A slot after its observation. -/
def obsS (best : Nat → Int) (W : Nat → Tgt) (X Y : Nat → Int) (s : Slt) : Slt :=
  if s.used then (if 0 < best s.tg.toNat then refreshP s (W s.tg.toNat) (best s.tg.toNat) else coastP X Y s) else s
/-- The first n slots are observed. -/
def ph1 (best : Nat → Int) (W : Nat → Tgt) (X Y : Nat → Int) (T : Tbl) : Nat → Tbl
  | 0 => T
  | n + 1 => if ((ph1 best W X Y T n).sl n).used then { ph1 best W X Y T n with sl := upd (ph1 best W X Y T n).sl n (obsS best W X Y ((ph1 best W X Y T n).sl n)) } else ph1 best W X Y T n
/-- Of the first n slots, those of the drop age go. -/
def drR (T : Tbl) : Nat → Tbl
  | 0 => T
  | n + 1 => if ((drR T n).sl n).used && decide (30 ≤ ((drR T n).sl n).tr.ag) then relP (drR T n) n else drR T n
/-- Where a contact comes in. -/
def posP (c : Ctc) (F : List Ctc) : Nat → Nat
  | 0 => 0
  | n + 1 => match F[n]? with
    | some d => if beforeP c.seen d.seen then posP c F n else n + 1
    | none => n + 1
def insP (c : Ctc) (F : List Ctc) : List Ctc := F.take (posP c F F.length) ++ c :: F.drop (posP c F F.length)
/-- The new contacts among the first n targets. -/
def newC (best : Nat → Int) (W : Nat → Tgt) (t : Nat) : Ctc := ⟨t, best t, lookP trk0 (W t) (best t)⟩
def frL (best : Nat → Int) (W : Nat → Tgt) (T : Tbl) : Nat → List Ctc
  | 0 => []
  | n + 1 => if best n = 0 ∨ T.wh n ≠ -1 then frL best W T n else insP (newC best W n) (frL best W T n)
/-- A team's tick. -/
def TickR (best : Nat → Int) (W : Nat → Tgt) (X Y : Nat → Int) (T T' : Tbl) : Prop :=
  ∃ T2, Settles T.sl (ph1 best W X Y T 64) T2 ∧ AdmAll (frL best W (drR T2 64) 112) 0 (drR T2 64) T'
theorem TickR.det {best : Nat → Int} {W : Nat → Tgt} {X Y : Nat → Int} {T A B : Tbl} (h : TickR best W X Y T A) (k : TickR best W X Y T B) : A = B := by
  obtain ⟨T2, h1, h2⟩ := h
  obtain ⟨T3, k1, k2⟩ := k
  have := h1.det k1
  subst this
  exact h2.det k2
/-- Between the ticks. -/
structure TkI (T : Tbl) : Prop where
  inv : TInv T
  age : ∀ k, k < 64 → (T.sl k).used = true → (T.sl k).tr.ag ≤ 29
theorem obs_same (best : Nat → Int) (W : Nat → Tgt) (X Y : Nat → Int) (s : Slt) : (obsS best W X Y s).used = s.used ∧ (obsS best W X Y s).tg = s.tg ∧ (obsS best W X Y s).tr.num = s.tr.num := by
  unfold obsS
  split
  · split
    · exact credit_same _ _
    · exact ⟨rfl, rfl, rfl⟩
  · exact ⟨rfl, rfl, rfl⟩
section
variable {best : Nat → Int} {W : Nat → Tgt} {X Y : Nat → Int} {T : Tbl}
theorem ph1_sl : ∀ n k, (ph1 best W X Y T n).sl k = if k < n then obsS best W X Y (T.sl k) else T.sl k
  | 0, k => by simp [ph1]
  | n + 1, k => by
    rw [ph1]
    have hn := ph1_sl n n
    rw [if_neg (by omega)] at hn
    split
    · show upd (ph1 best W X Y T n).sl n _ k = _
      by_cases e : k = n
      · subst e; rw [upd_same, hn, if_pos (by omega)]
      · rw [upd_ne _ _ e, ph1_sl n k]
        by_cases hk : k < n
        · rw [if_pos hk, if_pos (by omega)]
        · rw [if_neg hk, if_neg (by omega)]
    · next hu =>
      rw [ph1_sl n k]
      by_cases hk : k < n
      · rw [if_pos hk, if_pos (by omega)]
      · rw [if_neg hk]
        by_cases e : k = n
        · subst e
          rw [hn] at hu
          rw [if_pos (by omega)]
          unfold obsS
          rw [if_neg hu]
        · rw [if_neg (by omega)]
theorem ph1_rest : ∀ n, (ph1 best W X Y T n).wh = T.wh ∧ (ph1 best W X Y T n).held = T.held ∧ (ph1 best W X Y T n).next = T.next
  | 0 => ⟨rfl, rfl, rfl⟩
  | n + 1 => by
    rw [ph1]
    split
    · exact ph1_rest n
    · exact ph1_rest n
theorem obs_ok {s : Slt} (h : SltOk s) (hW : ∀ t, t < 112 → TgtOk (W t)) (ha : s.used = true → s.tr.ag ≤ 29) : SltOk (obsS best W X Y s) := by
  unfold obsS
  split
  · next hu =>
    split
    · exact refresh_ok h (hW _ (by have := h.tg; omega))
    · exact coast_ok h (ha hu)
  · exact h
theorem ph1_inv (h : TkI T) (hW : ∀ t, t < 112 → TgtOk (W t)) : ∀ n, n ≤ 64 → TInv (ph1 best W X Y T n)
  | 0, _ => h.inv
  | n + 1, hn => by
    have ih := ph1_inv h hW n (by omega)
    have hs := ph1_sl (best := best) (W := W) (X := X) (Y := Y) (T := T) n n
    rw [if_neg (by omega)] at hs
    rw [ph1]
    split
    · next hu =>
      obtain ⟨e1, e2, e3⟩ := obs_same best W X Y ((ph1 best W X Y T n).sl n)
      exact ih.slot (by omega) (obs_ok (ih.ok n (by omega)) hW (fun u => by rw [hs] at u ⊢; exact h.age n (by omega) u)) e1 e2 e3 hu
    · exact ih
theorem ph1_diff (h : TkI T) : DiffN T.sl (ph1 best W X Y T 64) := fun i j hi hj hij ui uj => by
  rw [ph1_sl, ph1_sl, if_pos hi, if_pos hj, (obs_same best W X Y _).2.2, (obs_same best W X Y _).2.2]
  exact h.inv.dif i j hi hj hij ui uj
end
/-- A pass keeps what holds, and the use of the slots. -/
structure PsI (old : Nat → Slt) (T : Tbl) : Prop where
  inv : TInv T
  us : ∀ k, (T.sl k).used = (old k).used
theorem ex_used {T : Tbl} {i j : Nat} (ui : (T.sl i).used = true) (uj : (T.sl j).used = true) (k : Nat) : ((exP T i j).sl k).used = (T.sl k).used := by
  show (upd (upd T.sl i _) j _ k).used = _
  unfold upd
  split
  · next e => rw [e, uj]; exact ui
  · split
    · next e => rw [e, ui]; exact uj
    · rfl
section
variable {old : Nat → Slt}
theorem PsI.pair {s : Tbl × Bool} (h : PsI old s.1) {i j : Nat} (hi : i < 64) (hj : j < 64) (hij : i ≠ j) : PsI old (pairP old i j s).1 := by
  unfold pairP
  split
  · next hc =>
    have ht := hc.1
    unfold twinP at ht
    rw [Bool.and_eq_true, Bool.and_eq_true] at ht
    have ui := (h.us i).trans ht.1.1
    have uj := (h.us j).trans ht.1.2
    rcases lohi s.1 i j with ⟨e1, e2, _⟩ | ⟨e1, e2, _⟩
    · rw [e1, e2]
      exact ⟨h.inv.ex hj hi (fun e => hij e.symm) uj ui, fun k => (ex_used uj ui k).trans (h.us k)⟩
    · rw [e1, e2]
      exact ⟨h.inv.ex hi hj hij ui uj, fun k => (ex_used ui uj k).trans (h.us k)⟩
  · exact h
theorem PsI.row {s : Tbl × Bool} {i : Nat} (hi : i < 64) (h : PsI old s.1) : ∀ n, n ≤ 63 - i → PsI old (rowP old i n s).1
  | 0, _ => h
  | n + 1, hn => by rw [rowP]; exact (PsI.row hi h n (by omega)).pair hi (by omega) (by omega)
theorem PsI.pass {s : Tbl × Bool} (h : PsI old s.1) : ∀ n, n ≤ 64 → PsI old (passP old n s).1
  | 0, _ => h
  | n + 1, hn => by rw [passP]; exact PsI.row (by omega) (PsI.pass h n (by omega)) _ (Nat.le_refl _)
theorem PsI.settles {T T' : Tbl} (h : PsI old T) (hs : Settles old T T') : PsI old T' := by
  induction hs with
  | done T _ => exact PsI.pass (s := (T, false)) h 64 (Nat.le_refl _)
  | more T T' _ _ ih => exact ih (PsI.pass (s := (T, false)) h 64 (Nat.le_refl _))
end
theorem drR_inv {T : Tbl} (h : TInv T) : ∀ n, n ≤ 64 → TInv (drR T n)
  | 0, _ => h
  | n + 1, hn => by
    have ih := drR_inv h n (by omega)
    rw [drR]
    split
    · next hc => exact ih.rel (by omega) (Bool.and_eq_true _ _ ▸ hc).1
    · exact ih
theorem drR_sl {T : Tbl} : ∀ n k, (drR T n).sl k = if k < n ∧ (T.sl k).used = true ∧ 30 ≤ (T.sl k).tr.ag then slt0 else T.sl k
  | 0, k => by simp [drR]
  | n + 1, k => by
    have hn := drR_sl (T := T) n n
    rw [if_neg (by omega)] at hn
    rw [drR]
    split
    · next hc =>
      rw [hn, Bool.and_eq_true, decide_eq_true_eq] at hc
      show upd (drR T n).sl n slt0 k = _
      by_cases e : k = n
      · subst e; rw [upd_same, if_pos ⟨by omega, hc⟩]
      · rw [upd_ne _ _ e, drR_sl n k]
        by_cases hk : k < n
        · simp [hk, show k < n + 1 by omega]
        · simp [hk, show ¬ k < n + 1 by omega]
    · next hc =>
      rw [hn, Bool.and_eq_true, decide_eq_true_eq] at hc
      rw [drR_sl n k]
      by_cases e : k = n
      · subst e
        rw [if_neg (by omega), if_neg (fun z => hc z.2)]
      · by_cases hk : k < n
        · simp [hk, show k < n + 1 by omega]
        · simp [hk, show ¬ k < n + 1 by omega]
theorem drR_next {T : Tbl} : ∀ n, (drR T n).next = T.next
  | 0 => rfl
  | n + 1 => by
    rw [drR]
    split
    · exact drR_next n
    · exact drR_next n
theorem ins_perm (c : Ctc) (F : List Ctc) : (insP c F).Perm (c :: F) := by
  unfold insP
  refine List.perm_middle.trans ?_
  rw [List.take_append_drop]
section
variable {best : Nat → Int} {W : Nat → Tgt} {T : Tbl}
theorem fr_mem : ∀ n c, c ∈ frL best W T n → ∃ t, t < n ∧ c = newC best W t ∧ best t ≠ 0 ∧ T.wh t = -1
  | 0, c, h => by simp [frL] at h
  | n + 1, c, h => by
    rw [frL] at h
    split at h
    · obtain ⟨t, h1, h2⟩ := fr_mem n c h
      exact ⟨t, by omega, h2⟩
    · next hc =>
      rcases List.mem_cons.1 ((ins_perm _ _).mem_iff.1 h) with z | z
      · exact ⟨n, by omega, z, fun e => hc (.inl e), by
          cases Decidable.em (T.wh n = -1) with
          | inl e => exact e
          | inr e => exact (hc (.inr e)).elim⟩
      · obtain ⟨t, h1, h2⟩ := fr_mem n c z
        exact ⟨t, by omega, h2⟩
theorem fr_nodup : ∀ n, ((frL best W T n).map Ctc.tg).Nodup
  | 0 => by simp [frL]
  | n + 1 => by
    rw [frL]
    split
    · exact fr_nodup n
    · rw [((ins_perm (newC best W n) (frL best W T n)).map Ctc.tg).nodup_iff, List.map_cons, List.nodup_cons]
      refine ⟨fun h => ?_, fr_nodup n⟩
      obtain ⟨c, hc, e⟩ := List.mem_map.1 h
      obtain ⟨t, h1, rfl, _⟩ := fr_mem n c hc
      have : (t : Int) = (n : Int) := e
      omega
theorem fr_len : ∀ n, (frL best W T n).length ≤ n
  | 0 => by simp [frL]
  | n + 1 => by
    have := fr_len n
    rw [frL]
    split
    · omega
    · rw [(ins_perm _ _).length_eq, List.length_cons]; omega
theorem fr_ok (hb : ∀ t, 0 ≤ best t ∧ best t ≤ 3) (hW : ∀ t, t < 112 → TgtOk (W t)) : CsOk (frL best W T 112) := by
  refine ⟨fun c hc => ?_, fun i j a c hij ha hc => ?_, fr_len 112⟩
  · obtain ⟨t, h1, rfl, h2, _⟩ := fr_mem 112 c hc
    have := hb t
    exact ⟨⟨by show (0 : Int) ≤ t; omega, by show (t : Int) < 112; omega⟩, ⟨by show 1 ≤ best t; omega, by show best t ≤ 3; omega⟩, look_ok (hW t h1) (by decide) (by decide) (by decide), rfl⟩
  · have hn := fr_nodup (best := best) (W := W) (T := T) 112
    rw [List.nodup_iff_pairwise_ne, List.pairwise_map, List.pairwise_iff_getElem] at hn
    obtain ⟨l1, e1⟩ := List.getElem?_eq_some_iff.1 ha
    obtain ⟨l2, e2⟩ := List.getElem?_eq_some_iff.1 hc
    subst e1 e2
    rcases (by omega : i < j ∨ j < i) with z | z
    · exact hn i j l1 l2 z
    · exact fun e => hn j i l2 l1 z e.symm
theorem fr_adI (h : TInv T) (hn : T.next + 112 ≤ 1000000000) : AdI (frL best W T 112) 0 T := by
  have hl := fr_len (best := best) (W := W) (T := T) 112
  refine ⟨h, fun j c _ hc => ?_, by omega⟩
  obtain ⟨t, h1, rfl, _, h3⟩ := fr_mem 112 c (List.mem_of_getElem? hc)
  show T.wh ((t : Int)).toNat = -1
  rw [Int.toNat_natCast]; exact h3
end
end Go.Proofs.Qxb6500777a
