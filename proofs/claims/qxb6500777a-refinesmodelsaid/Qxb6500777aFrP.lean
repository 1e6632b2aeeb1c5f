import Derived.Test.Qxb6500777aTkP
namespace Go.Proofs.Qxb6500777a
open Go.RowKit

/-! ### The array of new contacts -/
def FA (w : World) (f : Nat) (F : Nat → Ctc) : Prop := ∀ i, i < 112 → RA w f (i * 9) (F i).vals
theorem FA.lt {w : World} {f : Nat} {F : Nat → Ctc} (h : FA w f F) : f < w.heap.size := (h 0 (by omega)).lt (by simp [Ctc.vals])
theorem FA.below {w w' : World} {f : Nat} {F : Nat → Ctc} (h : FA w f F) (k : Below w.heap.size w w') : FA w' f F := fun i hi => (h i hi).below h.lt k
theorem FA.keep {w w' : World} {f : Nat} {F : Nat → Ctc} (h : FA w f F) {b lo n : Nat} (k : Fr b lo n w w') (hb : f ≠ b) : FA w' f F := fun i hi => (h i hi).keep k h.lt (.inl hb)
theorem FA.drewN {w : World} {f : Nat} {F : Nat → Ctc} (h : FA w f F) (n : Nat) : FA (w.drewN n) f F := fun i hi => (h i hi).drewN n
theorem FA.drew {w : World} {f : Nat} {F : Nat → Ctc} (h : FA w f F) : FA w.drew f F := fun i hi => (h i hi).drew
theorem FA.fill {w : World} {f : Nat} {F : Nat → Ctc} (h : FA w f F) {i : Nat} (hi : i < 112) (c : Ctc) : FA (w.setCells f (i * 9) c.vals) f (upd F i c) ∧ Fr f 0 1008 w (w.setCells f (i * 9) c.vals) := by
  have k : Fr f (i * 9) 9 w (w.setCells f (i * 9) c.vals) := Fr.sets c.vals _ _ (Fr.refl _ _ _ _) (Nat.le_refl _) (by rw [Ctc.len]; omega)
  refine ⟨fun j hj => ?_, k.mono (by omega) (by omega)⟩
  by_cases e : j = i
  · subst e; rw [upd_same]; exact (h j hj).fill rfl
  · rw [upd_ne _ _ e]
    exact (h j hj).keep k h.lt (.inr (by rw [Ctc.len]; omega))
def ctc0 : Ctc := ⟨0, 0, trk0⟩
/-- The array while a contact comes in: below k as the list, from k on one place up. -/
structure Sh (F : Nat → Ctc) (L : List Ctc) (k : Nat) : Prop where
  lo : ∀ (j : Nat) (c : Ctc), j < k → L[j]? = some c → F j = c
  hi : ∀ (j : Nat) (c : Ctc), k ≤ j → L[j]? = some c → F (j + 1) = c
theorem Sh.start {F : Nat → Ctc} {L : List Ctc} (h : ∀ (j : Nat) (c : Ctc), L[j]? = some c → F j = c) : Sh F L L.length :=
  ⟨fun j c _ hc => h j c hc, fun j c hj hc => by have := (List.getElem?_eq_some_iff.1 hc).1; omega⟩
theorem Sh.step {F : Nat → Ctc} {L : List Ctc} {k : Nat} {d : Ctc} (h : Sh F L (k + 1)) (hd : L[k]? = some d) : Sh (upd F (k + 1) d) L k := by
  refine ⟨fun j c hj hc => ?_, fun j c hj hc => ?_⟩
  · rw [upd_ne _ _ (by omega)]; exact h.lo j c (by omega) hc
  · by_cases e : j = k
    · subst e; rw [upd_same]; rw [hd] at hc; cases hc; rfl
    · rw [upd_ne _ _ (by omega)]; exact h.hi j c (by omega) hc
theorem Sh.done {F : Nat → Ctc} {L : List Ctc} {k : Nat} {c : Ctc} (h : Sh F L k) (hk : k ≤ L.length) : ∀ (j : Nat) (d : Ctc), (L.take k ++ c :: L.drop k)[j]? = some d → upd F k c j = d := by
  intro j d hd
  have hl : (L.take k).length = k := by rw [List.length_take]; omega
  rcases (by omega : j < k ∨ j = k ∨ k < j) with z | z | z
  · rw [List.getElem?_append_left (by omega), List.getElem?_take_of_lt z] at hd
    rw [upd_ne _ _ (by omega)]
    exact h.lo j d z hd
  · subst z
    rw [List.getElem?_append_right (by omega), hl, Nat.sub_self, List.getElem?_cons_zero] at hd
    rw [upd_same]; cases hd; rfl
  · rw [List.getElem?_append_right (by omega), hl, show j - k = (j - k - 1) + 1 by omega, List.getElem?_cons_succ, List.getElem?_drop] at hd
    rw [upd_ne _ _ (by omega)]
    have := h.hi (k + (j - k - 1)) d (by omega) hd
    rw [show k + (j - k - 1) + 1 = j by omega] at this
    exact this
theorem pos_le (c : Ctc) (L : List Ctc) : ∀ k, posP c L k ≤ k
  | 0 => by rw [posP]; omega
  | k + 1 => by
    rw [posP]
    split
    · split
      · have := pos_le c L k; omega
      · omega
    · omega
theorem pos_go {c d : Ctc} {L : List Ctc} {k : Nat} (hd : L[k]? = some d) (hb : beforeP c.seen d.seen = true) : posP c L (k + 1) = posP c L k := by rw [posP, hd]; simp [hb]
theorem pos_stop {c d : Ctc} {L : List Ctc} {k : Nat} (hd : L[k]? = some d) (hb : beforeP c.seen d.seen = false) : posP c L (k + 1) = k + 1 := by rw [posP, hd]; simp [hb]
theorem RA.sn {w : World} {b o : Nat} {c : Ctc} (h : RA w b o c.vals) : RA w b (o + 2) c.seen.vals :=
  ⟨fun j v hv => by rw [Nat.add_assoc]; exact h.c (2 + j) v (by rw [Nat.add_comm 2 j]; exact hv), h.f⟩
theorem RA.ofSn {w w' : World} {b o : Nat} {c : Ctc} {t : Trk} (h : RA w b o c.vals) (k : Fr b (o + 2) 7 w w') (ht : RA w' b (o + 2) t.vals) : RA w' b o { c with seen := t }.vals := by
  refine ⟨fun j v hv => ?_, fun j => by rw [k.fr]; exact h.f j⟩
  have hj : j < 9 := (List.getElem?_eq_some_iff.1 hv).1
  by_cases h3 : j < 2
  · rw [k.cell _ (by omega)]
    refine h.c j v ?_
    rcases (by omega : j = 0 ∨ j = 1) with rfl | rfl <;> exact hv
  · obtain ⟨i, rfl⟩ : ∃ i, j = i + 2 := ⟨j - 2, by omega⟩
    have := ht.c i v hv
    rw [show o + (i + 2) = o + 2 + i by omega]
    exact this
theorem RA.cc {w : World} {b o : Nat} {c : Ctc} (h : RA w b o c.vals) : w.cell? ⟨b, o, none⟩ = some (.int .i64 c.tg) ∧ w.cell? ⟨b, o + 1, none⟩ = some (.int .i64 c.gr) ∧ w.cell? ⟨b, o + 2, none⟩ = some (.int .i64 c.seen.num) ∧ w.cell? ⟨b, o + 3, none⟩ = some (.int .i64 c.seen.x) ∧ w.cell? ⟨b, o + 4, none⟩ = some (.int .i64 c.seen.y) ∧ w.cell? ⟨b, o + 5, none⟩ = some (.int .i64 c.seen.co) ∧ w.cell? ⟨b, o + 6, none⟩ = some (.int .i64 c.seen.sp) ∧ w.cell? ⟨b, o + 7, none⟩ = some (.int .i64 c.seen.st) ∧ w.cell? ⟨b, o + 8, none⟩ = some (.int .i64 c.seen.ag) :=
  ⟨h.c 0 _ rfl, h.c 1 _ rfl, h.c 2 _ rfl, h.c 3 _ rfl, h.c 4 _ rfl, h.c 5 _ rfl, h.c 6 _ rfl, h.c 7 _ rfl, h.c 8 _ rfl⟩
theorem new_ra (w : World) (c : Ctc) (t : Nat) : RA (w.alloc (.cells c.vals.toArray t)) w.heap.size 0 c.vals := by
  refine ⟨fun j v hv => ?_, fun j => by simp [go_sem]⟩
  have := new_cells w c.vals t j v hv
  rw [Addr.add_mid] at this
  exact this
/-- What holds of every used slot. -/
def AllU (Q : Slt → Prop) (T : Tbl) : Prop := ∀ k, k < 64 → (T.sl k).used = true → Q (T.sl k)
section
variable {Q : Slt → Prop} {T : Tbl}
theorem AllU.rel (h : AllU Q T) (i : Nat) : AllU Q (relP T i) := fun k hk hu => by
  by_cases e : k = i
  · subst e
    rw [show (relP T k).sl k = slt0 from upd_same _ _ _] at hu
    cases hu
  · rw [show (relP T i).sl k = T.sl k from upd_ne _ _ e] at hu ⊢
    exact h k hk hu
theorem AllU.evR (h : AllU Q T) (g : Slt) : ∀ n, AllU Q (evR g n T)
  | 0 => h
  | n + 1 => by
    rw [Go.Proofs.Qxb6500777a.evR]
    split
    · exact (AllU.evR h g n).rel _
    · exact AllU.evR h g n
theorem AllU.evict (h : AllU Q T) : AllU Q (evictP T) := by
  unfold evictP
  split
  · exact h
  · exact h.evR _ 64
theorem AllU.room {g : Int} {T T' : Tbl} (r : Room g T T') : AllU Q T → AllU Q T' := by
  induction r with
  | stop T _ => exact id
  | step T T' _ _ ih => exact fun h => ih h.evict
theorem AllU.admit (h : AllU Q T) {c : Ctc} (hq : Q (newS T c)) (i : Nat) : AllU Q (admitP T i c) := fun k hk hu => by
  by_cases e : k = i
  · subst e
    rw [show (admitP T k c).sl k = newS T c from upd_same _ _ _]
    exact hq
  · rw [show (admitP T i c).sl k = T.sl k from upd_ne _ _ e] at hu ⊢
    exact h k hk hu
theorem AllU.admitL : ∀ (L : List Ctc) (T : Tbl), AllU Q T → (∀ T c, c ∈ L → Q (newS T c)) → AllU Q (admitL T L)
  | [], _, h, _ => h
  | c :: L, T, h, hq => AllU.admitL L _ (h.admit (hq T c (List.mem_cons_self ..)) _) fun T c hc => hq T c (List.mem_cons_of_mem _ hc)
theorem AllU.all {C : List Ctc} (hq : ∀ T c, c ∈ C → Q (newS T c)) {i : Nat} {T T' : Tbl} (r : AdmAll C i T T') : AllU Q T → AllU Q T' := by
  induction r with
  | done _ _ _ => exact id
  | big _ _ _ _ _ _ _ _ ih => exact ih
  | grp i e T T1 T' _ _ _ hr _ ih => exact fun h => ih (AllU.admitL _ _ (h.room hr) fun T c hc => hq T c (List.mem_of_mem_drop (List.mem_of_mem_take hc)))
end
theorem credit_ag (s : Slt) (g : Int) : (creditP s g).tr.ag = s.tr.ag := by
  unfold creditP
  split
  · rfl
  · split
    · rfl
    · split <;> rfl
theorem drR_age {T : Tbl} : AllU (fun s => s.tr.ag ≤ 29) (drR T 64) := fun k hk hu => by
  rw [drR_sl] at hu ⊢
  split
  · next h => rw [if_pos h] at hu; cases hu
  · next h =>
    rw [if_neg h] at hu
    show (T.sl k).tr.ag ≤ 29
    by_cases z : 30 ≤ (T.sl k).tr.ag
    · exact absurd ⟨hk, hu, z⟩ h
    · omega
theorem fr_age {best : Nat → Int} {W : Nat → Tgt} {T : Tbl} (S : Tbl) (c : Ctc) (h : c ∈ frL best W T 112) : (newS S c).tr.ag ≤ 29 := by
  obtain ⟨t, _, rfl, _⟩ := fr_mem 112 c h
  unfold newS
  rw [credit_ag]
  show (0 : Int) ≤ 29
  omega
theorem tick_age {best : Nat → Int} {W : Nat → Tgt} {X Y : Nat → Int} {T T' : Tbl} (h : TickR best W X Y T T') : ∀ k, k < 64 → (T'.sl k).used = true → (T'.sl k).tr.ag ≤ 29 := by
  obtain ⟨T2, _, h2⟩ := h
  exact AllU.all (Q := fun s => s.tr.ag ≤ 29) (fun S c hc => fr_age S c hc) h2 drR_age
theorem settles_next {old : Nat → Slt} {T T' : Tbl} (h : Settles old T T') : T'.next = T.next := by
  have pr : ∀ i j (s : Tbl × Bool), (pairP old i j s).1.next = s.1.next := fun i j s => by unfold pairP; split <;> rfl
  have rw' : ∀ i n (s : Tbl × Bool), (rowP old i n s).1.next = s.1.next := fun i n s => by
    induction n with
    | zero => rfl
    | succ n ih => rw [rowP, pr, ih]
  have ps : ∀ n (s : Tbl × Bool), (passP old n s).1.next = s.1.next := fun n s => by
    induction n with
    | zero => rfl
    | succ n ih => rw [passP, rw', ih]
  induction h with
  | done T _ => exact ps 64 (T, false)
  | more T T' _ _ ih => exact ih.trans (ps 64 (T, false))
end Go.Proofs.Qxb6500777a
