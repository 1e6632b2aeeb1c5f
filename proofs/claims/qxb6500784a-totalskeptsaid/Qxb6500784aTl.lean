import Derived.Test.Qxb6500784aTk
namespace Go.Proofs.Qxb6500784a
open Go.RowKit

/-! ### TotalsKept, plain: messages -/
def sumV (f : Msg → Int) : List Msg → Int
  | [] => 0
  | m :: L => f m + sumV f L
theorem sumV_app (f : Msg → Int) : ∀ (A B : List Msg), sumV f (A ++ B) = sumV f A + sumV f B
  | [], B => by simp [sumV]
  | m :: A, B => by rw [List.cons_append, sumV, sumV, sumV_app f A B]; omega
theorem sumV_congr {f g : Msg → Int} : ∀ (L : List Msg), (∀ x, x ∈ L → f x = g x) → sumV f L = sumV g L
  | [], _ => rfl
  | m :: L, h => by rw [sumV, sumV, h m (by simp), sumV_congr L (fun x hx => h x (List.mem_cons_of_mem _ hx))]
theorem sumV_one {f g : Msg → Int} {m : Msg} (hfg : ∀ x, x ≠ m → g x = f x) : ∀ (L : List Msg), L.Nodup → m ∈ L → sumV g L = sumV f L + (g m - f m)
  | [], _, h => by cases h
  | y :: L, hn, h => by
    rw [List.nodup_cons] at hn
    rw [sumV, sumV]
    by_cases e : y = m
    · subst e
      rw [sumV_congr (f := g) (g := f) L (fun x hx => hfg x (fun e => hn.1 (e ▸ hx)))]; omega
    · have hm : m ∈ L := by
        rcases List.mem_cons.1 h with z | z
        · exact absurd z.symm e
        · exact z
      rw [sumV_one hfg L hn.2 hm, hfg y e]; omega
/-- What a message counts: burned, and towards L1 or not yet minted. -/
def val (ia ib : List Msg) (s : Nat) (m : Msg) : Int := if fld m 0 = 2 ∧ fld m 6 = s ∧ (fld m 2 = 3 ∨ (fld m 2 = 1 ∧ m ∉ ia) ∨ (fld m 2 = 2 ∧ m ∉ ib)) then fld m 7 else 0
def dpv (s : Nat) (m : Msg) : Int := if fld m 6 = s then fld m 7 else 0
def tot (P : Pr) (s : Nat) : Int := sumV (val (P.box 1).inb (P.box 2).inb s) (P.box 3).out + sumV (val (P.box 1).inb (P.box 2).inb s) (P.box 1).out + sumV (val (P.box 1).inb (P.box 2).inb s) (P.box 2).out
def dep (P : Pr) (s : Nat) : Int := sumV (dpv s) (P.box 3).out
def isCh (f : Int) : Prop := f = 1 ∨ f = 2 ∨ f = 3
structure TI (P : Pr) : Prop where
  b : ∀ f, isCh f → ∀ (i : Nat) (m : Msg), (P.box f).out[i]? = some m → fld m 5 = i ∧ fld m 1 = f
  c : ∀ f, isCh f → (P.box f).ch = f
  tk : ∀ f, isCh f → ∀ m, m ∈ (P.box f).out → fld m 0 = 2 → fld m 6 < 4
  d : ∀ m, m ∈ (P.box 3).out → fld m 6 < 4
  i : ∀ f, f = 1 ∨ f = 2 → ∀ m, m ∈ (P.box f).inb → isCh (fld m 1) ∧ m ∈ (P.box (fld m 1)).out
  l : P.la.bal.length = 256 ∧ P.lb.bal.length = 256
  s : ∀ s : Nat, s < 4 → Cong (hold P.la s + hold P.lb s + tot P s) (dep P s)
theorem idx_nodup {L : List Msg} (h : ∀ (i : Nat) (m : Msg), L[i]? = some m → fld m 5 = i) : L.Nodup := by
  refine List.pairwise_iff_getElem.2 fun i j hi hj hij e => ?_
  have e1 := h i _ (List.getElem?_eq_getElem hi)
  have e2 := h j _ (List.getElem?_eq_getElem hj)
  rw [e] at e1
  omega
/-- A message with the next number is new. -/
theorem TI.fresh {P : Pr} (h : TI P) {f : Int} (hf : isCh f) {m : Msg} (h1 : fld m 1 = f) (h5 : fld m 5 = ((P.box f).out.length : Int)) : m ∉ (P.box 1).inb ∧ m ∉ (P.box 2).inb := by
  have key : ∀ g, g = 1 ∨ g = 2 → m ∉ (P.box g).inb := fun g hg e => by
    obtain ⟨_, hm⟩ := h.i g hg m e
    rw [h1] at hm
    obtain ⟨j, hj⟩ := List.mem_iff_getElem?.1 hm
    have := (h.b f hf j m hj).1
    have hl := (List.getElem?_eq_some_iff.1 hj).1
    omega
  exact ⟨key 1 (.inl rfl), key 2 (.inr rfl)⟩
theorem TI.congr {P Q : Pr} (h : TI P) (ha : Q.la.bal = P.la.bal) (hb : Q.lb.bal = P.lb.bal) (hx : ∀ f, (Q.box f).out = (P.box f).out ∧ (Q.box f).inb = (P.box f).inb ∧ (Q.box f).ch = (P.box f).ch) : TI Q := by
  refine ⟨fun f hf i m hm => ?_, fun f hf => ?_, fun f hf m hm => ?_, fun m hm => ?_, fun f hf m hm => ?_, by rw [ha, hb]; exact h.l, fun s hs => ?_⟩
  · rw [(hx f).1] at hm; exact h.b f hf i m hm
  · rw [(hx f).2.2]; exact h.c f hf
  · rw [(hx f).1] at hm; exact h.tk f hf m hm
  · rw [(hx 3).1] at hm; exact h.d m hm
  · rw [(hx f).2.1] at hm; rw [(hx _).1]; exact h.i f hf m hm
  · have e1 : tot Q s = tot P s := by unfold tot; rw [(hx 1).1, (hx 2).1, (hx 3).1, (hx 1).2.1, (hx 2).2.1]
    have e2 : dep Q s = dep P s := by unfold dep; rw [(hx 3).1]
    have e3 : hold Q.la s = hold P.la s := by unfold hold; rw [ha]
    have e4 : hold Q.lb s = hold P.lb s := by unfold hold; rw [hb]
    rw [e1, e2, e3, e4]; exact h.s s hs
/-- A message is sent by box c. -/
theorem TI.send {P Q : Pr} (h : TI P) {c : Int} (hc : isCh c) {m : Msg} (hm1 : fld m 1 = c) (hl : 5 < m.length) (htk : fld m 0 = 2 → fld m 6 < 4) (h3 : c = 3 → fld m 6 < 4) (hto : fld m 0 = 2 → isCh (fld m 2))
    (hbx : ∀ f, isCh f → (Q.box f).out = (if f = c then (P.box c).out ++ [stamp (P.box c) m] else (P.box f).out) ∧ (Q.box f).inb = (P.box f).inb ∧ (Q.box f).ch = (P.box f).ch) (hll : Q.la.bal.length = 256 ∧ Q.lb.bal.length = 256)
    (hh : ∀ s : Nat, s < 4 → Cong (hold Q.la s + hold Q.lb s + (if fld m 0 = 2 ∧ fld m 6 = s then fld m 7 else 0) - (if c = 3 then dpv s (stamp (P.box c) m) else 0)) (hold P.la s + hold P.lb s)) : TI Q := by
  obtain ⟨s5, s1⟩ := fld_stamp (P.box c) m hl
  have so : ∀ j, j ≠ 5 → fld (stamp (P.box c) m) j = fld m j := fun j hj => by unfold fld stamp; rw [List.getElem?_set_ne (by omega)]
  have i1 : isCh 1 := .inl rfl
  have i2 : isCh 2 := .inr (.inl rfl)
  have i3 : isCh 3 := .inr (.inr rfl)
  obtain ⟨f1, f2⟩ := h.fresh hc (m := stamp (P.box c) m) (by rw [s1]; exact hm1) s5
  have mem : ∀ f, isCh f → ∀ x, x ∈ (Q.box f).out → x ∈ (P.box f).out ∨ (f = c ∧ x = stamp (P.box c) m) := fun f hf x hx => by
    rw [(hbx f hf).1] at hx
    split at hx
    · rename_i e
      rcases List.mem_append.1 hx with z | z
      · exact .inl (e ▸ z)
      · exact .inr ⟨e, by simpa using z⟩
    · exact .inl hx
  refine ⟨fun f hf i x hx => ?_, fun f hf => by rw [(hbx f hf).2.2]; exact h.c f hf, fun f hf x hx h0 => ?_, fun x hx => ?_, fun f hf x hx => ?_, hll, fun s hs => ?_⟩
  · rw [(hbx f hf).1] at hx
    split at hx
    · rename_i e
      subst e
      rcases Nat.lt_or_ge i (P.box f).out.length with z | z
      · rw [List.getElem?_append_left z] at hx; exact h.b f hf i x hx
      · have hi := (List.getElem?_eq_some_iff.1 hx).1
        have : i = (P.box f).out.length := by simp at hi; omega
        subst this
        rw [List.getElem?_append_right (Nat.le_refl _)] at hx
        simp at hx
        rw [← hx]; exact ⟨s5, by rw [s1]; exact hm1⟩
    · exact h.b f hf i x hx
  · rcases mem f hf x hx with z | ⟨_, rfl⟩
    · exact h.tk f hf x z h0
    · rw [so 0 (by omega)] at h0; rw [so 6 (by omega)]; exact htk h0
  · rcases mem 3 i3 x hx with z | ⟨e, rfl⟩
    · exact h.d x z
    · rw [so 6 (by omega)]; exact h3 e.symm
  · rw [(hbx f (hf.imp id .inl)).2.1] at hx
    obtain ⟨k1, k2⟩ := h.i f hf x hx
    refine ⟨k1, ?_⟩
    rw [(hbx _ k1).1]
    split
    · rename_i e; rw [e] at k2; exact List.mem_append_left _ k2
    · exact k2
  · have hv : val (P.box 1).inb (P.box 2).inb s (stamp (P.box c) m) = if fld m 0 = 2 ∧ fld m 6 = s then fld m 7 else 0 := by
      unfold val
      rw [so 0 (by omega), so 6 (by omega), so 2 (by omega), so 7 (by omega)]
      by_cases e : fld m 0 = 2 ∧ fld m 6 = s
      · have hcd : fld m 2 = 3 ∨ (fld m 2 = 1 ∧ stamp (P.box c) m ∉ (P.box 1).inb) ∨ (fld m 2 = 2 ∧ stamp (P.box c) m ∉ (P.box 2).inb) := by
          rcases hto e.1 with z | z | z
          · exact .inr (.inl ⟨z, f1⟩)
          · exact .inr (.inr ⟨z, f2⟩)
          · exact .inl z
        rw [if_pos e, if_pos ⟨e.1, e.2, hcd⟩]
      · rw [if_neg e, if_neg (fun q => e ⟨q.1, q.2.1⟩)]
    have ht : tot Q s = tot P s + if fld m 0 = 2 ∧ fld m 6 = s then fld m 7 else 0 := by
      unfold tot
      rw [(hbx 1 i1).2.1, (hbx 2 i2).2.1, (hbx 1 i1).1, (hbx 2 i2).1, (hbx 3 i3).1]
      rcases hc with rfl | rfl | rfl
      · rw [if_neg (by omega), if_pos rfl, if_neg (by omega), sumV_app, sumV, sumV, hv]; omega
      · rw [if_neg (by omega), if_neg (by omega), if_pos rfl, sumV_app, sumV, sumV, hv]; omega
      · rw [if_pos rfl, if_neg (by omega), if_neg (by omega), sumV_app, sumV, sumV, hv]; omega
    have hd : dep Q s = dep P s + if c = 3 then dpv s (stamp (P.box c) m) else 0 := by
      unfold dep
      rw [(hbx 3 i3).1]
      by_cases e : (3 : Int) = c
      · rw [if_pos e, if_pos e.symm, ← e, sumV_app, sumV, sumV]; omega
      · rw [if_neg e, if_neg (fun z => e z.symm)]; omega
    obtain ⟨q1, e1⟩ := h.s s hs
    obtain ⟨q2, e2⟩ := hh s hs
    rw [ht, hd]
    exact ⟨q1 + q2, by omega⟩
/-- A message is taken by box c. -/
theorem TI.take {P Q : Pr} (h : TI P) {c : Int} (hc : c = 1 ∨ c = 2) {m : Msg} (hto : fld m 2 = c) (hF : isCh (fld m 1)) (hmo : m ∈ (P.box (fld m 1)).out) (hin : m ∉ (P.box c).inb)
    (hbx : ∀ f, isCh f → (Q.box f).out = (P.box f).out ∧ (Q.box f).inb = (if f = c then (P.box c).inb ++ [m] else (P.box f).inb) ∧ (Q.box f).ch = (P.box f).ch) (hll : Q.la.bal.length = 256 ∧ Q.lb.bal.length = 256)
    (hh : ∀ s : Nat, s < 4 → Cong (hold Q.la s + hold Q.lb s) (hold P.la s + hold P.lb s + if fld m 0 = 2 ∧ fld m 6 = s then fld m 7 else 0)) : TI Q := by
  have i1 : isCh 1 := .inl rfl
  have i2 : isCh 2 := .inr (.inl rfl)
  have i3 : isCh 3 := .inr (.inr rfl)
  refine ⟨fun f hf i x hx => ?_, fun f hf => by rw [(hbx f hf).2.2]; exact h.c f hf, fun f hf x hx h0 => ?_, fun x hx => ?_, fun f hf x hx => ?_, hll, fun s hs => ?_⟩
  · rw [(hbx f hf).1] at hx; exact h.b f hf i x hx
  · rw [(hbx f hf).1] at hx; exact h.tk f hf x hx h0
  · rw [(hbx 3 i3).1] at hx; exact h.d x hx
  · rw [(hbx f (hf.imp id .inl)).2.1] at hx
    split at hx
    · rename_i e
      rcases List.mem_append.1 hx with z | z
      · obtain ⟨k1, k2⟩ := h.i c hc x z
        exact ⟨k1, by rw [(hbx _ k1).1]; exact k2⟩
      · have : x = m := by simpa using z
        subst this
        exact ⟨hF, by rw [(hbx _ hF).1]; exact hmo⟩
    · obtain ⟨k1, k2⟩ := h.i f hf x hx
      exact ⟨k1, by rw [(hbx _ k1).1]; exact k2⟩
  · have hne : ∀ x, x ≠ m → val (Q.box 1).inb (Q.box 2).inb s x = val (P.box 1).inb (P.box 2).inb s x := fun x hx => by
      have m1 : x ∈ (Q.box 1).inb ↔ x ∈ (P.box 1).inb := by
        rw [(hbx 1 i1).2.1]; split
        · rename_i e; rw [← e]; simp [hx]
        · rfl
      have m2 : x ∈ (Q.box 2).inb ↔ x ∈ (P.box 2).inb := by
        rw [(hbx 2 i2).2.1]; split
        · rename_i e; rw [← e]; simp [hx]
        · rfl
      unfold val
      simp only [m1, m2]
    have hm' : val (Q.box 1).inb (Q.box 2).inb s m = 0 := by
      unfold val
      refine if_neg (fun e => ?_)
      rcases hc with rfl | rfl
      · have : m ∈ (Q.box 1).inb := by rw [(hbx 1 i1).2.1, if_pos rfl]; simp
        rcases e.2.2 with z | z | z
        · omega
        · exact z.2 this
        · omega
      · have : m ∈ (Q.box 2).inb := by rw [(hbx 2 i2).2.1, if_pos rfl]; simp
        rcases e.2.2 with z | z | z
        · omega
        · omega
        · exact z.2 this
    have hm0 : val (P.box 1).inb (P.box 2).inb s m = if fld m 0 = 2 ∧ fld m 6 = s then fld m 7 else 0 := by
      unfold val
      by_cases e : fld m 0 = 2 ∧ fld m 6 = s
      · have hcd : fld m 2 = 3 ∨ (fld m 2 = 1 ∧ m ∉ (P.box 1).inb) ∨ (fld m 2 = 2 ∧ m ∉ (P.box 2).inb) := by
          rcases hc with rfl | rfl
          · exact .inr (.inl ⟨hto, hin⟩)
          · exact .inr (.inr ⟨hto, hin⟩)
        rw [if_pos e, if_pos ⟨e.1, e.2, hcd⟩]
      · rw [if_neg e, if_neg (fun q => e ⟨q.1, q.2.1⟩)]
    have hone : ∀ f, isCh f → sumV (val (Q.box 1).inb (Q.box 2).inb s) (P.box f).out = sumV (val (P.box 1).inb (P.box 2).inb s) (P.box f).out + if f = fld m 1 then - (if fld m 0 = 2 ∧ fld m 6 = s then fld m 7 else 0) else 0 := fun f hf => by
      by_cases e : f = fld m 1
      · rw [if_pos e, sumV_one hne _ (idx_nodup fun i x hx => (h.b f hf i x hx).1) (by rw [e]; exact hmo), hm', hm0]; omega
      · rw [if_neg e, sumV_congr (f := val (Q.box 1).inb (Q.box 2).inb s) (g := val (P.box 1).inb (P.box 2).inb s) (P.box f).out (fun x hx => hne x (fun e2 => by
          obtain ⟨j, hj⟩ := List.mem_iff_getElem?.1 hx
          have := (h.b f hf j x hj).2
          rw [e2] at this
          exact e this.symm))]; omega
    have ht : tot Q s = tot P s - if fld m 0 = 2 ∧ fld m 6 = s then fld m 7 else 0 := by
      unfold tot
      rw [(hbx 1 i1).1, (hbx 2 i2).1, (hbx 3 i3).1, hone 1 i1, hone 2 i2, hone 3 i3]
      generalize (if fld m 0 = 2 ∧ fld m 6 = (s : Int) then fld m 7 else 0) = X
      rcases hF with z | z | z
      · have a2 : ¬ (2 : Int) = fld m 1 := by omega
        have a3 : ¬ (3 : Int) = fld m 1 := by omega
        rw [if_neg a3, if_pos z.symm, if_neg a2]; omega
      · have a2 : ¬ (1 : Int) = fld m 1 := by omega
        have a3 : ¬ (3 : Int) = fld m 1 := by omega
        rw [if_neg a3, if_neg a2, if_pos z.symm]; omega
      · have a2 : ¬ (2 : Int) = fld m 1 := by omega
        have a3 : ¬ (1 : Int) = fld m 1 := by omega
        rw [if_pos z.symm, if_neg a3, if_neg a2]; omega
    have hd : dep Q s = dep P s := by unfold dep; rw [(hbx 3 i3).1]
    obtain ⟨q1, e1⟩ := h.s s hs
    obtain ⟨q2, e2⟩ := hh s hs
    rw [ht, hd]
    exact ⟨q1 + q2, by omega⟩
end Go.Proofs.Qxb6500784a
