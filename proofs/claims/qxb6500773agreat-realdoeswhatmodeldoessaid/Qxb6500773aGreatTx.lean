import Derived.Test.Qxb6500773aGreatTw
import Derived.Test.Qxb6500773aGreatFm2
namespace Go.Proofs.Qxb6500773aGreat
open Go.RowKit

/-! ### The step's state: what is read, what is turned, what is new -/
theorem qs_f (B : Nat) (s : St) (F : Fo) : ∀ j, j < 6 → up (QS B s) 0 (FOq B F) j = QS B { s with f := F } j := six rfl rfl rfl rfl rfl rfl
theorem qs_a (B : Nat) (s : St) (A : As) : ∀ j, j < 6 → up (QS B s) 1 (AOq B A) j = QS B { s with a := A } j := six rfl rfl rfl rfl rfl rfl
theorem qs_p (B : Nat) (s : St) (F : Pf) : ∀ j, j < 6 → up (QS B s) 2 (POq B F) j = QS B { s with p := F } j := six rfl rfl rfl rfl rfl rfl
theorem qs_sf (B : Nat) (s : St) (F : Fo) : ∀ j, j < 6 → up (QS B s) 3 (FOq B F) j = QS B { s with sf := F } j := six rfl rfl rfl rfl rfl rfl
theorem qs_sa (B : Nat) (s : St) (A : As) : ∀ j, j < 6 → up (QS B s) 4 (AOq B A) j = QS B { s with sa := A } j := six rfl rfl rfl rfl rfl rfl
theorem qs_sp (B : Nat) (s : St) (F : Pf) : ∀ j, j < 6 → up (QS B s) 5 (POq B F) j = QS B { s with sp := F } j := six rfl rfl rfl rfl rfl rfl
/-- an object that is apart from the others takes the place i -/
theorem BN.put {w : World} {B r : Nat} {P : Nat → Nat} {S : Nat → Nat → Prop} {Q : Nat → OQ} (h : BN w B r P S Q) {i : Nat} (hi : i < 6) {q' : OQ} {b' : Nat} {S' : Nat → Prop} (hq : q' w b' S') (hf : Frm q') (hs : ∀ k, S' k → (∀ j, j < 6 → ¬ S j k) ∧ k ≠ r ∧ B ≤ k ∧ k < w.heap.size) : BN (w.setCell ⟨r, i, none⟩ (.pointer (some ⟨b', 0, none⟩))) B r (up P i b') (up S i S') (up Q i q') := by
  have e2 : Ex (fun k => k = r) w (w.setCell ⟨r, i, none⟩ (.pointer (some ⟨b', 0, none⟩))) := (Ex.refl (fun k => k = r) w).set (p := r) rfl _
  have hsz : (w.setCell ⟨r, i, none⟩ (.pointer (some ⟨b', 0, none⟩))).heap.size = w.heap.size := by simp
  refine ⟨fun j hj => ?_, fun j => by rw [set_frozen]; exact h.fz j, fun j hj => ?_, fun j hj k hk => ?_, fun a b ha hb hab k hk hk' => ?_, fun j hj hk => ?_, h.rB, fun j => ?_⟩
  · by_cases z : j = i
    · subst z; rw [up_at]; exact World.cell?_setCell_same _ _ _ (h.ptr j hj)
    · rw [up_ne _ _ z, World.cell?_setCell_other _ _ _ _ (fun q => by injection q with _ q; exact z q.symm)]; exact h.ptr j hj
  · by_cases z : j = i
    · subst z; rw [up_at, up_at, up_at]
      exact hf _ _ _ _ _ hq e2 (fun k hk (q : k = r) => (hs k hk).2.1 q)
    · rw [up_ne _ _ z, up_ne _ _ z, up_ne _ _ z]
      exact h.fr j _ _ _ _ _ (h.ob j hj) e2 (fun k hk (q : k = r) => h.rr j hj (q ▸ hk))
  · rw [hsz]
    by_cases z : j = i
    · subst z; rw [up_at] at hk; exact (hs k hk).2.2
    · rw [up_ne _ _ z] at hk; exact h.rg j hj k hk
  · by_cases za : a = i
    · subst za
      rw [up_at] at hk
      rw [up_ne _ _ (fun z => hab z.symm)] at hk'
      exact (hs k hk).1 b hb hk'
    · rw [up_ne _ _ za] at hk
      by_cases zb : b = i
      · subst zb
        rw [up_at] at hk'
        exact (hs k hk').1 a ha hk
      · rw [up_ne _ _ zb] at hk'
        exact h.dj a b ha hb hab k hk hk'
  · by_cases z : j = i
    · subst z
      rw [up_at] at hk
      exact (hs r hk).2.1 rfl
    · rw [up_ne _ _ z] at hk
      exact h.rr j hj hk
  · by_cases z : j = i
    · subst z; rw [up_at]; exact hf
    · rw [up_ne _ _ z]; exact h.fr j
section
variable {w0 w w' : World} {R : Nat → Prop} {B r q t o : Nat} {P : Nat → Nat} {S : Nat → Nat → Prop} {s : St} {v : OpV} {b : Ob} {tv : Value}
theorem SW.f (h : SW w0 w R B r q t o P S s v b tv) : ∃ va ve, FF w B (P 0) va ve s.f.nv s.f.L s.f.E ∧ ∀ k, S 0 k ↔ (k = P 0 ∨ va.ownBlock = some k ∨ ve.ownBlock = some k) := h.bn.ob 0 (by decide)
theorem SW.a (h : SW w0 w R B r q t o P S s v b tv) : ∃ va, AT w B (P 1) va s.a.k s.a.V ∧ ∀ k, S 1 k ↔ (k = P 1 ∨ va.ownBlock = some k) := h.bn.ob 1 (by decide)
theorem SW.p (h : SW w0 w R B r q t o P S s v b tv) : ∃ va ve vd, PF w B (P 2) va ve vd s.p.L s.p.E s.p.D ∧ ∀ k, S 2 k ↔ (k = P 2 ∨ va.ownBlock = some k ∨ ve.ownBlock = some k ∨ vd.ownBlock = some k) := h.bn.ob 2 (by decide)
theorem SW.sf (h : SW w0 w R B r q t o P S s v b tv) : ∃ va ve, FF w B (P 3) va ve s.sf.nv s.sf.L s.sf.E ∧ ∀ k, S 3 k ↔ (k = P 3 ∨ va.ownBlock = some k ∨ ve.ownBlock = some k) := h.bn.ob 3 (by decide)
theorem SW.sa (h : SW w0 w R B r q t o P S s v b tv) : ∃ va, AT w B (P 4) va s.sa.k s.sa.V ∧ ∀ k, S 4 k ↔ (k = P 4 ∨ va.ownBlock = some k) := h.bn.ob 4 (by decide)
theorem SW.sp (h : SW w0 w R B r q t o P S s v b tv) : ∃ va ve vd, PF w B (P 5) va ve vd s.sp.L s.sp.E s.sp.D ∧ ∀ k, S 5 k ↔ (k = P 5 ∨ va.ownBlock = some k ∨ ve.ownBlock = some k ∨ vd.ownBlock = some k) := h.bn.ob 5 (by decide)
theorem SW.szB (h : SW w0 w R B r q t o P S s v b tv) : B ≤ w.heap.size := by have := h.bn.rB; have := h.bn.rlt; omega
theorem SW.pB (h : SW w0 w R B r q t o P S s v b tv) {i : Nat} (hi : i < 6) (hs : S i (P i)) : B ≤ P i := (h.bn.rg i hi _ hs).1
/-- the assignment turns -/
theorem SW.ag (h : SW w0 w R B r q t o P S s v b tv) {ua : Value} (hs : ∀ k, S 1 k ↔ (k = P 1 ∨ ua.ownBlock = some k)) {k' : Int} {V' : List Int} {e : Ending} (hp : AgPost w B (P 1) ua k' V' e w') : ∃ S', SW w0 w' R B r q t o P S' { s with a := ⟨k', V'⟩ } v b tv := by
  obtain ⟨_, hex, ua', hua', hown⟩ := hp
  exact ⟨_, h.chg (i := 1) (by decide) (hex.mono (fun k hk => (hs k).2 hk)) (q' := AOq B ⟨k', V'⟩) (S' := fun k => k = P 1 ∨ ua'.ownBlock = some k) ⟨ua', hua', fun k => Iff.rfl⟩ (frm_a _ _) (fun k hk => hk.elim (fun hk => .inl ((hs k).2 (.inl hk))) (fun hk => (hown k hk).imp (fun hk => (hs k).2 (.inr hk)) id)) (fun k hk => hk.elim (fun hk => by rw [hk]; exact ⟨h.pB (by decide) ((hs _).2 (.inl rfl)), hua'.lt⟩) (fun hk => hua'.row.lt k hk)) (qs_a B s _)⟩
/-- the formula turns -/
theorem SW.ft (h : SW w0 w R B r q t o P S s v b tv) {va ve : Value} (hs : ∀ k, S 0 k ↔ (k = P 0 ∨ va.ownBlock = some k ∨ ve.ownBlock = some k)) {F : Fo} (hp : FT w w' B (P 0) va ve F) : ∃ S', SW w0 w' R B r q t o P S' { s with f := F } v b tv := by
  obtain ⟨hex, va', ve', hff, h1, h2⟩ := hp
  exact ⟨_, h.chg (i := 0) (by decide) (hex.mono (fun k hk => (hs k).2 hk)) (q' := FOq B F) (S' := fun k => k = P 0 ∨ va'.ownBlock = some k ∨ ve'.ownBlock = some k) ⟨va', ve', hff, fun k => Iff.rfl⟩ (frm_f _ _) (fun k hk => hk.elim (fun hk => .inl ((hs k).2 (.inl hk))) (fun hk => hk.elim (fun hk => (h1 k hk).imp (fun hk => (hs k).2 (.inr (.inl hk))) id) (fun hk => (h2 k hk).imp (fun hk => (hs k).2 (.inr (.inr hk))) id))) (fun k hk => hk.elim (fun hk => by rw [hk]; exact ⟨h.pB (by decide) ((hs _).2 (.inl rfl)), hff.ar.lt⟩) (fun hk => hk.elim (fun hk => hff.ar.r0.lt k hk) (fun hk => hff.ar.r1.lt k hk))) (qs_f B s _)⟩
/-- the proof turns -/
theorem SW.pt (h : SW w0 w R B r q t o P S s v b tv) {va ve vd : Value} (hs : ∀ k, S 2 k ↔ (k = P 2 ∨ va.ownBlock = some k ∨ ve.ownBlock = some k ∨ vd.ownBlock = some k)) {F : Pf} (hp : PT w w' B (P 2) va ve vd F) : ∃ S', SW w0 w' R B r q t o P S' { s with p := F } v b tv := by
  obtain ⟨hex, va', ve', vd', hff, h1, h2, h3⟩ := hp
  exact ⟨_, h.chg (i := 2) (by decide) (hex.mono (fun k hk => (hs k).2 hk)) (q' := POq B F) (S' := fun k => k = P 2 ∨ va'.ownBlock = some k ∨ ve'.ownBlock = some k ∨ vd'.ownBlock = some k) ⟨va', ve', vd', hff, fun k => Iff.rfl⟩ (frm_p _ _) (fun k hk => hk.elim (fun hk => .inl ((hs k).2 (.inl hk))) (fun hk => hk.elim (fun hk => (h1 k hk).imp (fun hk => (hs k).2 (.inr (.inl hk))) id) (fun hk => hk.elim (fun hk => (h2 k hk).imp (fun hk => (hs k).2 (.inr (.inr (.inl hk)))) id) (fun hk => (h3 k hk).imp (fun hk => (hs k).2 (.inr (.inr (.inr hk)))) id)))) (fun k hk => hk.elim (fun hk => by rw [hk]; exact ⟨h.pB (by decide) ((hs _).2 (.inl rfl)), hff.ar.lt⟩) (fun hk => hk.elim (fun hk => hff.ar.r0.lt k hk) (fun hk => hk.elim (fun hk => hff.ar.r1.lt k hk) (fun hk => hff.r2.lt k hk)))) (qs_p B s _)⟩
/-- a new formula at the place i -/
theorem SW.nf (h : SW w0 w R B r q t o P S s v b tv) {i : Nat} (hi : i < 6) (e : Ex (fun _ => False) w w') {b' : Nat} {va ve : Value} {F : Fo} (hf : FF w' w.heap.size b' va ve F.nv F.L F.E) (hb : w.heap.size ≤ b') {s' : St} (hq : ∀ j, j < 6 → up (QS B s) i (FOq B F) j = QS B s' j) : ∃ P' S', SW w0 (w'.setCell ⟨r, i, none⟩ (.pointer (some ⟨b', 0, none⟩))) R B r q t o P' S' s' v b tv :=
  ⟨_, _, h.new hi e (q' := FOq B F) (b' := b') (S' := fun k => k = b' ∨ va.ownBlock = some k ∨ ve.ownBlock = some k) ⟨va, ve, hf.base h.szB, fun k => Iff.rfl⟩ (frm_f _ _) (fun k hk => by
    have hB := h.szB
    rcases hk with hk | hk | hk
    · have := hf.ar.lt; omega
    · have := hf.ar.r0.lt k hk; omega
    · have := hf.ar.r1.lt k hk; omega) hq⟩
theorem SW.np (h : SW w0 w R B r q t o P S s v b tv) {i : Nat} (hi : i < 6) (e : Ex (fun _ => False) w w') {b' : Nat} {va ve vd : Value} {F : Pf} (hf : PF w' w.heap.size b' va ve vd F.L F.E F.D) (hb : w.heap.size ≤ b') {s' : St} (hq : ∀ j, j < 6 → up (QS B s) i (POq B F) j = QS B s' j) : ∃ P' S', SW w0 (w'.setCell ⟨r, i, none⟩ (.pointer (some ⟨b', 0, none⟩))) R B r q t o P' S' s' v b tv :=
  ⟨_, _, h.new hi e (q' := POq B F) (b' := b') (S' := fun k => k = b' ∨ va.ownBlock = some k ∨ ve.ownBlock = some k ∨ vd.ownBlock = some k) ⟨va, ve, vd, PF.base h.szB hf, fun k => Iff.rfl⟩ (frm_p _ _) (fun k hk => by
    have hB := h.szB
    rcases hk with hk | hk | hk | hk
    · have := hf.ar.lt; omega
    · have := hf.ar.r0.lt k hk; omega
    · have := hf.ar.r1.lt k hk; omega
    · have := hf.r2.lt k hk; omega) hq⟩
theorem SW.na (h : SW w0 w R B r q t o P S s v b tv) {i : Nat} (hi : i < 6) (e : Ex (fun _ => False) w w') {b' : Nat} {va : Value} {A : As} (hf : AT w' w.heap.size b' va A.k A.V) (hb : w.heap.size ≤ b') {s' : St} (hq : ∀ j, j < 6 → up (QS B s) i (AOq B A) j = QS B s' j) : ∃ P' S', SW w0 (w'.setCell ⟨r, i, none⟩ (.pointer (some ⟨b', 0, none⟩))) R B r q t o P' S' s' v b tv :=
  ⟨_, _, h.new hi e (q' := AOq B A) (b' := b') (S' := fun k => k = b' ∨ va.ownBlock = some k) ⟨va, ⟨hf.c0, hf.c1, hf.fz, own_base h.szB hf.row, hf.ne⟩, fun k => Iff.rfl⟩ (frm_a _ _) (fun k hk => by
    have hB := h.szB
    rcases hk with hk | hk
    · have := hf.lt; omega
    · have := hf.row.lt k hk; omega) hq⟩
/-- an object made in or behind the world m takes the place i -/
theorem SW.put (h : SW w0 w R B r q t o P S s v b (.slice none 0 0)) {m : Nat} (hS : ∀ i, i < 6 → ∀ k, S i k → k < m) (hm : q < m ∧ t < m ∧ o < m ∧ r < m) (_hB : B ≤ m) {i : Nat} (hi : i < 6) {q' : OQ} {b' : Nat} {S' : Nat → Prop} (hq : q' w b' S') (hf : Frm q') (hs : ∀ k, S' k → m ≤ k ∧ k < w.heap.size) (hm0 : w0.heap.size ≤ m) {s' : St} (hq' : ∀ j, j < 6 → up (QS B s) i q' j = QS B s' j) : SW w0 (w.setCell ⟨r, i, none⟩ (.pointer (some ⟨b', 0, none⟩))) R B r q t o (up P i b') (up S i S') s' v b (.slice none 0 0) := by
  have e2 : Ex (fun k => k = r) w (w.setCell ⟨r, i, none⟩ (.pointer (some ⟨b', 0, none⟩))) := (Ex.refl (fun k => k = r) w).set (p := r) rfl _
  have hne := h.ne
  refine ⟨(h.bn.put hi hq hf (fun k hk => ⟨fun j hj z => by have := hS j hj k z; have := (hs k hk).1; omega, by have := (hs k hk).1; omega, by have := (hs k hk).1; omega, (hs k hk).2⟩)).re hq' (frm_s B s'), h.sc.keep e2 (fun z => hne.2.2.2.1 z.symm) (fun z => hne.2.2.2.2.1 z.symm) (fun z => hne.2.2.2.2.2 z.symm), fun j hj => ?_, h.ne, own_kept h.tx e2 (fun k hk z => (h.tn k hk).2.2.2.1 z), (fun k hk => by cases hk), ⟨h.ex.os, h.ex.tape, h.ex.output, by simpa using h.ex.size, fun k hk hB => (e2.block k (Nat.lt_of_lt_of_le hk h.ex.size) (fun z => hB (by rw [show k = r from z]; exact h.rR))).trans (h.ex.block k hk hB)⟩, h.rR, ?_, h.RB, h.hB, h.ge, ?_⟩
  · by_cases z : j = i
    · subst z
      rw [up_at]
      exact ⟨fun z => by have := (hs _ z).1; omega, fun z => by have := (hs _ z).1; omega, fun z => by have := (hs _ z).1; omega⟩
    · rw [up_ne _ _ z]; exact h.nS j hj
  · intro j hj k hk
    by_cases z : j = i
    · subst z
      rw [up_at] at hk
      exact .inr (Nat.le_trans hm0 (hs k hk).1)
    · rw [up_ne _ _ z] at hk
      exact h.sR j hj k hk
  · have := h.lt
    simpa using this
theorem SW.putF (h : SW w0 w R B r q t o P S s v b (.slice none 0 0)) {m : Nat} (hS : ∀ i, i < 6 → ∀ k, S i k → k < m) (hm : q < m ∧ t < m ∧ o < m ∧ r < m) (hB : B ≤ m) {i : Nat} (hi : i < 6) {b' : Nat} {va ve : Value} {F : Fo} (hf : FF w m b' va ve F.nv F.L F.E) (hb : m ≤ b') (hm0 : w0.heap.size ≤ m) {s' : St} (hq' : ∀ j, j < 6 → up (QS B s) i (FOq B F) j = QS B s' j) : ∃ P' S', SW w0 (w.setCell ⟨r, i, none⟩ (.pointer (some ⟨b', 0, none⟩))) R B r q t o P' S' s' v b (.slice none 0 0) :=
  ⟨_, _, h.put hS hm hB hi (q' := FOq B F) (S' := fun k => k = b' ∨ va.ownBlock = some k ∨ ve.ownBlock = some k) ⟨va, ve, hf.base hB, fun k => Iff.rfl⟩ (frm_f _ _) (fun k hk => by
    rcases hk with hk | hk | hk
    · have := hf.ar.lt; omega
    · exact hf.ar.r0.lt k hk
    · exact hf.ar.r1.lt k hk) hm0 hq'⟩
theorem SW.putP (h : SW w0 w R B r q t o P S s v b (.slice none 0 0)) {m : Nat} (hS : ∀ i, i < 6 → ∀ k, S i k → k < m) (hm : q < m ∧ t < m ∧ o < m ∧ r < m) (hB : B ≤ m) {i : Nat} (hi : i < 6) {b' : Nat} {va ve vd : Value} {F : Pf} (hf : PF w m b' va ve vd F.L F.E F.D) (hb : m ≤ b') (hm0 : w0.heap.size ≤ m) {s' : St} (hq' : ∀ j, j < 6 → up (QS B s) i (POq B F) j = QS B s' j) : ∃ P' S', SW w0 (w.setCell ⟨r, i, none⟩ (.pointer (some ⟨b', 0, none⟩))) R B r q t o P' S' s' v b (.slice none 0 0) :=
  ⟨_, _, h.put hS hm hB hi (q' := POq B F) (S' := fun k => k = b' ∨ va.ownBlock = some k ∨ ve.ownBlock = some k ∨ vd.ownBlock = some k) ⟨va, ve, vd, PF.base hB hf, fun k => Iff.rfl⟩ (frm_p _ _) (fun k hk => by
    rcases hk with hk | hk | hk | hk
    · have := hf.ar.lt; omega
    · exact hf.ar.r0.lt k hk
    · exact hf.ar.r1.lt k hk
    · exact hf.r2.lt k hk) hm0 hq'⟩
theorem SW.nf2 (h : SW w0 w R B r q t o P S s v b tv) {i : Nat} (hi : i < 6) {nv : Int} {L E : List Int} {e : Ending} {b' : Nat} (hp : FcPost w B nv L E e w') (he : e = .returned (.pointer (some ⟨b', 0, none⟩))) {s' : St} (hq : ∀ j, j < 6 → up (QS B s) i (FOq B ⟨nv, L, E⟩) j = QS B s' j) : ∃ P' S', SW w0 (w'.setCell ⟨r, i, none⟩ (.pointer (some ⟨b', 0, none⟩))) R B r q t o P' S' s' v b tv := by
  obtain ⟨b2, va, ve, he2, hf, hb, h1, h2, hx⟩ := hp
  have eb : b2 = b' := by rw [he2] at he; injection he with he; injection he with he; injection he with he; injection he
  subst eb
  exact ⟨_, _, h.new hi hx (q' := FOq B ⟨nv, L, E⟩) (b' := b2) (S' := fun k => k = b2 ∨ va.ownBlock = some k ∨ ve.ownBlock = some k) ⟨va, ve, hf, fun k => Iff.rfl⟩ (frm_f _ _) (fun k hk => by
    have hB := h.szB
    rcases hk with hk | hk | hk
    · have := hf.ar.lt; omega
    · have := hf.ar.r0.lt k hk; have := h1 k hk; omega
    · have := hf.ar.r1.lt k hk; have := h2 k hk; omega) hq⟩
theorem SW.np2 (h : SW w0 w R B r q t o P S s v b tv) {i : Nat} (hi : i < 6) {L E : List Int} {D : List Bool} {e : Ending} {b' : Nat} (hp : PcPost w B L E D e w') (he : e = .returned (.pointer (some ⟨b', 0, none⟩))) {s' : St} (hq : ∀ j, j < 6 → up (QS B s) i (POq B ⟨L, E, D⟩) j = QS B s' j) : ∃ P' S', SW w0 (w'.setCell ⟨r, i, none⟩ (.pointer (some ⟨b', 0, none⟩))) R B r q t o P' S' s' v b tv := by
  obtain ⟨b2, va, ve, vd, he2, hf, hb, h1, h2, h3, hx⟩ := hp
  have eb : b2 = b' := by rw [he2] at he; injection he with he; injection he with he; injection he with he; injection he
  subst eb
  exact ⟨_, _, h.new hi hx (q' := POq B ⟨L, E, D⟩) (b' := b2) (S' := fun k => k = b2 ∨ va.ownBlock = some k ∨ ve.ownBlock = some k ∨ vd.ownBlock = some k) ⟨va, ve, vd, hf, fun k => Iff.rfl⟩ (frm_p _ _) (fun k hk => by
    have hB := h.szB
    rcases hk with hk | hk | hk | hk
    · have := hf.ar.lt; omega
    · have := hf.ar.r0.lt k hk; have := h1 k hk; omega
    · have := hf.ar.r1.lt k hk; have := h2 k hk; omega
    · have := hf.r2.lt k hk; have := h3 k hk; omega) hq⟩
theorem SW.na2 (h : SW w0 w R B r q t o P S s v b tv) {i : Nat} (hi : i < 6) {kk : Int} {V : List Int} {e : Ending} {b' : Nat} (hp : CaPost w B kk V e w') (he : e = .returned (.pointer (some ⟨b', 0, none⟩))) {s' : St} (hq : ∀ j, j < 6 → up (QS B s) i (AOq B ⟨kk, V⟩) j = QS B s' j) : ∃ P' S', SW w0 (w'.setCell ⟨r, i, none⟩ (.pointer (some ⟨b', 0, none⟩))) R B r q t o P' S' s' v b tv := by
  obtain ⟨b2, va, he2, hf, hb, h1, hx⟩ := hp
  have eb : b2 = b' := by rw [he2] at he; injection he with he; injection he with he; injection he with he; injection he
  subst eb
  exact ⟨_, _, h.new hi hx (q' := AOq B ⟨kk, V⟩) (b' := b2) (S' := fun k => k = b2 ∨ va.ownBlock = some k) ⟨va, hf, fun k => Iff.rfl⟩ (frm_a _ _) (fun k hk => by
    have hB := h.szB
    rcases hk with hk | hk
    · have := hf.lt; omega
    · have := hf.row.lt k hk; have := h1 k hk; omega) hq⟩
theorem FcPost.kept {w0 w : World} {B : Nat} {nv : Int} {L E : List Int} {e : Ending} (h : FcPost w0 B nv L E e w) : Ex (fun _ => False) w0 w := by obtain ⟨_, _, _, _, _, _, _, _, hx⟩ := h; exact hx
theorem PcPost.kept {w0 w : World} {B : Nat} {L E : List Int} {D : List Bool} {e : Ending} (h : PcPost w0 B L E D e w) : Ex (fun _ => False) w0 w := by obtain ⟨_, _, _, _, _, _, _, _, _, _, hx⟩ := h; exact hx
theorem CaPost.kept {w0 w : World} {B : Nat} {kk : Int} {V : List Int} {e : Ending} (h : CaPost w0 B kk V e w) : Ex (fun _ => False) w0 w := by obtain ⟨_, _, _, _, _, _, hx⟩ := h; exact hx
/-- a text made by a call in the world w -/
theorem SW.tx2 (h : SW w0 w R B r q t o P S s v b tv) (h' : SW w0 w' R B r q t o P S s v b tv) {tv' : Value} {X : List Int} (hr : w'.ownsRow w.heap.size 5 1 tv' X.length (X.map (Value.int .u8))) : SW w0 (w'.setCell ⟨o, 5, none⟩ tv') R B r q t o P S s v { b with X := X } tv' :=
  h'.otx (W0 := w) (fun k ⟨i, hi, hk⟩ => (h.bn.rg i hi k hk).2) ⟨h.lt.1, h.lt.2.1, h.lt.2.2, h.bn.rlt⟩ hr h.ex.size
end
/-- a row of bytes of one's own, from the base of a later world -/
theorem bg_row {w w' : World} {B : Nat} {v v' : Value} {Y : List Int} (h : BG w B v w' v' Y) : BB w' B v' Y := h.bb
/-- what a DIMACS text makes of the state -/
def DmR (T : Nat → Int) (n : Nat) (s s' : St) (b : Ob) : Prop :=
  (∃ er ln col, er ≠ 0 ∧ ((∃ p, hdP T n ⟨0, 1, 0⟩ = .bad er p ∧ ln = p.line ∧ col = colP p) ∨ (∃ hv hc p st, hdP T n ⟨0, 1, 0⟩ = .ok hv hc p ∧ FRun T n hv hc ⟨p, [], []⟩ st ∧ FOk n hv hc st ∧ fStep T n hv hc st = .bad er ln col)) ∧ s' = s ∧ b = { ob0 with er := er, ln := ln, col := col, n := s.f.E.length, m := s.f.nv }) ∨
  (∃ hv hc p st, hdP T n ⟨0, 1, 0⟩ = .ok hv hc p ∧ FRun T n hv hc ⟨p, [], []⟩ st ∧ FOk n hv hc st ∧ fStep T n hv hc st = .done ∧ s' = { s with f := ⟨hv, st.L, st.E⟩ } ∧ b = { ob0 with n := st.E.length, m := hv })
/-- what a DRAT text makes of the state -/
def DrR (T : Nat → Int) (n : Nat) (s s' : St) (b : Ob) : Prop := ∃ st, Run T n dst0 st ∧ DOk n st ∧
  ((∃ er ln col, dStep T n st = .bad er ln col ∧ er ≠ 0 ∧ s' = s ∧ b = { ob0 with er := er, ln := ln, col := col, n := s.p.E.length }) ∨
   (dStep T n st = .done ∧ s' = { s with p := ⟨st.L, st.E, st.D⟩ } ∧ b = { ob0 with n := st.E.length }))
/-- what the loads of a region read -/
def PQ (w : World) (r q : Nat) (P : Nat → Nat) (v : OpV) : Prop := (∀ i, i < 6 → w.cell? ⟨r, i, none⟩ = some (.pointer (some ⟨P i, 0, none⟩))) ∧ w.cell? ⟨q, 1, none⟩ = some (.int .i64 v.a) ∧ w.cell? ⟨q, 2, none⟩ = some (.slice v.la v.ln v.lc)
theorem SW.pq {w0 w : World} {R : Nat → Prop} {B r q t o : Nat} {P : Nat → Nat} {S : Nat → Nat → Prop} {s : St} {v : OpV} {b : Ob} {tv : Value} (h : SW w0 w R B r q t o P S s v b tv) : PQ w r q P v := ⟨h.bn.ptr, h.sc.q1, h.sc.q2⟩
theorem stat_rng (V : List Int) : ∀ (C : List Int) (fr : Int) (op : Bool), (∀ x ∈ C, LitOk x) → 0 ≤ fr ∧ fr ≤ 33554431 → 0 ≤ (statP V C fr op).2 ∧ (statP V C fr op).2 ≤ 33554431
  | [], fr, op, _, h => by
    unfold statP
    split
    · exact ⟨by decide, by decide⟩
    · split
      · exact ⟨by decide, by decide⟩
      · exact h
  | x :: C, fr, op, hC, h => by
    have hx := hC x List.mem_cons_self
    have hr : ∀ y ∈ C, LitOk y := fun y hy => hC y (List.mem_cons_of_mem _ hy)
    unfold LitOk at hx
    unfold statP
    split
    · exact ⟨by decide, by decide⟩
    · split
      · exact stat_rng V C fr op hr h
      · split
        · exact stat_rng V C x op hr (by omega)
        · exact stat_rng V C fr true hr h
theorem true_ok {k : Int} {V : List Int} (h : VOk k V) (n : Nat) : ∀ x ∈ trueP V n, LitOk x := by
  intro x hx
  unfold trueP at hx
  obtain ⟨v, hv, rfl⟩ := List.mem_map.1 hx
  obtain ⟨_, h2⟩ := List.mem_filter.1 hv
  rw [decide_eq_true_iff] at h2
  have hl : v < V.length := by
    refine Nat.lt_of_not_le (fun hle => h2.2 ?_)
    rw [List.getD_eq_getElem?_getD, List.getElem?_eq_none hle]
    rfl
  have := h.len
  unfold LitOk
  split <;> omega
theorem true_le (V : List Int) : ∀ n, ((trueP V n).length : Int) ≤ nzP V := by
  intro n
  unfold trueP nzP
  rw [List.length_map]
  have key : ∀ n, ((List.range n).filter (fun v : Nat => decide (1 ≤ v ∧ V.getD v 0 ≠ 0))).length ≤ ((V.take n).filter (fun x => x != 0)).length := by
    intro n
    induction n with
    | zero => simp
    | succ n ih =>
      rw [List.range_succ, List.filter_append, List.length_append, List.take_add_one, List.filter_append, List.length_append]
      have : ([n].filter (fun v : Nat => decide (1 ≤ v ∧ V.getD v 0 ≠ 0))).length ≤ ((V[n]?.toList).filter (fun x => x != 0)).length := by
        rw [List.filter_cons]
        split
        · rename_i hd
          rw [decide_eq_true_iff, List.getD_eq_getElem?_getD] at hd
          cases hn : V[n]? with
          | none => rw [hn] at hd; exact absurd rfl hd.2
          | some x =>
            rw [hn] at hd
            have : x ≠ 0 := hd.2
            simp [this]
        · simp
      omega
  have h1 := key n
  have h2 : ((V.take n).filter (fun x : Int => x != 0)).length ≤ (V.filter (fun x : Int => x != 0)).length := by
    have : (V.take n).Sublist V := List.take_sublist n V
    exact (this.filter _).length_le
  omega
theorem eval_rng (V C : List Int) : ∀ s, -1 ≤ s ∧ s ≤ 1 → -1 ≤ evalP V C s ∧ evalP V C s ≤ 1 := by
  induction C with
  | nil => intro s h; exact h
  | cons x C ih =>
    intro s h
    unfold evalP
    split
    · omega
    · split
      · exact ih 0 (by omega)
      · exact ih s h
theorem ec_rng (V L E : List Int) (i : Int) : -1 ≤ (ecP V L E i).1 ∧ (ecP V L E i).1 ≤ 1 := by
  unfold ecP
  split
  · exact eval_rng V _ (-1) (by omega)
  · exact ⟨by decide, by decide⟩
theorem fe_rng (V L E : List Int) : ∀ n i s, -1 ≤ s ∧ s ≤ 1 → -1 ≤ feP V L E i n s ∧ feP V L E i n s ≤ 1
  | 0, _, s, h => h
  | n + 1, i, s, h => by
    unfold feP
    split
    · omega
    · split
      · exact fe_rng V L E n (i + 1) 0 (by omega)
      · exact fe_rng V L E n (i + 1) s h
theorem sc_rng (V L E : List Int) (i : Int) (hL : ∀ x ∈ L, LitOk x) : 0 ≤ (scP V L E i).2.1 ∧ (scP V L E i).2.1 ≤ 33554431 := by
  unfold scP
  split
  · exact stat_rng V _ 0 false (clP_ok hL _) (by omega)
  · exact ⟨by decide, by decide⟩
end Go.Proofs.Qxb6500773aGreat
