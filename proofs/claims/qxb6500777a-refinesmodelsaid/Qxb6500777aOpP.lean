import Derived.Test.Qxb6500777aInv
namespace Go.Proofs.Qxb6500777a

/-! ### Numbers and hidden targets: lists of entries -/
/-- Two monotone assignments of the same keys to the same numbers are one. -/
theorem mono_unique {A B : List (Int × Int)} (h1 : (A.map Prod.fst).Perm (B.map Prod.fst)) (h2 : (A.map Prod.snd).Perm (B.map Prod.snd))
    (mA : ∀ p ∈ A, ∀ q ∈ A, p.1 < q.1 → p.2 ≤ q.2) (mB : ∀ p ∈ B, ∀ q ∈ B, p.1 < q.1 → p.2 ≤ q.2)
    (dA : ∀ p ∈ A, ∀ q ∈ A, p.1 = q.1 → p = q) (dB : ∀ p ∈ B, ∀ q ∈ B, p.1 = q.1 → p = q) : ∀ p ∈ A, p ∈ B := by
  -- no key at B is greater than the one at A
  have key : ∀ {A B : List (Int × Int)}, (A.map Prod.fst).Perm (B.map Prod.fst) → (A.map Prod.snd).Perm (B.map Prod.snd) →
      (∀ p ∈ A, ∀ q ∈ A, p.1 < q.1 → p.2 ≤ q.2) → (∀ p ∈ B, ∀ q ∈ B, p.1 < q.1 → p.2 ≤ q.2) →
      (∀ p ∈ A, ∀ q ∈ A, p.1 = q.1 → p = q) → (∀ p ∈ B, ∀ q ∈ B, p.1 = q.1 → p = q) → ∀ n a b, (n, a) ∈ A → (n, b) ∈ B → ¬ a < b := by
    intro A B h1 h2 mA mB dA dB n a b ha hb hab
    have c1 : A.countP (fun p => decide (p.1 ≤ n)) ≤ A.countP (fun p => decide (p.2 ≤ a)) := by
      refine List.countP_mono_left fun p hp h => ?_
      simp only [decide_eq_true_eq] at h ⊢
      rcases Int.lt_or_eq_of_le h with h | h
      · exact mA p hp _ ha h
      · have := dA p hp _ ha h; subst this; exact Int.le_refl _
    have c2 : B.countP (fun p => decide (p.2 ≤ a)) ≤ B.countP (fun p => decide (p.1 < n)) := by
      refine List.countP_mono_left fun p hp h => ?_
      simp only [decide_eq_true_eq] at h ⊢
      rcases Int.lt_trichotomy p.1 n with h' | h' | h'
      · exact h'
      · have := dB p hp _ hb h'; subst this; exact absurd hab (by dsimp only at h; omega)
      · have := mB _ hb p hp h'; dsimp only at this; omega
    have c3 : B.countP (fun p => decide (p.1 < n)) + 1 ≤ B.countP (fun p => decide (p.1 ≤ n)) := by
      obtain ⟨s, t, rfl⟩ := List.append_of_mem hb
      rw [List.countP_append, List.countP_append, List.countP_cons, List.countP_cons, if_neg (by simp), if_pos (by simp)]
      have q1 : s.countP (fun p : Int × Int => decide (p.1 < n)) ≤ s.countP (fun p => decide (p.1 ≤ n)) := List.countP_mono_left fun p _ h => by simp at h ⊢; omega
      have q2 : t.countP (fun p : Int × Int => decide (p.1 < n)) ≤ t.countP (fun p => decide (p.1 ≤ n)) := List.countP_mono_left fun p _ h => by simp at h ⊢; omega
      omega
    have e1 : A.countP (fun p => decide (p.1 ≤ n)) = B.countP (fun p => decide (p.1 ≤ n)) := by
      have := h1.countP_eq (fun x => decide (x ≤ n))
      rw [List.countP_map, List.countP_map] at this
      exact this
    have e2 : A.countP (fun p => decide (p.2 ≤ a)) = B.countP (fun p => decide (p.2 ≤ a)) := by
      have := h2.countP_eq (fun x => decide (x ≤ a))
      rw [List.countP_map, List.countP_map] at this
      exact this
    omega
  rintro ⟨n, a⟩ ha
  obtain ⟨⟨n', b⟩, hb, e⟩ := List.mem_map.1 (h1.mem_iff.1 (List.mem_map.2 ⟨_, ha, rfl⟩))
  dsimp only at e
  subst e
  have k1 := key h1 h2 mA mB dA dB _ _ _ ha hb
  have k2 := key h1.symm h2.symm mB mA dB dA _ _ _ hb ha
  have : a = b := by omega
  subst this
  exact hb
theorem nodup_map {α β : Type} {f : α → β} : ∀ {L : List α}, L.Pairwise (fun a b => f a ≠ f b) → (L.map f).Nodup
  | L, h => by unfold List.Nodup; rw [List.pairwise_map]; exact h
theorem pairwise_inj {α β : Type} {f : α → β} : ∀ {L : List α}, L.Pairwise (fun a b => f a ≠ f b) → ∀ a ∈ L, ∀ b ∈ L, f a = f b → a = b
  | [], _, a, ha, _, _, _ => by cases ha
  | x :: L, h, a, ha, b, hb, e => by
    rw [List.pairwise_cons] at h
    rcases List.mem_cons.1 ha with rfl | ha2
    · rcases List.mem_cons.1 hb with rfl | hb2
      · rfl
      · exact absurd e (h.1 b hb2)
    · rcases List.mem_cons.1 hb with rfl | hb2
      · exact absurd e.symm (h.1 a ha2)
      · exact pairwise_inj h.2 a ha2 b hb2 e
/-- A list of entries: numbers and targets differ. -/
structure EOk (E : List Slt) : Prop where
  ok : ∀ s ∈ E, SltOk s
  us : ∀ s ∈ E, s.used = true
  nu : E.Pairwise (fun a b => a.tr.num ≠ b.tr.num)
  tg : E.Pairwise (fun a b => a.tg ≠ b.tg)
theorem EOk.num {E : List Slt} (h : EOk E) {a b : Slt} (ha : a ∈ E) (hb : b ∈ E) (e : a.tr.num = b.tr.num) : a = b := pairwise_inj h.nu a ha b hb e
theorem EOk.tgt {E : List Slt} (h : EOk E) {a b : Slt} (ha : a ∈ E) (hb : b ∈ E) (e : a.tg = b.tg) : a = b := pairwise_inj h.tg a ha b hb e
/-- What the numbers show; what the targets are bound to. -/
def NK (E : List Slt) (n k : Int) : Prop := ∃ s ∈ E, s.tr.num = n ∧ keyP s = k
def GK (E : List Slt) (t k : Int) : Prop := ∃ s ∈ E, s.tg = t ∧ keyP s = k
/-- A renaming of the targets. -/
structure Ren (σ : Int → Int) : Prop where
  inj : ∀ a b, σ a = σ b → a = b
  sur : ∀ b, 0 ≤ b → b < 112 → ∃ a, 0 ≤ a ∧ a < 112 ∧ σ a = b
  rng : ∀ a, 0 ≤ a → a < 112 → 0 ≤ σ a ∧ σ a < 112
/-- Two lists show the same, up to the targets' names. -/
structure Rel (σ : Int → Int) (E F : List Slt) : Prop where
  n : ∀ n k, NK E n k ↔ NK F n k
  g : ∀ t k, 0 ≤ t → t < 112 → (GK E t k ↔ GK F (σ t) k)
theorem key_ext {a b : Slt} (ha : SltOk a) (hb : SltOk b) (e : keyP a = keyP b) : a.sk = b.sk ∧ a.tr.x = b.tr.x ∧ a.tr.y = b.tr.y ∧ a.tr.co = b.tr.co ∧ a.tr.sp = b.tr.sp ∧ a.tr.st = b.tr.st ∧ a.tr.ag = b.tr.ag := by
  have h1 := ha.tr.x; have h2 := ha.tr.y; have h3 := ha.tr.co; have h4 := ha.tr.sp; have h5 := ha.tr.st; have h6 := ha.tr.ag; have h7 := ha.sk
  have k1 := hb.tr.x; have k2 := hb.tr.y; have k3 := hb.tr.co; have k4 := hb.tr.sp; have k5 := hb.tr.st; have k6 := hb.tr.ag; have k7 := hb.sk
  unfold keyP at e
  have e1 : a.sk = b.sk := by omega
  have e2 : a.tr.st = b.tr.st := by omega
  have e3 : a.tr.sp = b.tr.sp := by omega
  have e4 : a.tr.co = b.tr.co := by omega
  have e5 : a.tr.y = b.tr.y := by omega
  have e6 : a.tr.x = b.tr.x := by omega
  exact ⟨e1, e6, e5, e4, e3, e2, by omega⟩
theorem key_trk {a b : Slt} (ha : SltOk a) (hb : SltOk b) (e : keyP a = keyP b) (hn : a.tr.num = b.tr.num) : a.tr = b.tr := by
  obtain ⟨h1, h2, h3, h4, h5, h6, h7⟩ := key_ext ha hb e
  obtain ⟨u, t, s, ⟨n, x, y, c, p, st, ag⟩⟩ := a
  obtain ⟨u', t', s', ⟨n', x', y', c', p', st', ag'⟩⟩ := b
  dsimp only at *
  subst hn h2 h3 h4 h5 h6 h7
  rfl
section
variable {σ : Int → Int} {E F : List Slt}
/-- The same many. -/
theorem Rel.len (h : Rel σ E F) (hE : EOk E) (hF : EOk F) : E.length = F.length := by
  have p : (E.map (fun s => s.tr.num)).Perm (F.map (fun s => s.tr.num)) := by
    rw [List.perm_ext_iff_of_nodup (nodup_map hE.nu) (nodup_map hF.nu)]
    intro n
    rw [List.mem_map, List.mem_map]
    constructor
    · rintro ⟨s, hs, rfl⟩
      obtain ⟨f, hf, e, _⟩ := (h.n s.tr.num (keyP s)).1 ⟨s, hs, rfl, rfl⟩
      exact ⟨f, hf, e⟩
    · rintro ⟨s, hs, rfl⟩
      obtain ⟨f, hf, e, _⟩ := (h.n s.tr.num (keyP s)).2 ⟨s, hs, rfl, rfl⟩
      exact ⟨f, hf, e⟩
  have := p.length_eq
  rwa [List.length_map, List.length_map] at this
/-- What is filtered by the key alone. -/
theorem Rel.filt (h : Rel σ E F) {E' F' : List Slt} {p : Slt → Prop} (hp : ∀ s ∈ E, ∀ t ∈ F, keyP s = keyP t → (p s ↔ p t)) (hE : ∀ s, s ∈ E' ↔ s ∈ E ∧ p s) (hF : ∀ s, s ∈ F' ↔ s ∈ F ∧ p s) : Rel σ E' F' := by
  constructor
  · intro n k
    constructor
    · rintro ⟨s, hs, e1, e2⟩
      obtain ⟨hs, ps⟩ := (hE s).1 hs
      obtain ⟨t, ht, f1, f2⟩ := (h.n n k).1 ⟨s, hs, e1, e2⟩
      exact ⟨t, (hF t).2 ⟨ht, (hp s hs t ht (e2.trans f2.symm)).1 ps⟩, f1, f2⟩
    · rintro ⟨t, ht, f1, f2⟩
      obtain ⟨ht, pt⟩ := (hF t).1 ht
      obtain ⟨s, hs, e1, e2⟩ := (h.n n k).2 ⟨t, ht, f1, f2⟩
      exact ⟨s, (hE s).2 ⟨hs, (hp s hs t ht (e2.trans f2.symm)).2 pt⟩, e1, e2⟩
  · intro x k h0 h1
    constructor
    · rintro ⟨s, hs, e1, e2⟩
      obtain ⟨hs, ps⟩ := (hE s).1 hs
      obtain ⟨t, ht, f1, f2⟩ := (h.g x k h0 h1).1 ⟨s, hs, e1, e2⟩
      exact ⟨t, (hF t).2 ⟨ht, (hp s hs t ht (e2.trans f2.symm)).1 ps⟩, f1, f2⟩
    · rintro ⟨t, ht, f1, f2⟩
      obtain ⟨ht, pt⟩ := (hF t).1 ht
      obtain ⟨s, hs, e1, e2⟩ := (h.g x k h0 h1).2 ⟨t, ht, f1, f2⟩
      exact ⟨s, (hE s).2 ⟨hs, (hp s hs t ht (e2.trans f2.symm)).2 pt⟩, e1, e2⟩
end
/-- A tick's turn of the entries, with the twins settled: each new entry bears the number of one old one and follows the target of a twin of it. -/
structure SetL (obs : Slt → Slt) (E S : List Slt) : Prop where
  of : ∀ s ∈ S, ∃ a ∈ E, ∃ b ∈ E, keyP a = keyP b ∧ s = numd (obs b) a.tr.num
  tg : ∀ b ∈ E, ∃ s ∈ S, ∃ a ∈ E, keyP a = keyP b ∧ s = numd (obs b) a.tr.num
  nu : ∀ a ∈ E, ∃ s ∈ S, s.tr.num = a.tr.num
  mo : ∀ s ∈ S, ∀ s' ∈ S, ∀ a ∈ E, ∀ a' ∈ E, s.tr.num = a.tr.num → s'.tr.num = a'.tr.num → keyP a = keyP a' → s.tr.num < s'.tr.num → keyP s ≤ keyP s'
/-- The new entries whose number was of the key k. -/
def clsL (E S : List Slt) (k : Int) : List Slt := S.filter (fun s => E.any (fun a => decide (a.tr.num = s.tr.num) && decide (keyP a = k)))
theorem cls_mem {E S : List Slt} {k : Int} {s : Slt} : s ∈ clsL E S k ↔ s ∈ S ∧ ∃ a ∈ E, a.tr.num = s.tr.num ∧ keyP a = k := by
  unfold clsL
  rw [List.mem_filter, List.any_eq_true]
  simp only [Bool.and_eq_true, decide_eq_true_eq]
section
variable {σ : Int → Int} {o1 o2 : Slt → Slt} {E F S R : List Slt}
theorem SetL.cls_tg (h : SetL o1 E S) (hE : EOk E) (ho : ∀ s ∈ E, (o1 s).tg = s.tg) {k t : Int} : (∃ s ∈ clsL E S k, s.tg = t) ↔ GK E t k := by
  constructor
  · rintro ⟨s, hs, rfl⟩
    obtain ⟨hs, a, ha, e1, e2⟩ := cls_mem.1 hs
    obtain ⟨a', ha', b, hb, e3, e4⟩ := h.of s hs
    have : a = a' := hE.num ha ha' (by rw [e1, e4]; rfl)
    subst this
    exact ⟨b, hb, by rw [e4, ← ho b hb]; rfl, by rw [← e3, e2]⟩
  · rintro ⟨b, hb, rfl, rfl⟩
    obtain ⟨s, hs, a, ha, e1, e2⟩ := h.tg b hb
    exact ⟨s, cls_mem.2 ⟨hs, a, ha, by rw [e2]; rfl, e1⟩, by rw [e2, ← ho b hb]; rfl⟩
theorem SetL.cls_nu (h : SetL o1 E S) {k n : Int} : (∃ s ∈ clsL E S k, s.tr.num = n) ↔ NK E n k := by
  constructor
  · rintro ⟨s, hs, rfl⟩
    obtain ⟨hs, a, ha, e1, e2⟩ := cls_mem.1 hs
    exact ⟨a, ha, e1, e2⟩
  · rintro ⟨a, ha, rfl, rfl⟩
    obtain ⟨s, hs, e⟩ := h.nu a ha
    exact ⟨s, cls_mem.2 ⟨hs, a, ha, e.symm, rfl⟩, e⟩
theorem SetL.cls_mo (h : SetL o1 E S) {k : Int} : ∀ p ∈ (clsL E S k).map (fun s => (s.tr.num, keyP s)), ∀ q ∈ (clsL E S k).map (fun s => (s.tr.num, keyP s)), p.1 < q.1 → p.2 ≤ q.2 := by
  intro p hp q hq hl
  obtain ⟨s, hs, rfl⟩ := List.mem_map.1 hp
  obtain ⟨s', hs', rfl⟩ := List.mem_map.1 hq
  obtain ⟨hs, a, ha, e1, e2⟩ := cls_mem.1 hs
  obtain ⟨hs', a', ha', f1, f2⟩ := cls_mem.1 hs'
  exact h.mo s hs s' hs' a ha a' ha' e1.symm f1.symm (e2.trans f2.symm) hl
theorem cls_inj (hS : EOk S) {k : Int} : ∀ p ∈ (clsL E S k).map (fun s => (s.tr.num, keyP s)), ∀ q ∈ (clsL E S k).map (fun s => (s.tr.num, keyP s)), p.1 = q.1 → p = q := by
  intro p hp q hq e
  obtain ⟨s, hs, rfl⟩ := List.mem_map.1 hp
  obtain ⟨s', hs', rfl⟩ := List.mem_map.1 hq
  rw [hS.num (cls_mem.1 hs).1 (cls_mem.1 hs').1 e]
/-- The settled entries of two lists that show the same show the same. -/
theorem SetL.rel (hσ : Ren σ) (h : Rel σ E F) (hE : EOk E) (hF : EOk F) (hS : EOk S) (hR : EOk R) (h1 : SetL o1 E S) (h2 : SetL o2 F R)
    (t1 : ∀ s ∈ E, (o1 s).tg = s.tg) (t2 : ∀ s ∈ F, (o2 s).tg = s.tg)
    (ho : ∀ a ∈ E, ∀ b ∈ F, b.tg = σ a.tg → keyP a = keyP b → keyP (o1 a) = keyP (o2 b)) : Rel σ S R := by
  -- the targets
  have hg : ∀ t k, 0 ≤ t → t < 112 → (GK S t k ↔ GK R (σ t) k) := by
    intro t k h0 h1'
    constructor
    · rintro ⟨s, hs, rfl, rfl⟩
      obtain ⟨a, ha, b, hb, e1, e2⟩ := h1.of s hs
      have htb : s.tg = b.tg := by rw [e2, ← t1 b hb]; rfl
      obtain ⟨c, hc, f1, f2⟩ := (h.g b.tg (keyP b) (by rw [← htb]; exact h0) (by rw [← htb]; exact h1')).1 ⟨b, hb, rfl, rfl⟩
      obtain ⟨r, hr, a2, _, _, g2⟩ := h2.tg c hc
      exact ⟨r, hr, by rw [g2, htb, ← f1, ← t2 c hc]; rfl, by rw [g2, e2, key_numd, key_numd]; exact (ho b hb c hc f1 f2.symm).symm⟩
    · rintro ⟨r, hr, e, rfl⟩
      obtain ⟨a, ha, c, hc, e1, e2⟩ := h2.of r hr
      have htc : c.tg = σ t := by rw [← e, e2, ← t2 c hc]; rfl
      obtain ⟨b, hb, f1, f2⟩ := (h.g t (keyP c) h0 h1').2 ⟨c, hc, htc, rfl⟩
      obtain ⟨s, hs, a2, _, _, g2⟩ := h1.tg b hb
      exact ⟨s, hs, by rw [g2, ← f1, ← t1 b hb]; rfl, by rw [g2, e2, key_numd, key_numd]; exact ho b hb c hc (by rw [f1, htc]) f2⟩
  -- class by class
  have hc1 : ∀ k, (((clsL E S k).map (fun s => (s.tr.num, keyP s))).map Prod.fst).Perm (((clsL F R k).map (fun s => (s.tr.num, keyP s))).map Prod.fst) := by
    intro k
    rw [List.map_map, List.map_map]
    show ((clsL E S k).map (fun s => s.tr.num)).Perm ((clsL F R k).map (fun s => s.tr.num))
    rw [List.perm_ext_iff_of_nodup (nodup_map (show (clsL E S k).Pairwise _ from hS.nu.filter _)) (nodup_map (show (clsL F R k).Pairwise _ from hR.nu.filter _))]
    intro n
    rw [List.mem_map, List.mem_map, h1.cls_nu, h2.cls_nu]
    exact h.n n k
  have hc2 : ∀ k, (((clsL E S k).map (fun s => (s.tr.num, keyP s))).map Prod.snd).Perm (((clsL F R k).map (fun s => (s.tr.num, keyP s))).map Prod.snd) := by
    intro k
    rw [List.map_map, List.map_map]
    show ((clsL E S k).map keyP).Perm ((clsL F R k).map keyP)
    have p1 : ((clsL E S k).map (fun s => (σ s.tg, keyP s))).Perm ((clsL F R k).map (fun s => (s.tg, keyP s))) := by
      rw [List.perm_ext_iff_of_nodup (nodup_map (show (clsL E S k).Pairwise _ from (hS.tg.filter _).imp (fun h e => h (hσ.inj _ _ (congrArg Prod.fst e))))) (nodup_map (show (clsL F R k).Pairwise _ from (hR.tg.filter _).imp (fun h e => h (congrArg Prod.fst e))))]
      rintro ⟨x, y⟩
      rw [List.mem_map, List.mem_map]
      constructor
      · rintro ⟨s, hs, e⟩
        cases e
        have hsS := (cls_mem.1 hs).1
        have hst := (hS.ok s hsS).tg
        have q1 := (h1.cls_tg hE t1).1 ⟨s, hs, rfl⟩
        obtain ⟨r, hr, q3⟩ := (h2.cls_tg hF t2).2 ((h.g _ _ hst.1 hst.2).1 q1)
        obtain ⟨r2, hr2, g1, g2⟩ := (hg s.tg (keyP s) hst.1 hst.2).1 ⟨s, hsS, rfl, rfl⟩
        have : r = r2 := hR.tgt (cls_mem.1 hr).1 hr2 (by rw [q3, g1])
        subst this
        exact ⟨r, hr, by rw [q3, g2]⟩
      · rintro ⟨r, hr, e⟩
        cases e
        have hrR := (cls_mem.1 hr).1
        have hrt := (hR.ok r hrR).tg
        obtain ⟨t, ht0, ht1, et⟩ := hσ.sur r.tg hrt.1 hrt.2
        have q1 := (h2.cls_tg hF t2).1 ⟨r, hr, rfl⟩
        rw [← et] at q1
        obtain ⟨s, hs, q3⟩ := (h1.cls_tg hE t1).2 ((h.g _ _ ht0 ht1).2 q1)
        obtain ⟨s2, hs2, g1, g2⟩ := (hg t (keyP r) ht0 ht1).2 ⟨r, hrR, et.symm, rfl⟩
        have : s = s2 := hS.tgt (cls_mem.1 hs).1 hs2 (by rw [q3, g1])
        subst this
        exact ⟨s, hs, by rw [q3, et, g2]⟩
    have := p1.map Prod.snd
    rw [List.map_map, List.map_map] at this
    exact this
  refine ⟨fun n k => ⟨?_, ?_⟩, hg⟩
  · rintro ⟨s, hs, rfl, rfl⟩
    obtain ⟨a, ha, b, hb, e1, e2⟩ := h1.of s hs
    have hm : s ∈ clsL E S (keyP a) := cls_mem.2 ⟨hs, a, ha, by rw [e2]; rfl, rfl⟩
    have := mono_unique (hc1 (keyP a)) (hc2 (keyP a)) h1.cls_mo h2.cls_mo (cls_inj hS) (cls_inj hR) _ (List.mem_map.2 ⟨s, hm, rfl⟩)
    obtain ⟨r, hr, e⟩ := List.mem_map.1 this
    exact ⟨r, (cls_mem.1 hr).1, congrArg Prod.fst e, congrArg Prod.snd e⟩
  · rintro ⟨s, hs, rfl, rfl⟩
    obtain ⟨a, ha, b, hb, e1, e2⟩ := h2.of s hs
    have hm : s ∈ clsL F R (keyP a) := cls_mem.2 ⟨hs, a, ha, by rw [e2]; rfl, rfl⟩
    have := mono_unique (hc1 (keyP a)).symm (hc2 (keyP a)).symm h2.cls_mo h1.cls_mo (cls_inj hR) (cls_inj hS) _ (List.mem_map.2 ⟨s, hm, rfl⟩)
    obtain ⟨r, hr, e⟩ := List.mem_map.1 this
    exact ⟨r, (cls_mem.1 hr).1, congrArg Prod.fst e, congrArg Prod.snd e⟩
end
end Go.Proofs.Qxb6500777a
