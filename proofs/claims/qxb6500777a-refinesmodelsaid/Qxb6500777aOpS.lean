import Derived.Test.Qxb6500777aOpR
import Derived.Test.Qxb6500777aLfP
namespace Go.Proofs.Qxb6500777a

/-! ### The names -/
structure PN (f : Nat → Int) : Prop where
  rng : ∀ t, t < 112 → 0 ≤ f t ∧ f t < 112
  inj : ∀ i j, i < 112 → j < 112 → f i = f j → i = j
  sur : ∀ b : Nat, b < 112 → ∃ a, a < 112 ∧ f a = b
theorem PN.id : PN (fun t => (t : Int)) := ⟨fun t ht => by omega, fun i j _ _ e => by omega, fun b hb => ⟨b, hb, rfl⟩⟩
theorem PN.swap {f : Nat → Int} (h : PN f) {a c : Nat} (ha : a < 112) (hc : c < 112) : PN (upd (upd f a (f c)) c (f a)) := by
  have e : ∀ i, upd (upd f a (f c)) c (f a) i = f (if i = c then a else if i = a then c else i) := fun i => by
    by_cases h1 : i = c
    · subst h1; rw [upd_same, if_pos rfl]
    · rw [upd_ne _ _ h1, if_neg h1]
      by_cases h2 : i = a
      · subst h2; rw [upd_same, if_pos rfl]
      · rw [upd_ne _ _ h2, if_neg h2]
  have hl : ∀ i, i < 112 → (if i = c then a else if i = a then c else i) < 112 := fun i hi => by split; exact ha; split; exact hc; exact hi
  have hii : ∀ i, (if (if i = c then a else if i = a then c else i) = c then a else if (if i = c then a else if i = a then c else i) = a then c else (if i = c then a else if i = a then c else i)) = i := fun i => by
    by_cases h1 : i = c
    · subst h1
      rw [if_pos rfl]
      by_cases h2 : a = i
      · rw [if_pos h2]; exact h2
      · rw [if_neg h2, if_pos rfl]
    · rw [if_neg h1]
      by_cases h2 : i = a
      · rw [if_pos h2, if_pos rfl]; exact h2.symm
      · rw [if_neg h2, if_neg h1, if_neg h2]
  refine ⟨fun t ht => by rw [e]; exact h.rng _ (hl t ht), fun i j hi hj hij => ?_, fun b hb => ?_⟩
  · rw [e, e] at hij
    have := h.inj _ _ (hl i hi) (hl j hj) hij
    rw [← hii i, ← hii j, this]
  · obtain ⟨x, hx, ex⟩ := h.sur b hb
    exact ⟨_, hl x hx, by rw [e, hii]; exact ex⟩
/-- The renaming that the names spell. -/
def rnP (f : Nat → Int) (t : Int) : Int := if 0 ≤ t ∧ t < 112 then f t.toNat else t
theorem sg_at {f : Nat → Int} {t : Nat} (ht : t < 112) : rnP f (t : Int) = f t := by
  unfold rnP
  rw [if_pos ⟨by omega, by omega⟩, Int.toNat_natCast]
theorem PN.ren {f : Nat → Int} (h : PN f) : Ren (rnP f) := by
  have key : ∀ t, 0 ≤ t → t < 112 → 0 ≤ rnP f t ∧ rnP f t < 112 := fun t h0 h1 => by
    unfold rnP
    rw [if_pos ⟨h0, h1⟩]
    exact h.rng _ (by omega)
  refine ⟨fun a b e => ?_, fun b h0 h1 => ?_, key⟩
  · by_cases ha : 0 ≤ a ∧ a < 112
    · by_cases hb : 0 ≤ b ∧ b < 112
      · unfold rnP at e
        rw [if_pos ha, if_pos hb] at e
        have := h.inj _ _ (by omega) (by omega) e
        omega
      · have := key a ha.1 ha.2
        rw [e] at this
        unfold rnP at this
        rw [if_neg hb] at this
        exact absurd this hb
    · by_cases hb : 0 ≤ b ∧ b < 112
      · have := key b hb.1 hb.2
        rw [← e] at this
        unfold rnP at this
        rw [if_neg ha] at this
        exact absurd this ha
      · unfold rnP at e
        rw [if_neg ha, if_neg hb] at e
        exact e
  · obtain ⟨a, ha, e⟩ := h.sur b.toNat (by omega)
    exact ⟨a, by omega, by omega, by rw [sg_at ha, e]; omega⟩
/-! ### A renamed step -/
def rnO (f : Nat → Int) (op : Opn) : Opn := if op.kd = 0 then { op with a := f (op.a % 112).toNat } else if op.kd = 1 then { op with b := f (op.b % 112).toNat } else op
theorem rn_kd (f : Nat → Int) (op : Opn) : (rnO f op).kd = op.kd := by
  unfold rnO
  split
  · rfl
  · split <;> rfl
/-- The worlds, the reports of the two runs. -/
def WRel (f : Nat → Int) (W V : Nat → Tgt) : Prop := ∀ t, t < 112 → V (f t).toNat = W t
def GRel (f : Nat → Int) (G K : Nat → Int) : Prop := ∀ tm t k : Nat, tm < 4 → t < 112 → k < 4 → K (tm * 448 + (f t).toNat * 4 + k) = G (tm * 448 + t * 4 + k)
section
variable {f : Nat → Int} (h : PN f)
include h
theorem rn_ok {op : Opn} (ho : OpnOk op) : OpnOk (rnO f op) := by
  unfold rnO
  split
  · have := h.rng (op.a % 112).toNat (by omega)
    exact ⟨⟨by dsimp only; omega, by dsimp only; omega⟩, ho.b, ho.c, ho.d⟩
  · split
    · have := h.rng (op.b % 112).toNat (by omega)
      exact ⟨ho.a, ⟨by dsimp only; omega, by dsimp only; omega⟩, ho.c, ho.d⟩
    · exact ho
theorem WRel.step {W V : Nat → Tgt} (hr : WRel f W V) (op : Opn) : WRel f (wstP W op) (wstP V (rnO f op)) := fun t ht => by
  unfold wstP
  rw [rn_kd]
  by_cases hk : op.kd = 0
  · rw [if_pos hk, if_pos hk]
    have hi : (op.a % 112).toNat < 112 := by omega
    have e1 : (rnO f op).a = f (op.a % 112).toNat := by unfold rnO; rw [if_pos hk]
    have e2 : (rnO f op).b = op.b ∧ (rnO f op).c = op.c ∧ (rnO f op).d = op.d ∧ (rnO f op).e = op.e := by unfold rnO; rw [if_pos hk]; exact ⟨rfl, rfl, rfl, rfl⟩
    have r1 := h.rng _ hi
    have r2 := h.rng t ht
    rw [e1, e2.1, e2.2.1, e2.2.2.1, e2.2.2.2, Int.emod_eq_of_lt r1.1 r1.2]
    by_cases e : t = (op.a % 112).toNat
    · subst e; rw [upd_same, upd_same]
    · rw [upd_ne _ _ e, upd_ne _ _ (fun z => e (h.inj t _ ht hi (by omega)))]
      exact hr t ht
  · rw [if_neg hk, if_neg hk]
    exact hr t ht
theorem GRel.step {G K : Nat → Int} (hr : GRel f G K) (op : Opn) : GRel f (pstP G op) (pstP K (rnO f op)) := fun tm t k h1 h2 h3 => by
  unfold pstP
  rw [rn_kd]
  by_cases hk : op.kd = 1
  · rw [if_pos hk, if_pos hk]
    have hi : (op.b % 112).toNat < 112 := by omega
    have e1 : (rnO f op).b = f (op.b % 112).toNat := by unfold rnO; rw [if_neg (by omega), if_pos hk]
    have e2 : (rnO f op).a = op.a ∧ (rnO f op).c = op.c ∧ (rnO f op).d = op.d := by unfold rnO; rw [if_neg (by omega), if_pos hk]; exact ⟨rfl, rfl, rfl⟩
    have r1 := h.rng _ hi
    have r2 := h.rng t h2
    rw [e1, e2.1, e2.2.1, e2.2.2, Int.emod_eq_of_lt r1.1 r1.2]
    by_cases e : tm * 448 + t * 4 + k = (op.a % 4).toNat * 448 + (op.b % 112).toNat * 4 + (op.c % 4).toNat
    · have e3 : t = (op.b % 112).toNat := by omega
      rw [e, upd_same]
      rw [show tm * 448 + (f t).toNat * 4 + k = (op.a % 4).toNat * 448 + (f (op.b % 112).toNat).toNat * 4 + (op.c % 4).toNat by rw [← e3]; omega, upd_same]
    · rw [upd_ne _ _ e, upd_ne _ _ (fun z => e (by
        have : (f t).toNat = (f (op.b % 112).toNat).toNat := by omega
        have := h.inj t _ h2 hi (by omega)
        rw [← this] at z ⊢
        omega))]
      exact hr tm t k h1 h2 h3
  · rw [if_neg hk, if_neg hk]
    by_cases hk2 : op.kd = 2
    · rw [if_pos hk2, if_pos hk2]
    · rw [if_neg hk2, if_neg hk2]; exact hr tm t k h1 h2 h3
end
theorem ls_mem {G : Nat → Int} : ∀ n d, d ∈ lsN G n ↔ ∃ i, i < n ∧ 0 < G i ∧ d = detN G i
  | 0, d => by simp [lsN]
  | n + 1, d => by
    rw [lsN, List.mem_append, ls_mem n d]
    constructor
    · rintro (⟨i, h1, h2⟩ | h)
      · exact ⟨i, by omega, h2⟩
      · split at h
        · next hp => rw [List.mem_singleton] at h; exact ⟨n, by omega, hp, h⟩
        · cases h
    · rintro ⟨i, h1, h2, h3⟩
      rcases (by omega : i = n ∨ i < n) with rfl | z
      · right; rw [if_pos h2]; exact List.mem_singleton.2 h3
      · exact .inl ⟨i, z, h2, h3⟩
theorem fuse_up {G K : Nat → Int} {tm t s : Nat} (hs : s < 112) (hK : ∀ i, 0 ≤ K i ∧ K i ≤ 3) (hr : ∀ k, k < 4 → K (tm * 448 + s * 4 + k) = G (tm * 448 + t * 4 + k)) : fuseP (lsN G 1792) (tm : Int) t ≤ fuseP (lsN K 1792) (tm : Int) s := by
  rcases fuse_att (lsN G 1792) (tm : Int) t with e | ⟨d, hd, d1, d2, d3, d4⟩
  · rw [e]; exact (fuse_rng _ _ _).1
  · obtain ⟨i, hi, hp, rfl⟩ := (ls_mem 1792 d).1 hd
    have q1 : i / 448 = tm := by have : ((i / 448 : Nat) : Int) = tm := d1; omega
    have q2 : i % 448 / 4 = t := by have : ((i % 448 / 4 : Nat) : Int).toNat = t := d3; omega
    have q3 : G i = fuseP (lsN G 1792) (tm : Int) t := d4
    have ei : tm * 448 + t * 4 + i % 4 = i := by omega
    have hk := hr (i % 4) (by omega)
    rw [ei] at hk
    have hj : tm * 448 + s * 4 + i % 4 < 1792 := by omega
    have hm := (ls_mem (G := K) 1792 (detN K (tm * 448 + s * 4 + i % 4))).2 ⟨_, hj, by rw [hk]; exact hp, rfl⟩
    have p1 : (tm * 448 + s * 4 + i % 4) / 448 = tm := by omega
    have p2 : (tm * 448 + s * 4 + i % 4) % 448 / 4 = s := by omega
    have hKr := hK (tm * 448 + s * 4 + i % 4)
    have := fuse_mem (team := (tm : Int)) hm (by show (((tm * 448 + s * 4 + i % 4) / 448 : Nat) : Int) = tm; rw [p1]) (by
      unfold soundP detN
      rw [decide_eq_true_eq]
      dsimp only
      rw [p2]
      omega)
    have e2 : (detN K (tm * 448 + s * 4 + i % 4)).target.toNat = s := by show (((tm * 448 + s * 4 + i % 4) % 448 / 4 : Nat) : Int).toNat = s; rw [p2, Int.toNat_natCast]
    rw [e2] at this
    rw [← q3, ← hk]
    exact this
theorem fuse_rel {f : Nat → Int} (h : PN f) {G K : Nat → Int} (hr : GRel f G K) (hG : ∀ i, 0 ≤ G i ∧ G i ≤ 3) (hK : ∀ i, 0 ≤ K i ∧ K i ≤ 3) {tm t : Nat} (h4 : tm < 4) (ht : t < 112) : fuseP (lsN K 1792) (tm : Int) (f t).toNat = fuseP (lsN G 1792) (tm : Int) t := by
  have r := h.rng t ht
  exact Int.le_antisymm (fuse_up ht hG (fun k hk => (hr tm t k h4 ht hk).symm)) (fuse_up (by omega) hK (fun k hk => hr tm t k h4 ht hk))
/-- The boards of the two runs. -/
def BRel (f : Nat → Int) (T S : Nat → Tbl) : Prop := ∀ i, i < 4 → Rel (rnP f) (Ent (T i)) (Ent (S i)) ∧ (T i).next = (S i).next
theorem BRel.first (f : Nat → Int) : BRel f (fun _ => tbl0) (fun _ => tbl0) := fun _ _ => ⟨rel_first _, rfl⟩
theorem BRel.tick {f : Nat → Int} (h : PN f) {T S A B : Nat → Tbl} {G K : Nat → Int} {W V : Nat → Tgt} {N : Int} (hN : N + 112 ≤ 1000000000) (hr : BRel f T S) (hg : GRel f G K) (hw : WRel f W V) (gG : ∀ i, 0 ≤ G i ∧ G i ≤ 3) (gK : ∀ i, 0 ≤ K i ∧ K i ≤ 3) (wW : ∀ t, t < 112 → TgtOk (W t)) (wV : ∀ t, t < 112 → TgtOk (V t))
    (iT : TsI T N) (iS : TsI S N) {X Y : Nat → Int} (tA : TicksR (lsN G 1792) W X Y T A) (tB : TicksR (lsN K 1792) V X Y S B) : BRel f A B := fun i hi =>
  tick_rel h.ren (iT.tk i hi) (iS.tk i hi) (hr i hi).1 (hr i hi).2 (by have := iT.nx i hi; omega)
    (fun t ht => by rw [sg_at ht]; exact fuse_rel h hg gG gK hi ht) (fun t ht _ => by rw [sg_at ht]; exact hw t ht) (fuse_rng _ _) (fuse_rng _ _) wW wV (tA i hi) (tB i hi)
end Go.Proofs.Qxb6500777a
