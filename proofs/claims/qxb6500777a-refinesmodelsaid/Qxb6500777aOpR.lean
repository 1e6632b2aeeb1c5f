import Derived.Test.Qxb6500777aOpQ
namespace Go.Proofs.Qxb6500777a

/-! ### The contacts of two boards -/
structure CR (σ : Int → Int) (C D : List Ctc) : Prop where
  seen : C.map Ctc.seen = D.map Ctc.seen
  tgt : ∀ t s, 0 ≤ t → t < 112 → ((∃ c ∈ C, c.tg = t ∧ c.seen = s) ↔ ∃ c ∈ D, c.tg = σ t ∧ c.seen = s)
theorem seen_get {C D : List Ctc} (h : C.map Ctc.seen = D.map Ctc.seen) {j : Nat} {a : Ctc} (ha : C[j]? = some a) : ∃ b, D[j]? = some b ∧ b.seen = a.seen := by
  have e : (D.map Ctc.seen)[j]? = some a.seen := by rw [← h, List.getElem?_map, ha]; rfl
  rw [List.getElem?_map] at e
  cases hd : D[j]? with
  | none => rw [hd] at e; cases e
  | some b => rw [hd] at e; exact ⟨b, rfl, Option.some.inj e⟩
theorem seen_len {C D : List Ctc} (h : C.map Ctc.seen = D.map Ctc.seen) : C.length = D.length := by
  have := congrArg List.length h
  rwa [List.length_map, List.length_map] at this
theorem IsEnd.seen {C D : List Ctc} (h : C.map Ctc.seen = D.map Ctc.seen) {i e : Nat} (he : IsEnd C i e) : IsEnd D i e := by
  refine ⟨he.lt, by rw [← seen_len h]; exact he.le, fun j a c h1 h2 ha hc => ?_, fun hl a c ha hc => ?_⟩
  · obtain ⟨a', ha', ea⟩ := seen_get h.symm ha
    obtain ⟨c', hc', ec⟩ := seen_get h.symm hc
    rw [← ea, ← ec]
    exact he.same j a' c' h1 h2 ha' hc'
  · obtain ⟨a', ha', ea⟩ := seen_get h.symm ha
    obtain ⟨c', hc', ec⟩ := seen_get h.symm hc
    rw [← ea, ← ec]
    exact he.stop (by rw [seen_len h]; exact hl) a' c' ha' hc'
theorem grp_get {C : List Ctc} {i e : Nat} {c : Ctc} : c ∈ (C.drop i).take (e - i) ↔ ∃ j, i ≤ j ∧ j < e ∧ C[j]? = some c := by
  rw [List.mem_iff_getElem?]
  constructor
  · rintro ⟨k, hk⟩
    have hl : k < e - i := by
      have := (List.getElem?_eq_some_iff.1 hk).1
      rw [List.length_take] at this
      omega
    rw [List.getElem?_take_of_lt hl, List.getElem?_drop] at hk
    exact ⟨i + k, by omega, by omega, hk⟩
  · rintro ⟨j, h1, h2, hj⟩
    refine ⟨j - i, ?_⟩
    rw [List.getElem?_take_of_lt (by omega), List.getElem?_drop, show i + (j - i) = j by omega]
    exact hj
theorem grp_mem {C : List Ctc} (hz : Bare C) (hS : Srt C) {i e : Nat} (hi : CutI C i) (he : IsEnd C i e) {a : Ctc} (ha : C[i]? = some a) (c : Ctc) : c ∈ (C.drop i).take (e - i) ↔ c ∈ C ∧ c.seen = a.seen := by
  rw [grp_get]
  constructor
  · rintro ⟨j, h1, h2, hj⟩
    exact ⟨List.mem_of_getElem? hj, grp_eq hz hS he h1 h2 ha hj⟩
  · rintro ⟨hc, ec⟩
    obtain ⟨j, hj⟩ := List.mem_iff_getElem?.1 hc
    refine ⟨j, ?_, ?_, hj⟩
    · rcases Nat.lt_or_ge j i with z | z
      · have := hi j i c a z (Nat.le_refl _) hj ha
        rw [ec, before_irr] at this
        cases this
      · exact z
    · rcases Nat.lt_or_ge j e with z | z
      · exact z
      · have := grp_cut hz hS hi he i j a c he.lt z ha hj
        rw [ec, before_irr] at this
        cases this
/-! ### A group comes in -/
def nwS (c : Ctc) (n : Int) : Slt := ⟨true, c.tg, 1, { c.seen with num := n }⟩
theorem newS_nw {T : Tbl} {c : Ctc} (h : CtcOk c) : newS T c = nwS c T.next := by
  unfold newS creditP nwS
  have h1 := h.st
  have h2 := h.gr
  dsimp only
  rw [if_neg (by omega), if_neg (by omega), if_neg (by omega)]
  rfl
theorem ent_admit {T : Tbl} {c : Ctc} {f : Nat} (hf : f < 64) (hu : (T.sl f).used = false) (hc : CtcOk c) (s : Slt) : s ∈ Ent (admitP T f c) ↔ s ∈ Ent T ∨ s = nwS c T.next := by
  have e1 : (admitP T f c).sl f = nwS c T.next := (upd_same _ _ _).trans (newS_nw hc)
  have e2 : ∀ k, k ≠ f → (admitP T f c).sl k = T.sl k := fun k e => upd_ne _ _ e
  constructor
  · intro h
    obtain ⟨k, hk, hu', rfl⟩ := ent_mem.1 h
    by_cases e : k = f
    · subst e; exact .inr e1
    · rw [e2 k e] at hu' ⊢
      exact .inl (ent_mem.2 ⟨k, hk, hu', rfl⟩)
  · rintro (h | rfl)
    · obtain ⟨k, hk, hu', rfl⟩ := ent_mem.1 h
      have e : k ≠ f := by rintro rfl; rw [hu] at hu'; cases hu'
      exact ent_mem.2 ⟨k, hk, by rw [e2 k e]; exact hu', e2 k e⟩
    · exact ent_mem.2 ⟨f, hf, by rw [e1]; rfl, e1⟩
theorem ent_admL {C : List Ctc} (hC : CsOk C) {i : Nat} {T : Tbl} (had : AdI C i T) {m : Nat} (hm : i + m ≤ C.length) (hr : (m : Int) ≤ 64 - T.held) :
    (admitL T ((C.drop i).take m)).next = T.next + m ∧ (∀ s, s ∈ Ent (admitL T ((C.drop i).take m)) ↔ s ∈ Ent T ∨ ∃ j c, i ≤ j ∧ j < i + m ∧ C[j]? = some c ∧ s = nwS c (T.next + ((j - i : Nat) : Int))) ∧ AdI C (i + m) (admitL T ((C.drop i).take m)) := by
  obtain ⟨p, ad, _⟩ := admL_ind hC had (fun k S => S.next = T.next + ((k - i : Nat) : Int) ∧ ∀ s, s ∈ Ent S ↔ s ∈ Ent T ∨ ∃ j c, i ≤ j ∧ j < k ∧ C[j]? = some c ∧ s = nwS c (T.next + ((j - i : Nat) : Int)))
    ⟨by simp, fun s => ⟨fun h => .inl h, fun h => by rcases h with h | ⟨j, c, h1, h2, _⟩; exact h; omega⟩⟩
    (fun k S c hik hc ad hf hu hi _ hp => by
      refine ⟨by show S.next + 1 = _; rw [hp.1]; omega, fun s => ?_⟩
      rw [ent_admit hf hu (hC.ok c (List.mem_of_getElem? hc)), hp.2]
      constructor
      · rintro ((h | ⟨j, d, h1, h2, h3, h4⟩) | h)
        · exact .inl h
        · exact .inr ⟨j, d, h1, by omega, h3, h4⟩
        · exact .inr ⟨k, c, hik, by omega, hc, by rw [h, hp.1]⟩
      · rintro (h | ⟨j, d, h1, h2, h3, h4⟩)
        · exact .inl (.inl h)
        · rcases (by omega : j = k ∨ j < k) with rfl | z
          · rw [hc] at h3
            cases h3
            exact .inr (by rw [h4, hp.1])
          · exact .inl (.inr ⟨j, d, h1, z, h3, h4⟩)) m hm hr
  exact ⟨by rw [p.1]; omega, p.2, ad⟩
theorem nw_key {c d : Ctc} {n m : Int} (h : c.seen = d.seen) : keyP (nwS c n) = keyP (nwS d m) := by
  unfold nwS keyP
  dsimp only
  rw [h]
section
variable {σ : Int → Int} {C D : List Ctc} (hσ : Ren σ) (hr : CR σ C D) (hC : CsOk C) (hD : CsOk D) (zC : Bare C) (zD : Bare D) (sC : Srt C) (sD : Srt D)
include hr hC hD zC zD sC sD
theorem rel_group {i e : Nat} (hi : CutI C i) (hi' : CutI D i) (he : IsEnd C i e) {T S : Tbl} (aT : AdI C i T) (aS : AdI D i S) (h : Rel σ (Ent T) (Ent S)) (hn : T.next = S.next) (rT : ((e - i : Nat) : Int) ≤ 64 - T.held) (rS : ((e - i : Nat) : Int) ≤ 64 - S.held) :
    Rel σ (Ent (admitL T ((C.drop i).take (e - i)))) (Ent (admitL S ((D.drop i).take (e - i)))) ∧ (admitL T ((C.drop i).take (e - i))).next = (admitL S ((D.drop i).take (e - i))).next ∧ AdI C e (admitL T ((C.drop i).take (e - i))) ∧ AdI D e (admitL S ((D.drop i).take (e - i))) := by
  have hlt := he.lt
  have hle := he.le
  have hln := seen_len hr.seen
  have he' := he.seen hr.seen
  obtain ⟨p1, p2, p3⟩ := ent_admL hC aT (m := e - i) (by omega) rT
  obtain ⟨q1, q2, q3⟩ := ent_admL hD aS (m := e - i) (by omega) rS
  rw [show i + (e - i) = e by omega] at p2 p3 q2 q3
  obtain ⟨a, ha⟩ : ∃ a, C[i]? = some a := ⟨_, List.getElem?_eq_getElem (by omega)⟩
  obtain ⟨b, hb, eb⟩ := seen_get hr.seen ha
  refine ⟨⟨fun n k => ?_, fun t k h0 h1 => ?_⟩, by rw [p1, q1, hn], p3, q3⟩
  · constructor
    · rintro ⟨s, hs, e1, e2⟩
      rcases (p2 s).1 hs with z | ⟨j, c, h1, h2, h3, rfl⟩
      · obtain ⟨r, hr1, f1, f2⟩ := (h.n n k).1 ⟨s, z, e1, e2⟩
        exact ⟨r, (q2 r).2 (.inl hr1), f1, f2⟩
      · obtain ⟨d, hd, ed⟩ := seen_get hr.seen h3
        exact ⟨_, (q2 _).2 (.inr ⟨j, d, h1, h2, hd, rfl⟩), by rw [← e1, ← hn]; rfl, by rw [← e2]; exact nw_key ed⟩
    · rintro ⟨s, hs, e1, e2⟩
      rcases (q2 s).1 hs with z | ⟨j, c, h1, h2, h3, rfl⟩
      · obtain ⟨r, hr1, f1, f2⟩ := (h.n n k).2 ⟨s, z, e1, e2⟩
        exact ⟨r, (p2 r).2 (.inl hr1), f1, f2⟩
      · obtain ⟨d, hd, ed⟩ := seen_get hr.seen.symm h3
        exact ⟨_, (p2 _).2 (.inr ⟨j, d, h1, h2, hd, rfl⟩), by rw [← e1, hn]; rfl, by rw [← e2]; exact nw_key ed⟩
  · constructor
    · rintro ⟨s, hs, e1, e2⟩
      rcases (p2 s).1 hs with z | ⟨j, c, h2, h3, h4, rfl⟩
      · obtain ⟨r, hr1, f1, f2⟩ := (h.g t k h0 h1).1 ⟨s, z, e1, e2⟩
        exact ⟨r, (q2 r).2 (.inl hr1), f1, f2⟩
      · have ec := grp_eq zC sC he h2 h3 ha h4
        obtain ⟨d, hd, d1, d2⟩ := (hr.tgt t c.seen h0 h1).1 ⟨c, List.mem_of_getElem? h4, e1, rfl⟩
        obtain ⟨j', g1, g2, g3⟩ := grp_get.1 ((grp_mem zD sD hi' he' hb d).2 ⟨hd, by rw [d2, ec, eb]⟩)
        exact ⟨_, (q2 _).2 (.inr ⟨j', d, g1, g2, g3, rfl⟩), d1, by rw [← e2]; exact nw_key d2⟩
    · rintro ⟨s, hs, e1, e2⟩
      rcases (q2 s).1 hs with z | ⟨j, c, h2, h3, h4, rfl⟩
      · obtain ⟨r, hr1, f1, f2⟩ := (h.g t k h0 h1).2 ⟨s, z, e1, e2⟩
        exact ⟨r, (p2 r).2 (.inl hr1), f1, f2⟩
      · have ec := grp_eq zD sD he' h2 h3 hb h4
        obtain ⟨d, hd, d1, d2⟩ := (hr.tgt t c.seen h0 h1).2 ⟨c, List.mem_of_getElem? h4, e1, rfl⟩
        obtain ⟨j', g1, g2, g3⟩ := grp_get.1 ((grp_mem zC sC hi he ha d).2 ⟨hd, by rw [d2, ec, eb]⟩)
        exact ⟨_, (p2 _).2 (.inr ⟨j', d, g1, g2, g3, rfl⟩), d1, by rw [← e2]; exact nw_key d2⟩
omit hr hC hD zC zD sC sD in
theorem rel_room {i : Nat} {g : Int} (hg : g ≤ 64) {T A : Tbl} (r : Room g T A) : ∀ {S B : Tbl}, Room g S B → AdI C i T → AdI D i S → Rel σ (Ent T) (Ent S) → T.next = S.next →
    Rel σ (Ent A) (Ent B) ∧ A.next = B.next ∧ AdI C i A ∧ AdI D i B ∧ g ≤ 64 - A.held ∧ g ≤ 64 - B.held := by
  induction r with
  | stop T h =>
    intro S B r2 aT aS hR hn
    have hh : T.held = S.held := by rw [← ent_len aT.inv, ← ent_len aS.inv, hR.len (ent_ok aT.inv) (ent_ok aS.inv)]
    cases r2 with
    | stop _ h2 => exact ⟨hR, hn, aT, aS, by omega, by omega⟩
    | step _ _ h2 _ => exact absurd h2 (by rw [← hh]; exact h)
  | step T T' h _ ih =>
    intro S B r2 aT aS hR hn
    have hh : T.held = S.held := by rw [← ent_len aT.inv, ← ent_len aS.inv, hR.len (ent_ok aT.inv) (ent_ok aS.inv)]
    cases r2 with
    | stop _ h2 => exact absurd h (by rw [hh]; exact h2)
    | step _ _ h2 r2 =>
      obtain ⟨x, hx, hxu⟩ := used_ex T.sl 64 (by rw [← aT.inv.cnt]; omega)
      obtain ⟨v, hv⟩ := vic_some T 64 x hx hxu
      obtain ⟨y, hy, hyu⟩ := used_ex S.sl 64 (by rw [← aS.inv.cnt]; omega)
      obtain ⟨u, hu⟩ := vic_some S 64 y hy hyu
      obtain ⟨v1, v2⟩ := vic_lt T 64 v hv
      obtain ⟨u1, u2⟩ := vic_lt S 64 u hu
      have ek : keyP (T.sl v) = keyP (S.sl u) := worst_same hR (ent_ok aT.inv) (ent_ok aS.inv) (ent_mem.2 ⟨v, v1, v2, rfl⟩) (ent_mem.2 ⟨u, u1, u2, rfl⟩)
        (fun s hs => by obtain ⟨k, hk, ku, rfl⟩ := ent_mem.1 hs; exact vic_min T 64 v hv k hk ku)
        (fun s hs => by obtain ⟨k, hk, ku, rfl⟩ := ent_mem.1 hs; exact vic_min S 64 u hu k hk ku)
      refine ih r2 (aT.evict hv) (aS.evict hu) ?_ (by rw [evict_next, evict_next, hn])
      exact hR.filt (p := fun s => keyP s ≠ keyP (T.sl v)) (fun s _ t _ e => by rw [e]) (ent_evict aT.inv hv) (fun s => by rw [ek]; exact ent_evict aS.inv hu s)
theorem adm_rel {i : Nat} {T A : Tbl} (r : AdmAll C i T A) : ∀ {S B : Tbl}, AdmAll D i S B → AdI C i T → AdI D i S → CutI C i → CutI D i → Rel σ (Ent T) (Ent S) → T.next = S.next →
    Rel σ (Ent A) (Ent B) ∧ A.next = B.next := by
  have hln := seen_len hr.seen
  induction r with
  | done i T h =>
    intro S B r2 aT aS c1 c2 hR hn
    cases r2 with
    | done _ _ _ => exact ⟨hR, hn⟩
    | big _ _ _ _ h' => omega
    | grp _ _ _ _ _ h' => omega
  | big i e T T' h he hb _ ih =>
    intro S B r2 aT aS c1 c2 hR hn
    cases r2 with
    | done _ _ h' => omega
    | big _ e' _ _ h' he' hb' r3 =>
      have := (he.seen hr.seen).uniq h' he'
      subst this
      exact ih r3 (aT.skip (by have := he.lt; omega)) (aS.skip (by have := he.lt; omega)) (grp_cut zC sC c1 he) (grp_cut zD sD c2 he') hR hn
    | grp _ e' _ _ _ h' he' hb' =>
      have := (he.seen hr.seen).uniq h' he'
      subst this
      omega
  | grp i e T T1 T' h he hb hrm _ ih =>
    intro S B r2 aT aS c1 c2 hR hn
    cases r2 with
    | done _ _ h' => omega
    | big _ e' _ _ h' he' hb' r3 =>
      have := (he.seen hr.seen).uniq h' he'
      subst this
      omega
    | grp _ e' _ S1 _ h' he' hb' hrm' r3 =>
      have := (he.seen hr.seen).uniq h' he'
      subst this
      obtain ⟨r1, r2, r4, r5, r6, r7⟩ := rel_room (by omega) hrm hrm' aT aS hR hn
      obtain ⟨g1, g2, g3, g4⟩ := rel_group hr hC hD zC zD sC sD c1 c2 he r4 r5 r1 r2 r6 r7
      exact ih r3 g3 g4 (grp_cut zC sC c1 he) (grp_cut zD sD c2 he') g1 g2
end
/-! ### The contacts of a tick -/
theorem fr_mem2 {best : Nat → Int} {W : Nat → Tgt} {T : Tbl} : ∀ n t, t < n → best t ≠ 0 → T.wh t = -1 → newC best W t ∈ frL best W T n
  | 0, t, h, _, _ => by omega
  | n + 1, t, h, hb, hw => by
    rw [frL]
    rcases (by omega : t = n ∨ t < n) with rfl | z
    · rw [if_neg (fun z => by rcases z with z | z; exact hb z; exact z hw)]
      exact (ins_perm _ _).mem_iff.2 (List.mem_cons_self ..)
    · split
      · exact fr_mem2 n t z hb hw
      · exact (ins_perm _ _).mem_iff.2 (List.mem_cons_of_mem _ (fr_mem2 n t z hb hw))
theorem wh_ent {T : Tbl} (h : TInv T) {t : Nat} (ht : t < 112) : T.wh t = -1 ↔ ∀ k, ¬ GK (Ent T) (t : Int) k := by
  constructor
  · rintro e k ⟨s, hs, e1, _⟩
    obtain ⟨i, hi, hu, rfl⟩ := ent_mem.1 hs
    have := h.wh1 i hi hu
    rw [e1, Int.toNat_natCast, e] at this
    omega
  · intro hk
    rcases h.wh2 t ht with z | ⟨k, k1, k2, k3, k4⟩
    · exact z
    · exact absurd ⟨T.sl k, ent_mem.2 ⟨k, k1, k3, rfl⟩, k4, rfl⟩ (hk (keyP (T.sl k)))
theorem fr_rel {σ : Int → Int} (hσ : Ren σ) {b1 b2 : Nat → Int} {W1 W2 : Nat → Tgt} {T S : Tbl} (hT : TInv T) (hS : TInv S) (h : Rel σ (Ent T) (Ent S))
    (hb : ∀ t : Nat, t < 112 → b2 (σ t).toNat = b1 t) (hW : ∀ t : Nat, t < 112 → 0 < b1 t → W2 (σ t).toNat = W1 t) (h0 : ∀ t, 0 ≤ b1 t) : CR σ (frL b1 W1 T 112) (frL b2 W2 S 112) := by
  have hwh : ∀ t : Nat, t < 112 → (T.wh t = -1 ↔ S.wh (σ t).toNat = -1) := by
    intro t ht
    obtain ⟨r1, r2⟩ := hσ.rng t (by omega) (by omega)
    rw [wh_ent hT ht, wh_ent hS (t := (σ t).toNat) (by omega), Int.toNat_of_nonneg r1]
    exact ⟨fun z k hk => z k ((h.g t k (by omega) (by omega)).2 hk), fun z k hk => z k ((h.g t k (by omega) (by omega)).1 hk)⟩
  have tgt : ∀ t s, 0 ≤ t → t < 112 → ((∃ c ∈ frL b1 W1 T 112, c.tg = t ∧ c.seen = s) ↔ ∃ c ∈ frL b2 W2 S 112, c.tg = σ t ∧ c.seen = s) := by
    intro t s t0 t1
    obtain ⟨t, rfl⟩ : ∃ n : Nat, t = n := ⟨t.toNat, by omega⟩
    obtain ⟨r1, r2⟩ := hσ.rng t (by omega) (by omega)
    have ht : t < 112 := by omega
    constructor
    · rintro ⟨c, hc, e1, e2⟩
      obtain ⟨t', h1, rfl, h2, h3⟩ := fr_mem 112 c hc
      have : t' = t := by have : (t' : Int) = t := e1; omega
      subst this
      have hp : 0 < b1 t' := by have := h0 t'; omega
      refine ⟨newC b2 W2 (σ t').toNat, fr_mem2 112 _ (by omega) (by rw [hb t' ht]; exact h2) ((hwh t' ht).1 h3), Int.toNat_of_nonneg r1, ?_⟩
      rw [← e2]
      show lookP trk0 _ _ = lookP trk0 _ _
      rw [hb t' ht, hW t' ht hp]
    · rintro ⟨c, hc, e1, e2⟩
      obtain ⟨t', h1, rfl, h2, h3⟩ := fr_mem 112 c hc
      have : t' = (σ t).toNat := by have : (t' : Int) = σ t := e1; omega
      subst this
      rw [hb t ht] at h2
      have hp : 0 < b1 t := by have := h0 t; omega
      refine ⟨newC b1 W1 t, fr_mem2 112 _ ht h2 ((hwh t ht).2 h3), rfl, ?_⟩
      rw [← e2]
      show lookP trk0 _ _ = lookP trk0 _ _
      rw [hb t ht, hW t ht hp]
  refine ⟨?_, tgt⟩
  have n1 : ((frL b1 W1 T 112).map (fun c => (σ c.tg, c.seen))).Nodup := by
    refine nodup_map ?_
    have := fr_nodup (best := b1) (W := W1) (T := T) 112
    unfold List.Nodup at this
    rw [List.pairwise_map] at this
    exact this.imp (fun h e => h (hσ.inj _ _ (congrArg Prod.fst e)))
  have n2 : ((frL b2 W2 S 112).map (fun c => (c.tg, c.seen))).Nodup := by
    refine nodup_map ?_
    have := fr_nodup (best := b2) (W := W2) (T := S) 112
    unfold List.Nodup at this
    rw [List.pairwise_map] at this
    exact this.imp (fun h e => h (congrArg Prod.fst e))
  have p : ((frL b1 W1 T 112).map (fun c => (σ c.tg, c.seen))).Perm ((frL b2 W2 S 112).map (fun c => (c.tg, c.seen))) := by
    rw [List.perm_ext_iff_of_nodup n1 n2]
    rintro ⟨x, y⟩
    rw [List.mem_map, List.mem_map]
    constructor
    · rintro ⟨c, hc, e⟩
      cases e
      obtain ⟨t', h1, e', _, _⟩ := fr_mem 112 c hc
      obtain ⟨d, hd, d1, d2⟩ := (tgt c.tg c.seen (by rw [e']; show (0 : Int) ≤ (t' : Int); omega) (by rw [e']; show (t' : Int) < 112; omega)).1 ⟨c, hc, rfl, rfl⟩
      exact ⟨d, hd, by rw [d1, d2]⟩
    · rintro ⟨d, hd, e⟩
      cases e
      obtain ⟨t', h1, e', _, _⟩ := fr_mem 112 d hd
      have hdt : d.tg = (t' : Int) := by rw [e']; rfl
      obtain ⟨t, t0, t1, et⟩ := hσ.sur d.tg (by omega) (by omega)
      obtain ⟨c, hc, c1, c2⟩ := (tgt t d.seen t0 t1).2 ⟨d, hd, et.symm, rfl⟩
      exact ⟨c, hc, by rw [c1, c2, et]⟩
  have p2 := p.map Prod.snd
  rw [List.map_map, List.map_map] at p2
  refine List.Perm.eq_of_pairwise (le := fun a b => beforeP b a = false) (fun a b ha hb h1 h2 => ?_) ?_ ?_ p2
  · obtain ⟨c, hc, rfl⟩ := List.mem_map.1 ha
    obtain ⟨d, hd, rfl⟩ := List.mem_map.1 hb
    obtain ⟨q1, q2, q3⟩ := fr_bare c hc
    obtain ⟨q4, q5, q6⟩ := fr_bare d hd
    rw [nb_iff] at h1 h2
    obtain ⟨_, _, ⟨an, ax, ay, ac, as', at', ag⟩⟩ := c
    obtain ⟨_, _, ⟨cn, cx, cy, cc, cs, ct, cg⟩⟩ := d
    dsimp only at *
    simp only [Trk.mk.injEq]
    omega
  · rw [List.pairwise_map]; exact fr_sorted 112
  · rw [List.pairwise_map]; exact fr_sorted 112
/-- NumbersOpaque, of a team's tick. -/
theorem tick_rel {σ : Int → Int} (hσ : Ren σ) {b1 b2 : Nat → Int} {W1 W2 : Nat → Tgt} {X Y : Nat → Int} {T S A B : Tbl} (hT : TkI T) (hS : TkI S) (h : Rel σ (Ent T) (Ent S)) (hn : T.next = S.next) (hx : T.next + 112 ≤ 1000000000)
    (hb : ∀ t : Nat, t < 112 → b2 (σ t).toNat = b1 t) (hW : ∀ t : Nat, t < 112 → 0 < b1 t → W2 (σ t).toNat = W1 t) (r1 : ∀ t, 0 ≤ b1 t ∧ b1 t ≤ 3) (r2 : ∀ t, 0 ≤ b2 t ∧ b2 t ≤ 3) (w1 : ∀ t, t < 112 → TgtOk (W1 t)) (w2 : ∀ t, t < 112 → TgtOk (W2 t))
    (hA : TickR b1 W1 X Y T A) (hB : TickR b2 W2 X Y S B) : Rel σ (Ent A) (Ent B) ∧ A.next = B.next := by
  obtain ⟨T2, sT, aT⟩ := hA
  obtain ⟨S2, sS, aS⟩ := hB
  have iT2 := mid_inv hT w1 sT
  have iS2 := mid_inv hS w2 sS
  have iT3 := drR_inv iT2 64 (Nat.le_refl _)
  have iS3 := drR_inv iS2 64 (Nat.le_refl _)
  have nT : (drR T2 64).next = T.next := by rw [drR_next, settles_next sT, (ph1_rest 64).2.2]
  have nS : (drR S2 64).next = S.next := by rw [drR_next, settles_next sS, (ph1_rest 64).2.2]
  have hR2 : Rel σ (Ent T2) (Ent S2) := SetL.rel hσ h (ent_ok hT.inv) (ent_ok hS.inv) (ent_ok iT2) (ent_ok iS2) (tick_set hT w1 sT) (tick_set hS w2 sS) (fun s _ => (obs_same b1 W1 X Y s).2.1) (fun s _ => (obs_same b2 W2 X Y s).2.1)
    (fun a ha b hb' et ek => by
      have oa := (ent_ok hT.inv).ok a ha
      have ob := (ent_ok hS.inv).ok b hb'
      have ta := oa.tg
      obtain ⟨t, ht⟩ : ∃ t : Nat, a.tg = t := ⟨a.tg.toNat, by omega⟩
      refine obs_key oa ob ((ent_ok hT.inv).us a ha) ((ent_ok hS.inv).us b hb') ek ?_ ?_
      · rw [et, ht, Int.toNat_natCast]; exact hb t (by omega)
      · rw [et, ht, Int.toNat_natCast]; exact hW t (by omega))
  have hR3 : Rel σ (Ent (drR T2 64)) (Ent (drR S2 64)) := hR2.filt (p := fun s => s.tr.ag < 30) (fun s hs t ht e => by rw [(key_ext ((ent_ok iT2).ok s hs) ((ent_ok iS2).ok t ht) e).2.2.2.2.2.2]) ent_drop ent_drop
  have hcr := fr_rel hσ iT3 iS3 hR3 hb hW (fun t => (r1 t).1)
  exact adm_rel hcr (fr_ok r1 w1) (fr_ok r2 w2) fr_bare fr_bare (fr_sorted 112) (fr_sorted 112) aT aS (fr_adI iT3 (by rw [nT]; exact hx)) (fr_adI iS3 (by rw [nS, ← hn]; exact hx)) (fun j k d c hj => by omega) (fun j k d c hj => by omega) hR3 (by rw [nT, nS, hn])
/-- The two tables are one. -/
theorem tab_rel {σ : Int → Int} {T S : Tbl} (hT : TInv T) (hS : TInv S) (h : Rel σ (Ent T) (Ent S)) : tabN T 64 = tabN S 64 := by
  refine sorted_eq (tab_sorted hT 64 (Nat.le_refl _)) (tab_sorted hS 64 (Nat.le_refl _)) fun t => ?_
  rw [tab_mem, tab_mem]
  constructor
  · rintro ⟨k, hk, hu, rfl⟩
    obtain ⟨s, hs, e1, e2⟩ := (h.n _ _).1 ⟨T.sl k, ent_mem.2 ⟨k, hk, hu, rfl⟩, rfl, rfl⟩
    obtain ⟨j, hj, uj, rfl⟩ := ent_mem.1 hs
    exact ⟨j, hj, uj, key_trk (hS.ok j hj) (hT.ok k hk) e2 e1⟩
  · rintro ⟨k, hk, hu, rfl⟩
    obtain ⟨s, hs, e1, e2⟩ := (h.n _ _).2 ⟨S.sl k, ent_mem.2 ⟨k, hk, hu, rfl⟩, rfl, rfl⟩
    obtain ⟨j, hj, uj, rfl⟩ := ent_mem.1 hs
    exact ⟨j, hj, uj, key_trk (hT.ok j hj) (hS.ok k hk) e2 e1⟩
theorem rel_first (σ : Int → Int) : Rel σ (Ent tbl0) (Ent tbl0) := by
  have e : ∀ s, ¬ s ∈ Ent tbl0 := fun s hs => by
    obtain ⟨k, _, hu, _⟩ := ent_mem.1 hs
    cases hu
  exact ⟨fun n k => ⟨fun ⟨s, hs, _⟩ => absurd hs (e s), fun ⟨s, hs, _⟩ => absurd hs (e s)⟩, fun t k _ _ => ⟨fun ⟨s, hs, _⟩ => absurd hs (e s), fun ⟨s, hs, _⟩ => absurd hs (e s)⟩⟩
end Go.Proofs.Qxb6500777a
