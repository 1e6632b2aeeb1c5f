import Derived.Test.Qxb6500777aTsP
namespace Go.Proofs.Qxb6500777a

/-! ### Through all contacts -/
theorem room_ind {C : List Ctc} {i : Nat} {g : Int} (hg : g ≤ 64) (Pr : Tbl → Prop) (hs : ∀ T v, AdI C i T → vicP T 64 = some v → 64 - T.held < g → Pr T → Pr (evictP T)) {T T1 : Tbl} (r : Room g T T1) : AdI C i T → Pr T → Pr T1 ∧ AdI C i T1 ∧ g ≤ 64 - T1.held := by
  induction r with
  | stop T h => exact fun had hp => ⟨hp, had, by omega⟩
  | step T T' h _ ih =>
    intro had hp
    obtain ⟨x, hx, hxu⟩ := used_ex T.sl 64 (by rw [← had.inv.cnt]; omega)
    obtain ⟨v, hv⟩ := vic_some T 64 x hx hxu
    exact ih (had.evict hv) (hs T v had hv h hp)
theorem admL_ind {C : List Ctc} (hC : CsOk C) {i : Nat} {T1 : Tbl} (had : AdI C i T1) (Pr : Nat → Tbl → Prop) (h0 : Pr i T1)
    (hs : ∀ k T c, i ≤ k → C[k]? = some c → AdI C k T → freeOf T < 64 → (T.sl (freeOf T)).used = false → TInv (admitP T (freeOf T) c) → T.held < 64 → Pr k T → Pr (k + 1) (admitP T (freeOf T) c)) :
    ∀ k, i + k ≤ C.length → (k : Int) ≤ 64 - T1.held → Pr (i + k) (admitL T1 ((C.drop i).take k)) ∧ AdI C (i + k) (admitL T1 ((C.drop i).take k)) ∧ (admitL T1 ((C.drop i).take k)).held = T1.held + k
  | 0, _, _ => ⟨by simpa [admitL] using h0, by simpa [admitL] using had, by simp [admitL]⟩
  | k + 1, hk, hr => by
    obtain ⟨p, ad, hh⟩ := admL_ind hC had Pr h0 hs k (by omega) (by omega)
    obtain ⟨c, hc⟩ : ∃ c, C[i + k]? = some c := ⟨_, List.getElem?_eq_getElem (by omega)⟩
    have e : (C.drop i).take (k + 1) = (C.drop i).take k ++ [c] := by rw [List.take_add_one, List.getElem?_drop, hc]; rfl
    rw [e, admitL_snoc]
    obtain ⟨S, hS⟩ : ∃ S, admitL T1 ((C.drop i).take k) = S := ⟨_, rfl⟩
    rw [hS] at p ad hh ⊢
    obtain ⟨a1, a2, a3, a4, a5⟩ := AdI.admit hC ad hc (by omega)
    refine ⟨hs (i + k) S c (by omega) hc ad a2 (by rw [a3]; rfl) a1.inv (by omega) p, a1, by rw [a5, hh]; omega⟩
theorem adm_ind {C : List Ctc} (Pr : Nat → Tbl → Prop) (skip : ∀ i e T, i < C.length → IsEnd C i e → 64 < e - i → Pr i T → Pr e T)
    (grp : ∀ i e T T1, i < C.length → IsEnd C i e → e - i ≤ 64 → Room ((e - i : Nat) : Int) T T1 → AdI C i T → Pr i T → Pr e (admitL T1 ((C.drop i).take (e - i))) ∧ AdI C e (admitL T1 ((C.drop i).take (e - i))))
    {i : Nat} {T T' : Tbl} (r : AdmAll C i T T') : AdI C i T → Pr i T → ∃ j, C.length ≤ j ∧ Pr j T' ∧ AdI C j T' := by
  induction r with
  | done i T h => exact fun ad hp => ⟨i, h, hp, ad⟩
  | big i e T T' h he hb _ ih => exact fun ad hp => ih (ad.skip (by have := he.lt; omega)) (skip i e T h he hb hp)
  | grp i e T T1 T' h he hb hr _ ih =>
    intro ad hp
    obtain ⟨a, b⟩ := grp i e T T1 h he hb hr ad hp
    exact ih b a
theorem EvI.all {T3 : Tbl} (h3 : TInv T3) {C : List Ctc} (hC : CsOk C) (hag : ∀ c ∈ C, c.seen.ag = 0) {T' : Tbl} (had : AdI C 0 T3) (r : AdmAll C 0 T3 T') : EvI T3 T' := by
  obtain ⟨j, _, h, _⟩ := adm_ind (fun _ T => EvI T3 T) (fun _ _ _ _ _ _ h => h) (fun i e T T1 hi he hb hr ad hp => by
    obtain ⟨p1, ad1, hg⟩ := room_ind (C := C) (i := i) (by omega) (fun T => EvI T3 T) (fun T v _ hv _ h => h.evict h3 hv) hr ad hp
    obtain ⟨p2, ad2, _⟩ := admL_ind hC ad1 (fun _ T => EvI T3 T) p1 (fun k T c _ hc _ _ hu hi' _ h => h.admit hi' hu (hag c (List.mem_of_getElem? hc)) h3) (e - i) (by have := he.lt; have := he.le; omega) hg
    rw [show i + (e - i) = e by have := he.lt; omega] at ad2
    exact ⟨p2, ad2⟩) r had (EvI.first h3)
  exact h
/-- What a tick brings, with all its parts. -/
structure TickP (best : Nat → Int) (W : Nat → Tgt) (X Y : Nat → Int) (T T3 T' : Tbl) : Prop where
  inv3 : TInv T3
  mid : ∀ k, k < 64 → (T.sl k).used = true → ((T3.sl k).used = true ∧ (T3.sl k).tr.num = (T.sl k).tr.num ∧ ((T3.sl k).tr.ag = 0 ∨ ((T3.sl k).tr.ag = (T.sl k).tr.ag + 1 ∧ (T3.sl k).tr.st = (T.sl k).tr.st))) ∨ ((T3.sl k).used = false ∧ (T.sl k).tr.ag = 29)
  src : ∀ k, k < 64 → (T3.sl k).used = true → (T.sl k).used = true ∧ ∃ j, j < 64 ∧ (T.sl j).used = true ∧ alikeP (T.sl k) (T.sl j) = true ∧ T3.sl k = numd (obsS best W X Y (T.sl j)) (T.sl k).tr.num
  nx : T3.next = T.next
  ag : ∀ k, k < 64 → (T3.sl k).used = true → (T3.sl k).tr.ag ≤ 29
  ev : EvI T3 T'
  adm : AdmAll (frL best W T3 112) 0 T3 T'
theorem TickR.parts {best : Nat → Int} {W : Nat → Tgt} {X Y : Nat → Int} {T T' : Tbl} (hT : TkI T) (hn : T.next + 112 ≤ 1000000000) (hb : ∀ t, 0 ≤ best t ∧ best t ≤ 3) (hW : ∀ t, t < 112 → TgtOk (W t)) (h : TickR best W X Y T T') : ∃ T3, TickP best W X Y T T3 T' := by
  obtain ⟨T2, hs, ha⟩ := h
  have hi2 : TInv T2 := (PsI.settles (old := T.sl) ⟨ph1_inv hT hW 64 (Nat.le_refl _), fun k => by rw [ph1_sl]; split; exact (obs_same best W X Y _).1; rfl⟩ hs).inv
  have hi3 := drR_inv hi2 64 (Nat.le_refl _)
  have hnx : (drR T2 64).next = T.next := by rw [drR_next, settles_next hs, (ph1_rest 64).2.2]
  refine ⟨drR T2 64, hi3, fun k hk hu => ?_, fun k hk hu => ?_, hnx, drR_age, EvI.all hi3 (fr_ok hb hW) (fun c hc => by obtain ⟨t, _, rfl, _⟩ := fr_mem 112 c hc; rfl) (fr_adI hi3 (by rw [hnx]; exact hn)) ha, ha⟩
  · obtain ⟨m1, m2, m3⟩ := mid_ag hs hk hu
    by_cases z : 30 ≤ (T2.sl k).tr.ag
    · right
      have := hT.age k hk hu
      rw [drR_sl, if_pos ⟨hk, m1, z⟩]
      exact ⟨rfl, by omega⟩
    · left
      rw [drR_sl, if_neg (fun y => z y.2.2)]
      exact ⟨m1, m2, m3⟩
  · obtain ⟨a, b⟩ := mid_used hs hk hu
    refine ⟨a, ?_⟩
    rw [b]
    exact (mid_spec hs k hk).2 a
/-! ### Plain of EvictsOldest -/
/-- A track of before that is gone, though it was not to drop. -/
def GoneB (T T' : Tbl) (g : Trk) : Prop := (∃ i, i < 64 ∧ (T.sl i).used = true ∧ (T.sl i).tr = g) ∧ NoN T' g.num ∧ g.ag + 1 < 30
theorem evicts_ok {best : Nat → Int} {W : Nat → Tgt} {X Y : Nat → Int} {T T3 T' : Tbl} (hT : TInv T) (h : TickP best W X Y T T3 T') {u : Trk} (hu : ∃ k, k < 64 ∧ (T'.sl k).used = true ∧ (T'.sl k).tr = u) {g : Trk} (hg : GoneB T T' g) :
    u.ag ≤ g.ag + 1 ∧ (u.ag = g.ag + 1 → g.st ≤ u.st) ∧ (u.ag = g.ag + 1 → u.st = g.st → ∃ v, GoneB T T' v ∧ u.ag = v.ag + 1 ∧ u.st = v.st ∧ v.num < u.num) := by
  obtain ⟨k, hk, uk, rfl⟩ := hu
  obtain ⟨⟨i, hi, ui, rfl⟩, hno, hag⟩ := hg
  have hi0 := (hT.ok i hi).tr.ag
  rcases h.mid i hi ui with ⟨m1, m2, m3⟩ | ⟨_, m2⟩
  · obtain ⟨g1, g2⟩ := h.ev.gone i hi m1 (by rw [m2]; exact hno)
    obtain ⟨a1, a2⟩ := g1 k hk uk
    have p1 : (T'.sl k).tr.ag ≤ (T.sl i).tr.ag + 1 := by clear g2; omega
    have p2 : (T'.sl k).tr.ag = (T.sl i).tr.ag + 1 → 0 < (T3.sl i).tr.ag ∧ (T'.sl k).tr.ag = (T3.sl i).tr.ag ∧ (T3.sl i).tr.st = (T.sl i).tr.st := fun e => by clear g2; omega
    refine ⟨p1, fun e => ?_, fun e1 e2 => ?_⟩
    · obtain ⟨q1, q2, q3⟩ := p2 e
      rw [← q3]
      exact a2 q1 q2
    · obtain ⟨q1, q2, q3⟩ := p2 e1
      obtain ⟨v, hv, uv, nv, v1, v2, v3⟩ := g2 q1
      have tv := (h.src v hv uv).1
      clear g2
      rcases h.mid v hv tv with ⟨n1, n2, n3⟩ | ⟨n1, _⟩
      · have hv0 := (hT.ok v hv).tr.ag
        have := h.ag v hv uv
        have r1 : (T.sl v).tr.ag + 1 < 30 ∧ (T'.sl k).tr.ag = (T.sl v).tr.ag + 1 ∧ (T'.sl k).tr.st = (T.sl v).tr.st ∧ (T'.sl k).tr.st = (T3.sl i).tr.st := by omega
        refine ⟨(T.sl v).tr, ⟨⟨v, hv, tv, rfl⟩, by rw [← n2]; exact nv, r1.1⟩, r1.2.1, r1.2.2.1, ?_⟩
        rw [← n2]
        exact v3 k hk uk q2 r1.2.2.2
      · rw [uv] at n1; cases n1
  · omega
end Go.Proofs.Qxb6500777a
