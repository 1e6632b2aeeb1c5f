import Derived.Test.Qxb6500777aNoP
namespace Go.Proofs.Qxb6500777a

/-! ### The new numbers come in order -/
structure OrdI (N : Int) (C : List Ctc) (i : Nat) (T : Tbl) : Prop where
  nx : N ≤ T.next
  ord : ∀ a b, a < 64 → b < 64 → (T.sl a).used = true → (T.sl b).used = true → N ≤ (T.sl a).tr.num → (T.sl a).tr.num < (T.sl b).tr.num → beforeP (T.sl b).tr (T.sl a).tr = false
  rest : ∀ a, a < 64 → (T.sl a).used = true → N ≤ (T.sl a).tr.num → ∀ (j : Nat) (c : Ctc), i ≤ j → C[j]? = some c → beforeP c.seen (T.sl a).tr = false
theorem before_cr (s : Slt) (g : Int) (t : Trk) : beforeP (creditP s g).tr t = beforeP s.tr t ∧ beforeP t (creditP s g).tr = beforeP t s.tr := by
  rw [credit_look]
  exact ⟨rfl, rfl⟩
theorem new_before (S : Tbl) (c : Ctc) (t : Trk) : beforeP (newS S c).tr t = beforeP c.seen t ∧ beforeP t (newS S c).tr = beforeP t c.seen := by
  unfold newS
  obtain ⟨h1, h2⟩ := before_cr ⟨true, c.tg, 0, { c.seen with num := S.next }⟩ c.gr t
  rw [h1, h2]
  exact ⟨rfl, rfl⟩
theorem OrdI.evict {N : Int} {C : List Ctc} {i : Nat} {T : Tbl} (h : OrdI N C i T) {v : Nat} (hv : vicP T 64 = some v) : OrdI N C i (evictP T) := by
  have ek : ∀ k, k < 64 → ((evictP T).sl k).used = true → (T.sl k).used = true ∧ (evictP T).sl k = T.sl k := fun k hk hu => by
    unfold evictP at hu ⊢
    rw [hv] at hu ⊢
    dsimp only at hu ⊢
    rw [evR_sl] at hu ⊢
    split at hu
    · cases hu
    · next hc => rw [if_neg hc]; exact ⟨hu, rfl⟩
  refine ⟨by rw [evict_next]; exact h.nx, fun a b ha hb ua ub hn hl => ?_, fun a ha ua hn j c hj hc => ?_⟩
  · obtain ⟨u1, e1⟩ := ek a ha ua
    obtain ⟨u2, e2⟩ := ek b hb ub
    rw [e1] at hn hl ⊢
    rw [e2] at hl ⊢
    exact h.ord a b ha hb u1 u2 hn hl
  · obtain ⟨u1, e1⟩ := ek a ha ua
    rw [e1] at hn ⊢
    exact h.rest a ha u1 hn j c hj hc
theorem OrdI.admit {N : Int} {C : List Ctc} (hS : Srt C) {i : Nat} {T : Tbl} (hT : TInv T) (h : OrdI N C i T) {c : Ctc} (hc : C[i]? = some c) {f : Nat} : OrdI N C (i + 1) (admitP T f c) := by
  have hnw : (admitP T f c).sl f = newS T c := upd_same _ _ _
  have hol : ∀ k, k ≠ f → (admitP T f c).sl k = T.sl k := fun k e => upd_ne _ _ e
  have hnn : (newS T c).tr.num = T.next := (credit_same _ _).2.2
  have hnx := h.nx
  refine ⟨by show N ≤ T.next + 1; omega, fun a b ha hb ua ub hn hl => ?_, fun a ha ua hn j d hj hd => ?_⟩
  · by_cases ea : a = f
    · subst ea
      by_cases eb : b = a
      · subst eb; omega
      · rw [hnw, hnn, hol b eb] at hl
        rw [hol b eb] at ub
        have := (hT.num b hb ub).2
        omega
    · rw [hol a ea] at ua hn hl ⊢
      by_cases eb : b = f
      · subst eb
        rw [hnw, (new_before T c _).1]
        exact h.rest a ha ua hn i c (Nat.le_refl _) hc
      · rw [hol b eb] at ub hl ⊢
        exact h.ord a b ha hb ua ub hn hl
  · by_cases ea : a = f
    · subst ea
      rw [hnw, (new_before T c _).2]
      obtain ⟨l1, e1⟩ := List.getElem?_eq_some_iff.1 hc
      obtain ⟨l2, e2⟩ := List.getElem?_eq_some_iff.1 hd
      have := List.pairwise_iff_getElem.1 hS i j l1 l2 (by omega)
      rw [e1, e2] at this
      exact this
    · rw [hol a ea] at ua hn ⊢
      exact h.rest a ha ua hn j d (by omega) hd
theorem ord_ok {C : List Ctc} (hC : CsOk C) (hS : Srt C) {T3 T' : Tbl} (had : AdI C 0 T3) (r : AdmAll C 0 T3 T') : ∃ j, OrdI T3.next C j T' := by
  obtain ⟨j, _, h, _⟩ := adm_ind (C := C) (fun i T => OrdI T3.next C i T) (fun i e T hi he hb h => ⟨h.nx, h.ord, fun a ha ua hn j c hj hc => h.rest a ha ua hn j c (by have := he.lt; omega) hc⟩) (fun i e T T1 hi he hb hr ad hp => by
    obtain ⟨p1, ad1, hg⟩ := room_ind (C := C) (i := i) (by omega) (fun T => OrdI T3.next C i T) (fun T v _ hv _ h => h.evict hv) hr ad hp
    obtain ⟨p2, ad2, _⟩ := admL_ind hC ad1 (fun k T => OrdI T3.next C k T) p1 (fun k T c hik hc ad' _ _ _ _ h => h.admit hS ad'.inv hc) (e - i) (by have := he.lt; have := he.le; omega) hg
    rw [show i + (e - i) = e by have := he.lt; omega] at p2 ad2
    exact ⟨p2, ad2⟩) r had ⟨Int.le_refl _, fun a b ha hb ua ub hn _ => by have := (had.inv.num a ha ua).2; omega, fun a ha ua hn => by have := (had.inv.num a ha ua).2; omega⟩
  exact ⟨j, h⟩
/-! ### How many numbers are given -/
def lkN (C : List Ctc) (c : Ctc) : Nat := C.countP (fun d => decide (d.seen = c.seen))
def accN (C : List Ctc) (i : Nat) : Int := ((C.take i).countP (fun c => decide (lkN C c ≤ 64)) : Nat)
def CutI (C : List Ctc) (i : Nat) : Prop := ∀ (j k : Nat) (d c : Ctc), j < i → i ≤ k → C[j]? = some d → C[k]? = some c → beforeP d.seen c.seen = true
def Bare (C : List Ctc) : Prop := ∀ c ∈ C, c.seen.num = 0 ∧ c.seen.st = 0 ∧ c.seen.ag = 0
theorem bare_eq {C : List Ctc} (hz : Bare C) {a c : Ctc} (ha : a ∈ C) (hc : c ∈ C) (h1 : beforeP a.seen c.seen = false) (h2 : beforeP c.seen a.seen = false) : c.seen = a.seen := by
  have z1 := hz a ha
  have z2 := hz c hc
  rw [nb_iff] at h1 h2
  obtain ⟨_, _, ⟨an, ax, ay, ac, as', at', ag⟩⟩ := a
  obtain ⟨_, _, ⟨cn, cx, cy, cc, cs, ct, cg⟩⟩ := c
  dsimp only at *
  simp only [Trk.mk.injEq]
  omega
section
variable {C : List Ctc} (hz : Bare C) (hS : Srt C) {i e : Nat} (hi : CutI C i) (he : IsEnd C i e)
include hz hS he
theorem grp_eq {j : Nat} {a c : Ctc} (hij : i ≤ j) (hje : j < e) (ha : C[i]? = some a) (hc : C[j]? = some c) : c.seen = a.seen := by
  rcases (by omega : j = i ∨ i < j) with rfl | hlt
  · rw [ha] at hc; cases hc; rfl
  · refine bare_eq hz (List.mem_of_getElem? ha) (List.mem_of_getElem? hc) (he.same j a c hlt hje ha hc) ?_
    obtain ⟨l1, e1⟩ := List.getElem?_eq_some_iff.1 ha
    obtain ⟨l2, e2⟩ := List.getElem?_eq_some_iff.1 hc
    have := List.pairwise_iff_getElem.1 hS i j l1 l2 hlt
    rw [e1, e2] at this
    exact this
include hi
theorem grp_cut : CutI C e := fun j k d c hj hk hd hc => by
  have hke : k < C.length := (List.getElem?_eq_some_iff.1 hc).1
  have hel : e < C.length := by omega
  obtain ⟨x, hx⟩ : ∃ x, C[e]? = some x := ⟨_, List.getElem?_eq_getElem hel⟩
  obtain ⟨a, ha⟩ : ∃ a, C[i]? = some a := ⟨_, List.getElem?_eq_getElem (by have := he.lt; omega)⟩
  have hst := he.stop hel a x ha hx
  have hxc : beforeP c.seen x.seen = false := by
    rcases (by omega : k = e ∨ e < k) with rfl | z
    · rw [hx] at hc; cases hc; exact before_irr _
    · obtain ⟨l1, e1⟩ := List.getElem?_eq_some_iff.1 hx
      obtain ⟨l2, e2⟩ := List.getElem?_eq_some_iff.1 hc
      have := List.pairwise_iff_getElem.1 hS e k l1 l2 z
      rw [e1, e2] at this
      exact this
  by_cases hji : j < i
  · exact hi j k d c hji (by have := he.lt; omega) hd hc
  · have hda := grp_eq hz hS he (by omega) hj ha hd
    rw [hda]
    rw [nb_iff] at hxc
    rw [before_iff3] at hst ⊢
    omega
theorem grp_lk {j : Nat} {c : Ctc} (hij : i ≤ j) (hje : j < e) (hc : C[j]? = some c) : lkN C c = e - i := by
  obtain ⟨a, ha⟩ : ∃ a, C[i]? = some a := ⟨_, List.getElem?_eq_getElem (by have := he.lt; have := he.le; omega)⟩
  have hca := grp_eq hz hS he hij hje ha hc
  have hlt := he.lt
  have hle := he.le
  have hcut := grp_cut hz hS hi he
  unfold lkN
  have e1 : C = C.take i ++ ((C.drop i).take (e - i) ++ C.drop e) := by
    have h1 : (C.drop i).take (e - i) ++ C.drop e = C.drop i := by
      have := List.take_append_drop (e - i) (C.drop i)
      rw [List.drop_drop, show i + (e - i) = e by omega] at this
      exact this
    rw [h1, List.take_append_drop]
  have hcnt : C.countP (fun d => decide (d.seen = c.seen)) = (C.take i).countP (fun d => decide (d.seen = c.seen)) + (((C.drop i).take (e - i)).countP (fun d => decide (d.seen = c.seen)) + (C.drop e).countP (fun d => decide (d.seen = c.seen))) := by
    conv => lhs; rw [e1]
    rw [List.countP_append, List.countP_append]
  rw [hcnt]
  have z1 : (C.take i).countP (fun d => decide (d.seen = c.seen)) = 0 := by
    rw [List.countP_eq_zero]
    intro d hd
    obtain ⟨k, hk⟩ := List.mem_iff_getElem?.1 hd
    have hki : k < i := by have := (List.getElem?_eq_some_iff.1 hk).1; rw [List.length_take] at this; omega
    rw [List.getElem?_take_of_lt hki] at hk
    have := hi k j d c hki hij hk hc
    intro z
    rw [decide_eq_true_eq] at z
    rw [z, before_irr] at this
    cases this
  have z3 : (C.drop e).countP (fun d => decide (d.seen = c.seen)) = 0 := by
    rw [List.countP_eq_zero]
    intro d hd
    obtain ⟨k, hk⟩ := List.mem_iff_getElem?.1 hd
    rw [List.getElem?_drop] at hk
    have := hcut j (e + k) c d hje (by omega) hc hk
    intro z
    rw [decide_eq_true_eq] at z
    rw [z, before_irr] at this
    cases this
  have z2 : ((C.drop i).take (e - i)).countP (fun d => decide (d.seen = c.seen)) = e - i := by
    have hl : ((C.drop i).take (e - i)).length = e - i := by rw [List.length_take, List.length_drop]; omega
    refine Eq.trans (List.countP_eq_length.2 ?_) hl
    intro d hd
    obtain ⟨k, hk⟩ := List.mem_iff_getElem?.1 hd
    have hke : k < e - i := by have := (List.getElem?_eq_some_iff.1 hk).1; omega
    rw [List.getElem?_take_of_lt hke, List.getElem?_drop] at hk
    have := grp_eq hz hS he (by omega) (by omega) ha hk
    rw [decide_eq_true_eq, this, hca]
  omega
theorem grp_acc : accN C e = accN C i + (if e - i ≤ 64 then ((e - i : Nat) : Int) else 0) := by
  have hlt := he.lt
  have hle := he.le
  unfold accN
  have e1 : C.take e = C.take i ++ (C.drop i).take (e - i) := by
    have := List.take_add (l := C) (i := i) (j := e - i)
    rw [show i + (e - i) = e by omega] at this
    exact this
  rw [e1, List.countP_append]
  have hl : ((C.drop i).take (e - i)).length = e - i := by rw [List.length_take, List.length_drop]; omega
  have hm : ∀ d ∈ (C.drop i).take (e - i), lkN C d = e - i := fun d hd => by
    obtain ⟨k, hk⟩ := List.mem_iff_getElem?.1 hd
    have hke : k < e - i := by have := (List.getElem?_eq_some_iff.1 hk).1; omega
    rw [List.getElem?_take_of_lt hke, List.getElem?_drop] at hk
    exact grp_lk hz hS hi he (by omega) (by omega) hk
  by_cases h64 : e - i ≤ 64
  · rw [if_pos h64]
    have : ((C.drop i).take (e - i)).countP (fun c => decide (lkN C c ≤ 64)) = e - i := by
      refine Eq.trans (List.countP_eq_length.2 ?_) hl
      intro d hd
      rw [decide_eq_true_eq, hm d hd]
      exact h64
    rw [this]
    omega
  · rw [if_neg h64]
    have : ((C.drop i).take (e - i)).countP (fun c => decide (lkN C c ≤ 64)) = 0 := by
      rw [List.countP_eq_zero]
      intro d hd
      rw [decide_eq_true_eq, hm d hd]
      exact h64
    rw [this]
    omega
end
/-- The counter after all contacts. -/
theorem next_ok {C : List Ctc} (hC : CsOk C) (hS : Srt C) (hz : Bare C) {T3 T' : Tbl} (had : AdI C 0 T3) (r : AdmAll C 0 T3 T') : T'.next = T3.next + accN C C.length := by
  obtain ⟨j, hj, h, _⟩ := adm_ind (C := C) (fun i T => T.next = T3.next + accN C i ∧ CutI C i) (fun i e T hi he hb h => ⟨by rw [grp_acc hz hS h.2 he, if_neg (by omega), h.1]; omega, grp_cut hz hS h.2 he⟩) (fun i e T T1 hi he hb hr ad hp => by
    obtain ⟨p1, ad1, hg⟩ := room_ind (C := C) (i := i) (by omega) (fun T => T.next = T3.next + accN C i) (fun T v _ hv _ h => by rw [evict_next]; exact h) hr ad hp.1
    obtain ⟨p2, ad2, _⟩ := admL_ind hC ad1 (fun k T => T.next = T3.next + accN C i + ((k - i : Nat) : Int)) (by rw [p1]; simp) (fun k T c hik hc ad' _ _ _ _ h => by show T.next + 1 = _; rw [h]; omega) (e - i) (by have := he.lt; have := he.le; omega) hg
    have hlt := he.lt
    rw [show i + (e - i) = e by omega] at p2 ad2
    refine ⟨⟨?_, grp_cut hz hS hp.2 he⟩, ad2⟩
    rw [p2, grp_acc hz hS hp.2 he, if_pos hb]
    omega) r had ⟨by simp [accN], fun j k d c hj => by omega⟩
  rw [h.1]
  unfold accN
  rw [List.take_of_length_le hj, List.take_length]
/-! ### What the law counts -/
def fL (best : Nat → Int) (W : Nat → Tgt) (T : Tbl) : Nat → List Trk
  | 0 => []
  | n + 1 => if T.wh n = -1 ∧ 0 < best n then fL best W T n ++ [lookP trk0 (W n) (best n)] else fL best W T n
def bornP (F : List Trk) : Nat := F.countP (fun f => decide (F.countP (fun g => decide (f = g)) ≤ 64))
theorem fr_perm {best : Nat → Int} {W : Nat → Tgt} {T T3 : Tbl} (hb : ∀ t, 0 ≤ best t) (hf : ∀ t, t < 112 → 0 < best t → (T3.wh t = -1 ↔ T.wh t = -1)) : ∀ n, n ≤ 112 → ((frL best W T3 n).map Ctc.seen).Perm (fL best W T n)
  | 0, _ => List.Perm.refl _
  | n + 1, hn => by
    have ih := fr_perm (W := W) hb hf n (by omega)
    have h0 := hb n
    rw [frL, fL]
    by_cases hp : 0 < best n
    · have hi := hf n (by omega) hp
      by_cases hw : T.wh n = -1
      · rw [if_neg (by intro z; rcases z with z | z; omega; exact z (hi.2 hw)), if_pos ⟨hw, hp⟩]
        refine (((ins_perm (newC best W n) (frL best W T3 n)).map Ctc.seen)).trans ?_
        rw [List.map_cons]
        refine (List.Perm.cons _ ih).trans ?_
        exact (List.perm_append_singleton _ _).symm
      · rw [if_pos (.inr (fun z => hw (hi.1 z))), if_neg (fun z => hw z.1)]
        exact ih
    · rw [if_pos (.inl (by omega)), if_neg (fun z => hp z.2)]
      exact ih
theorem acc_born {C : List Ctc} {F : List Trk} (h : (C.map Ctc.seen).Perm F) : accN C C.length = bornP F := by
  unfold accN bornP
  rw [List.take_length]
  have e1 : ∀ c : Ctc, lkN C c = F.countP (fun g => decide (c.seen = g)) := fun c => by
    unfold lkN
    rw [← h.countP_eq, List.countP_map]
    congr 1
    funext d
    simp only [Function.comp]
    exact decide_eq_decide.2 eq_comm
  have e2 : C.countP (fun c => decide (lkN C c ≤ 64)) = (C.map Ctc.seen).countP (fun f => decide (F.countP (fun g => decide (f = g)) ≤ 64)) := by
    rw [List.countP_map]
    congr 1
    funext c
    simp only [Function.comp]
    rw [e1]
  rw [e2, h.countP_eq]
theorem fr_bare {best : Nat → Int} {W : Nat → Tgt} {T : Tbl} : Bare (frL best W T 112) := fun c hc => by
  obtain ⟨t, _, rfl, _⟩ := fr_mem 112 c hc
  exact ⟨rfl, rfl, rfl⟩
/-- NumbersInOrder, of a team's tick. -/
theorem numbers_ok {best : Nat → Int} {W : Nat → Tgt} {X Y : Nat → Int} {T T' : Tbl} (hT : TkI T) (hn : T.next + 112 ≤ 1000000000) (hb : ∀ t, 0 ≤ best t ∧ best t ≤ 3) (hW : ∀ t, t < 112 → TgtOk (W t)) (h : TickR best W X Y T T') :
    T'.next = T.next + (bornP (fL best W T 112) : Nat) ∧ ∀ a b, a < 64 → b < 64 → (T'.sl a).used = true → (T'.sl b).used = true → T.next ≤ (T'.sl a).tr.num → (T'.sl a).tr.num < (T'.sl b).tr.num → beforeP (T'.sl b).tr (T'.sl a).tr = false := by
  obtain ⟨T2, hs, ha⟩ := h
  have hi2 : TInv T2 := (PsI.settles (old := T.sl) ⟨ph1_inv hT hW 64 (Nat.le_refl _), fun k => by rw [ph1_sl]; split; exact (obs_same best W X Y _).1; rfl⟩ hs).inv
  have hi3 := drR_inv hi2 64 (Nat.le_refl _)
  have hnx : (drR T2 64).next = T.next := by rw [drR_next, settles_next hs, (ph1_rest 64).2.2]
  have had := fr_adI (best := best) (W := W) hi3 (by rw [hnx]; exact hn)
  have hC : CsOk (frL best W (drR T2 64) 112) := fr_ok hb hW
  have h1 := next_ok hC (fr_sorted 112) fr_bare had ha
  rw [hnx, acc_born (fr_perm (T := T) (fun t => (hb t).1) (fun t ht hp => follow_iff hT.inv hs hi3 ht hp) 112 (Nat.le_refl _))] at h1
  obtain ⟨j, ho⟩ := ord_ok hC (fr_sorted 112) had ha
  refine ⟨h1, fun a b ha hb' ua ub hn hl => ho.ord a b ha hb' ua ub (by rw [hnx]; exact hn) hl⟩
end Go.Proofs.Qxb6500777a
