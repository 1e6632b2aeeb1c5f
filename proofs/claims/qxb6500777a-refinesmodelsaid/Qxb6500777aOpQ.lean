import Derived.Test.Qxb6500777aOpP
import Derived.Test.Qxb6500777aNoQ
import Derived.Test.Qxb6500777aTbP
namespace Go.Proofs.Qxb6500777a

/-! ### A table's entries -/
def Ent (T : Tbl) : List Slt := ((List.range 64).filter (fun k => (T.sl k).used)).map T.sl
theorem ent_mem {T : Tbl} {s : Slt} : s ∈ Ent T ↔ ∃ k, k < 64 ∧ (T.sl k).used = true ∧ T.sl k = s := by
  unfold Ent
  rw [List.mem_map]
  constructor
  · rintro ⟨k, hk, e⟩
    rw [List.mem_filter, List.mem_range] at hk
    exact ⟨k, hk.1, hk.2, e⟩
  · rintro ⟨k, h1, h2, e⟩
    exact ⟨k, List.mem_filter.2 ⟨List.mem_range.2 h1, h2⟩, e⟩
theorem ent_ok {T : Tbl} (h : TInv T) : EOk (Ent T) := by
  have hnd : ((List.range 64).filter (fun k => (T.sl k).used)).Pairwise (· ≠ ·) := List.Pairwise.filter _ List.nodup_range
  refine ⟨fun s hs => ?_, fun s hs => ?_, ?_, ?_⟩
  · obtain ⟨k, hk, _, rfl⟩ := ent_mem.1 hs
    exact h.ok k hk
  · obtain ⟨k, hk, hu, rfl⟩ := ent_mem.1 hs
    exact hu
  · unfold Ent
    rw [List.pairwise_map]
    refine hnd.imp_of_mem fun {a b} ha hb hab => ?_
    rw [List.mem_filter, List.mem_range] at ha hb
    exact h.dif a b ha.1 hb.1 hab ha.2 hb.2
  · unfold Ent
    rw [List.pairwise_map]
    refine hnd.imp_of_mem fun {a b} ha hb hab e => ?_
    rw [List.mem_filter, List.mem_range] at ha hb
    exact hab (h.tdif ha.1 hb.1 ha.2 hb.2 e)
theorem cnt_len (f : Nat → Slt) : ∀ n, cntU f n = (((List.range n).filter (fun k => (f k).used)).length : Int)
  | 0 => by simp [cntU, sumN]
  | n + 1 => by
    have := cnt_len f n
    unfold cntU at this ⊢
    rw [sumN, this, List.range_succ, List.filter_append, List.length_append]
    cases hu : (f n).used <;> simp [hu]
theorem ent_len {T : Tbl} (h : TInv T) : ((Ent T).length : Int) = T.held := by
  unfold Ent
  rw [List.length_map, h.cnt, cnt_len]
theorem alike_key {a b : Slt} (ha : SltOk a) (hb : SltOk b) : alikeP a b = true ↔ keyP a = keyP b := by
  rw [alike_iff]
  constructor
  · rintro ⟨h1, h2, h3, h4, h5, h6, h7⟩
    unfold keyP
    rw [h1, h2, h3, h4, h5, h6, h7]
  · intro e
    obtain ⟨h1, h2, h3, h4, h5, h6, h7⟩ := key_ext ha hb e
    exact ⟨h2, h3, h4, h5, h6, h7, h1⟩
/-! ### After the settling nothing is to be moved -/
section
variable {old : Nat → Slt}
def Calm (old : Nat → Slt) (T : Tbl) (i j : Nat) : Prop := ¬ (twinP old i j = true ∧ aheadP (T.sl (hiP T i j)) (T.sl (loP T i j)) = true)
theorem pair_calm {s : Tbl × Bool} {i j : Nat} (h : (pairP old i j s).2 = false) : pairP old i j s = s ∧ s.2 = false ∧ Calm old s.1 i j := by
  unfold pairP at h ⊢
  split at h
  · cases h
  · next hc => rw [if_neg hc]; exact ⟨rfl, h, hc⟩
theorem row_calm {s : Tbl × Bool} {i : Nat} : ∀ n, (rowP old i n s).2 = false → rowP old i n s = s ∧ s.2 = false ∧ ∀ j, j < n → Calm old s.1 i (i + 1 + j)
  | 0, h => ⟨rfl, h, fun j hj => by omega⟩
  | n + 1, h => by
    rw [rowP] at h ⊢
    obtain ⟨h1, h2, h3⟩ := pair_calm h
    obtain ⟨k1, k2, k3⟩ := row_calm n h2
    rw [h1, k1]
    rw [k1] at h3
    refine ⟨rfl, k2, fun j hj => ?_⟩
    rcases (by omega : j = n ∨ j < n) with rfl | z
    · exact h3
    · exact k3 j z
theorem pass_calm {s : Tbl × Bool} : ∀ n, (passP old n s).2 = false → passP old n s = s ∧ s.2 = false ∧ ∀ i j, i < n → i < j → j < 64 → Calm old s.1 i j
  | 0, h => ⟨rfl, h, fun i j hi => by omega⟩
  | n + 1, h => by
    rw [passP] at h ⊢
    obtain ⟨h1, h2, h3⟩ := row_calm (63 - n) h
    obtain ⟨k1, k2, k3⟩ := pass_calm n h2
    rw [h1, k1]
    rw [k1] at h3
    refine ⟨rfl, k2, fun i j hi hij hj => ?_⟩
    rcases (by omega : i = n ∨ i < n) with rfl | z
    · have := h3 (j - (i + 1)) (by omega)
      rwa [show i + 1 + (j - (i + 1)) = j by omega] at this
    · exact k3 i j z hij hj
theorem settles_calm {T T' : Tbl} (h : Settles old T T') : ∀ i j, i < j → j < 64 → Calm old T' i j := by
  induction h with
  | done T h =>
    obtain ⟨h1, _, h3⟩ := pass_calm 64 h
    rw [h1]
    exact fun i j hij hj => h3 i j (by omega) hij hj
  | more T T' _ _ ih => exact ih
end
section
variable {best : Nat → Int} {W : Nat → Tgt} {X Y : Nat → Int} {T T2 : Tbl}
theorem mid_inv (hT : TkI T) (hW : ∀ t, t < 112 → TgtOk (W t)) (hs : Settles T.sl (ph1 best W X Y T 64) T2) : TInv T2 :=
  (PsI.settles (old := T.sl) ⟨ph1_inv hT hW 64 (Nat.le_refl _), fun k => by rw [ph1_sl]; split; exact (obs_same best W X Y _).1; rfl⟩ hs).inv
theorem mid_us (hs : Settles T.sl (ph1 best W X Y T 64) T2) {k : Nat} (hk : k < 64) : (T2.sl k).used = (T.sl k).used := by
  cases hu : (T.sl k).used
  · rw [(mid_spec hs k hk).1 hu, hu]
  · obtain ⟨j, _, uj, _, e⟩ := (mid_spec hs k hk).2 hu
    rw [e]
    exact (obs_same best W X Y (T.sl j)).1.trans uj
theorem mid_num (hs : Settles T.sl (ph1 best W X Y T 64) T2) {k : Nat} (hk : k < 64) : (T2.sl k).tr.num = (T.sl k).tr.num := by
  cases hu : (T.sl k).used
  · rw [(mid_spec hs k hk).1 hu]
  · obtain ⟨j, _, uj, _, e⟩ := (mid_spec hs k hk).2 hu
    rw [e]; rfl
set_option maxRecDepth 20000 in
/-- A tick's turn of a table's entries. -/
theorem tick_set (hT : TkI T) (hW : ∀ t, t < 112 → TgtOk (W t)) (hs : Settles T.sl (ph1 best W X Y T 64) T2) : SetL (obsS best W X Y) (Ent T) (Ent T2) := by
  have hi2 := mid_inv hT hW hs
  have hb := (StB.settles (P := ph1 best W X Y T 64) hs ⟨Stl.first, Stl2.first⟩).b
  refine ⟨fun s hs' => ?_, fun b hb' => ?_, fun a ha => ?_, fun s hs1 s' hs2 a ha a' ha' e1 e2 hk hl => ?_⟩
  · obtain ⟨k, hk, hu, rfl⟩ := ent_mem.1 hs'
    rw [mid_us hs hk] at hu
    obtain ⟨j, hj, uj, aj, e⟩ := (mid_spec hs k hk).2 hu
    exact ⟨T.sl k, ent_mem.2 ⟨k, hk, hu, rfl⟩, T.sl j, ent_mem.2 ⟨j, hj, uj, rfl⟩, (alike_key (hT.inv.ok k hk) (hT.inv.ok j hj)).1 aj, e⟩
  · obtain ⟨j, hj, uj, rfl⟩ := ent_mem.1 hb'
    obtain ⟨k, hk, uk, e⟩ := hb j hj uj
    refine ⟨T2.sl k, ent_mem.2 ⟨k, hk, by rw [mid_us hs hk]; exact uk, rfl⟩, T.sl k, ent_mem.2 ⟨k, hk, uk, rfl⟩, ?_, ?_⟩
    · obtain ⟨j', hj', uj', aj', e'⟩ := (mid_spec hs k hk).2 uk
      have ht : (T.sl j).tg = (T.sl j').tg := by
        have q1 : (T2.sl k).tg = (T.sl j).tg := by rw [e, ph1_sl, if_pos hj]; exact (obs_same best W X Y (T.sl j)).2.1
        have q2 : (T2.sl k).tg = (T.sl j').tg := by rw [e']; exact (obs_same best W X Y (T.sl j')).2.1
        rw [← q1, q2]
      have := hT.inv.tdif hj hj' uj uj' ht
      subst this
      exact (alike_key (hT.inv.ok k hk) (hT.inv.ok j hj)).1 aj'
    · rw [e, ph1_sl, if_pos hj, ph1_sl, if_pos hk, (obs_same best W X Y (T.sl k)).2.2]
  · obtain ⟨k, hk, uk, rfl⟩ := ent_mem.1 ha
    exact ⟨T2.sl k, ent_mem.2 ⟨k, hk, by rw [mid_us hs hk]; exact uk, rfl⟩, mid_num hs hk⟩
  · obtain ⟨k, hk1, uk, rfl⟩ := ent_mem.1 hs1
    obtain ⟨l, hl1, ul, rfl⟩ := ent_mem.1 hs2
    have ea : a = T.sl k := (ent_ok hT.inv).num ha (ent_mem.2 ⟨k, hk1, by rw [← mid_us hs hk1]; exact uk, rfl⟩) (by rw [← e1, mid_num hs hk1])
    have ea' : a' = T.sl l := (ent_ok hT.inv).num ha' (ent_mem.2 ⟨l, hl1, by rw [← mid_us hs hl1]; exact ul, rfl⟩) (by rw [← e2, mid_num hs hl1])
    rw [ea, ea'] at hk
    rw [mid_us hs hk1] at uk
    rw [mid_us hs hl1] at ul
    have hal := (alike_key (hT.inv.ok k hk1) (hT.inv.ok l hl1)).2 hk
    have htw : twinP T.sl k l = true := by unfold twinP; rw [uk, ul, hal]; rfl
    have hkl : k ≠ l := by rintro rfl; omega
    have key : ¬ keyP (T2.sl l) < keyP (T2.sl k) := by
      rw [← ahead_iff (hi2.ok l hl1) (hi2.ok k hk1)]
      rcases Nat.lt_or_gt_of_ne hkl with z | z
      · intro hah
        refine settles_calm hs k l z hl1 ⟨htw, ?_⟩
        unfold hiP loP
        rw [if_neg (by omega), if_neg (by omega)]
        exact hah
      · intro hah
        refine settles_calm hs l k z hk1 ⟨twin_symm htw, ?_⟩
        unfold hiP loP
        rw [if_pos hl, if_pos hl]
        exact hah
    omega
theorem ent_drop : ∀ s, s ∈ Ent (drR T2 64) ↔ s ∈ Ent T2 ∧ s.tr.ag < 30 := by
  intro s
  constructor
  · intro h
    obtain ⟨k, hk, hu, rfl⟩ := ent_mem.1 h
    rw [drR_sl] at hu ⊢
    split at hu
    · cases hu
    · next hc =>
      rw [if_neg hc]
      exact ⟨ent_mem.2 ⟨k, hk, hu, rfl⟩, Int.not_le.1 (fun z => hc ⟨hk, hu, z⟩)⟩
  · rintro ⟨h, ha⟩
    obtain ⟨k, hk, hu, rfl⟩ := ent_mem.1 h
    have e : (drR T2 64).sl k = T2.sl k := by rw [drR_sl, if_neg (fun z => by have := z.2.2; omega)]
    exact ent_mem.2 ⟨k, hk, by rw [e]; exact hu, e⟩
end
/-! ### The key of what is observed -/
theorem obs_key {b1 b2 : Nat → Int} {W1 W2 : Nat → Tgt} {X Y : Nat → Int} {a b : Slt} (ha : SltOk a) (hb : SltOk b) (ua : a.used = true) (ub : b.used = true) (e : keyP a = keyP b)
    (h1 : b2 b.tg.toNat = b1 a.tg.toNat) (h2 : 0 < b1 a.tg.toNat → W2 b.tg.toNat = W1 a.tg.toNat) : keyP (obsS b1 W1 X Y a) = keyP (obsS b2 W2 X Y b) := by
  obtain ⟨e1, e2, e3, e4, e5, e6, e7⟩ := key_ext ha hb e
  unfold obsS
  rw [if_pos ua, if_pos ub, h1]
  obtain ⟨u, t, s, ⟨n, x, y, c, p, st, ag⟩⟩ := a
  obtain ⟨u', t', s', ⟨n', x', y', c', p', st', ag'⟩⟩ := b
  dsimp only at *
  subst e1 e2 e3 e4 e5 e6 e7
  split
  · next hp =>
    rw [h2 hp]
    unfold refreshP creditP lookP
    dsimp only
    split
    · rfl
    · split
      · rfl
      · split
        · rfl
        · rfl
  · rfl
section
variable {σ : Int → Int} {T1 T2 : Tbl}
set_option maxRecDepth 20000 in
theorem ent_evict {T : Tbl} (h : TInv T) {v : Nat} (hv : vicP T 64 = some v) : ∀ s, s ∈ Ent (evictP T) ↔ s ∈ Ent T ∧ keyP s ≠ keyP (T.sl v) := by
  intro s
  obtain ⟨v1, v2⟩ := vic_lt T 64 v hv
  have ee : ∀ k, (evictP T).sl k = if k < 64 ∧ (T.sl k).used = true ∧ alikeP (T.sl k) (T.sl v) = true then slt0 else T.sl k := fun k => by
    unfold evictP
    rw [hv]
    exact evR_sl 64 k
  constructor
  · intro hs
    obtain ⟨k, hk, hu, rfl⟩ := ent_mem.1 hs
    rw [ee] at hu ⊢
    split at hu
    · cases hu
    · next hc =>
      rw [if_neg hc]
      refine ⟨ent_mem.2 ⟨k, hk, hu, rfl⟩, fun z => hc ⟨hk, hu, (alike_key (h.ok k hk) (h.ok v v1)).2 z⟩⟩
  · rintro ⟨hs, hne⟩
    obtain ⟨k, hk, hu, rfl⟩ := ent_mem.1 hs
    have e : (evictP T).sl k = T.sl k := by rw [ee, if_neg (fun z => hne ((alike_key (h.ok k hk) (h.ok v v1)).1 z.2.2))]
    exact ent_mem.2 ⟨k, hk, by rw [e]; exact hu, e⟩
/-- The worst track of one list is the worst of the other. -/
theorem worst_same {E F : List Slt} (h : Rel σ E F) (hE : EOk E) (hF : EOk F) {a b : Slt} (ha : a ∈ E) (hb : b ∈ F) (wa : ∀ s ∈ E, worseP s.tr a.tr = false) (wb : ∀ s ∈ F, worseP s.tr b.tr = false) : keyP a = keyP b := by
  obtain ⟨c, hc, c1, c2⟩ := (h.n a.tr.num (keyP a)).1 ⟨a, ha, rfl, rfl⟩
  obtain ⟨d, hd, d1, d2⟩ := (h.n b.tr.num (keyP b)).2 ⟨b, hb, rfl, rfl⟩
  have hc' := key_trk (hF.ok c hc) (hE.ok a ha) c2 c1
  have hd' := key_trk (hE.ok d hd) (hF.ok b hb) d2 d1
  have w1 := wb c hc
  have w2 := wa d hd
  rw [hc'] at w1
  rw [hd'] at w2
  have n1 : ¬ worseP a.tr b.tr = true := by rw [w1]; decide
  have n2 : ¬ worseP b.tr a.tr = true := by rw [w2]; decide
  rw [worse_iff] at n1 n2
  have hn : a.tr.num = b.tr.num := by omega
  have := hF.num hc hb (by rw [c1, hn])
  rw [← c2, this]
end
end Go.Proofs.Qxb6500777a
