import Derived.Test.Qxb6500784aTl
namespace Go.Proofs.Qxb6500784a
open Go.RowKit

theorem TI.keep {P Q : Pr} (h : TI P) (hx : ∀ f, isCh f → (Q.box f).out = (P.box f).out ∧ (Q.box f).inb = (P.box f).inb ∧ (Q.box f).ch = (P.box f).ch) (hll : Q.la.bal.length = 256 ∧ Q.lb.bal.length = 256)
    (hh : ∀ s : Nat, s < 4 → Cong (hold Q.la s + hold Q.lb s) (hold P.la s + hold P.lb s)) : TI Q := by
  have i1 : isCh 1 := .inl rfl
  have i2 : isCh 2 := .inr (.inl rfl)
  have i3 : isCh 3 := .inr (.inr rfl)
  refine ⟨fun f hf i m hm => ?_, fun f hf => ?_, fun f hf m hm => ?_, fun m hm => ?_, fun f hf m hm => ?_, hll, fun s hs => ?_⟩
  · rw [(hx f hf).1] at hm; exact h.b f hf i m hm
  · rw [(hx f hf).2.2]; exact h.c f hf
  · rw [(hx f hf).1] at hm; exact h.tk f hf m hm
  · rw [(hx 3 i3).1] at hm; exact h.d m hm
  · rw [(hx f (hf.imp id .inl)).2.1] at hm
    obtain ⟨k1, k2⟩ := h.i f hf m hm
    exact ⟨k1, by rw [(hx _ k1).1]; exact k2⟩
  · have e1 : tot Q s = tot P s := by unfold tot; rw [(hx 1 i1).1, (hx 2 i2).1, (hx 3 i3).1, (hx 1 i1).2.1, (hx 2 i2).2.1]
    have e2 : dep Q s = dep P s := by unfold dep; rw [(hx 3 i3).1]
    rw [e1, e2]
    obtain ⟨q1, e1⟩ := h.s s hs
    obtain ⟨q2, e2⟩ := hh s hs
    exact ⟨q1 + q2, by omega⟩
theorem app_len {l : Led0} {t : List Int} (hb : l.bal.length = 256) : (appL l t).bal.length = 256 := by
  have f : (feeL l t).bal.length = 256 := addB_len _ _ (addB_len _ _ hb)
  unfold appL
  split
  · exact hb
  · split
    · exact addB_len _ _ (addB_len _ _ f)
    · split
      · exact addB_len _ _ f
      · split
        · exact addB_len _ _ f
        · split
          · exact f
          · exact f
theorem legS_lab {P : Pr} {c : Int} {t : List Int} (hc : c = 1 ∨ c = 2) (hr : refP (P.led c) t = 0) : (legS P c t).la = (if c = 1 then appL (P.led c) t else P.la) ∧ (legS P c t).lb = (if c = 1 then P.lb else appL (P.led c) t) := by
  have nr : ¬ refP (P.led c) t ≠ 0 := by simp [hr]
  unfold legS
  rw [if_neg nr]
  rcases hc with rfl | rfl
  · split
    · exact ⟨rfl, rfl⟩
    · split
      · exact ⟨rfl, rfl⟩
      · exact ⟨rfl, rfl⟩
  · split
    · exact ⟨rfl, rfl⟩
    · split
      · exact ⟨rfl, rfl⟩
      · exact ⟨rfl, rfl⟩
theorem forP_ch {f c : Int} (h : forP f c = true) : isCh f := by
  unfold forP at h
  simp only [Bool.and_eq_true, Bool.or_eq_true, decide_eq_true_eq] at h
  rcases h.1 with (z | z) | z
  · exact .inl z
  · exact .inr (.inl z)
  · exact .inr (.inr z)
theorem isCh_of {c : Int} (h : c = 1 ∨ c = 2) : isCh c := h.imp id .inl
theorem ti_leg {P : Pr} {c : Int} {t : List Int} (h : TI P) (hc : c = 1 ∨ c = 2) (ht1 : fld t 1 = c) (ht : TxOk t) (h0 : legC P c t = 0) : TI (legS P c t) := by
  have hr : refP (P.led c) t = 0 := by
    unfold legC at h0
    split at h0
    · rename_i hh; exact absurd h0 hh
    · rename_i hh; exact Classical.not_not.1 hh
  have B := ref_b hr
  have hlc : (P.led c).ch = c := by rw [← B.c]; exact ht1
  have nr : ¬ refP (P.led c) t ≠ 0 := by simp [hr]
  obtain ⟨ea, eb⟩ := legS_lab hc hr
  have hlb : (P.led c).bal.length = 256 := by unfold Pr.led; split; exact h.l.1; exact h.l.2
  have hll : (legS P c t).la.bal.length = 256 ∧ (legS P c t).lb.bal.length = 256 := by
    rw [ea, eb]
    split
    · exact ⟨app_len hlb, h.l.2⟩
    · exact ⟨h.l.1, app_len hlb⟩
  have hh : ∀ s : Nat, s < 4 → Cong (hold (legS P c t).la s + hold (legS P c t).lb s) (hold P.la s + hold P.lb s + dlt t s) := fun s hs => by
    obtain ⟨q, hq⟩ := hold_app hlb ht hr s hs
    rw [ea, eb]
    rcases hc with rfl | rfl
    · rw [if_pos rfl, if_pos rfl]
      have e : hold (P.led 1) s = hold P.la s := rfl
      exact ⟨q, by omega⟩
    · rw [if_neg (by omega), if_neg (by omega)]
      have e : hold (P.led 2) s = hold P.lb s := rfl
      exact ⟨q, by omega⟩
  unfold legC at h0
  rw [if_neg nr] at h0
  by_cases h35 : fld t 0 = 3 ∨ fld t 0 = 5
  · rw [if_pos h35] at h0
    have hcon : ¬ (fld (txMsg t) 2 ≠ (P.box c).ch ∨ fld (txMsg t) 1 ≠ (P.box (fld t 43)).ch ∨ (P.box (fld t 43)).out[(fld (txMsg t) 5).toNat]? ≠ some (txMsg t)) ∧ txMsg t ∉ (P.box c).inb := by
      have h := h0
      unfold conP at h
      split at h
      · cases h
      · split at h
        · cases h
        · rename_i a b; exact ⟨a, b⟩
    have hF : isCh (fld t 43) := by
      rcases h35 with z | z
      · exact forP_ch (B.t3 z).2.2.2.2
      · exact forP_ch (B.t5 z).2.2
    have h44 : fld t 44 = c := by
      rw [← hlc]
      rcases h35 with z | z
      · exact (B.t3 z).2.1
      · exact (B.t5 z).2.1
    have hmo : txMsg t ∈ (P.box (fld t 43)).out := List.mem_of_getElem? (Classical.not_not.1 (fun e => hcon.1 (.inr (.inr e))))
    refine h.take hc (m := txMsg t) (by rw [fld_msg]; exact h44) (by rw [fld_msg]; exact hF) (by rw [fld_msg]; exact hmo) hcon.2 (fun f hf => ?_) hll (fun s hs => ?_)
    · have e : (legS P c t).box f = if f = c then tookB (P.box c) (txMsg t) else P.box f := by
        rw [legS, if_neg nr, if_pos h35, Pr.setB_box _ hc, Pr.setL_box, conB, if_pos h0]
      rw [e]
      by_cases e2 : f = c
      · rw [if_pos e2, if_pos e2, e2]; exact ⟨rfl, rfl, rfl⟩
      · rw [if_neg e2, if_neg e2]; exact ⟨rfl, rfl, rfl⟩
    · refine (hh s hs).trans ((Cong.refl _).add ?_)
      rw [fld_msg, fld_msg, fld_msg]
      unfold dlt
      rcases h35 with z | z
      · have e := (B.t3 z).1
        rw [if_neg (by omega), if_pos z]
        by_cases e2 : fld t 48 = s
        · rw [if_pos e2, if_pos ⟨e, e2⟩]; exact Cong.refl _
        · rw [if_neg e2, if_neg (fun q => e2 q.2)]; exact Cong.refl _
      · have e := (B.t5 z).1
        rw [if_neg (by omega), if_neg (by omega), if_neg (fun q => by have q1 : fld t 42 = 2 := q.1; omega)]; exact Cong.refl _
  · rw [if_neg h35] at h0
    by_cases h24 : fld t 0 = 2 ∨ fld t 0 = 4
    · rw [if_pos h24] at h0
      have hsn : ¬ 32 ≤ (P.box c).sn := by
        intro e
        unfold sndP at h0
        rw [if_pos e] at h0
        cases h0
      have m1 : fld (sntM (P.led c) t) 1 = c := by
        unfold sntM
        split
        · show (P.led c).ch = c; exact hlc
        · show (P.led c).ch = c; exact hlc
      have ml : 5 < (sntM (P.led c) t).length := by
        unfold sntM
        split
        · simp [burnM]
        · simp [sendM]
      have hc3 : c ≠ 3 := by omega
      have hbx : ∀ f, isCh f → ((legS P c t).box f).out = (if f = c then (P.box c).out ++ [stamp (P.box c) (sntM (P.led c) t)] else (P.box f).out) ∧ ((legS P c t).box f).inb = (P.box f).inb ∧ ((legS P c t).box f).ch = (P.box f).ch := fun f _ => by
        have e : (legS P c t).box f = if f = c then sentB (P.box c) (sntM (P.led c) t) else P.box f := by
          rw [legS, if_neg nr, if_neg h35, if_pos h24, Pr.setB_box _ hc, Pr.setL_box, sndB, if_neg hsn]
        rw [e]
        by_cases e2 : f = c
        · rw [if_pos e2, if_pos e2, e2]; exact ⟨rfl, rfl, rfl⟩
        · rw [if_neg e2, if_neg e2]; exact ⟨rfl, rfl, rfl⟩
      by_cases k2 : fld t 0 = 2
      · obtain ⟨hfo, h7⟩ := B.t2 k2
        have em : sntM (P.led c) t = burnM (P.led c) t := if_pos k2
        have e6 : fld (sntM (P.led c) t) 6 = fld t 7 := by rw [em]; rfl
        have e7 : fld (sntM (P.led c) t) 7 = fld t 8 := by rw [em]; rfl
        have e2 : fld (sntM (P.led c) t) 2 = fld t 6 := by rw [em]; rfl
        have e0 : fld (sntM (P.led c) t) 0 = 2 := by rw [em]; rfl
        refine h.send (isCh_of hc) (m := sntM (P.led c) t) m1 ml (fun _ => by rw [e6]; exact h7) (fun e => absurd e hc3) (fun _ => by rw [e2]; exact forP_ch hfo) hbx hll (fun s hs => ?_)
        rw [if_neg hc3, e6, e7, e0]
        obtain ⟨q, hq⟩ := hh s hs
        unfold dlt at hq
        rw [if_pos k2] at hq
        by_cases e : fld t 7 = s
        · rw [if_pos ⟨rfl, e⟩]; rw [if_pos e] at hq; exact ⟨q, by omega⟩
        · rw [if_neg (fun z => e z.2)]; rw [if_neg e] at hq; exact ⟨q, by omega⟩
      · have em : sntM (P.led c) t = sendM (P.led c) t := if_neg k2
        have e0 : fld (sntM (P.led c) t) 0 = 1 := by rw [em]; rfl
        refine h.send (isCh_of hc) (m := sntM (P.led c) t) m1 ml (fun e => by rw [e0] at e; omega) (fun e => absurd e hc3) (fun e => by rw [e0] at e; omega) hbx hll (fun s hs => ?_)
        rw [if_neg hc3, e0, if_neg (fun z => by have := z.1; omega)]
        obtain ⟨q, hq⟩ := hh s hs
        unfold dlt at hq
        rw [if_neg k2, if_neg (by omega)] at hq
        exact ⟨q, by omega⟩
    · refine h.keep (fun f _ => ?_) hll (fun s hs => ?_)
      · rw [legS, if_neg nr, if_neg h35, if_neg h24, Pr.setL_box]; exact ⟨rfl, rfl, rfl⟩
      · refine (hh s hs).trans ?_
        unfold dlt
        rw [if_neg (by omega), if_neg (by omega)]
        exact ⟨0, by omega⟩
theorem ti_run {L : Nat → Leg} {T : Nat → List Int} : ∀ (is : List Nat) (Q : Pr) (r : Rs), (∀ i, i ∈ is → ((L i).ch = 1 ∨ (L i).ch = 2) ∧ fld (T i) 1 = (L i).ch ∧ TxOk (T i)) → TI Q → (runK L T is Q r).2.2.1 = 0 → TI (runK L T is Q r).1
  | [], Q, r, _, h, _ => h
  | i :: is, Q, r, hl, h, h0 => by
    rw [runK] at h0 ⊢
    by_cases hc : legC Q (L i).ch (T i) = 0
    · rw [if_pos hc] at h0 ⊢
      obtain ⟨a, b, d⟩ := hl i (by simp)
      exact ti_run is _ _ (fun k hk => hl k (List.mem_cons_of_mem _ hk)) (ti_leg h a b d hc) h0
    · rw [if_neg hc] at h0
      exact absurd h0 hc
theorem ti_sim {P : Pr} {n : Nat} {L : Nat → Leg} {T : Nat → List Int} (h : TI P) (ht : ∀ i, i < n → TxOk (T i) ∧ fld (T i) 1 = (L i).tch) (kp : Bool) : TI (simS kp P n L T) := by
  unfold simS
  split
  · rename_i hh
    obtain ⟨_, hc, _, hk⟩ := hh
    obtain ⟨_, _, _, _, hom, hoc⟩ := ord_facts hc
    have k := ti_run (L := L) (T := T) (ordP n L) (opened P) (res0 (ordI (ordP n L)) nilS) (fun i hi => ⟨(hoc i (hom i hi)).1, by rw [(ht i (hom i hi)).2]; exact (hoc i (hom i hi)).2, (ht i (hom i hi)).1⟩) (h.congr rfl rfl (fun f => ⟨rfl, rfl, rfl⟩)) hk
    exact TI.congr (P := (simK P n L T nilS).1) k rfl rfl (fun f => ⟨rfl, rfl, rfl⟩)
  · exact h
theorem ti_dep {P : Pr} {d rc tk am : Int} (h : TI P) : TI (depS P d rc tk am) := by
  unfold depS
  split
  · rename_i hd
    unfold sndB
    split
    · exact h
    · refine h.send (c := 3) (.inr (.inr rfl)) (m := depM d rc tk am) rfl (by simp [depM]) (fun _ => hd.2.2.1) (fun _ => hd.2.2.1) (fun _ => isCh_of hd.1) (fun f hf => ?_) h.l (fun s hs => ?_)
      · rcases hf with rfl | rfl | rfl
        · exact ⟨rfl, rfl, rfl⟩
        · exact ⟨rfl, rfl, rfl⟩
        · exact ⟨rfl, rfl, rfl⟩
      · rw [if_pos rfl]
        have e : dpv s (stamp (P.box 3) (depM d rc tk am)) = if tk = s then am else 0 := rfl
        have e6 : fld (depM d rc tk am) 6 = tk := rfl
        have e7 : fld (depM d rc tk am) 7 = am := rfl
        have e0 : fld (depM d rc tk am) 0 = 2 := rfl
        rw [e, e6, e7, e0]
        show Cong (hold P.la s + hold P.lb s + _ - _) (hold P.la s + hold P.lb s)
        by_cases z : tk = s
        · rw [if_pos ⟨rfl, z⟩, if_pos z]; exact ⟨0, by omega⟩
        · rw [if_neg (fun q => z q.2), if_neg z]; exact ⟨0, by omega⟩
  · exact h
theorem ti_step {P : Pr} {kd : Int} {n : Nat} {L : Nat → Leg} {T : Nat → List Int} {ch pt gs ac tk am : Int} (h : TI P) (ht : ∀ i, i < n → TxOk (T i) ∧ fld (T i) 1 = (L i).tch) : TI (stepS P kd n L T ch pt gs ac tk am) := by
  unfold stepS
  split
  · exact ti_sim h ht true
  · split
    · exact ti_dep h
    · split
      · unfold nextS
        split
        · refine h.congr rfl rfl (fun f => ?_)
          unfold nbS Pr.box
          split
          · exact ⟨rfl, rfl, rfl⟩
          · split
            · exact ⟨rfl, rfl, rfl⟩
            · exact ⟨rfl, rfl, rfl⟩
        · exact h
      · split
        · have hL : ∀ sv, TI (dpL P ch sv) := fun sv => by
            unfold dpL
            split
            · exact h.congr rfl rfl (fun f => ⟨rfl, rfl, rfl⟩)
            · exact h.congr rfl rfl (fun f => ⟨rfl, rfl, rfl⟩)
          have hB : ∀ sv, TI (dpB P ch sv) := fun sv => by
            unfold dpB
            split
            · exact h.congr rfl rfl (fun f => ⟨rfl, rfl, rfl⟩)
            · exact h.congr rfl rfl (fun f => ⟨rfl, rfl, rfl⟩)
          unfold dpS
          split
          · exact h
          · split
            · split
              · exact hL _
              · exact hB _
            · split
              · exact hL _
              · exact hB _
        · exact h
theorem sumK0 (s : Nat) : ∀ k, sumK (List.replicate 256 0) s k = 0
  | 0 => rfl
  | k + 1 => by
    rw [sumK, sumK0 s k]
    unfold fld
    rw [List.getElem?_replicate]
    split <;> rfl
theorem ti0 : TI pr0 := by
  have ho : ∀ f, isCh f → (pr0.box f).out = [] ∧ (pr0.box f).inb = [] ∧ (pr0.box f).ch = f := fun f hf => by
    rcases hf with rfl | rfl | rfl <;> exact ⟨rfl, rfl, rfl⟩
  refine ⟨fun f hf i m hm => ?_, fun f hf => (ho f hf).2.2, fun f hf m hm => ?_, fun m hm => ?_, fun f hf m hm => ?_, ⟨List.length_replicate, List.length_replicate⟩, fun s hs => ?_⟩
  · rw [(ho f hf).1] at hm; simp at hm
  · rw [(ho f hf).1] at hm; cases hm
  · rw [(ho 3 (.inr (.inr rfl))).1] at hm; cases hm
  · rw [(ho f (isCh_of hf)).2.1] at hm; cases hm
  · have e1 : hold pr0.la s = 0 := sumK0 s 64
    have e2 : hold pr0.lb s = 0 := sumK0 s 64
    rw [e1, e2]
    exact Cong.refl _
end Go.Proofs.Qxb6500784a
