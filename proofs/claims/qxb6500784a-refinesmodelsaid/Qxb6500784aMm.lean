import Derived.Test.Qxb6500784aIv
import Derived.Test.Qxb6500784aRq
namespace Go.Proofs.Qxb6500784a
open Go.RowKit

/-! ### MessagesMatch, plain -/
theorem Pr.setB_box (P : Pr) {c : Int} (hc : c = 1 ∨ c = 2) (x : Box0) (sv : List Box0) (f : Int) : (P.setB c x sv).box f = if f = c then x else P.box f := by
  rcases hc with rfl | rfl
  · by_cases h1 : f = 1
    · simp [Pr.setB, Pr.box, h1]
    · simp [Pr.setB, Pr.box, h1]
  · by_cases h1 : f = 1
    · simp [Pr.setB, Pr.box, h1]
    · by_cases h2 : f = 2
      · simp [Pr.setB, Pr.box, h2]
      · simp [Pr.setB, Pr.box, h1, h2]
theorem ref_facts {l : Led0} {t : List Int} (h : refP l t = 0) : (fld t 0 = 1 ∨ fld t 0 = 2 ∨ fld t 0 = 3 ∨ fld t 0 = 4 ∨ fld t 0 = 5) ∧ fld t 1 = l.ch ∧ ((fld t 0 = 3 ∨ fld t 0 = 5) → fld t 44 = l.ch) := by
  unfold refP at h
  split at h
  · contradiction
  · rename_i hA
    have hA0 : refA l t = 0 := Classical.not_not.1 hA
    split at h
    · contradiction
    · rename_i hB
      have hB0 : refB l t = 0 := Classical.not_not.1 hB
      have k1 : 1 ≤ fld t 0 ∧ fld t 0 ≤ 5 ∧ fld t 1 = l.ch := by
        unfold refA at hA0
        split at hA0
        · cases hA0
        · split at hA0
          · cases hA0
          · rename_i a b
            exact ⟨by omega, by omega, Classical.not_not.1 b⟩
      refine ⟨by omega, k1.2.2, fun hk => ?_⟩
      unfold refB at hB0
      rw [if_neg (by omega), if_neg (by omega), if_neg (by omega)] at hB0
      split at hB0
      · split at hB0
        · cases hB0
        · split at hB0
          · cases hB0
          · rename_i b; exact Classical.not_not.1 b
      · split at hB0
        · cases hB0
        · split at hB0
          · cases hB0
          · rename_i b; exact Classical.not_not.1 b
/-- What a leg that is accepted does to the boxes and the result. -/
inductive LegDone (P : Pr) (c : Int) (t : List Int) (r : Rs) (Q : Pr) (q : Rs) : Prop
  | plain (h1 : ∀ f, Q.box f = P.box f) (h2 : q.stm = r.stm) (h3 : ∃ x, q.rcs = r.rcs ++ [x] ∧ x.ht = false)
  | sent (m : Msg) (h1 : ∀ f, Q.box f = if f = c then sentB (P.box c) m else P.box f) (hf : fld m 1 = c) (hl : 5 < m.length) (h2 : q.stm = r.stm ++ [stamp (P.box c) m]) (h3 : ∃ x, q.rcs = r.rcs ++ [x] ∧ x.ht = false)
  | took (h1 : ∀ f, Q.box f = if f = c then tookB (P.box c) (txMsg t) else P.box f) (h2 : q.stm = r.stm) (h3 : ∃ x, q.rcs = r.rcs ++ [x] ∧ x.ht = true ∧ x.took = txMsg t) (hto : fld t 44 = c) (hin : txMsg t ∉ (P.box c).inb) (hout : txMsg t ∈ (P.box (fld t 43)).out)
theorem leg_done {P : Pr} {c : Int} {t : List Int} {r : Rs} (hc : c = 1 ∨ c = 2) (ht1 : fld t 1 = c) (h0 : legC P c t = 0) : LegDone P c t r (legS P c t) (legR P c t r) := by
  have hr : refP (P.led c) t = 0 := by
    unfold legC at h0
    split at h0
    · rename_i hh; exact absurd h0 hh
    · rename_i hh; exact Classical.not_not.1 hh
  obtain ⟨hk, hch, hto⟩ := ref_facts hr
  have hlc : (P.led c).ch = c := by rw [← hch]; exact ht1
  have nr : ¬ refP (P.led c) t ≠ 0 := by simp [hr]
  unfold legC at h0
  rw [if_neg nr] at h0
  by_cases h35 : fld t 0 = 3 ∨ fld t 0 = 5
  · rw [if_pos h35] at h0
    have hcon : ¬ (fld (txMsg t) 2 ≠ (P.box c).ch ∨ fld (txMsg t) 1 ≠ (P.box (fld t 43)).ch ∨ (P.box (fld t 43)).out[(fld (txMsg t) 5).toNat]? ≠ some (txMsg t)) ∧ txMsg t ∉ (P.box c).inb := by
      have h := h0
      unfold conP at h
      split at h
      · cases h
      · split at h
        · cases h
        · rename_i a b; exact ⟨a, b⟩
    refine .took ?_ ?_ ?_ ?_ hcon.2 ?_
    · intro f
      rw [legS, if_neg nr, if_pos h35, Pr.setB_box _ hc, Pr.setL_box, conB, if_pos h0]
    · rw [legR]; show (if fld t 0 = 2 ∨ fld t 0 = 4 then _ else r.stm) = r.stm
      rw [if_neg (by omega)]
    · refine ⟨appR (P.led c) t, rfl, ?_⟩
      rw [appR, if_neg nr, if_neg (by omega), if_neg (by omega), if_neg (by omega)]
      exact ⟨rfl, rfl⟩
    · rw [hto h35, hlc]
    · have : (P.box (fld t 43)).out[(fld (txMsg t) 5).toNat]? = some (txMsg t) := Classical.not_not.1 (fun e => hcon.1 (.inr (.inr e)))
      exact List.mem_of_getElem? this
  · rw [if_neg h35] at h0
    by_cases h24 : fld t 0 = 2 ∨ fld t 0 = 4
    · rw [if_pos h24] at h0
      have hsn : ¬ 32 ≤ (P.box c).sn := by
        intro e
        unfold sndP at h0
        rw [if_pos e] at h0
        cases h0
      refine .sent (sntM (P.led c) t) ?_ ?_ ?_ ?_ ?_
      · intro f
        rw [legS, if_neg nr, if_neg h35, if_pos h24, Pr.setB_box _ hc, Pr.setL_box, sndB, if_neg hsn]
      · unfold sntM
        split
        · show (P.led c).ch = c; exact hlc
        · show (P.led c).ch = c; exact hlc
      · unfold sntM
        split
        · simp [burnM]
        · simp [sendM]
      · rw [legR]; show (if fld t 0 = 2 ∨ fld t 0 = 4 then r.stm ++ [stamp (P.box c) (sntM (P.led c) t)] else r.stm) = _
        rw [if_pos h24]
      · refine ⟨appR (P.led c) t, rfl, ?_⟩
        rw [appR, if_neg nr, if_neg (by omega)]
        split
        · rfl
        · rw [if_pos (by omega)]; rfl
    · refine .plain ?_ ?_ ?_
      · intro f
        rw [legS, if_neg nr, if_neg h35, if_neg h24, Pr.setL_box]
      · rw [legR]; show (if fld t 0 = 2 ∨ fld t 0 = 4 then _ else r.stm) = r.stm
        rw [if_neg h24]
      · refine ⟨appR (P.led c) t, rfl, ?_⟩
        rw [appR, if_neg nr, if_pos (by omega)]
        rfl
/-- What holds of a receipt. -/
structure RcpOk (P0 Q : Pr) (S : List Msg) (c : Int) (t : List Int) (x : Rcp) : Prop where
  tk : x.took = txMsg t
  dst : fld t 44 = c
  am : txMsg t ∈ S ∨ txMsg t ∈ (P0.box (fld t 43)).out
  ct : (Q.box c).inb.count (txMsg t) = 1
  no : txMsg t ∉ (P0.box c).inb
/-- What holds along the legs. -/
structure RunI (P0 : Pr) (L : Nat → Leg) (T : Nat → List Int) (is : List Nat) (Q : Pr) (r : Rs) : Prop where
  ou : ∀ f, ∃ X, (Q.box f).out = (P0.box f).out ++ X ∧ ∀ x, x ∈ X → x ∈ r.stm
  inb : ∀ f m, m ∈ (P0.box f).inb → m ∈ (Q.box f).inb
  st : ∀ m, m ∈ r.stm → (Q.box (fld m 1)).out[(fld m 5).toNat]? = some m ∧ 0 ≤ fld m 5 ∧ ((P0.box (fld m 1)).out.length : Int) ≤ fld m 5
  ln : r.rcs.length = is.length
  rc : ∀ (j i : Nat) (x : Rcp), is[j]? = some i → r.rcs[j]? = some x → x.ht = true → RcpOk P0 Q r.stm (L i).ch (T i) x
theorem fld_stamp (x : Box0) (m : Msg) (h : 5 < m.length) : fld (stamp x m) 5 = x.out.length ∧ fld (stamp x m) 1 = fld m 1 := by
  refine ⟨?_, ?_⟩
  · unfold fld stamp; rw [List.getElem?_set_self h]; rfl
  · unfold fld stamp; rw [List.getElem?_set_ne (by omega)]
theorem RunI.step {P0 : Pr} {L : Nat → Leg} {T : Nat → List Int} {is : List Nat} {Q Q' : Pr} {r r' : Rs} {i : Nat} (h : RunI P0 L T is Q r) (hd : LegDone Q (L i).ch (T i) r Q' r') : RunI P0 L T (is ++ [i]) Q' r' := by
  -- receipts that stand already
  have old : ∀ (hcount : ∀ (f : Int) (m : Msg), m ∈ (Q.box f).inb → (Q.box f).inb.count m = 1 → (Q'.box f).inb.count m = 1) (hstm : ∀ m, m ∈ r.stm → m ∈ r'.stm) (x0 : Rcp) (hrc : r'.rcs = r.rcs ++ [x0]) (hnew : x0.ht = true → RcpOk P0 Q' r'.stm (L i).ch (T i) x0),
      r'.rcs.length = (is ++ [i]).length ∧ ∀ (j k : Nat) (x : Rcp), (is ++ [i])[j]? = some k → r'.rcs[j]? = some x → x.ht = true → RcpOk P0 Q' r'.stm (L k).ch (T k) x := by
    intro hcount hstm x0 hrc hnew
    refine ⟨by rw [hrc]; simp [h.ln], fun j k x hj hx hh => ?_⟩
    rw [hrc] at hx
    rcases Nat.lt_or_ge j is.length with z | z
    · rw [List.getElem?_append_left z] at hj
      rw [List.getElem?_append_left (by rw [h.ln]; exact z)] at hx
      have k0 := h.rc j k x hj hx hh
      refine ⟨k0.tk, k0.dst, k0.am.imp (hstm _) id, hcount _ _ ?_ k0.ct, k0.no⟩
      exact List.count_pos_iff.1 (by rw [k0.ct]; omega)
    · have hj2 := (List.getElem?_eq_some_iff.1 hj).1
      have ej : j = is.length := by simp at hj2; omega
      subst ej
      rw [List.getElem?_append_right (Nat.le_refl _)] at hj
      rw [← h.ln, List.getElem?_append_right (Nat.le_refl _)] at hx
      simp at hj hx
      subst hj hx
      exact hnew hh
  cases hd with
  | plain h1 h2 h3 =>
    obtain ⟨x0, hrc, hht⟩ := h3
    obtain ⟨a, b⟩ := old (fun f m _ hc => by rw [h1]; exact hc) (fun m hm => by rw [h2]; exact hm) x0 hrc (fun e => by rw [hht] at e; cases e)
    refine ⟨fun f => ?_, fun f m hm => by rw [h1]; exact h.inb f m hm, fun m hm => ?_, a, b⟩
    · rw [h1, h2]; exact h.ou f
    · rw [h2] at hm; rw [h1]; exact h.st m hm
  | sent m h1 hf hl h2 h3 =>
    obtain ⟨x0, hrc, hht⟩ := h3
    have ein : ∀ f, (Q'.box f).inb = (Q.box f).inb := fun f => by
      rw [h1]; split
      · rename_i e; rw [e]; rfl
      · rfl
    obtain ⟨a, b⟩ := old (fun f m _ hc => by rw [ein]; exact hc) (fun m hm => by rw [h2]; exact List.mem_append_left _ hm) x0 hrc (fun e => by rw [hht] at e; cases e)
    have eou : ∀ f, ∃ Y, (Q'.box f).out = (Q.box f).out ++ Y ∧ ∀ y, y ∈ Y → y = stamp (Q.box (L i).ch) m := fun f => by
      rw [h1]; split
      · rename_i e; rw [e]; exact ⟨[stamp (Q.box (L i).ch) m], rfl, fun y hy => by simpa using hy⟩
      · exact ⟨[], by simp, fun y hy => by cases hy⟩
    obtain ⟨s5, s1⟩ := fld_stamp (Q.box (L i).ch) m hl
    refine ⟨fun f => ?_, fun f m hm => by rw [ein]; exact h.inb f m hm, fun y hy => ?_, a, b⟩
    · obtain ⟨X, e1, e2⟩ := h.ou f
      obtain ⟨Y, e3, e4⟩ := eou f
      refine ⟨X ++ Y, by rw [e3, e1, List.append_assoc], fun x hx => ?_⟩
      rw [h2]
      rcases List.mem_append.1 hx with z | z
      · exact List.mem_append_left _ (e2 x z)
      · rw [e4 x z]; exact List.mem_append_right _ (by simp)
    · rw [h2] at hy
      rcases List.mem_append.1 hy with z | z
      · obtain ⟨g1, g2, g3⟩ := h.st y z
        obtain ⟨Y, e3, _⟩ := eou (fld y 1)
        refine ⟨?_, g2, g3⟩
        rw [e3, List.getElem?_append_left (List.getElem?_eq_some_iff.1 g1).1]; exact g1
      · have e : y = stamp (Q.box (L i).ch) m := by simpa using z
        subst e
        rw [s5, s1, hf]
        refine ⟨?_, by omega, ?_⟩
        · rw [h1, if_pos rfl]
          show ((Q.box (L i).ch).out ++ [stamp (Q.box (L i).ch) m])[_]? = _
          rw [Int.toNat_natCast, List.getElem?_append_right (Nat.le_refl _)]
          simp
        · obtain ⟨X, e1, _⟩ := h.ou (L i).ch
          rw [e1]; simp; omega
  | took h1 h2 h3 hto hin hout =>
    obtain ⟨x0, hrc, hht, htk⟩ := h3
    have eou : ∀ f, (Q'.box f).out = (Q.box f).out := fun f => by
      rw [h1]; split
      · rename_i e; rw [e]; rfl
      · rfl
    have cnt : ∀ (f : Int) (m : Msg), m ∈ (Q.box f).inb → (Q.box f).inb.count m = 1 → (Q'.box f).inb.count m = 1 := fun f m hm hc => by
      rw [h1]; split
      · rename_i e
        subst e
        show ((Q.box (L i).ch).inb ++ [txMsg (T i)]).count m = 1
        rw [List.count_append, hc]
        have : m ≠ txMsg (T i) := fun e => hin (e ▸ hm)
        simp [Ne.symm this]
      · exact hc
    have hnew : x0.ht = true → RcpOk P0 Q' r'.stm (L i).ch (T i) x0 := fun _ => by
      refine ⟨htk, hto, ?_, ?_, fun e => hin (h.inb _ _ e)⟩
      · obtain ⟨X, e1, e2⟩ := h.ou (fld (T i) 43)
        rw [e1] at hout
        rw [h2]
        rcases List.mem_append.1 hout with z | z
        · exact .inr z
        · exact .inl (e2 _ z)
      · rw [h1, if_pos rfl]
        show ((Q.box (L i).ch).inb ++ [txMsg (T i)]).count (txMsg (T i)) = 1
        rw [List.count_append, List.count_eq_zero.2 hin]
        simp
    obtain ⟨a, b⟩ := old cnt (fun m hm => by rw [h2]; exact hm) x0 hrc hnew
    refine ⟨fun f => by rw [eou, h2]; exact h.ou f, fun f m hm => ?_, fun m hm => ?_, a, b⟩
    · rw [h1]; split
      · rename_i e; rw [e] at hm; exact List.mem_append_left _ (h.inb _ _ hm)
      · exact h.inb f m hm
    · rw [h2] at hm; rw [eou]; exact h.st m hm
theorem run_I {P0 : Pr} {L : Nat → Leg} {T : Nat → List Int} : ∀ (is js : List Nat) (Q : Pr) (r : Rs), (∀ i, i ∈ is → ((L i).ch = 1 ∨ (L i).ch = 2) ∧ fld (T i) 1 = (L i).ch) → RunI P0 L T js Q r → (runK L T is Q r).2.2.1 = 0 → RunI P0 L T (js ++ is) (runK L T is Q r).1 (runK L T is Q r).2.1
  | [], js, Q, r, _, h, _ => by simpa [runK] using h
  | i :: is, js, Q, r, hl, h, h0 => by
    rw [runK] at h0 ⊢
    by_cases hc : legC Q (L i).ch (T i) = 0
    · rw [if_pos hc] at h0 ⊢
      obtain ⟨a, b⟩ := hl i (by simp)
      have := run_I is (js ++ [i]) _ _ (fun k hk => hl k (List.mem_cons_of_mem _ hk)) (h.step (leg_done (r := r) a b hc)) h0
      simpa using this
    · rw [if_neg hc] at h0
      exact absurd h0 hc
theorem runK_ord {L : Nat → Leg} {T : Nat → List Int} : ∀ (is : List Nat) (Q : Pr) (r : Rs), (runK L T is Q r).2.1.ord = r.ord ∧ (runK L T is Q r).2.1.code = r.code
  | [], Q, r => ⟨rfl, rfl⟩
  | i :: is, Q, r => by
    rw [runK]
    split
    · exact runK_ord is _ (legR Q (L i).ch (T i) r)
    · exact ⟨rfl, rfl⟩
theorem match_plain {P : Pr} {n : Nat} {L : Nat → Leg} {T : Nat → List Int} {v : Value} (h : (simR P n L T v).code = 0) (ht : ∀ i, i < n → fld (T i) 1 = (L i).tch) :
    RunI P L T (ordP n L) (simS true P n L T) (simR P n L T v) ∧ (simR P n L T v).ord = ordI (ordP n L) ∧ ordCode n L = 0 := by
  have h1 : ordCode n L = 0 := by
    refine Classical.byContradiction fun e => ?_
    rw [simR, if_pos e] at h
    exact e h
  have h2 : shallow P := by
    refine Classical.byContradiction fun e => ?_
    rw [simR, if_neg (by simp [h1]), if_pos e] at h
    have : (34 : Int) = 0 := h
    omega
  have h3 : (simK P n L T v).2.2.1 = 0 := by
    refine Classical.byContradiction fun e => ?_
    rw [simR, if_neg (by simp [h1]), if_neg (by simp [h2]), if_pos e] at h
    exact e h
  have e0 : simR P n L T v = { (simK P n L T v).2.1 with ra := rootP (simK P n L T v).1.la, rb := rootP (simK P n L T v).1.lb } := by
    rw [simR, if_neg (by simp [h1]), if_neg (by simp [h2]), if_neg (by simp [h3])]
  obtain ⟨hn0, hn8, hol, hon, hom, hoc⟩ := ord_facts h1
  have E := runK_E (L := L) (T := T) (ordP n L) (opened P) (res0 (ordI (ordP n L)) v) (res0 (ordI (ordP n L)) nilS) ⟨rfl, rfl, rfl, rfl, rfl, rfl, rfl, rfl⟩
  have e1 : (simK P n L T nilS).1 = (simK P n L T v).1 := E.1
  have e2 : (simK P n L T nilS).2.2 = (simK P n L T v).2.2 := E.2.2
  have es : simS true P n L T = kept (simK P n L T v).1 P := by
    rw [simS, if_pos ⟨rfl, h1, h2, by rw [e2]; exact h3⟩, e1]
  have k := run_I (P0 := P) (L := L) (T := T) (ordP n L) [] (opened P) (res0 (ordI (ordP n L)) v) (fun i hi => ⟨(hoc i (hom i hi)).1, by rw [ht i (hom i hi)]; exact (hoc i (hom i hi)).2⟩) ⟨fun f => ⟨[], by simp [opened, Pr.box], fun x hx => by cases hx⟩, fun f m hm => hm, fun m hm => by simp [res0] at hm, rfl, fun j i x hj => by simp at hj⟩ h3
  rw [List.nil_append] at k
  have k' : RunI P L T (ordP n L) (simK P n L T v).1 (simK P n L T v).2.1 := k
  refine ⟨?_, ?_, h1⟩
  · rw [es, e0]
    exact ⟨k'.ou, k'.inb, k'.st, k'.ln, fun j i x hj hx hh => by have q := k'.rc j i x hj hx hh; exact ⟨q.tk, q.dst, q.am, q.ct, q.no⟩⟩
  · rw [e0]
    exact (runK_ord (L := L) (T := T) (ordP n L) (opened P) (res0 (ordI (ordP n L)) v)).1
end Go.Proofs.Qxb6500784a
