import Derived.Test.Qxb6500777aEvi
namespace Go.Proofs.Qxb6500777a

/-! ### What holds of a table between the steps -/
def cntU (f : Nat → Slt) (n : Nat) : Int := sumN (fun k => if (f k).used then 1 else 0) n
structure TInv (T : Tbl) : Prop where
  ok : ∀ k, k < 64 → SltOk (T.sl k)
  zero : ∀ k, k < 64 → (T.sl k).used = false → T.sl k = slt0
  cnt : T.held = cntU T.sl 64
  wh1 : ∀ k, k < 64 → (T.sl k).used = true → T.wh (T.sl k).tg.toNat = k
  wh2 : ∀ t : Nat, t < 112 → T.wh t = -1 ∨ ∃ k : Nat, k < 64 ∧ T.wh t = k ∧ (T.sl k).used = true ∧ (T.sl k).tg = t
  num : ∀ k, k < 64 → (T.sl k).used = true → 1 ≤ (T.sl k).tr.num ∧ (T.sl k).tr.num < T.next
  dif : ∀ i j, i < 64 → j < 64 → i ≠ j → (T.sl i).used = true → (T.sl j).used = true → (T.sl i).tr.num ≠ (T.sl j).tr.num
  nx : 1 ≤ T.next ∧ T.next ≤ 1000000000
theorem cnt_upd (f : Nat → Slt) (i : Nat) (s : Slt) (n : Nat) (h : i < n) : cntU (upd f i s) n = cntU f n + ((if s.used then 1 else 0) - (if (f i).used then 1 else 0)) := by
  unfold cntU
  rw [← sum_upd (fun k => if (f k).used then 1 else 0) i (if s.used then 1 else 0) n h]
  refine sum_congr n fun k _ => ?_
  unfold upd
  by_cases e : k = i <;> simp [e]
theorem cnt_rng (f : Nat → Slt) : ∀ n, 0 ≤ cntU f n ∧ cntU f n ≤ n
  | 0 => by simp [cntU, sumN]
  | n + 1 => by
    have := cnt_rng f n
    unfold cntU at *
    rw [sumN]
    split <;> omega
/-- Where one is free. -/
theorem free_ex (f : Nat → Slt) : ∀ n, cntU f n < n → ∃ i, i < n ∧ (f i).used = false ∧ ∀ k, k < i → (f k).used = true
  | 0, h => by simp [cntU, sumN] at h
  | n + 1, h => by
    by_cases hn : cntU f n < n
    · obtain ⟨i, h1, h2, h3⟩ := free_ex f n hn
      exact ⟨i, by omega, h2, h3⟩
    · have hr := cnt_rng f n
      have e : cntU f (n + 1) = cntU f n + (if (f n).used then 1 else 0) := rfl
      have hu : (f n).used = false := by
        cases hh : (f n).used
        · rfl
        · rw [hh] at e; simp at e; omega
      refine ⟨n, by omega, hu, fun k hk => ?_⟩
      cases hh : (f k).used
      · exfalso
        have e2 := cnt_upd f k ⟨true, 0, 0, trk0⟩ n hk
        have r2 := cnt_rng (upd f k ⟨true, 0, 0, trk0⟩) n
        rw [hh] at e2
        simp at e2
        omega
      · rfl
/-- Where one is used. -/
theorem used_ex (f : Nat → Slt) : ∀ n, 0 < cntU f n → ∃ i, i < n ∧ (f i).used = true
  | 0, h => by simp [cntU, sumN] at h
  | n + 1, h => by
    cases hh : (f n).used
    · have e : cntU f (n + 1) = cntU f n + (if (f n).used then 1 else 0) := rfl
      rw [hh] at e
      simp at e
      obtain ⟨i, h1, h2⟩ := used_ex f n (by omega)
      exact ⟨i, by omega, h2⟩
    · exact ⟨n, by omega, hh⟩
theorem vic_some (T : Tbl) : ∀ n k, k < n → (T.sl k).used = true → ∃ v, vicP T n = some v
  | 0, k, h, _ => by omega
  | n + 1, k, h, hu => by
    rw [vicP]
    cases e : vicP T n with
    | none =>
      by_cases hk : k = n
      · subst hk
        exact ⟨k, by simp [hu]⟩
      · obtain ⟨v, hv⟩ := vic_some T n k (by omega) hu
        rw [e] at hv; cases hv
    | some u =>
      dsimp only
      split
      · exact ⟨n, rfl⟩
      · exact ⟨u, rfl⟩
section
variable {T : Tbl}
theorem TInv.tgn (h : TInv T) {k : Nat} (hk : k < 64) : (T.sl k).tg.toNat < 112 ∧ ((T.sl k).tg.toNat : Int) = (T.sl k).tg := by
  have := (h.ok k hk).tg; omega
/-- Two used slots follow different targets. -/
theorem TInv.tdif (h : TInv T) {i j : Nat} (hi : i < 64) (hj : j < 64) (ui : (T.sl i).used = true) (uj : (T.sl j).used = true) (e : (T.sl i).tg = (T.sl j).tg) : i = j := by
  have a := h.wh1 i hi ui
  have b := h.wh1 j hj uj
  rw [e, b] at a
  omega
theorem TInv.rel (h : TInv T) {i : Nat} (hi : i < 64) (hu : (T.sl i).used = true) : TInv (relP T i) := by
  have hc := cnt_upd T.sl i slt0 64 hi
  rw [hu] at hc
  have hus : ∀ k, ((relP T i).sl k).used = true → k ≠ i ∧ (T.sl k).used = true ∧ (relP T i).sl k = T.sl k := fun k hk => by
    by_cases e : k = i
    · subst e
      have : (relP T k).sl k = slt0 := upd_same _ _ _
      rw [this] at hk; cases hk
    · have e2 : (relP T i).sl k = T.sl k := upd_ne _ _ e
      rw [e2] at hk
      exact ⟨e, hk, e2⟩
  refine ⟨rel_ok h.ok, fun k hk hz => ?_, ?_, fun k hk hk' => ?_, fun t ht => ?_, fun k hk hk' => ?_, fun a c ha hc' hac ua uc => ?_, h.nx⟩
  · by_cases e : k = i
    · subst e; exact upd_same _ _ _
    · have e2 : (relP T i).sl k = T.sl k := upd_ne _ _ e
      rw [e2] at hz ⊢
      exact h.zero k hk hz
  · show T.held - 1 = cntU (upd T.sl i slt0) 64
    rw [hc, h.cnt]; simp [slt0]; omega
  · obtain ⟨h1, h2, h3⟩ := hus k hk'
    rw [h3]
    show upd T.wh (T.sl i).tg.toNat (-1) (T.sl k).tg.toNat = k
    rw [upd_ne _ _ (fun e => h1 (h.tdif hk hi h2 hu (by have := h.tgn hk; have := h.tgn hi; omega)))]
    exact h.wh1 k hk h2
  · by_cases e : t = (T.sl i).tg.toNat
    · left
      show upd T.wh (T.sl i).tg.toNat (-1) t = -1
      rw [e, upd_same]
    · have e2 : (relP T i).wh t = T.wh t := upd_ne _ _ e
      rw [e2]
      rcases h.wh2 t ht with z | ⟨k, hk, z1, z2, z3⟩
      · exact .inl z
      · have hki : k ≠ i := fun x => by subst x; have := h.tgn hk; omega
        have e3 : (relP T i).sl k = T.sl k := upd_ne _ _ hki
        exact .inr ⟨k, hk, z1, by rw [e3]; exact z2, by rw [e3]; exact z3⟩
  · obtain ⟨h1, h2, h3⟩ := hus k hk'
    rw [h3]
    exact h.num k hk h2
  · obtain ⟨a1, a2, a3⟩ := hus a ua
    obtain ⟨c1, c2, c3⟩ := hus c uc
    rw [a3, c3]
    exact h.dif a c ha hc' hac a2 c2
theorem alike_self (s : Slt) : alikeP s s = true := by simp [alikeP]
theorem evR_high (g : Slt) : ∀ n k, n ≤ k → (evR g n T).sl k = T.sl k
  | 0, _, _ => rfl
  | n + 1, k, h => by
    rw [evR]
    split
    · have : (relP (evR g n T) n).sl k = (evR g n T).sl k := upd_ne _ _ (by omega)
      rw [this]; exact evR_high g n k (by omega)
    · exact evR_high g n k (by omega)
theorem TInv.evRow (h : TInv T) (g : Slt) : ∀ n, n ≤ 64 → TInv (evR g n T)
  | 0, _ => h
  | n + 1, hn => by
    have ih := TInv.evRow h g n (by omega)
    rw [evR]
    split
    · next hc => exact ih.rel (by omega) (Bool.and_eq_true _ _ ▸ hc).1
    · exact ih
theorem evR_held (h : TInv T) {v : Nat} (hu : (T.sl v).used = true) : ∀ n, v < n → n ≤ 64 → (evR (T.sl v) n T).held < T.held
  | 0, hv, _ => by omega
  | n + 1, hv, hn => by
    have hle := (evR_ok (g := T.sl v) h.ok n).2.2
    rw [evR]
    by_cases e : v = n
    · subst e
      rw [evR_high _ v v (Nat.le_refl _), hu, alike_self]
      show (evR (T.sl v) v T).held - 1 < T.held
      omega
    · have ih := evR_held h hu n (by omega) (by omega)
      split
      · show (evR (T.sl v) n T).held - 1 < T.held
        omega
      · exact ih
theorem TInv.evict (h : TInv T) {v : Nat} (hv : vicP T 64 = some v) : TInv (evictP T) ∧ (evictP T).held < T.held := by
  have e : evictP T = evR (T.sl v) 64 T := by unfold evictP; rw [hv]
  rw [e]
  have := vic_lt T 64 v hv
  exact ⟨h.evRow _ 64 (Nat.le_refl _), evR_held h this.2 64 this.1 (Nat.le_refl _)⟩
theorem credit_same (s : Slt) (g : Int) : (creditP s g).used = s.used ∧ (creditP s g).tg = s.tg ∧ (creditP s g).tr.num = s.tr.num := by
  unfold creditP
  split
  · exact ⟨rfl, rfl, rfl⟩
  · split
    · exact ⟨rfl, rfl, rfl⟩
    · split <;> exact ⟨rfl, rfl, rfl⟩
theorem TInv.admit (h : TInv T) {c : Ctc} (hc : CtcOk c) {i : Nat} (hi : i < 64) (hu : (T.sl i).used = false) (hw : T.wh c.tg.toNat = -1) (hn : T.next + 1 ≤ 1000000000) : TInv (admitP T i c) := by
  obtain ⟨s1, s2, s3⟩ := credit_same ⟨true, c.tg, 0, { c.seen with num := T.next }⟩ c.gr
  have hcn := cnt_upd T.sl i (newS T c) 64 hi
  rw [hu, show (newS T c).used = true from s1] at hcn
  have hnw : (admitP T i c).sl i = newS T c := upd_same _ _ _
  have hol : ∀ k, k ≠ i → (admitP T i c).sl k = T.sl k := fun k e => upd_ne _ _ e
  have hct := hc.tg
  have hnf : ∀ k, k < 64 → (T.sl k).used = true → (T.sl k).tg.toNat ≠ c.tg.toNat := fun k hk uk e => by
    have := h.wh1 k hk uk
    rw [e, hw] at this
    omega
  refine ⟨fun k hk => ?_, fun k hk hz => ?_, ?_, fun k hk hk' => ?_, fun t ht => ?_, fun k hk hk' => ?_, fun a d ha hd had ua ud => ?_, ?_⟩
  · by_cases e : k = i
    · subst e; rw [hnw]; exact credit_ok (c0_ok hc (by have := h.nx; omega))
    · rw [hol k e]; exact h.ok k hk
  · by_cases e : k = i
    · subst e; rw [hnw, show (newS T c).used = true from s1] at hz; cases hz
    · rw [hol k e] at hz ⊢; exact h.zero k hk hz
  · show T.held + 1 = cntU (upd T.sl i (newS T c)) 64
    rw [hcn, h.cnt]; simp
  · by_cases e : k = i
    · subst e
      rw [hnw, show (newS T c).tg = c.tg from s2]
      show upd T.wh c.tg.toNat (k : Int) c.tg.toNat = k
      rw [upd_same]
    · rw [hol k e] at hk' ⊢
      show upd T.wh c.tg.toNat (i : Int) (T.sl k).tg.toNat = k
      rw [upd_ne _ _ (hnf k hk hk')]
      exact h.wh1 k hk hk'
  · by_cases e : t = c.tg.toNat
    · right
      refine ⟨i, hi, ?_, by rw [hnw]; exact s1, by rw [hnw, show (newS T c).tg = c.tg from s2]; omega⟩
      show upd T.wh c.tg.toNat (i : Int) t = i
      rw [e, upd_same]
    · have e2 : (admitP T i c).wh t = T.wh t := upd_ne _ _ e
      rw [e2]
      rcases h.wh2 t ht with z | ⟨k, hk, z1, z2, z3⟩
      · exact .inl z
      · have hki : k ≠ i := fun x => by subst x; rw [hu] at z2; cases z2
        exact .inr ⟨k, hk, z1, by rw [hol k hki]; exact z2, by rw [hol k hki]; exact z3⟩
  · by_cases e : k = i
    · subst e
      rw [hnw, show (newS T c).tr.num = T.next from s3]
      have := h.nx
      exact ⟨this.1, by show T.next < T.next + 1; omega⟩
    · rw [hol k e] at hk' ⊢
      have := h.num k hk hk'
      exact ⟨this.1, by show _ < T.next + 1; omega⟩
  · by_cases ea : a = i
    · subst ea
      have hda : d ≠ a := fun x => had x.symm
      rw [hol d hda] at ud
      rw [hnw, hol d hda, show (newS T c).tr.num = T.next from s3]
      have := h.num d hd ud
      omega
    · rw [hol a ea] at ua ⊢
      by_cases ed : d = i
      · subst ed
        rw [hnw, show (newS T c).tr.num = T.next from s3]
        have := h.num a ha ua
        omega
      · rw [hol d ed] at ud ⊢
        exact h.dif a d ha hd had ua ud
  · have := h.nx
    exact ⟨by show 1 ≤ T.next + 1; omega, hn⟩
/-- A slot turns, but for use, target and number. -/
theorem TInv.slot (h : TInv T) {i : Nat} (hi : i < 64) {s : Slt} (hs : SltOk s) (hu : s.used = (T.sl i).used) (ht : s.tg = (T.sl i).tg) (hn : s.tr.num = (T.sl i).tr.num) (hz : (T.sl i).used = true) : TInv { T with sl := upd T.sl i s } := by
  have f1 : ∀ k, (upd T.sl i s k).used = (T.sl k).used ∧ (upd T.sl i s k).tg = (T.sl k).tg ∧ (upd T.sl i s k).tr.num = (T.sl k).tr.num := fun k => by
    by_cases e : k = i
    · subst e; rw [upd_same]; exact ⟨hu, ht, hn⟩
    · rw [upd_ne _ _ e]; exact ⟨rfl, rfl, rfl⟩
  have hc := cnt_upd T.sl i s 64 hi
  rw [hu] at hc
  refine ⟨fun k hk => ?_, fun k hk e0 => ?_, ?_, fun k hk hk' => ?_, fun t ht' => ?_, fun k hk hk' => ?_, fun a d ha hd had ua ud => ?_, h.nx⟩
  · show SltOk (upd T.sl i s k)
    by_cases e : k = i
    · subst e; rw [upd_same]; exact hs
    · rw [upd_ne _ _ e]; exact h.ok k hk
  · show upd T.sl i s k = slt0
    have e1 : (T.sl k).used = false := (f1 k).1.symm.trans e0
    by_cases e : k = i
    · subst e; rw [hz] at e1; cases e1
    · rw [upd_ne _ _ e]; exact h.zero k hk e1
  · show T.held = cntU (upd T.sl i s) 64
    rw [hc, h.cnt]; omega
  · show T.wh (upd T.sl i s k).tg.toNat = k
    rw [(f1 k).2.1]
    exact h.wh1 k hk ((f1 k).1.symm.trans hk')
  · rcases h.wh2 t ht' with z | ⟨k, hk, z1, z2, z3⟩
    · exact .inl z
    · exact .inr ⟨k, hk, z1, (f1 k).1.trans z2, (f1 k).2.1.trans z3⟩
  · show 1 ≤ (upd T.sl i s k).tr.num ∧ (upd T.sl i s k).tr.num < T.next
    rw [(f1 k).2.2]
    exact h.num k hk ((f1 k).1.symm.trans hk')
  · show (upd T.sl i s a).tr.num ≠ (upd T.sl i s d).tr.num
    rw [(f1 a).2.2, (f1 d).2.2]
    exact h.dif a d ha hd had ((f1 a).1.symm.trans ua) ((f1 d).1.symm.trans ud)
/-- Two used slots change their numbers. -/
theorem TInv.ex (h : TInv T) {i j : Nat} (hi : i < 64) (hj : j < 64) (hij : i ≠ j) (ui : (T.sl i).used = true) (uj : (T.sl j).used = true) : TInv (exP T i j) := by
  have si : (exP T i j).sl i = numd (T.sl j) (T.sl i).tr.num := by
    show upd (upd T.sl i _) j _ i = _
    rw [upd_ne _ _ hij, upd_same]
  have sj : (exP T i j).sl j = numd (T.sl i) (T.sl j).tr.num := upd_same _ _ _
  have so : ∀ k, k ≠ i → k ≠ j → (exP T i j).sl k = T.sl k := fun k e1 e2 => by
    show upd (upd T.sl i _) j _ k = _
    rw [upd_ne _ _ e2, upd_ne _ _ e1]
  have ti := h.tgn hi
  have tj := h.tgn hj
  have tne : (T.sl i).tg.toNat ≠ (T.sl j).tg.toNat := fun e => hij (h.tdif hi hj ui uj (by omega))
  have us : ∀ k, ((exP T i j).sl k).used = (T.sl k).used := fun k => by
    by_cases e1 : k = i
    · rw [e1, si, ui]; exact uj
    · by_cases e2 : k = j
      · rw [e2, sj, uj]; exact ui
      · rw [so k e1 e2]
  have wi : (exP T i j).wh (T.sl i).tg.toNat = j := upd_same _ _ _
  have wj : (exP T i j).wh (T.sl j).tg.toNat = i := by
    show upd (upd T.wh _ _) _ _ _ = _
    rw [upd_ne _ _ (fun e => tne e.symm), upd_same]
  have wo : ∀ t, t ≠ (T.sl i).tg.toNat → t ≠ (T.sl j).tg.toNat → (exP T i j).wh t = T.wh t := fun t e1 e2 => by
    show upd (upd T.wh _ _) _ _ _ = _
    rw [upd_ne _ _ e1, upd_ne _ _ e2]
  refine ⟨ex_ok h.ok hi hj, fun k hk hz => ?_, ?_, fun k hk hk' => ?_, fun t ht => ?_, fun k hk hk' => ?_, fun a d ha hd had ua ud => ?_, h.nx⟩
  · rw [us] at hz
    have e1 : k ≠ i := fun e => by rw [e, ui] at hz; cases hz
    have e2 : k ≠ j := fun e => by rw [e, uj] at hz; cases hz
    rw [so k e1 e2]; exact h.zero k hk hz
  · show T.held = cntU (exP T i j).sl 64
    rw [h.cnt]
    exact sum_congr 64 fun k _ => by rw [us k]
  · rw [us] at hk'
    by_cases e1 : k = i
    · subst e1; rw [si]; exact wj
    · by_cases e2 : k = j
      · subst e2; rw [sj]; exact wi
      · rw [so k e1 e2, wo _ (fun e => e1 (h.tdif hk hi hk' ui (by have := h.tgn hk; omega))) (fun e => e2 (h.tdif hk hj hk' uj (by have := h.tgn hk; omega)))]
        exact h.wh1 k hk hk'
  · by_cases e1 : t = (T.sl i).tg.toNat
    · rw [e1, wi]
      exact .inr ⟨j, hj, rfl, by rw [us]; exact uj, by rw [sj]; exact ti.2.symm⟩
    · by_cases e2 : t = (T.sl j).tg.toNat
      · rw [e2, wj]
        exact .inr ⟨i, hi, rfl, by rw [us]; exact ui, by rw [si]; exact tj.2.symm⟩
      · rw [wo t e1 e2]
        rcases h.wh2 t ht with z | ⟨k, hk, z1, z2, z3⟩
        · exact .inl z
        · have k1 : k ≠ i := fun x => by subst x; omega
          have k2 : k ≠ j := fun x => by subst x; omega
          exact .inr ⟨k, hk, z1, by rw [us]; exact z2, by rw [so k k1 k2]; exact z3⟩
  · rw [us] at hk'
    rw [ex_num]
    exact h.num k hk hk'
  · rw [us] at ua ud
    rw [ex_num, ex_num]
    exact h.dif a d ha hd had ua ud
end
end Go.Proofs.Qxb6500777a
