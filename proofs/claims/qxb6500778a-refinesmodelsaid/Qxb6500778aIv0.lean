import Derived.Test.Qxb6500778aNI
import Derived.Laws.BitsAllLaws
namespace Go.Proofs.Qxb6500778a
open Go.RowKit

/-! ### Undoing a batch, plain -/
theorem lk_nat (n i : Nat) (hn : n < 65536) : lkB (n : Int) i = n.testBit i := by
  unfold lkB
  have e : (n : Int) / 2 ^ i = ((n / 2 ^ i : Nat) : Int) := by simp
  rw [e, show (1 : Int) = ((1 : Nat) : Int) from rfl, u16_and_nat _ _ (Nat.lt_of_le_of_lt (Nat.div_le_self _ _) hn) (by decide), Nat.and_one_is_mod, Nat.testBit_eq_decide_div_mod_eq]
  rcases Nat.mod_two_eq_zero_or_one (n / 2 ^ i) with h | h <;> rw [h] <;> rfl
theorem st_nat (n i : Nat) (hn : n < 65536) (hi : i < 16) (on : Bool) : stB (n : Int) i on = ((if on = true then n ||| 2 ^ i else n &&& (65535 - 2 ^ i) : Nat) : Int) := by
  have hp : (2 : Nat) ^ i < 65536 := Nat.lt_of_le_of_lt (Nat.pow_le_pow_right (by decide) (by omega : i ≤ 15)) (by decide)
  have e : (2 : Int) ^ i = ((2 ^ i : Nat) : Int) := by simp
  unfold stB
  rw [e]
  cases on
  · rw [if_neg (by decide), if_neg (by decide), u16_andNot_nat _ _ hn hp]
  · rw [if_pos rfl, if_pos rfl, u16_or_nat _ _ hn hp]
theorem st_rng (m : Int) (i : Nat) (on : Bool) : 0 ≤ stB m i on ∧ stB m i on < 65536 := by
  unfold stB
  split
  · exact ⟨bits_lo_u16 _ _ _, by have := bits_hi_u16 BinOp.or m (2 ^ i); omega⟩
  · exact ⟨bits_lo_u16 _ _ _, by have := bits_hi_u16 BinOp.andNot m (2 ^ i); omega⟩
theorem lk_st {m : Int} (hm : 0 ≤ m ∧ m < 65536) {i j : Nat} (hi : i < 16) (hj : j < 16) (on : Bool) : lkB (stB m i on) j = if j = i then on else lkB m j := by
  obtain ⟨n, rfl⟩ : ∃ n : Nat, m = n := ⟨m.toNat, by omega⟩
  have hn : n < 65536 := by omega
  have hr := st_rng (n : Int) i on
  rw [st_nat n i hn hi] at hr ⊢
  rw [lk_nat _ _ (by omega), lk_nat _ _ hn]
  cases on
  · rw [if_neg (by decide), Nat.testBit_and, show 65535 - 2 ^ i = 2 ^ 16 - (2 ^ i + 1) by omega, Nat.testBit_two_pow_sub_succ (Nat.pow_lt_pow_right (by decide) hi), Nat.testBit_two_pow]
    by_cases h : j = i
    · subst h; simp
    · rw [if_neg h]; simp [hj, show ¬ i = j from fun e => h e.symm]
  · rw [if_pos rfl, Nat.testBit_or, Nat.testBit_two_pow]
    by_cases h : j = i
    · subst h; simp
    · rw [if_neg h]; simp [show ¬ i = j from fun e => h e.symm]
theorem lk_ext {m k : Int} (hm : 0 ≤ m ∧ m < 65536) (hk : 0 ≤ k ∧ k < 65536) (h : ∀ j, j < 16 → lkB m j = lkB k j) : m = k := by
  obtain ⟨n, rfl⟩ : ∃ n : Nat, m = n := ⟨m.toNat, by omega⟩
  obtain ⟨n2, rfl⟩ : ∃ n : Nat, k = n := ⟨k.toNat, by omega⟩
  have hn : n < 65536 := by omega
  have hn2 : n2 < 65536 := by omega
  congr 1
  apply Nat.eq_of_testBit_eq
  intro j
  by_cases hj : j < 16
  · have := h j hj
    rwa [lk_nat _ _ hn, lk_nat _ _ hn2] at this
  · have hp : (65536 : Nat) ≤ 2 ^ j := Nat.le_trans (by decide) (Nat.pow_le_pow_right (by decide : 0 < 2) (by omega : 16 ≤ j))
    rw [Nat.testBit_lt_two_pow (Nat.lt_of_lt_of_le hn hp), Nat.testBit_lt_two_pow (Nat.lt_of_lt_of_le hn2 hp)]
theorem st_undo {m : Int} (hm : 0 ≤ m ∧ m < 65536) {i : Nat} (hi : i < 16) (on : Bool) : stB (stB m i on) i (lkB m i) = m :=
  lk_ext (st_rng _ _ _) hm (fun j hj => by
    rw [lk_st (st_rng _ _ _) hi hj, lk_st hm hi hj]
    by_cases h : j = i
    · rw [if_pos h, h]
    · rw [if_neg h, if_neg h])
/-- links: in range, symmetric -/
structure LkOk (N : Nat → Dv) : Prop where
  rng : ∀ d, d < 16 → 0 ≤ (N d).lk ∧ (N d).lk < 65536
  sym : ∀ d h, d < 16 → h < 16 → lkB (N d).lk h = lkB (N h).lk d
theorem LkOk.same {N M : Nat → Dv} (h : LkOk N) (e : ∀ k, (M k).lk = (N k).lk) : LkOk M :=
  ⟨fun d hd => by rw [e]; exact h.rng d hd, fun d k hd hk => by rw [e, e]; exact h.sym d k hd hk⟩
theorem lk_upd {N : Nat → Dv} {d : Nat} {v : Dv} (h : v.lk = (N d).lk) (k : Nat) : (upd N d v k).lk = (N k).lk := by
  unfold upd
  split
  · rename_i e; rw [e]; exact h
  · rfl
/-- the two ends of a link -/
theorem LkOk.link {N : Nat → Dv} (h : LkOk N) {d e : Nat} (hd : d < 16) (he : e < 16) (hde : d ≠ e) (on : Bool) : LkOk (upd (upd N d { N d with lk := stB (N d).lk e on }) e { N e with lk := stB (N e).lk d on }) := by
  have key : ∀ a b, a < 16 → b < 16 → lkB (upd (upd N d { N d with lk := stB (N d).lk e on }) e { N e with lk := stB (N e).lk d on } a).lk b = if (a = d ∧ b = e) ∨ (a = e ∧ b = d) then on else lkB (N a).lk b := fun a b ha hb => by
    unfold upd
    by_cases h1 : a = e
    · subst h1
      rw [if_pos rfl]
      simp only []
      rw [lk_st (h.rng _ he) hd hb]
      by_cases h2 : b = d
      · rw [if_pos h2, if_pos (by simp [h2])]
      · rw [if_neg h2, if_neg (by first | omega | (simp; omega))]
    · rw [if_neg h1]
      by_cases h2 : a = d
      · subst h2
        rw [if_pos rfl]
        simp only []
        rw [lk_st (h.rng _ hd) he hb]
        by_cases h3 : b = e
        · rw [if_pos h3, if_pos (by simp [h3])]
        · rw [if_neg h3, if_neg (by first | omega | (simp; omega))]
      · rw [if_neg h2, if_neg (by first | omega | (simp; omega))]
  refine ⟨fun a ha => ?_, fun a b ha hb => ?_⟩
  · unfold upd
    split
    · exact st_rng _ _ _
    · split
      · exact st_rng _ _ _
      · exact h.rng a ha
  · rw [key a b ha hb, key b a hb ha, h.sym a b ha hb]
    by_cases c : (a = d ∧ b = e) ∨ (a = e ∧ b = d)
    · rw [if_pos c, if_pos (by omega)]
    · rw [if_neg c, if_neg (by first | omega | (simp; omega))]
/-- routes: put in and taken out -/
theorem low_put : ∀ (L : List Rt) (p l h : Int), lowR (L.take (lowR L p l) ++ ⟨p, l, h⟩ :: L.drop (lowR L p l)) p l = lowR L p l
  | [], p, l, h => by simp [lowR, rtLt]
  | x :: L, p, l, h => by
    by_cases hx : rtLt x p l = true
    · have e : lowR (x :: L) p l = lowR L p l + 1 := by rw [lowR, if_pos hx]
      rw [e, List.take_succ_cons, List.drop_succ_cons, List.cons_append, lowR, if_pos hx, low_put L p l h]
    · have e : lowR (x :: L) p l = 0 := by rw [lowR, if_neg hx]
      rw [e]
      simp [lowR, rtLt]
theorem has_put (L : List Rt) (p l h : Int) : hasR (L.take (lowR L p l) ++ ⟨p, l, h⟩ :: L.drop (lowR L p l)) p l = true := by
  unfold hasR
  rw [low_put, List.getElem?_append_right (by rw [List.length_take]; exact Nat.min_le_left _ _), List.length_take, Nat.min_eq_left (lowR_le L p l), Nat.sub_self]
  simp
theorem take_out {α : Type} (L : List α) (i : Nat) (x : α) (hi : i ≤ L.length) : (L.take i ++ x :: L.drop i).take i ++ (L.take i ++ x :: L.drop i).drop (i + 1) = L := by
  have e : (L.take i).length = i := by rw [List.length_take]; omega
  rw [List.take_append_of_le_length (by omega), List.take_of_length_le (by omega), List.drop_append, e, List.drop_of_length_le (by omega), show i + 1 - i = 1 by omega]
  simp
theorem put_back {α : Type} (L : List α) (i : Nat) (x : α) (hx : L[i]? = some x) : (L.take i ++ L.drop (i + 1)).take i ++ x :: (L.take i ++ L.drop (i + 1)).drop i = L := by
  obtain ⟨hi, he⟩ := List.getElem?_eq_some_iff.1 hx
  have e : (L.take i).length = i := by rw [List.length_take]; omega
  rw [List.take_append_of_le_length (by omega), List.take_of_length_le (by omega), List.drop_append, e, List.drop_of_length_le (by omega), Nat.sub_self, List.drop_zero, List.nil_append, ← he, List.getElem_cons_drop, List.take_append_drop]
theorem low_out : ∀ (L : List Rt) (p l : Int), SortedR L → hasR L p l = true → lowR (L.take (lowR L p l) ++ L.drop (lowR L p l + 1)) p l = lowR L p l ∧ hasR (L.take (lowR L p l) ++ L.drop (lowR L p l + 1)) p l = false
  | [], p, l, _, hh => by cases hh
  | x :: L, p, l, hs, hh => by
    obtain ⟨hx1, hs1⟩ := List.pairwise_cons.1 hs
    by_cases hx : rtLt x p l = true
    · have e : lowR (x :: L) p l = lowR L p l + 1 := by rw [lowR, if_pos hx]
      have hh1 : hasR L p l = true := by
        unfold hasR at hh ⊢
        rw [e, List.getElem?_cons_succ] at hh
        exact hh
      obtain ⟨h1, h2⟩ := low_out L p l hs1 hh1
      rw [e, List.take_succ_cons, List.drop_succ_cons, List.cons_append]
      refine ⟨by rw [lowR, if_pos hx, h1], ?_⟩
      unfold hasR at h2 ⊢
      rw [lowR, if_pos hx, List.getElem?_cons_succ]
      exact h2
    · have e : lowR (x :: L) p l = 0 := by rw [lowR, if_neg hx]
      have hxp : x.pr = p ∧ x.ln = l := by
        unfold hasR at hh
        rw [e] at hh
        simpa using hh
      rw [e]
      simp only [List.take_zero, List.nil_append, Nat.zero_add, List.drop_succ_cons, List.drop_zero]
      cases L with
      | nil => exact ⟨rfl, rfl⟩
      | cons y L =>
        have hy := hx1 y (List.mem_cons_self ..)
        have hn : ¬ rtLt y p l = true := fun hc => by
          simp only [rtLt, Bool.or_eq_true, decide_eq_true_eq, Bool.and_eq_true, beq_iff_eq] at hy hc
          omega
        have e2 : lowR (y :: L) p l = 0 := by rw [lowR, if_neg hn]
        refine ⟨e2, ?_⟩
        unfold hasR
        rw [e2]
        simp only [List.getElem?_cons_zero, Bool.and_eq_false_iff, beq_eq_false_iff_ne]
        simp only [rtLt, Bool.or_eq_true, decide_eq_true_eq, Bool.and_eq_true, beq_iff_eq] at hy
        omega
/-- A step undone. -/
theorem step_undo {N : Nat → Dv} {c : Chg} (hok : NetOk N) (hlk : LkOk N) (hg : GoodC c) (h0 : (stepP N c).2.2 = 0) :
    GoodC (stepP N c).2.1 ∧ LkOk (stepP N c).1 ∧ (stepP (stepP N c).1 (stepP N c).2.1).1 = N ∧ (stepP (stepP N c).1 (stepP N c).2.1).2.2 = 0 := by
  obtain ⟨kd, dv, hp, pr, ln, ix, cl, pm, up⟩ := c
  obtain ⟨⟨hd0, hd1⟩, hk⟩ := hg
  obtain ⟨d, rfl⟩ : ∃ d : Nat, dv = d := ⟨dv.toNat, by simp only [] at hd0; omega⟩
  simp only [] at hd0 hd1 hk
  have hd : d < 16 := by omega
  have ho := hok d hd
  have hl := hlk.rng d hd
  obtain ⟨v, hv⟩ : ∃ v, N d = v := ⟨_, rfl⟩
  rcases hk with ⟨rfl, hgp, hhp, rfl, rfl, rfl, rfl⟩ | ⟨rfl, hgp, rfl, rfl, rfl, rfl, rfl⟩ | ⟨rfl, hgp, rfl, hix, hcl, rfl⟩ | ⟨rfl, rfl, rfl, rfl, hix, rfl, rfl, rfl⟩ | ⟨rfl, rfl, rfl, hhp, rfl, rfl, rfl⟩ | ⟨rfl, rfl, rfl, rfl, rfl, rfl, rfl⟩
  · have e : stepP N ⟨0, d, hp, pr, ln, 0, 0, false, false⟩ = (upd N d { v with rt := v.rt.take (lowR v.rt pr ln) ++ ⟨pr, ln, hp⟩ :: v.rt.drop (lowR v.rt pr ln) }, ⟨1, d, 0, pr, ln, 0, 0, false, false⟩, 0) := by
      unfold stepP at h0 ⊢
      simp only [Int.toNat_natCast, hv] at h0 ⊢
      rw [if_pos trivial] at h0 ⊢
      split
      · rename_i hf; rw [if_pos hf] at h0; cases h0
      · rename_i hf
        rw [if_neg hf] at h0
        split
        · rfl
        · rename_i hr; rw [if_neg hr] at h0; cases h0
    rw [e]
    simp only []
    have e2 : stepP (upd N d { v with rt := v.rt.take (lowR v.rt pr ln) ++ ⟨pr, ln, hp⟩ :: v.rt.drop (lowR v.rt pr ln) }) ⟨1, d, 0, pr, ln, 0, 0, false, false⟩ = (N, ⟨0, d, hopAt (v.rt.take (lowR v.rt pr ln) ++ ⟨pr, ln, hp⟩ :: v.rt.drop (lowR v.rt pr ln)) (lowR v.rt pr ln), pr, ln, 0, 0, false, false⟩, 0) := by
      unfold stepP
      simp only [Int.toNat_natCast, upd_same, low_put, has_put]
      rw [if_neg (by decide), if_pos trivial, if_pos trivial, upd_upd, take_out _ _ _ (lowR_le _ _ _), ← hv, upd_self]
    rw [e2]
    exact ⟨⟨⟨hd0, hd1⟩, .inr (.inl ⟨rfl, hgp, rfl, rfl, rfl, rfl, rfl⟩)⟩, hlk.same (lk_upd (by rw [hv])), rfl, rfl⟩
  · have hf : hasR v.rt pr ln = true := by
      unfold stepP at h0
      simp only [Int.toNat_natCast, hv] at h0
      rw [if_neg (by decide), if_pos trivial] at h0
      split at h0
      · assumption
      · cases h0
    obtain ⟨r, hr, hr1, hr2⟩ := has_is hf
    obtain ⟨rp, rl, rh⟩ := r
    simp only [] at hr1 hr2
    subst hr1 hr2
    have hh : hopAt v.rt (lowR v.rt rp rl) = rh := by unfold hopAt; rw [hr]
    have e : stepP N ⟨1, d, 0, rp, rl, 0, 0, false, false⟩ = (upd N d { v with rt := v.rt.take (lowR v.rt rp rl) ++ v.rt.drop (lowR v.rt rp rl + 1) }, ⟨0, d, rh, rp, rl, 0, 0, false, false⟩, 0) := by
      unfold stepP
      simp only [Int.toNat_natCast, hv]
      rw [if_neg (by decide), if_pos trivial, if_pos hf, hh]
    rw [e]
    simp only []
    rw [hv] at ho
    obtain ⟨l1, l2⟩ := low_out v.rt rp rl ho.srt hf
    have hlt := (List.getElem?_eq_some_iff.1 hr).1
    have hlen : (v.rt.take (lowR v.rt rp rl) ++ v.rt.drop (lowR v.rt rp rl + 1)).length + v.ac.length < 64 := by
      have := ho.cap
      rw [List.length_append, List.length_take, List.length_drop]
      omega
    have e2 : stepP (upd N d { v with rt := v.rt.take (lowR v.rt rp rl) ++ v.rt.drop (lowR v.rt rp rl + 1) }) ⟨0, d, rh, rp, rl, 0, 0, false, false⟩ = (N, ⟨1, d, 0, rp, rl, 0, 0, false, false⟩, 0) := by
      unfold stepP
      simp only [Int.toNat_natCast, upd_same]
      rw [if_pos trivial, l1, l2, if_neg (by decide), if_pos hlen, upd_upd, put_back _ _ _ hr, ← hv, upd_self]
    rw [e2]
    have hgr := ho.gr _ (List.mem_of_getElem? hr)
    exact ⟨⟨⟨hd0, hd1⟩, .inl ⟨rfl, hgp, hgr.2, rfl, rfl, rfl, rfl⟩⟩, hlk.same (lk_upd (by rw [hv])), rfl, rfl⟩
  · obtain ⟨i, rfl⟩ : ∃ i : Nat, ix = i := ⟨ix.toNat, by omega⟩
    have hj : i ≤ v.ac.length ∧ v.rt.length + v.ac.length < 64 := by
      unfold stepP at h0
      simp only [Int.toNat_natCast, hv] at h0
      rw [if_neg (by decide), if_neg (by decide), if_pos trivial] at h0
      split at h0
      · split at h0
        · exact ⟨by assumption, by assumption⟩
        · cases h0
      · cases h0
    have e : stepP N ⟨2, d, 0, pr, ln, i, cl, pm, false⟩ = (upd N d { v with ac := v.ac.take i ++ ⟨pm, pr, ln, cl⟩ :: v.ac.drop i }, ⟨3, d, 0, 0, 0, i, 0, false, false⟩, 0) := by
      unfold stepP
      simp only [Int.toNat_natCast, hv]
      rw [if_neg (by decide), if_neg (by decide), if_pos trivial, if_pos hj.1, if_pos hj.2]
    rw [e]
    simp only []
    have e2 : stepP (upd N d { v with ac := v.ac.take i ++ ⟨pm, pr, ln, cl⟩ :: v.ac.drop i }) ⟨3, d, 0, 0, 0, i, 0, false, false⟩ = (N, ⟨2, d, 0, (rlAt (v.ac.take i ++ ⟨pm, pr, ln, cl⟩ :: v.ac.drop i) i).pr, (rlAt (v.ac.take i ++ ⟨pm, pr, ln, cl⟩ :: v.ac.drop i) i).ln, i, (rlAt (v.ac.take i ++ ⟨pm, pr, ln, cl⟩ :: v.ac.drop i) i).cl, (rlAt (v.ac.take i ++ ⟨pm, pr, ln, cl⟩ :: v.ac.drop i) i).pm, false⟩, 0) := by
      unfold stepP
      simp only [Int.toNat_natCast, upd_same]
      rw [if_neg (by decide), if_neg (by decide), if_neg (by decide), if_pos trivial, if_pos (by rw [List.length_append, List.length_take, List.length_cons]; omega), upd_upd, take_out _ _ _ hj.1, ← hv, upd_self]
    rw [e2]
    exact ⟨⟨⟨hd0, hd1⟩, .inr (.inr (.inr (.inl ⟨rfl, rfl, rfl, rfl, hix, rfl, rfl, rfl⟩)))⟩, hlk.same (lk_upd (by rw [hv])), rfl, rfl⟩
  · obtain ⟨i, rfl⟩ : ∃ i : Nat, ix = i := ⟨ix.toNat, by omega⟩
    have hj : i < v.ac.length := by
      unfold stepP at h0
      simp only [Int.toNat_natCast, hv] at h0
      rw [if_neg (by decide), if_neg (by decide), if_neg (by decide), if_pos trivial] at h0
      split at h0
      · assumption
      · cases h0
    obtain ⟨r, hr⟩ : ∃ r, v.ac[i]? = some r := ⟨_, List.getElem?_eq_getElem hj⟩
    have hh : rlAt v.ac i = r := by unfold rlAt; rw [hr]
    obtain ⟨rm, rp, rl, rc⟩ := r
    have e : stepP N ⟨3, d, 0, 0, 0, i, 0, false, false⟩ = (upd N d { v with ac := v.ac.take i ++ v.ac.drop (i + 1) }, ⟨2, d, 0, rp, rl, i, rc, rm, false⟩, 0) := by
      unfold stepP
      simp only [Int.toNat_natCast, hv]
      rw [if_neg (by decide), if_neg (by decide), if_neg (by decide), if_pos trivial, if_pos hj, hh]
    rw [e]
    simp only []
    rw [hv] at ho
    have hlen : v.rt.length + (v.ac.take i ++ v.ac.drop (i + 1)).length < 64 := by
      have := ho.cap
      rw [List.length_append, List.length_take, List.length_drop]
      omega
    have e2 : stepP (upd N d { v with ac := v.ac.take i ++ v.ac.drop (i + 1) }) ⟨2, d, 0, rp, rl, i, rc, rm, false⟩ = (N, ⟨3, d, 0, 0, 0, i, 0, false, false⟩, 0) := by
      unfold stepP
      simp only [Int.toNat_natCast, upd_same]
      rw [if_neg (by decide), if_neg (by decide), if_pos trivial, if_pos (by rw [List.length_append, List.length_take, List.length_drop]; omega), if_pos hlen, upd_upd, put_back _ _ _ hr, ← hv, upd_self]
    rw [e2]
    have hga := ho.ga _ (List.mem_of_getElem? hr)
    exact ⟨⟨⟨hd0, hd1⟩, .inr (.inr (.inl ⟨rfl, hga.1, rfl, hix, hga.2, rfl⟩))⟩, hlk.same (lk_upd (by rw [hv])), rfl, rfl⟩
  · obtain ⟨h, rfl⟩ : ∃ h : Nat, hp = h := ⟨hp.toNat, by omega⟩
    have hh : h < 16 := by omega
    have hdh : d ≠ h := by omega
    have e : stepP N ⟨4, d, h, 0, 0, 0, 0, false, up⟩ = (upd (upd N d { N d with lk := stB (N d).lk h up }) h { N h with lk := stB (N h).lk d up }, ⟨4, d, h, 0, 0, 0, 0, false, lkB (N d).lk h⟩, 0) := by
      unfold stepP
      simp only [Int.toNat_natCast]
      rw [if_neg (by decide), if_neg (by decide), if_neg (by decide), if_neg (by decide), if_pos trivial, upd_other _ _ (Ne.symm hdh)]
    rw [e]
    simp only []
    have e2 : stepP (upd (upd N d { N d with lk := stB (N d).lk h up }) h { N h with lk := stB (N h).lk d up }) ⟨4, d, h, 0, 0, 0, 0, false, lkB (N d).lk h⟩ = (N, ⟨4, d, h, 0, 0, 0, 0, false, lkB (stB (N d).lk h up) h⟩, 0) := by
      unfold stepP
      simp only [Int.toNat_natCast]
      rw [if_neg (by decide), if_neg (by decide), if_neg (by decide), if_neg (by decide), if_pos trivial]
      simp only [upd_same, upd_other _ _ hdh, upd_other _ _ (Ne.symm hdh)]
      rw [st_undo hl hh, hlk.sym d h hd hh, st_undo (hlk.rng h hh) hd]
      congr 1
      funext k
      unfold upd
      by_cases k1 : k = h
      · rw [if_pos k1, k1]
      · rw [if_neg k1]
        by_cases k2 : k = d
        · rw [if_pos k2, k2]
        · rw [if_neg k2, if_neg k1, if_neg k2]
    rw [e2]
    exact ⟨⟨⟨hd0, hd1⟩, .inr (.inr (.inr (.inr (.inl ⟨rfl, rfl, rfl, hhp, rfl, rfl, rfl⟩))))⟩, hlk.link hd hh hdh up, rfl, rfl⟩
  · have e : stepP N ⟨5, d, 0, 0, 0, 0, 0, false, up⟩ = (upd N d { v with up := up }, ⟨5, d, 0, 0, 0, 0, 0, false, v.up⟩, 0) := by
      unfold stepP
      simp only [Int.toNat_natCast, hv]
      rw [if_neg (by decide), if_neg (by decide), if_neg (by decide), if_neg (by decide), if_neg (by decide)]
    rw [e]
    simp only []
    have e2 : stepP (upd N d { v with up := up }) ⟨5, d, 0, 0, 0, 0, 0, false, v.up⟩ = (N, ⟨5, d, 0, 0, 0, 0, 0, false, up⟩, 0) := by
      unfold stepP
      simp only [Int.toNat_natCast, upd_same]
      rw [if_neg (by decide), if_neg (by decide), if_neg (by decide), if_neg (by decide), if_neg (by decide), upd_upd, ← hv, upd_self]
    rw [e2]
    exact ⟨⟨⟨hd0, hd1⟩, .inr (.inr (.inr (.inr (.inr ⟨rfl, rfl, rfl, rfl, rfl, rfl, rfl⟩))))⟩, hlk.same (lk_upd (by rw [hv])), rfl, rfl⟩
/-- a step keeps the links -/
theorem step_lk {N : Nat → Dv} {c : Chg} (hok : NetOk N) (hlk : LkOk N) (hg : GoodC c) (h0 : (stepP N c).2.2 = 0) : LkOk (stepP N c).1 := (step_undo hok hlk hg h0).2.1
theorem runL_undo : ∀ (C : List Chg) (N : Nat → Dv) (i : Nat) (U : List Chg), NetOk N → LkOk N → (∀ c ∈ C, GoodC c) → (runL N C i U).2.2.1 = 0 →
    LkOk (runL N C i U).1 ∧ ∃ V, (runL N C i U).2.1 = V ++ U ∧ V.length = C.length ∧ (∀ c ∈ V, GoodC c) ∧ ∀ T j W, ∃ j' W', runL (runL N C i U).1 (V ++ T) j W = runL N T j' W'
  | [], N, i, U, _, hlk, _, _ => ⟨hlk, [], rfl, rfl, fun c hc => (by cases hc), fun T j W => ⟨j, W, rfl⟩⟩
  | c :: C, N, i, U, hok, hlk, hg, h => by
    by_cases h0 : (stepP N c).2.2 = 0
    · have e : runL N (c :: C) i U = runL (stepP N c).1 C (i + 1) ((stepP N c).2.1 :: U) := by rw [runL, if_pos h0]
      rw [e] at h ⊢
      have hgc := hg c (List.mem_cons_self ..)
      obtain ⟨u1, u2, u3, u4⟩ := step_undo hok hlk hgc h0
      obtain ⟨r1, V, r2, r3, r4, r5⟩ := runL_undo C _ (i + 1) ((stepP N c).2.1 :: U) (step_ok N c hok hgc) u2 (fun x hx => hg x (List.mem_cons_of_mem _ hx)) h
      refine ⟨r1, V ++ [(stepP N c).2.1], by rw [r2]; simp, by rw [List.length_append, r3]; rfl, fun x hx => ?_, fun T j W => ?_⟩
      · rcases List.mem_append.1 hx with hx | hx
        · exact r4 x hx
        · rw [List.mem_singleton.1 hx]; exact u1
      · rw [List.append_assoc]
        obtain ⟨j', W', e2⟩ := r5 ([(stepP N c).2.1] ++ T) j W
        refine ⟨j' + 1, (stepP (stepP N c).1 (stepP N c).2.1).2.1 :: W', ?_⟩
        rw [e2, List.cons_append, List.nil_append, runL, if_pos u4, u3]
    · have e : runL N (c :: C) i U = (N, [], (stepP N c).2.2, (i : Int)) := by rw [runL, if_neg h0]
      rw [e] at h
      exact absurd h h0
theorem bad_good : ∀ (C : List Chg) (i : Nat), (∀ c ∈ C, GoodC c) → badAt C i = none
  | [], _, _ => rfl
  | c :: C, i, h => by rw [badAt, if_pos (h c (List.mem_cons_self ..))]; exact bad_good C _ (fun x hx => h x (List.mem_cons_of_mem _ hx))
theorem check_good {id : Int} {C : List Chg} (h1 : 0 ≤ id ∧ id ≤ 999999) (h2 : C.length ≤ 128) (h3 : ∀ c ∈ C, GoodC c) : checkP id C = (0, 0) := by
  unfold checkP
  rw [if_neg (by omega), if_neg (by omega), if_neg (by omega), bad_good C 0 h3]
/-- A batch undone. -/
theorem run_undo {N : Nat → Dv} {id : Int} {C : List Chg} (hok : NetOk N) (hlk : LkOk N) (h : (runP N id C).2.2.1 = 0) :
    checkP id (runP N id C).2.1 = (0, 0) ∧ (runP N id C).2.1.length ≤ 128 ∧ LkOk (runP N id C).1 ∧ (runP (runP N id C).1 id (runP N id C).2.1).1 = N ∧ (runP (runP N id C).1 id (runP N id C).2.1).2.2 = (0, 0) := by
  have h0 : (checkP id C).1 = 0 := Classical.byContradiction (fun hn => by
    unfold runP at h
    rw [if_neg hn] at h
    exact hn h)
  have e : runP N id C = runL N C 0 [] := by unfold runP; rw [if_pos h0]
  obtain ⟨k1, k2, k3⟩ := check_ok h0
  rw [e] at h ⊢
  obtain ⟨r1, V, r2, r3, r4, r5⟩ := runL_undo C N 0 [] hok hlk k3 h
  rw [List.append_nil] at r2
  have hc := check_good k1 (show V.length ≤ 128 by omega) r4
  rw [r2]
  obtain ⟨j, W, e2⟩ := r5 [] 0 []
  rw [List.append_nil] at e2
  have e3 : runP (runL N C 0 []).1 id V = (N, W, 0, 0) := by
    unfold runP
    rw [hc, if_pos rfl, e2, runL]
  exact ⟨hc, by omega, r1, by rw [e3], by rw [e3]⟩
theorem runL_lk : ∀ (C : List Chg) (N : Nat → Dv) (i : Nat) (U : List Chg), NetOk N → LkOk N → (∀ c ∈ C, GoodC c) → LkOk (runL N C i U).1
  | [], _, _, _, _, h, _ => h
  | c :: C, N, i, U, hok, hlk, hg => by
    rw [runL]
    split
    · rename_i h0
      have hgc := hg c (List.mem_cons_self ..)
      exact runL_lk C _ _ _ (step_ok N c hok hgc) (step_lk hok hlk hgc h0) (fun x hx => hg x (List.mem_cons_of_mem _ hx))
    · exact hlk
theorem runP_lk {N : Nat → Dv} {id : Int} {C : List Chg} (hok : NetOk N) (hlk : LkOk N) : LkOk (runP N id C).1 := by
  unfold runP
  split
  · rename_i h0
    exact runL_lk C N 0 [] hok hlk (check_ok h0).2.2
  · exact hlk
end Go.Proofs.Qxb6500778a
