import Derived.Test.Qxb6500776aBet
import Derived.Test.Qxb6500776aGra
import Derived.Test.Qxb6500776aGrdW
namespace Go.Proofs.Qxb6500776a
open Go.RowKit

/-! ### The model's scan, plain -/
def candP (M : List Smk) (T : Int) (t : Shp) (k : Nat) (o : Shp) : Bool := o.team == T && (liveP o t && seeP M o t k)
/-- The best observer among the first i ships. -/
structure Best (L : List Shp) (M : List Smk) (T : Int) (t : Shp) (k i : Nat) (r : Option Shp) : Prop where
  none : r = none → ∀ (x : Nat) (o : Shp), x < i → L[x]? = some o → candP M T t k o = false
  some : ∀ b, r = some b → b ∈ L ∧ candP M T t k b = true ∧ ∀ (x : Nat) (o : Shp), x < i → L[x]? = some o → candP M T t k o = true → betP o b t = false
section
variable {L : List Shp} {M : List Smk} {T : Int} {t : Shp} {k i : Nat} {r : Option Shp}
theorem Best.zero : Best L M T t k 0 .none := ⟨fun _ _ _ hx => absurd hx (Nat.not_lt_zero _), fun _ h => (nomatch h)⟩
theorem Best.skip (h : Best L M T t k i r) {o : Shp} (ho : L[i]? = .some o) (hc : candP M T t k o = false) : Best L M T t k (i + 1) r := by
  refine ⟨fun e x o' hx ho' => ?_, fun b e => ?_⟩
  · rcases (by omega : x < i ∨ x = i) with z | rfl
    · exact h.none e x o' z ho'
    · rw [ho] at ho'; cases ho'; exact hc
  · obtain ⟨h1, h2, h3⟩ := h.some b e
    refine ⟨h1, h2, fun x o' hx ho' hc' => ?_⟩
    rcases (by omega : x < i ∨ x = i) with z | rfl
    · exact h3 x o' z ho' hc'
    · rw [ho] at ho'; cases ho'; rw [hc] at hc'; cases hc'
theorem Best.keep {b : Shp} (h : Best L M T t k i (.some b)) {o : Shp} (ho : L[i]? = .some o) (hc : betP o b t = false) : Best L M T t k (i + 1) (.some b) := by
  refine ⟨fun e => (nomatch e), fun b' e => ?_⟩
  cases e
  obtain ⟨h1, h2, h3⟩ := h.some b rfl
  refine ⟨h1, h2, fun x o' hx ho' hc' => ?_⟩
  rcases (by omega : x < i ∨ x = i) with z | rfl
  · exact h3 x o' z ho' hc'
  · rw [ho] at ho'; cases ho'; exact hc
theorem bet_self (o t : Shp) : betP o o t = false := by simp [betP]
theorem Best.first (h : Best L M T t k i .none) {o : Shp} (ho : L[i]? = .some o) (hc : candP M T t k o = true) : Best L M T t k (i + 1) (.some o) := by
  refine ⟨fun e => (nomatch e), fun b' e => ?_⟩
  cases e
  refine ⟨List.mem_of_getElem? ho, hc, fun x o' hx ho' hc' => ?_⟩
  rcases (by omega : x < i ∨ x = i) with z | rfl
  · rw [h.none rfl x o' z ho'] at hc'; cases hc'
  · rw [ho] at ho'; cases ho'; exact bet_self o t
theorem bet_trans {a b c t : Shp} (h1 : betP a b t = true) (h2 : betP b c t = true) : betP a c t = true := by
  simp only [betP, Bool.or_eq_true, Bool.and_eq_true, decide_eq_true_eq] at *
  omega
theorem Best.take {b : Shp} (h : Best L M T t k i (.some b)) {o : Shp} (ho : L[i]? = .some o) (hc : candP M T t k o = true) (hb : betP o b t = true) : Best L M T t k (i + 1) (.some o) := by
  refine ⟨fun e => (nomatch e), fun b' e => ?_⟩
  cases e
  obtain ⟨h1, h2, h3⟩ := h.some b rfl
  refine ⟨List.mem_of_getElem? ho, hc, fun x o' hx ho' hc' => ?_⟩
  rcases (by omega : x < i ∨ x = i) with z | rfl
  · cases e : betP o' o t
    · rfl
    · have := h3 x o' z ho' hc'
      rw [bet_trans e hb] at this; cases this
  · rw [ho] at ho'; cases ho'; exact bet_self o t
theorem lk_of_none {B : Brd} (ho : WOk L M) (hb : Bd (DF (L.filter Shp.afloat) M) B) (ht : t ∈ L) (hT : 0 ≤ T ∧ T < 4) (hk : k < 4) (h : Best L M T t k L.length .none) : (lkP B T t.id k).2 = false := by
  rw [lk_iff ho hb ht hT hk, List.any_eq_false]
  intro o hoL he
  obtain ⟨x, hx, rfl⟩ := List.getElem_of_mem hoL
  have := h.none rfl x _ hx (List.getElem?_eq_getElem hx)
  unfold candP at this
  rw [Bool.and_assoc] at he
  rw [this] at he; cases he
theorem lk_of_some {B : Brd} {b : Shp} (ho : WOk L M) (hb : Bd (DF (L.filter Shp.afloat) M) B) (ht : t ∈ L) (hT : 0 ≤ T ∧ T < 4) (hk : k < 4) (h : Best L M T t k L.length (.some b)) : lkP B T t.id k = (⟨T, t.id, k, b.id, dstP b t, grP b t k⟩, true) := by
  obtain ⟨hbL, hbc, hle⟩ := h.some b rfl
  have hid := (ho.ok t ht).id
  have h2 : (lkP B T t.id k).2 = true := by
    rw [lk_iff ho hb ht hT hk, List.any_eq_true]
    exact ⟨b, hbL, by unfold candP at hbc; rw [Bool.and_assoc]; exact hbc⟩
  obtain ⟨e1, e2, e3, _, _, _, _, _, _, hs, e4, e5, e6⟩ := lk_fields h2
  obtain ⟨o, t', hd, q1, q2, q3, q4, q5⟩ := hb.some _ _ _ hs
  obtain ⟨hoA, _, hse, htA, hne⟩ := hd
  have hoA' := hoA
  rw [List.mem_filter] at hoA htA
  have e : t' = t := same_id ho htA.1 ht (by rw [q2]; exact Int.toNat_of_nonneg hid.1)
  subst e
  have hk2 : (k : Int).toNat = k := by omega
  rw [hk2] at hse
  have hto : o.team = T := by rw [q1]; exact Int.toNat_of_nonneg hT.1
  have hoc : candP M T t' k o = true := by
    unfold candP liveP
    simp only [Bool.and_eq_true, beq_iff_eq, bne_iff_ne, ne_eq]
    exact ⟨hto, ⟨⟨hoA.2, htA.2⟩, fun e => hne e.symm⟩, hse⟩
  obtain ⟨x, hx, hxo⟩ := List.getElem_of_mem hoA.1
  have hf := hle x o hx (by rw [List.getElem?_eq_getElem hx, hxo]) hoc
  unfold candP liveP at hbc
  simp only [Bool.and_eq_true, beq_iff_eq, bne_iff_ne, ne_eq] at hbc
  obtain ⟨hbt, ⟨⟨hba, _⟩, hbn⟩, hbs⟩ := hbc
  have hl := hb.least _ _ _ hs b t' ⟨List.mem_filter.2 ⟨hbL, hba⟩, by rw [hk2]; exact hk, by rw [hk2]; exact hbs, List.mem_filter.2 htA, fun e => hbn e.symm⟩ (by rw [hbt]; exact (Int.toNat_of_nonneg hT.1).symm) (Int.toNat_of_nonneg hid.1).symm
  rw [q3, q4] at hl
  have hf' : ¬ (dstP o t' < dstP b t' ∨ (dstP o t' = dstP b t' ∧ o.id < b.id)) := by
    intro z
    have : betP o b t' = true := by
      simp only [betP, Bool.or_eq_true, Bool.and_eq_true, decide_eq_true_eq]; exact z
    rw [this] at hf; cases hf
  have hob : o = b := same_id ho hoA.1 hbL (by omega)
  subst hob
  rw [hk2] at e4 e5 e6 q3 q4 q5
  refine Prod.ext ?_ h2
  show (lkP B T t'.id k).1 = _
  generalize hD : (lkP B T t'.id k).1 = D at e1 e2 e3 e4 e5 e6 ⊢
  obtain ⟨d1, d2, d3, d4, d5, d6⟩ := D
  dsimp only at e1 e2 e3 e4 e5 e6
  rw [e1, e2, e3, e4, e5, e6, q3, q4, q5]
theorem rep_skip {B : Brd} {T I K : Nat} (hI : I < 48) (hK : K < 4) (h : (lkP B T I K).2 = false) : repN B (T * 192 + I * 4 + (K + 1)) = repN B (T * 192 + I * 4 + K) := by
  rw [show T * 192 + I * 4 + (K + 1) = T * 192 + I * 4 + K + 1 by omega, repN_at B hI hK, h]; simp
theorem rep_take {B : Brd} {T I K : Nat} {d : Det} (hI : I < 48) (hK : K < 4) (h : lkP B T I K = (d, true)) : repN B (T * 192 + I * 4 + (K + 1)) = repN B (T * 192 + I * 4 + K) ++ [d] := by
  rw [show T * 192 + I * 4 + (K + 1) = T * 192 + I * 4 + K + 1 by omega, repN_at B hI hK, h]; simp
theorem rep_absent {B : Brd} {T I : Nat} (hI : I < 48) (hb : Bd (DF (L.filter Shp.afloat) M) B) (hno : ∀ s ∈ L, s.id ≠ (I : Int)) : repN B (T * 192 + (I + 1) * 4) = repN B (T * 192 + I * 4) := by
  rw [show T * 192 + (I + 1) * 4 = T * 192 + I * 4 + (3 + 1) by omega, rep_skip hI (by omega) (lk_absent hb hno), rep_skip hI (by omega) (lk_absent hb hno), rep_skip hI (by omega) (lk_absent hb hno)]
  exact rep_skip hI (K := 0) (by omega) (lk_absent hb hno)
end
end Go.Proofs.Qxb6500776a
