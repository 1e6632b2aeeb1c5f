import Derived.Test.Qxb6500778aE9
import Derived.Test.Qxb6500778aNB
namespace Go.Proofs.Qxb6500778a
open Go.RowKit

/-! ### What is parsed without a fault is good -/
theorem adv_e (s : List Int) (x : PSt) : (advP s x).e = x.e := rfl
theorem adv_v (s : List Int) (x : PSt) : 0 ≤ (advP s x).t.v := nxT_v s x.o
theorem fail_e {x : PSt} {e a : Int} (he : e ≠ 0) : (failP x e a).e ≠ 0 := by
  unfold failP
  split
  · exact he
  · assumption
theorem fail_v {x : PSt} {e a : Int} (h : 0 ≤ x.t.v) : 0 ≤ (failP x e a).t.v := by
  unfold failP
  split <;> exact h
theorem unex_e (x : PSt) : (unexP x).e ≠ 0 := fail_e (by split <;> decide)
theorem unex_v {x : PSt} (h : 0 ≤ x.t.v) : 0 ≤ (unexP x).t.v := fail_v h
theorem word_e {s : List Int} {y : ByteArray} {x : PSt} (h : (wordP s y x).e = 0) : x.e = 0 := by
  unfold wordP at h
  split at h
  · assumption
  · exact h
theorem word_v {s : List Int} {y : ByteArray} {x : PSt} (h : 0 ≤ x.t.v) : 0 ≤ (wordP s y x).t.v := by
  unfold wordP
  split
  · split
    · exact adv_v s x
    · exact unex_v h
  · exact h
theorem punct_e {s : List Int} {k : Int} {x : PSt} (h : (punctP s k x).e = 0) : x.e = 0 := by
  unfold punctP at h
  split at h
  · assumption
  · exact h
theorem punct_v {s : List Int} {k : Int} {x : PSt} (h : 0 ≤ x.t.v) : 0 ≤ (punctP s k x).t.v := by
  unfold punctP
  split
  · split
    · exact adv_v s x
    · exact unex_v h
  · exact h
theorem eit_e {s : List Int} {y z : ByteArray} {x : PSt} (h : (eitP s y z x).e = 0) : x.e = 0 := by
  unfold eitP at h
  split at h
  · assumption
  · exact h
theorem eit_v {s : List Int} {y z : ByteArray} {x : PSt} (h : 0 ≤ x.t.v) : 0 ≤ (eitP s y z x).t.v := by
  unfold eitP
  split
  · split
    · exact adv_v s x
    · exact word_v h
  · exact h
theorem bnd_e {s : List Int} {k m : Int} {x : PSt} (hv : 0 ≤ x.t.v) (h : (bndP s k m x).e = 0) : x.e = 0 ∧ 0 ≤ bndV k m x ∧ bndV k m x ≤ m := by
  unfold bndP at h
  split at h
  · rename_i h0
    split at h
    · rename_i h1
      split at h
      · rename_i h2
        unfold bndV
        rw [if_pos ⟨h0, h1, h2⟩]
        exact ⟨h0, hv, h2⟩
      · exact absurd h (fail_e (by decide))
    · exact absurd h (unex_e x)
  · rename_i h0
    exact absurd h h0
theorem bnd_v {s : List Int} {k m : Int} {x : PSt} (h : 0 ≤ x.t.v) : 0 ≤ (bndP s k m x).t.v := by
  unfold bndP
  split
  · split
    · split
      · exact adv_v s x
      · exact fail_v h
    · exact unex_v h
  · exact h
theorem pref_v {s : List Int} {x : PSt} (h : 0 ≤ x.t.v) : 0 ≤ (prefX s x).t.v := by
  unfold prefX
  simp only []
  split
  · split
    · exact fail_v (bnd_v (punct_v (bnd_v h)))
    · exact bnd_v (punct_v (bnd_v h))
  · exact bnd_v (punct_v (bnd_v h))
theorem pref_e {s : List Int} {x : PSt} (hv : 0 ≤ x.t.v) (h : (prefX s x).e = 0) (c : Chg) : x.e = 0 ∧ GoodP (prefC s x c).pr (prefC s x c).ln := by
  unfold prefX at h
  simp only [] at h
  split at h
  · rename_i h0
    split at h
    · exact absurd h (fail_e (by decide))
    · rename_i ha
      obtain ⟨h1, h2⟩ := bnd_e (punct_v (bnd_v hv)) h0
      obtain ⟨h3, h4⟩ := bnd_e hv (punct_e h1)
      have ha : algB (bndV 2 255 x) (bndV 2 8 (punctP s 4 (bndP s 2 255 x))) = true := by simpa using ha
      exact ⟨h3, h2, h4, ha⟩
  · rename_i h0
    exact absurd h h0
theorem route_good (s : List Int) (x : PSt) (hv : 0 ≤ x.t.v) : 0 ≤ (routeX s x .zero).1.t.v ∧ ((routeX s x .zero).1.e = 0 → GoodC (routeX s x .zero).2) := by
  unfold routeX
  simp only []
  have v1 := eit_v (s := s) (y := s_add) (z := s_del) hv
  have v2 := bnd_v (s := s) (k := 3) (m := 15) v1
  split
  · refine ⟨bnd_v (word_v (pref_v v2)), fun h => ?_⟩
    obtain ⟨h1, h2⟩ := bnd_e (word_v (pref_v v2)) h
    obtain ⟨h3, h4⟩ := pref_e v2 (word_e h1) { { Chg.zero with kd := 0 } with dv := bndV 3 15 (eitP s s_add s_del x) }
    obtain ⟨h5, h6⟩ := bnd_e v1 h3
    exact ⟨h6, .inl ⟨rfl, h4, h2, rfl, rfl, rfl, rfl⟩⟩
  · refine ⟨pref_v v2, fun h => ?_⟩
    obtain ⟨h3, h4⟩ := pref_e v2 h { { Chg.zero with kd := 1 } with dv := bndV 3 15 (eitP s s_add s_del x) }
    obtain ⟨h5, h6⟩ := bnd_e v1 h3
    exact ⟨h6, .inr (.inl ⟨rfl, h4, rfl, rfl, rfl, rfl, rfl⟩)⟩
theorem acl_good (s : List Int) (x : PSt) (hv : 0 ≤ x.t.v) : 0 ≤ (aclX s x .zero).1.t.v ∧ ((aclX s x .zero).1.e = 0 → GoodC (aclX s x .zero).2) := by
  unfold aclX
  simp only []
  have v1 := eit_v (s := s) (y := s_insert) (z := s_remove) hv
  have v2 := bnd_v (s := s) (k := 3) (m := 15) v1
  have v3 := word_v (s := s) (y := s_at) v2
  have v4 := bnd_v (s := s) (k := 2) (m := 63) v3
  have v5 := eit_v (s := s) (y := s_permit) (z := s_deny) v4
  have v6 := pref_v (s := s) v5
  have v7 := word_v (s := s) (y := s_class) v6
  split
  · split
    · rename_i hc
      refine ⟨adv_v _ _, fun h => ?_⟩
      obtain ⟨h3, h4⟩ := pref_e v5 (word_e hc.1) { { ({ { { Chg.zero with kd := 3 } with dv := bndV 3 15 (eitP s s_insert s_remove x) } with ix := bndV 2 63 (wordP s s_at (bndP s 3 15 (eitP s s_insert s_remove x))) } : Chg) with kd := 2 } with pm := eitB (bndP s 2 63 (wordP s s_at (bndP s 3 15 (eitP s s_insert s_remove x)))) s_permit }
      obtain ⟨h5, h6⟩ := bnd_e v3 (eit_e h3)
      obtain ⟨h7, h8⟩ := bnd_e v1 (word_e h5)
      exact ⟨h8, .inr (.inr (.inl ⟨rfl, h4, rfl, h6, ⟨by show (0 : Int) ≤ 16; decide, by show (16 : Int) ≤ 16; decide⟩, rfl⟩))⟩
    · refine ⟨bnd_v v7, fun h => ?_⟩
      obtain ⟨h1, h2⟩ := bnd_e v7 h
      obtain ⟨h3, h4⟩ := pref_e v5 (word_e h1) { { ({ { { Chg.zero with kd := 3 } with dv := bndV 3 15 (eitP s s_insert s_remove x) } with ix := bndV 2 63 (wordP s s_at (bndP s 3 15 (eitP s s_insert s_remove x))) } : Chg) with kd := 2 } with pm := eitB (bndP s 2 63 (wordP s s_at (bndP s 3 15 (eitP s s_insert s_remove x)))) s_permit }
      obtain ⟨h5, h6⟩ := bnd_e v3 (eit_e h3)
      obtain ⟨h7, h8⟩ := bnd_e v1 (word_e h5)
      exact ⟨h8, .inr (.inr (.inl ⟨rfl, h4, rfl, h6, ⟨h2.1, Int.le_trans h2.2 (by decide)⟩, rfl⟩))⟩
  · refine ⟨v4, fun h => ?_⟩
    obtain ⟨h5, h6⟩ := bnd_e v3 h
    obtain ⟨h7, h8⟩ := bnd_e v1 (word_e h5)
    exact ⟨h8, .inr (.inr (.inr (.inl ⟨rfl, rfl, rfl, rfl, h6, rfl, rfl, rfl⟩)))⟩
theorem link_good (s : List Int) (x : PSt) (hv : 0 ≤ x.t.v) : 0 ≤ (linkX s x .zero).1.t.v ∧ ((linkX s x .zero).1.e = 0 → GoodC (linkX s x .zero).2) := by
  unfold linkX
  simp only []
  have v1 := bnd_v (s := s) (k := 3) (m := 15) hv
  have v2 := bnd_v (s := s) (k := 3) (m := 15) v1
  split
  · rename_i h0
    split
    · refine ⟨eit_v (fail_v v2), fun h => absurd (eit_e h) (fail_e (by decide))⟩
    · rename_i hlt
      refine ⟨eit_v v2, fun h => ?_⟩
      obtain ⟨h1, h2⟩ := bnd_e v1 h0
      obtain ⟨h3, h4⟩ := bnd_e hv h1
      exact ⟨h4, .inr (.inr (.inr (.inr (.inl ⟨rfl, rfl, rfl, ⟨Int.not_le.1 hlt, h2.2⟩, rfl, rfl, rfl⟩))))⟩
  · rename_i h0
    exact ⟨eit_v v2, fun h => absurd (eit_e h) h0⟩
theorem iface_good (s : List Int) (x : PSt) (hv : 0 ≤ x.t.v) : 0 ≤ (ifaceX s x .zero).1.t.v ∧ ((ifaceX s x .zero).1.e = 0 → GoodC (ifaceX s x .zero).2) := by
  unfold ifaceX
  simp only []
  refine ⟨eit_v (bnd_v hv), fun h => ?_⟩
  obtain ⟨h1, h2⟩ := bnd_e hv (eit_e h)
  exact ⟨h2, .inr (.inr (.inr (.inr (.inr ⟨rfl, rfl, rfl, rfl, rfl, rfl, rfl⟩))))⟩
theorem change_good (s : List Int) (x : PSt) (hv : 0 ≤ x.t.v) : 0 ≤ (changeX s x).1.t.v ∧ ((changeX s x).1.e = 0 → GoodC (changeX s x).2) := by
  have ha := adv_v s x
  unfold changeX
  split
  · exact route_good s _ ha
  · split
    · exact acl_good s _ ha
    · split
      · exact link_good s _ ha
      · split
        · exact iface_good s _ ha
        · exact ⟨unex_v hv, fun h => absurd h (unex_e x)⟩
theorem loop_good (s : List Int) : ∀ (n : Nat) (x : PSt) (C : List Chg), 0 ≤ x.t.v → C.length ≤ 128 → (x.e = 0 → ∀ c ∈ C, GoodC c) → (loopX s n x C).2.length ≤ 128 ∧ ((loopX s n x C).1.e = 0 → ∀ c ∈ (loopX s n x C).2, GoodC c)
  | 0, x, C, _, hl, hg => ⟨hl, hg⟩
  | n + 1, x, C, hv, hl, hg => by
    rw [loopX]
    split
    · rename_i h0
      split
      · exact ⟨hl, hg⟩
      · split
        · exact ⟨hl, fun h => absurd h (fail_e (by decide))⟩
        · rename_i h2
          obtain ⟨g1, g2⟩ := change_good s x hv
          refine loop_good s n _ _ g1 (by rw [List.length_append]; simp only [List.length_singleton]; omega) (fun h c hc => ?_)
          rcases List.mem_append.1 hc with hc | hc
          · exact hg h0 c hc
          · rw [List.mem_singleton.1 hc]; exact g2 h
    · exact ⟨hl, hg⟩
/-- what Parse answers -/
theorem parse_good (s : List Int) : (parseP s).cs.length ≤ 128 ∧ ((parseP s).er = 0 → (0 ≤ (parseP s).id ∧ (parseP s).id ≤ 999999) ∧ (∀ c ∈ (parseP s).cs, GoodC c) ∧ (parseP s).at_ = 0) := by
  unfold parseP
  simp only []
  have v2 := word_v (s := s) (y := s_batch) (adv_v s x0)
  have v4 := punct_v (s := s) (k := 5) (bnd_v (s := s) (k := 2) (m := 999999) v2)
  split
  · rename_i h7
    have h5 := punct_e (punct_e h7)
    obtain ⟨g1, g2⟩ := loop_good s 129 (punctP s 5 (bndP s 2 999999 (wordP s s_batch (advP s x0)))) [] v4 (by decide) (fun _ c hc => by cases hc)
    refine ⟨g1, fun _ => ⟨?_, g2 h5, rfl⟩⟩
    by_cases hb : (bndP s 2 999999 (wordP s s_batch (advP s x0))).e = 0
    · exact (bnd_e v2 hb).2
    · unfold bndV
      split
      · rename_i hh; exact ⟨v2, hh.2.2⟩
      · exact ⟨Int.le_refl _, (by decide : (0 : Int) ≤ 999999)⟩
  · rename_i h7
    exact ⟨(by decide : 0 ≤ 128), fun h => absurd h h7⟩
end Go.Proofs.Qxb6500778a
