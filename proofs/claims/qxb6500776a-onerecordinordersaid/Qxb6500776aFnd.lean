import Derived.Test.Qxb6500776aMem
namespace Go.Proofs.Qxb6500776a
open Go.RowKit

/-- Where the ship of a number lies. -/
def IsAt (L : List Shp) (id : Int) (i : Int) : Prop := (i = -1 ∧ ∀ s ∈ L, s.id ≠ id) ∨ (∃ (k : Nat) (s : Shp), i = k ∧ L[k]? = some s ∧ s.id = id)
theorem WOk.len {L : List Shp} {M : List Smk} (h : WOk L M) : L.length ≤ 48 := by
  have h1 : (L.map fun s => s.id.toNat).Nodup := by
    rw [List.nodup_iff_pairwise_ne, List.pairwise_map]
    have := h.nd
    rw [List.nodup_iff_pairwise_ne, List.pairwise_map] at this
    refine this.imp_of_mem fun ha hb hne e => ?_
    have a1 := (h.ok _ ha).id
    have b1 := (h.ok _ hb).id
    omega
  have h2 : ∀ x ∈ (L.map fun s => s.id.toNat), x ∈ List.range 48 := fun x hx => by
    obtain ⟨s, hs, rfl⟩ := List.mem_map.1 hx
    have := (h.ok s hs).id
    rw [List.mem_range]; omega
  have := h1.length_le_of_subset h2
  simpa using this
theorem find_any (w : World) (p : Nat) (v1 v2 : Value) (L : List Shp) (M : List Smk) (h : WD w p v1 v2 L M) (hl : L.length ≤ 48) (id : Int) :
    Calls Try.prog 31 #[.pointer (some ⟨p, 0, none⟩), .int .i64 id] w fun e w' => ∃ i, e = .returned (.int .i64 i) ∧ IsAt L id i ∧ w' = w := by
  obtain ⟨a, c, rfl⟩ := own_form h.r1
  have c0 := h.c0
  have hn : L.length ≤ 48 := hl
  obtain ⟨n, hnL⟩ : ∃ n, L.length = n := ⟨_, rfl⟩
  rw [hnL] at c0 hn
  have HL := hide hnL
  have HD := hide h
  clear h hl hnL
  go_enter Try.func31, Try.ntmps31
  go_wp2
  go_loop [5] (fun x => ∃ i : Nat, i ≤ n ∧ x = .int .i64 i ∧ Hid (∀ k, k < i → ∀ s, L[k]? = some s → s.id ≠ id)) (fun x => n - (intOf x).toNat)
  case atStart => exact ⟨0, by omega, rfl, hide fun k hk => by omega⟩
  case round =>
    obtain ⟨i, hin, rfl, HA⟩ := hrel
    rcases (by omega : i = n ∨ i < n) with e | e
    · subst e
      go_wp2
      go_ret
      refine ⟨_, rfl, .inl ⟨rfl, fun s hs => ?_⟩, rfl⟩
      obtain ⟨k, hk, rfl⟩ := List.getElem_of_mem hs
      exact HA.out k (by have := HL.out; omega) _ (List.getElem?_eq_getElem hk)
    · have hi : i < L.length := by have := HL.out; omega
      obtain ⟨s, hs⟩ : ∃ s, L[i]? = some s := ⟨_, List.getElem?_eq_getElem hi⟩
      have hw := HD.out
      obtain ⟨g, c2, hg⟩ := own_some hw.r1 (by omega)
      rw [HL.out] at hg
      cases hg
      have cid := hw.ship hs rfl 0 _ rfl
      rw [Nat.add_zero] at cid
      have HS := hide hs
      clear hs hw hi
      by_cases hid : s.id = id
      · go_wp2
        go_ret
        exact ⟨_, rfl, .inr ⟨i, s, rfl, HS.out, hid⟩, rfl⟩
      · go_wp2
        refine ⟨⟨i + 1, by omega, by go_num, hide fun k hk s' hs' => ?_⟩, by simp [intOf]; omega⟩
        rcases (by omega : k < i ∨ k = i) with z | rfl
        · exact HA.out k z s' hs'
        · rw [HS.out] at hs'; cases hs'; exact hid
end Go.Proofs.Qxb6500776a
