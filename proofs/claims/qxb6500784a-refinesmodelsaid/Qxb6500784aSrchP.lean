import Derived.Test.Qxb6500784aFits
import Derived.Laws.AppendOwnNone
namespace Go.Proofs.Qxb6500784a
open Go.RowKit

/-- The first of the places k, k + 1, .. (m of them) for which g answers. -/
def firstOf (g : Nat → Option (List Nat)) : Nat → Nat → Option (List Nat)
  | 0, _ => none
  | m + 1, k => match g k with
    | some r => some r
    | none => firstOf g m (k + 1)
/-- search, with f places still to choose. -/
noncomputable def srch (n : Nat) (L : Nat → Leg) : Nat → List Nat → Option (List Nat)
  | 0, p => if fitsB L p then some p else none
  | f + 1, p => firstOf (fun k => if k ∈ p then none else srch n L f (p ++ [k])) n 0
theorem firstOf_none {g : Nat → Option (List Nat)} : ∀ {m k : Nat}, (∀ i, k ≤ i → i < k + m → g i = none) → firstOf g m k = none
  | 0, _, _ => rfl
  | m + 1, k, h => by
    unfold firstOf
    rw [h k (Nat.le_refl _) (by omega)]
    exact firstOf_none fun i h1 h2 => h i (by omega) (by omega)
theorem firstOf_some {g : Nat → Option (List Nat)} {t : Nat} {r : List Nat} (ht : g t = some r) : ∀ {m k : Nat}, k ≤ t → t < k + m → (∀ i, k ≤ i → i < t → g i = none) → firstOf g m k = some r
  | 0, _, _, h2, _ => by omega
  | m + 1, k, h1, h2, h => by
    unfold firstOf
    by_cases e : k = t
    · subst e; rw [ht]
    · rw [h k (Nat.le_refl _) (by omega)]
      exact firstOf_some ht (by omega) (by omega) fun i h3 h4 => h i (by omega) h4
theorem firstOf_of {g : Nat → Option (List Nat)} {r : List Nat} : ∀ {m k : Nat}, firstOf g m k = some r → ∃ t, k ≤ t ∧ t < k + m ∧ g t = some r
  | 0, _, h => by simp [firstOf] at h
  | m + 1, k, h => by
    unfold firstOf at h
    split at h
    · rename_i r' hr
      injection h with h
      subst h
      exact ⟨k, Nat.le_refl _, by omega, hr⟩
    · obtain ⟨t, h1, h2, h3⟩ := firstOf_of h
      exact ⟨t, by omega, by omega, h3⟩
theorem grown_refl (w : World) (row : Option Nat) : w.grownBy w row := ⟨rfl, rfl, rfl, Nat.le_refl _, fun _ _ _ => rfl⟩
/-- 'append(nil, prefix...)'. -/
theorem append_perm {P : Program} {w : World} {ops : Array Oper} {rest : List Oper} {o : Oper} {a : Act} {Q : Exit → Act → World → Prop} (hgd : o.guard = none) (s x : Operand) (t : TypeId)
    (ho : o.op = .call { callee := .builtin .append, args := #[s, x], argTypes := #[t, t] })
    (base : Nat) (i : TypeInfo) (ht : P.underlying t = some (.slice 3)) (hi : P.info? 3 = some i) (hz : i.zero = some (.int .i64 0)) (hsize : i.size = 1) (hby : i.bytes = 8)
    (hs : a.eval s = .slice none 0 0) (ao : Option Addr) (cp : Nat) (p : List Nat) (hx : a.eval x = .slice ao p.length cp) (hp : PermAt w ao cp p) (hnil : p = [] → ao = none ∧ cp = 0) (hl : p.length ≤ 8) (hbase : base ≤ w.heap.size)
    (h : ∀ v' w', w'.ownsRow base 3 1 v' p.length (vals p) → w.grownBy w' none → wpList P ops Q rest (a.put o.dst v') w') : wpList P ops Q (o :: rest) a w := by
  by_cases e : p = []
  · obtain ⟨rfl, rfl⟩ := hnil e
    subst e
    exact wpList_append_own_none hgd s x t ho base 3 i 1 ht hi (.slice none 0 0) 0 [] hs (World.ownsRow_nil _ _ _ _) hx (h _ _ (World.ownsRow_nil _ _ _ _) (grown_refl _ _))
  · obtain ⟨x0, hx0⟩ : ∃ x0, p[0]? = some x0 := ⟨_, List.getElem?_eq_getElem (List.length_pos_iff.2 e)⟩
    obtain ⟨b, off, rfl, _⟩ := hp.2 0 x0 hx0
    refine wpList_append_own w hgd s x t ho base 3 i (.int .i64 0) 1 8 ht hi hz hsize hby rfl (by decide) (.slice none 0 0) 0 [] hs (World.ownsRow_nil _ _ _ _) ⟨b, off, none⟩ p.length cp (vals p) hx (by simp [vals]) ?_ ?_ (by unfold maxLen; omega) (by omega) hbase ?_
    · intro j u hj
      rw [Addr.add_mid]
      rw [vals, List.getElem?_map] at hj
      obtain ⟨y, hy, rfl⟩ := Option.map_eq_some_iff.1 hj
      obtain ⟨_, _, ee, c⟩ := hp.2 j y hy
      injection ee with ee
      injection ee with e1 e2
      subst e1 e2
      exact c
    · intro u hu
      obtain ⟨y, _, rfl⟩ := List.mem_map.1 hu
      rfl
    · intro v' w' h1 h2 _
      rw [Nat.zero_add, List.nil_append] at h1
      exact h v' w' h1 h2
def SrchPost (n : Nat) (L : Nat → Leg) (f : Nat) (p : List Nat) (w : World) (e : Ending) (w' : World) : Prop :=
  Below w.heap.size w w' ∧ ((∃ r ao cp, srch n L f p = some r ∧ e = .returned (.tuple #[.slice ao r.length cp, .bool true]) ∧ PermAt w' ao cp r) ∨ (srch n L f p = none ∧ ∃ v, e = .returned (.tuple #[v, .bool false])))
end Go.Proofs.Qxb6500784a
