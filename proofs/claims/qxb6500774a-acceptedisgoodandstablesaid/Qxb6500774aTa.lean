import Derived.Test.Qxb6500774aKw3
namespace Go.Proofs.Qxb6500774a
open Go.RowKit
set_option linter.unusedVariables false
set_option linter.unusedSimpArgs false

/-! ### The printer in memory -/
def u8s (l : List Int) : List Value := l.map (fun c => Value.int .u8 c)
def strL (s : ByteArray) : List Int := s.data.toList.map (fun b => (b.toNat : Int))
theorem strL_len (s : ByteArray) : s.size = (strL s).length := by unfold strL; rw [List.length_map, Array.length_toList]; rfl
theorem str_at (st : ByteArray) (i : Nat) (c : Int) (h : (strL st)[i]? = some c) : ∃ hlt : i < st.size, ((st[i]'hlt).toNat : Int) = c := by
  rw [strL, List.getElem?_map] at h
  obtain ⟨b, hb, rfl⟩ := Option.map_eq_some_iff.1 h
  obtain ⟨hlt, e⟩ := List.getElem?_eq_some_iff.1 hb
  refine ⟨by have := hlt; rw [Array.length_toList] at this; exact this, ?_⟩
  simp only [Array.getElem_toList] at e
  rw [← e]
  rfl
theorem u8s_app (a b : List Int) : u8s (a ++ b) = u8s a ++ u8s b := by simp [u8s]
theorem u8s_len (a : List Int) : (u8s a).length = a.length := by simp [u8s]
/-- the block of the printer's row -/
def obk (w : World) (b : Nat) (k : Nat) : Prop := ∃ v, w.cell? ⟨b, 0, none⟩ = some v ∧ v.ownBlock = some k
/-- The printer at b has gathered X; its margin is i. -/
structure PR (w : World) (b : Nat) (X : List Int) (i : Int) : Prop where
  ex : ∃ v, w.cell? ⟨b, 0, none⟩ = some v ∧ w.ownsRow (b + 1) 5 1 v X.length (u8s X)
  c1 : w.cell? ⟨b, 1, none⟩ = some (.int .i64 i)
  fz : ∀ j, w.frozen? ⟨b, j, none⟩ = false
/-- what the printer's functions may turn -/
def PD (w : World) (b : Nat) (k : Nat) : Prop := k = b ∨ obk w b k
structure PGo (b : Nat) (w w' : World) : Prop where
  ex : Ex (PD w b) w w'
  ob : ∀ k, obk w' b k → obk w b k ∨ w.heap.size ≤ k
theorem PGo.refl (b : Nat) (w : World) : PGo b w w := ⟨Ex.refl _ _, fun _ h => .inl h⟩
theorem PGo.trans {b : Nat} {w w' w'' : World} (h : PGo b w w') (k : PGo b w' w'') : PGo b w w'' :=
  ⟨h.ex.trans2 k.ex (fun j z => by
    rcases z with z | z
    · exact .inl (.inl z)
    · rcases h.ob j z with q | q
      · exact .inl (.inr q)
      · exact .inr q), fun j z => by
    rcases k.ob j z with q | q
    · exact h.ob j q
    · exact .inr (Nat.le_trans h.ex.size q)⟩
theorem PR.lt {w : World} {b : Nat} {X : List Int} {i : Int} (h : PR w b X i) : b < w.heap.size := World.block_lt_of_cell? _ _ h.c1
theorem obk.low {w w' : World} {b k : Nat} {v0 : Value} (h0 : w.cell? ⟨b, 0, none⟩ = some v0) (e : Ex (fun _ => False) w w') (h : obk w' b k) : obk w b k := by
  obtain ⟨v, h1, h2⟩ := h
  rw [e.cell (fun z => z) h0] at h1
  injection h1 with h1
  exact ⟨v0, h0, by rw [h1]; exact h2⟩
theorem PR.low {w w' : World} {b : Nat} {X : List Int} {i : Int} (h : PR w b X i) (e : Ex (fun _ => False) w w') : PR w' b X i ∧ PGo b w w' := by
  obtain ⟨v, h1, h2⟩ := h.ex
  exact ⟨⟨⟨v, e.cell (fun e => e) h1, own_kept h2 e (fun _ _ e => e)⟩, e.cell (fun e => e) h.c1, fun j => (e.frozen (fun e => e) h.lt).trans (h.fz j)⟩, e.mono (fun _ z => z.elim), fun k z => .inl (obk.low h1 e z)⟩
theorem PR.put {w w2 : World} {b : Nat} {X Y : List Int} {i : Int} {v v' : Value} (h : PR w b X i) (hv : w.cell? ⟨b, 0, none⟩ = some v) (ho : w.ownsRow (b + 1) 5 1 v X.length (u8s X)) (hg : w.grownBy w2 v.ownBlock) (hat : ∀ k, v'.ownBlock = some k → v.ownBlock = some k ∨ w.heap.size ≤ k) (ho2 : w2.ownsRow (b + 1) 5 1 v' Y.length (u8s Y)) : PR (w2.setCell ⟨b, 0, none⟩ v') b Y i ∧ PGo b w (w2.setCell ⟨b, 0, none⟩ v') := by
  have e1 : Ex (fun k => v.ownBlock = some k) w w2 := Ex.ofGrown hg (fun k hk => hk.symm)
  have np : ¬ (v.ownBlock = some b) := fun z => by have := (ho.lt b z).1; omega
  have hc := e1.cell np hv
  have hc1 := e1.cell np h.c1
  have e2 : Ex (fun k => k = b) w2 (w2.setCell ⟨b, 0, none⟩ v') := (Ex.refl (fun k => k = b) w2).set (p := b) rfl _
  have hcn : (w2.setCell ⟨b, 0, none⟩ v').cell? ⟨b, 0, none⟩ = some v' := World.cell?_setCell_same _ _ _ hc
  refine ⟨⟨⟨v', hcn, own_kept ho2 e2 (fun k hk (x : k = b) => by have := (ho2.lt k hk).1; omega)⟩, by rw [set_cell_low _ _ (by decide)]; exact hc1, fun j => by rw [set_frozen]; exact (e1.frozen np h.lt).trans (h.fz j)⟩, ?_, ?_⟩
  · exact (e1.mono (fun k hk => .inr ⟨v, hv, hk⟩)).trans (e2.mono (fun k (hk : k = b) => .inl hk))
  · rintro k ⟨u, h1, h2⟩
    rw [hcn] at h1
    injection h1 with h1
    subst h1
    rcases hat k h2 with q | q
    · exact .inl ⟨v, hv, q⟩
    · exact .inr q
theorem PR.ind {w : World} {b : Nat} {X : List Int} {i : Int} (h : PR w b X i) (j : Int) : PR (w.setCell ⟨b, 1, none⟩ (.int .i64 j)) b X j ∧ PGo b w (w.setCell ⟨b, 1, none⟩ (.int .i64 j)) := by
  obtain ⟨v, h1, h2⟩ := h.ex
  have e2 : Ex (fun k => k = b) w (w.setCell ⟨b, 1, none⟩ (.int .i64 j)) := (Ex.refl (fun k => k = b) w).set (p := b) rfl _
  have hc : (w.setCell ⟨b, 1, none⟩ (.int .i64 j)).cell? ⟨b, 0, none⟩ = some v := by rw [set_cell_low _ _ (by decide)]; exact h1
  refine ⟨⟨⟨v, hc, own_kept h2 e2 (fun k hk (x : k = b) => by have := (h2.lt k hk).1; omega)⟩, World.cell?_setCell_same _ _ _ h.c1, fun j => by rw [set_frozen]; exact h.fz j⟩, e2.mono (fun k hk => .inl hk), ?_⟩
  rintro k ⟨u, h3, h4⟩
  rw [hc] at h3
  injection h3 with h3
  subst h3
  exact .inl ⟨v, h1, h4⟩
def PRPost (w : World) (b : Nat) (X : List Int) (i : Int) (e : Ending) (w' : World) : Prop := e = .returned (.tuple #[]) ∧ PR w' b X i ∧ PGo b w w'
/-- trees that the printer does not touch -/
theorem ET.go {b : Nat} {w w' : World} {e : E} {f : XP} (h : ET w (PD w b) e f) (g : PGo b w w') : ET w' (PD w' b) e f := h.keep g.ex (fun _ z => .inl z) (fun k z => by
  rcases z with z | z
  · exact .inl (.inl z)
  · rcases g.ob k z with q | q
    · exact .inl (.inr q)
    · exact .inr q)
theorem PD.go {b : Nat} {w w' : World} (g : PGo b w w') : ∀ k, PD w' b k → PD w b k ∨ w.heap.size ≤ k := fun k z => by
  rcases z with z | z
  · exact .inl (.inl z)
  · rcases g.ob k z with q | q
    · exact .inl (.inr q)
    · exact .inr q
theorem Try.inf5 : (Try.prog.info? 5).map (fun i => (i.zero, i.size, i.bytes)) = some (some (.int .u8 0), 1, 1) := by kernel_rfl
theorem inf_parts {e : TypeId} {z : Value} {size bytes : Nat} (hinfo : (Try.prog.info? e).map (fun i => (i.zero, i.size, i.bytes)) = some (some z, size, bytes)) : ∃ i, Try.prog.info? e = some i ∧ i.zero = some z ∧ i.size = size ∧ i.bytes = bytes := by
  cases hq : Try.prog.info? e with
  | none => rw [hq] at hinfo; cases hinfo
  | some i =>
    rw [hq] at hinfo
    simp at hinfo
    exact ⟨i, rfl, hinfo.1, hinfo.2.1, hinfo.2.2⟩
theorem own_len {w : World} {B e s n : Nat} {v : Value} {xs : List Value} (h : w.ownsRow B e s v n xs) : ∃ a c, v = .slice a n c := by
  rcases h.2 with ⟨e1, e2⟩ | ⟨g, cap, cur, e1, _⟩
  · exact ⟨none, 0, by rw [e1, e2]⟩
  · exact ⟨_, _, e1⟩
end Go.Proofs.Qxb6500774a
