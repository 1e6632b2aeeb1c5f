import Derived.Test.Qxb6500776aFnd
import Derived.Deep.AppendLies
namespace Go.Proofs.Qxb6500776a
open Go.RowKit

theorem set_ty {w : World} {q t : Nat} {c : Array Value} {f : Nat × Nat} (h : w.heap[q]? = some (.cells c t f)) (a : Addr) (u : Value) : ∃ c' f', (w.setCell a u).heap[q]? = some (.cells c' t f') := by
  unfold World.setCell
  simp only [Array.getElem?_modify, h]
  split
  · exact ⟨_, _, rfl⟩
  · exact ⟨_, _, rfl⟩
theorem set_frozen (w : World) (a b : Addr) (u : Value) : (w.setCell a u).frozen? b = w.frozen? b := by simp [go_sem]
theorem WOk.set {L : List Shp} {M : List Smk} (h : WOk L M) {i : Nat} {s s' : Shp} (hi : L[i]? = some s) (hid : s'.id = s.id) (hok : ShpOk s') : WOk (L.set i s') M := by
  refine ⟨?_, fun x hx => ?_, h.ml, h.mo⟩
  · have : (L.set i s').map Shp.id = L.map Shp.id := by
      rw [List.map_set, hid]
      refine List.ext_getElem? fun j => ?_
      rw [List.getElem?_set]
      split
      · next e =>
        subst e
        rw [List.getElem?_map, hi]
        have hl := (List.getElem?_eq_some_iff.1 hi).1
        simp [hl]
      · rfl
    rw [this]; exact h.nd
  · rcases List.mem_or_eq_of_mem_set hx with z | rfl
    · exact h.ok _ z
    · exact hok
/-- What Step has at hand: the world at p, the op's box at q. -/
structure SB (w : World) (p q : Nat) (a1 a2 : Value) (K A B C D O : Int) (w1 : World) (v1 v2 : Value) (L : List Shp) (M : List Smk) : Prop where
  wd : WD w1 p v1 v2 L M
  wo : WOk L M
  ex : Ex (Foot p a1 a2) w w1
  ft : ∀ k, Foot p v1 v2 k → Foot p a1 a2 k ∨ w.heap.size ≤ k
  o0 : w1.cell? ⟨q, 0, none⟩ = some (.int .i64 K)
  o1 : w1.cell? ⟨q, 1, none⟩ = some (.int .i64 A)
  o2 : w1.cell? ⟨q, 2, none⟩ = some (.int .i64 B)
  o3 : w1.cell? ⟨q, 3, none⟩ = some (.int .i64 C)
  o4 : w1.cell? ⟨q, 4, none⟩ = some (.int .i64 D)
  o5 : w1.cell? ⟨q, 5, none⟩ = some (.int .i64 O)
  oty : ∃ c f, w1.heap[q]? = some (.cells c 32 f)
def StPost (w : World) (p : Nat) (a1 a2 : Value) (e : Ending) (w' : World) : Prop :=
  ∃ (r : Int) (u1 u2 : Value) (L' : List Shp) (M' : List Smk), e = .returned (.int .i64 r) ∧ WD w' p u1 u2 L' M' ∧ WOk L' M' ∧ Ex (Foot p a1 a2) w w' ∧ ∀ k, Foot p u1 u2 k → Foot p a1 a2 k ∨ w.heap.size ≤ k
section
variable {w w1 : World} {p q : Nat} {a1 a2 v1 v2 : Value} {K A B C D O : Int} {L : List Shp} {M : List Smk}
theorem SB.out (h : SB w p q a1 a2 K A B C D O w1 v1 v2 L M) (r : Int) : StPost w p a1 a2 (.returned (.int .i64 r)) w1 := ⟨r, v1, v2, L, M, rfl, h.wd, h.wo, h.ex, h.ft⟩
theorem SB.nq (h : SB w p q a1 a2 K A B C D O w1 v1 v2 L M) : ¬ Foot p v1 v2 q := by
  obtain ⟨c, f, hc⟩ := h.oty
  rintro (rfl | e | e)
  · obtain ⟨c', f', h'⟩ := h.wd.ty
    rw [hc] at h'; simp at h'
  · obtain ⟨c', f', h'⟩ := own_ty h.wd.r1 e
    rw [hc] at h'; simp at h'
  · obtain ⟨c', f', h'⟩ := own_ty h.wd.r2 e
    rw [hc] at h'; simp at h'
theorem WD.drew {w1 : World} {p : Nat} {v1 v2 : Value} {L : List Shp} {M : List Smk} (h : WD w1 p v1 v2 L M) : WD w1.drew p v1 v2 L M := h.keep (S := fun _ => False) ((Ex.refl _ _).drew) (fun _ _ e => e)
theorem SB.drew (h : SB w p q a1 a2 K A B C D O w1 v1 v2 L M) : SB w p q a1 a2 K A B C D O w1.drew v1 v2 L M :=
  ⟨h.wd.drew, h.wo, h.ex.drew, h.ft, h.o0, h.o1, h.o2, h.o3, h.o4, h.o5, h.oty⟩
theorem SB.frz {g c n : Nat} (h : SB w p q a1 a2 K A B C D O w1 (.slice (some ⟨g, 0, none⟩) n c) v2 L M) (hn : n = L.length) (j : Nat) : w1.frozen? ⟨g, j, none⟩ = false := by
  subst hn
  exact h.wd.r1.frozenAt j
theorem set_cell_ne (w : World) (g j q i : Nat) (u : Value) (h : q ≠ g) : (w.setCell ⟨g, j, none⟩ u).cell? ⟨q, i, none⟩ = w.cell? ⟨q, i, none⟩ :=
  World.cell?_of_block (heap_setCell_other w _ q u h)
/-- One cell of a ship is written. -/
theorem WD.put {g c n : Nat} {w1 : World} (h : WD w1 p (.slice (some ⟨g, 0, none⟩) n c) v2 L M) (hn : n = L.length) {i f : Nat} {s s' : Shp} {u : Value} (hi : L[i]? = some s) (hf : f < 12) (hs : s'.vals = s.vals.set f u) :
    WD (w1.setCell ⟨g, i * 12 + f, none⟩ u) p (.slice (some ⟨g, 0, none⟩) n c) v2 (L.set i s') M := by
  subst hn
  have hpg : p ≠ g := fun e => h.n1 (by rw [e]; rfl)
  have h2 : v2.ownBlock ≠ some g := h.n12 rfl
  obtain ⟨c', f', hty⟩ := h.ty
  refine ⟨?_, ?_, fun j => ?_, set_ty hty _ _, ?_, ?_⟩
  · rw [set_cell_ne _ _ _ _ _ _ hpg]; exact h.c0
  · rw [set_cell_ne _ _ _ _ _ _ hpg]; exact h.c1
  · rw [set_frozen]; exact h.fr j
  · rw [flat_set Shp.vals 12 Shp.vals_len u f hf L i s s' hi hs, List.length_set]
    exact (h.r1.stored (i * 12 + f) u).1
  · exact ownsRow_setCell_other h.r2 h2 u
theorem SB.put {g c n : Nat} (h : SB w p q a1 a2 K A B C D O w1 (.slice (some ⟨g, 0, none⟩) n c) v2 L M) (hn : n = L.length) {i f : Nat} {s s' : Shp} {u : Value} (hi : L[i]? = some s) (hf : f < 12) (hs : s'.vals = s.vals.set f u) (hid : s'.id = s.id) (hok : ShpOk s') :
    SB w p q a1 a2 K A B C D O (w1.setCell ⟨g, i * 12 + f, none⟩ u) (.slice (some ⟨g, 0, none⟩) n c) v2 (L.set i s') M := by
  have hqg : q ≠ g := fun e => h.nq (.inr (.inl (by rw [e]; rfl)))
  obtain ⟨c', f', hty⟩ := h.oty
  have hft := h.ft g (.inr (.inl rfl))
  refine ⟨h.wd.put hn hi hf hs, h.wo.set hi hid hok, ?_, h.ft, ?_, ?_, ?_, ?_, ?_, ?_, set_ty hty _ _⟩
  · rcases hft with z | z
    · exact h.ex.set z u
    · exact h.ex.setNew z u
  all_goals (rw [set_cell_ne _ _ _ _ _ _ hqg]; first | exact h.o0 | exact h.o1 | exact h.o2 | exact h.o3 | exact h.o4 | exact h.o5)
theorem set_at {L : List Shp} {i : Nat} {s : Shp} (h : L[i]? = some s) (s' : Shp) : (L.set i s')[i]? = some s' := by
  have hl := (List.getElem?_eq_some_iff.1 h).1
  simp [hl]
/-- .. with the ship i at hand. -/
def SQ (w : World) (p q : Nat) (a1 a2 : Value) (K A B C D O : Int) (w1 : World) (g n c : Nat) (v2 : Value) (M : List Smk) (i : Nat) (s : Shp) : Prop :=
  ∃ L, SB w p q a1 a2 K A B C D O w1 (.slice (some ⟨g, 0, none⟩) n c) v2 L M ∧ n = L.length ∧ L[i]? = some s
variable {g n c i : Nat} {s : Shp}
theorem SQ.put (h : SQ w p q a1 a2 K A B C D O w1 g n c v2 M i s) {f : Nat} (hf : f < 12) {s' : Shp} {u : Value} (hs : s'.vals = s.vals.set f u) (hid : s'.id = s.id) (hok : ShpOk s') :
    SQ w p q a1 a2 K A B C D O (w1.setCell ⟨g, i * 12 + f, none⟩ u).drew g n c v2 M i s' := by
  obtain ⟨L, h1, h2, h3⟩ := h
  exact ⟨_, (h1.put h2 h3 hf hs hid hok).drew, h2.trans List.length_set.symm, set_at h3 _⟩
theorem SQ.ok (h : SQ w p q a1 a2 K A B C D O w1 g n c v2 M i s) : ShpOk s := by
  obtain ⟨L, h1, h2, h3⟩ := h
  exact h1.wo.ok s (List.mem_of_getElem? h3)
theorem SQ.c0 (h : SQ w p q a1 a2 K A B C D O w1 g n c v2 M i s) : w1.cell? ⟨p, 0, none⟩ = some (.slice (some ⟨g, 0, none⟩) n c) := by
  obtain ⟨L, h1, h2, h3⟩ := h
  exact h1.wd.c0
theorem SQ.o2 (h : SQ w p q a1 a2 K A B C D O w1 g n c v2 M i s) : w1.cell? ⟨q, 2, none⟩ = some (.int .i64 B) := by
  obtain ⟨L, h1, h2, h3⟩ := h
  exact h1.o2
theorem SQ.o3 (h : SQ w p q a1 a2 K A B C D O w1 g n c v2 M i s) : w1.cell? ⟨q, 3, none⟩ = some (.int .i64 C) := by
  obtain ⟨L, h1, h2, h3⟩ := h
  exact h1.o3
theorem SQ.o4 (h : SQ w p q a1 a2 K A B C D O w1 g n c v2 M i s) : w1.cell? ⟨q, 4, none⟩ = some (.int .i64 D) := by
  obtain ⟨L, h1, h2, h3⟩ := h
  exact h1.o4
theorem SQ.at (h : SQ w p q a1 a2 K A B C D O w1 g n c v2 M i s) (j : Nat) (v : Value) (hv : s.vals[j]? = some v) : w1.cell? ⟨g, i * 12 + j, none⟩ = some v := by
  obtain ⟨L, h1, h2, h3⟩ := h
  exact h1.wd.ship h3 h2 j v hv
theorem SQ.fr (h : SQ w p q a1 a2 K A B C D O w1 g n c v2 M i s) (j : Nat) : w1.frozen? ⟨g, j, none⟩ = false := by
  obtain ⟨L, h1, h2, h3⟩ := h
  exact h1.frz h2 j
theorem SQ.lt (h : SQ w p q a1 a2 K A B C D O w1 g n c v2 M i s) : i < n ∧ n ≤ 48 := by
  obtain ⟨L, h1, h2, h3⟩ := h
  exact ⟨by have := (List.getElem?_eq_some_iff.1 h3).1; omega, by have := h1.wo.len; omega⟩
theorem SQ.out (h : SQ w p q a1 a2 K A B C D O w1 g n c v2 M i s) (r : Int) : StPost w p a1 a2 (.returned (.int .i64 r)) w1 := by
  obtain ⟨L, h1, h2, h3⟩ := h
  exact h1.out r
theorem SB.sq (h : SB w p q a1 a2 K A B C D O w1 v1 v2 L M) (hi : L[i]? = some s) : ∃ g n c, v1 = .slice (some ⟨g, 0, none⟩) n c ∧ SQ w p q a1 a2 K A B C D O w1 g n c v2 M i s := by
  have hl := (List.getElem?_eq_some_iff.1 hi).1
  obtain ⟨g, c, rfl⟩ := own_some h.wd.r1 (by omega)
  exact ⟨g, _, c, rfl, L, h, rfl, hi⟩

/-- One ship more. -/
theorem SB.push1 (h : SB w p q a1 a2 K A B C D O w1 v1 v2 L M) (hok : WOk (L ++ [s]) M) {ob : Obj} {w2 : World} {v' : Value}
    (hr : w2.ownsRow 0 38 12 v' (L.length + 1) (L.flatMap Shp.vals ++ s.vals)) (hg : (w1.alloc ob).grownBy w2 v1.ownBlock) (hat : v'.ownBlock = v1.ownBlock ∨ v'.ownBlock = some (w1.alloc ob).heap.size) :
    SB w p q a1 a2 K A B C D O (w2.setCell ⟨p, 0, none⟩ v') v' v2 (L ++ [s]) M := by
  have e1 : Ex (fun k => v1.ownBlock = some k) w1 w2 := ((Ex.refl _ w1).alloc ob).trans (Ex.ofGrown hg fun k e => e.symm)
  have hp1 : ¬ v1.ownBlock = some p := h.wd.n1
  have hq1 : ¬ v1.ownBlock = some q := fun e => h.nq (.inr (.inl e))
  have hqp : q ≠ p := fun e => h.nq (.inl e)
  have hp2 : v'.ownBlock ≠ some p := fun e => by
    have hl := h.wd.lt (.inl rfl)
    rcases hat with z | z
    · exact hp1 (z.symm.trans e)
    · rw [e] at z; simp at z; omega
  have hpl := h.wd.lt (.inl rfl)
  have c0 := e1.cell hp1 h.wd.c0
  have c1 := e1.cell hp1 h.wd.c1
  obtain ⟨c', f', hty⟩ := h.wd.ty
  obtain ⟨c2, f2, hty2⟩ := h.oty
  have ty1 : w2.heap[p]? = some (.cells c' 44 f') := (e1.block p hpl hp1).trans hty
  have ty2 : w2.heap[q]? = some (.cells c2 32 f2) := (e1.block q (Array.getElem?_eq_some_iff.1 hty2).1 hq1).trans hty2
  have fr : ∀ j, w2.frozen? ⟨p, j, none⟩ = false := fun j => (e1.frozen hp1 hpl).trans (h.wd.fr j)
  have hsz : (L ++ [s]).length = L.length + 1 := by simp
  have hfl : (L ++ [s]).flatMap Shp.vals = L.flatMap Shp.vals ++ s.vals := by simp
  have hro := own_kept h.wd.r2 e1 (fun k hk e => h.wd.n12 e hk)
  refine ⟨⟨?_, ?_, fun j => ?_, set_ty ty1 _ _, ?_, ?_⟩, hok, ?_, ?_, ?_, ?_, ?_, ?_, ?_, ?_, set_ty ty2 _ _⟩
  · first | exact World.cell?_setCell_same _ _ _ _ c0 | (rw [World.cell?_setCell_off _ _ _ _ _ (by decide)]; exact c0) | (simp [go_sem, c0]; done)
  · first | exact World.cell?_setCell_same _ _ _ _ c1 | (rw [World.cell?_setCell_off _ _ _ _ _ (by decide)]; exact c1) | (simp [go_sem, c1]; done)
  · rw [set_frozen]; exact fr j
  · rw [hsz, hfl]
    exact ownsRow_setCell_other hr hp2 _
  · exact ownsRow_setCell_other hro h.wd.n2 _
  · have hex := h.ex.trans2 e1 (fun j hj => h.ft j (by have e : v1.ownBlock = some j := hj; exact .inr (.inl e)))
    rcases h.ft p (.inl rfl) with z | z
    · exact hex.set z _
    · exact hex.setNew z _
  · have hs1 := h.ex.size
    rintro k (rfl | e | e)
    · exact h.ft _ (.inl rfl)
    · rcases hat with z | z
      · exact h.ft k (.inr (.inl (z.symm.trans e)))
      · right; rw [e] at z; simp at z; omega
    · exact h.ft k (.inr (.inr e))
  all_goals (rw [set_cell_ne _ _ _ _ _ _ hqp]; first | exact e1.cell hq1 h.o0 | exact e1.cell hq1 h.o1 | exact e1.cell hq1 h.o2 | exact e1.cell hq1 h.o3 | exact e1.cell hq1 h.o4 | exact e1.cell hq1 h.o5)

/-- One disc more. -/
theorem SB.push2 {sm : Smk} (h : SB w p q a1 a2 K A B C D O w1 v1 v2 L M) (hok : WOk L (M ++ [sm])) {ob : Obj} {w2 : World} {v' : Value}
    (hr : w2.ownsRow 0 52 3 v' (M.length + 1) (M.flatMap Smk.vals ++ sm.vals)) (hg : (w1.alloc ob).grownBy w2 v2.ownBlock) (hat : v'.ownBlock = v2.ownBlock ∨ v'.ownBlock = some (w1.alloc ob).heap.size) :
    SB w p q a1 a2 K A B C D O (w2.setCell ⟨p, 1, none⟩ v') v1 v' L (M ++ [sm]) := by
  have e1 : Ex (fun k => v2.ownBlock = some k) w1 w2 := ((Ex.refl _ w1).alloc ob).trans (Ex.ofGrown hg fun k e => e.symm)
  have hp1 : ¬ v2.ownBlock = some p := h.wd.n2
  have hq1 : ¬ v2.ownBlock = some q := fun e => h.nq (.inr (.inr e))
  have hqp : q ≠ p := fun e => h.nq (.inl e)
  have hp2 : v'.ownBlock ≠ some p := fun e => by
    have hl := h.wd.lt (.inl rfl)
    rcases hat with z | z
    · exact hp1 (z.symm.trans e)
    · rw [e] at z; simp at z; omega
  have hpl := h.wd.lt (.inl rfl)
  have c0 := e1.cell hp1 h.wd.c0
  have c1 := e1.cell hp1 h.wd.c1
  obtain ⟨c', f', hty⟩ := h.wd.ty
  obtain ⟨c2, f2, hty2⟩ := h.oty
  have ty1 : w2.heap[p]? = some (.cells c' 44 f') := (e1.block p hpl hp1).trans hty
  have ty2 : w2.heap[q]? = some (.cells c2 32 f2) := (e1.block q (Array.getElem?_eq_some_iff.1 hty2).1 hq1).trans hty2
  have fr : ∀ j, w2.frozen? ⟨p, j, none⟩ = false := fun j => (e1.frozen hp1 hpl).trans (h.wd.fr j)
  have hsz : (M ++ [sm]).length = M.length + 1 := by simp
  have hfl : (M ++ [sm]).flatMap Smk.vals = M.flatMap Smk.vals ++ sm.vals := by simp
  have hro := own_kept h.wd.r1 e1 (fun k hk e => h.wd.n12 hk e)
  refine ⟨⟨?_, ?_, fun j => ?_, set_ty ty1 _ _, ?_, ?_⟩, hok, ?_, ?_, ?_, ?_, ?_, ?_, ?_, ?_, set_ty ty2 _ _⟩
  · first | exact World.cell?_setCell_same _ _ _ _ c0 | (rw [World.cell?_setCell_off _ _ _ _ _ (by decide)]; exact c0) | (simp [go_sem, c0]; done)
  · first | exact World.cell?_setCell_same _ _ _ _ c1 | (rw [World.cell?_setCell_off _ _ _ _ _ (by decide)]; exact c1) | (simp [go_sem, c1]; done)
  · rw [set_frozen]; exact fr j
  · exact ownsRow_setCell_other hro h.wd.n1 _
  · rw [hsz, hfl]
    exact ownsRow_setCell_other hr hp2 _
  · have hex := h.ex.trans2 e1 (fun j hj => h.ft j (by have e : v2.ownBlock = some j := hj; exact .inr (.inr e)))
    rcases h.ft p (.inl rfl) with z | z
    · exact hex.set z _
    · exact hex.setNew z _
  · have hs1 := h.ex.size
    rintro k (rfl | e | e)
    · exact h.ft _ (.inl rfl)
    · exact h.ft k (.inr (.inl e))
    · rcases hat with z | z
      · exact h.ft k (.inr (.inr (z.symm.trans e)))
      · right; rw [e] at z; simp at z; omega
  all_goals (rw [set_cell_ne _ _ _ _ _ _ hqp]; first | exact e1.cell hq1 h.o0 | exact e1.cell hq1 h.o1 | exact e1.cell hq1 h.o2 | exact e1.cell hq1 h.o3 | exact e1.cell hq1 h.o4 | exact e1.cell hq1 h.o5)

theorem WOk.push {id : Int} (h : WOk L M) (hno : ∀ s ∈ L, s.id ≠ id) (s : Shp) (hs : s.id = id) (hok : ShpOk s) : WOk (L ++ [s]) M := by
  refine ⟨?_, fun x hx => ?_, h.ml, h.mo⟩
  · rw [List.map_append, List.nodup_append]
    refine ⟨h.nd, by simp, ?_⟩
    intro a ha b hb
    obtain ⟨x, hx, rfl⟩ := List.mem_map.1 ha
    simp at hb
    rw [hb, hs]
    exact hno x hx
  · rcases List.mem_append.1 hx with z | z
    · exact h.ok x z
    · rw [List.mem_singleton.1 z]; exact hok
theorem WOk.push2 (h : WOk L M) (hl : M.length < 32) (s : Smk) (hok : SmkOk s) : WOk L (M ++ [s]) := by
  refine ⟨h.nd, h.ok, by simp; omega, fun x hx => ?_⟩
  rcases List.mem_append.1 hx with z | z
  · exact h.mo x z
  · rw [List.mem_singleton.1 z]; exact hok
theorem vals_one (s : Shp) : ∀ u ∈ s.vals, u.oneCell' = true := by
  intro u hu
  simp [Shp.vals] at hu
  rcases hu with rfl | rfl | rfl | rfl | rfl | rfl | rfl | rfl | rfl | rfl | rfl | rfl <;> rfl
theorem vals_one2 (s : Smk) : ∀ u ∈ s.vals, u.oneCell' = true := by
  intro u hu
  simp [Smk.vals] at hu
  rcases hu with rfl | rfl | rfl <;> rfl
theorem new_cells (w : World) (cs : List Value) (t : Nat) (j : Nat) (u : Value) (h : cs[j]? = some u) : (w.alloc (.cells cs.toArray t)).cell? ((⟨w.heap.size, 0, none⟩ : Addr).add j) = some u := by
  have hb : (w.alloc (.cells cs.toArray t)).heap[w.heap.size]? = some (.cells cs.toArray t) := heap_alloc_new w _
  rw [Addr.add_mid, Nat.zero_add]
  unfold World.cell?
  simp only [hb]
  simpa using h
theorem SB.grown1 (h : SB w p q a1 a2 K A B C D O w1 v1 v2 L M) {ob : Obj} {w2 : World} (hg : (w1.alloc ob).grownBy w2 v1.ownBlock) : w2.cell? ⟨p, 0, none⟩ = some v1 ∧ w2.frozen? ⟨p, 0, none⟩ = false := by
  have e1 : Ex (fun k => v1.ownBlock = some k) w1 w2 := ((Ex.refl _ w1).alloc ob).trans (Ex.ofGrown hg fun k e => e.symm)
  exact ⟨e1.cell h.wd.n1 h.wd.c0, (e1.frozen h.wd.n1 (h.wd.lt (.inl rfl))).trans (h.wd.fr 0)⟩
theorem SB.grown2 (h : SB w p q a1 a2 K A B C D O w1 v1 v2 L M) {ob : Obj} {w2 : World} (hg : (w1.alloc ob).grownBy w2 v2.ownBlock) : w2.cell? ⟨p, 1, none⟩ = some v2 ∧ w2.frozen? ⟨p, 1, none⟩ = false := by
  have e1 : Ex (fun k => v2.ownBlock = some k) w1 w2 := ((Ex.refl _ w1).alloc ob).trans (Ex.ofGrown hg fun k e => e.symm)
  exact ⟨e1.cell h.wd.n2 h.wd.c1, (e1.frozen h.wd.n2 (h.wd.lt (.inl rfl))).trans (h.wd.fr 1)⟩
theorem new_ok {id : Int} (h : 0 ≤ id ∧ id < 48) : ShpOk { id := id, team := 0, x := 0, y := 0, depth := 0, speed := 10, mast := 16, noise := 100, afloat := true, radar := true, sonar := true, ping := false } := by
  refine ⟨h, ?_, ?_, ?_, ?_, ?_, ?_, ?_⟩ <;> simp [OnM]
theorem SB.app_q (h : SB w p q a1 a2 K A B C D O w1 v1 v2 L M) {ob : Obj} {w2 : World} (hg : (w1.alloc ob).grownBy w2 v2.ownBlock) :
    w2.cell? ⟨q, 1, none⟩ = some (.int .i64 A) ∧ w2.cell? ⟨q, 2, none⟩ = some (.int .i64 B) ∧ w2.cell? ⟨q, 3, none⟩ = some (.int .i64 C) := by
  have e1 : Ex (fun k => v2.ownBlock = some k) w1 w2 := ((Ex.refl _ w1).alloc ob).trans (Ex.ofGrown hg fun k e => e.symm)
  have hq : ¬ v2.ownBlock = some q := fun e => h.nq (.inr (.inr e))
  exact ⟨e1.cell hq h.o1, e1.cell hq h.o2, e1.cell hq h.o3⟩
theorem SB.al_q (h : SB w p q a1 a2 K A B C D O w1 v1 v2 L M) (ob : Obj) :
    (w1.alloc ob).cell? ⟨q, 1, none⟩ = some (.int .i64 A) ∧ (w1.alloc ob).cell? ⟨q, 2, none⟩ = some (.int .i64 B) ∧ (w1.alloc ob).cell? ⟨q, 3, none⟩ = some (.int .i64 C) ∧ (w1.alloc ob).cell? ⟨p, 1, none⟩ = some v2 := by
  have e1 : Ex (fun _ => False) w1 (w1.alloc ob) := (Ex.refl _ w1).alloc ob
  exact ⟨e1.cell (fun e => e) h.o1, e1.cell (fun e => e) h.o2, e1.cell (fun e => e) h.o3, e1.cell (fun e => e) h.wd.c1⟩
theorem SB.own2 (h : SB w p q a1 a2 K A B C D O w1 v1 v2 L M) (ob : Obj) : (w1.alloc ob).drew.ownsRow 0 52 3 v2 M.length (M.flatMap Smk.vals) := own_kept h.wd.r2 (((Ex.refl (fun _ => False) _).alloc _).drew) (fun _ _ e => e)
theorem WOk.set2 (h : WOk L M) {i : Nat} {s : Smk} (hok : SmkOk s) : WOk L (M.set i s) := by
  refine ⟨h.nd, h.ok, by simpa using h.ml, fun x hx => ?_⟩
  rcases List.mem_or_eq_of_mem_set hx with z | rfl
  · exact h.mo _ z
  · exact hok
/-- One cell of a disc is written. -/
theorem SB.put2 {g c n : Nat} (h : SB w p q a1 a2 K A B C D O w1 v1 (.slice (some ⟨g, 0, none⟩) n c) L M) (hn : n = M.length) {i f : Nat} {s s' : Smk} {u : Value} (hi : M[i]? = some s) (hf : f < 3) (hs : s'.vals = s.vals.set f u) (hok : SmkOk s') :
    SB w p q a1 a2 K A B C D O (w1.setCell ⟨g, i * 3 + f, none⟩ u) v1 (.slice (some ⟨g, 0, none⟩) n c) L (M.set i s') := by
  subst hn
  have hqg : q ≠ g := fun e => h.nq (.inr (.inr (by rw [e]; rfl)))
  have hpg : p ≠ g := fun e => h.wd.n2 (by rw [e]; rfl)
  have h2 : v1.ownBlock ≠ some g := fun e => h.wd.n12 e rfl
  obtain ⟨c', f', hty⟩ := h.wd.ty
  obtain ⟨c2, f2, hty2⟩ := h.oty
  have hft := h.ft g (.inr (.inr rfl))
  refine ⟨⟨?_, ?_, fun j => ?_, set_ty hty _ _, ?_, ?_⟩, h.wo.set2 hok, ?_, h.ft, ?_, ?_, ?_, ?_, ?_, ?_, set_ty hty2 _ _⟩
  · rw [set_cell_ne _ _ _ _ _ _ hpg]; exact h.wd.c0
  · rw [set_cell_ne _ _ _ _ _ _ hpg]; exact h.wd.c1
  · rw [set_frozen]; exact h.wd.fr j
  · exact ownsRow_setCell_other h.wd.r1 h2 u
  · rw [flat_set Smk.vals 3 Smk.vals_len u f hf M i s s' hi hs, List.length_set]
    exact (h.wd.r2.stored (i * 3 + f) u).1
  · rcases hft with z | z
    · exact h.ex.set z u
    · exact h.ex.setNew z u
  all_goals (rw [set_cell_ne _ _ _ _ _ _ hqg]; first | exact h.o0 | exact h.o1 | exact h.o2 | exact h.o3 | exact h.o4 | exact h.o5)
theorem set_at2 {i : Nat} {s : Smk} (h : M[i]? = some s) (s' : Smk) : (M.set i s')[i]? = some s' := by
  have hl := (List.getElem?_eq_some_iff.1 h).1
  simp [hl]
theorem set_set2 (M : List Smk) (i : Nat) (a b : Smk) : (M.set i a).set i b = M.set i b := by simp
/-- A disc is copied over another. -/
theorem SB.copy2 {g c n : Nat} (h : SB w p q a1 a2 K A B C D O w1 v1 (.slice (some ⟨g, 0, none⟩) n c) L M) (hn : n = M.length) {i : Nat} {s t : Smk} (hi : M[i]? = some s) (hs : SmkOk s) (ht : SmkOk t) :
    SB w p q a1 a2 K A B C D O (w1.setCells g (i * 3) t.vals) v1 (.slice (some ⟨g, 0, none⟩) n c) L (M.set i t) := by
  have b1 := h.put2 hn hi (f := 0) (s' := { s with x := t.x }) (u := .int .i64 t.x) (by omega) rfl ⟨ht.x, hs.y, hs.r⟩
  have b2 := b1.put2 (by simpa using hn) (set_at2 hi _) (f := 1) (s' := { s with x := t.x, y := t.y }) (u := .int .i64 t.y) (by omega) rfl ⟨ht.x, ht.y, hs.r⟩
  rw [set_set2] at b2
  have b3 := b2.put2 (by simpa using hn) (set_at2 hi _) (f := 2) (s' := t) (u := .int .i64 t.r) (by omega) rfl ht
  rw [set_set2] at b3
  exact b3
/-- The last disc goes. -/
theorem SB.pop2 {g c n : Nat} (h : SB w p q a1 a2 K A B C D O w1 v1 (.slice (some ⟨g, 0, none⟩) (n + 1) c) L M) (hn : n + 1 = M.length) :
    SB w p q a1 a2 K A B C D O (w1.setCell ⟨p, 1, none⟩ (.slice (some ⟨g, 0, none⟩) n c)) v1 (.slice (some ⟨g, 0, none⟩) n c) L M.dropLast := by
  have hpg : p ≠ g := fun e => h.wd.n2 (by rw [e]; rfl)
  have hqp : q ≠ p := fun e => h.nq (.inl e)
  obtain ⟨c', f', hty⟩ := h.wd.ty
  obtain ⟨c2, f2, hty2⟩ := h.oty
  have hne : M ≠ [] := fun e => by rw [e] at hn; simp at hn
  have hM := List.dropLast_concat_getLast hne
  have hdl : M.dropLast.length = n := by simp; omega
  have hr2 : w1.ownsRow 0 52 3 (.slice (some ⟨g, 0, none⟩) n c) n (M.dropLast.flatMap Smk.vals) := by
    have := h.wd.r2
    rw [← hn] at this
    refine ownsRow_pop (last := (M.getLast hne).vals) (by rw [flat_len _ 3 Smk.vals_len, hdl]) ?_
    have e : M.dropLast.flatMap Smk.vals ++ (M.getLast hne).vals = M.flatMap Smk.vals := by
      conv => rhs; rw [← hM]
      simp
    rw [e]; exact this
  refine ⟨⟨?_, ?_, fun j => ?_, set_ty hty _ _, ?_, ?_⟩, ⟨h.wo.nd, h.wo.ok, ?_, fun x hx => h.wo.mo x (List.dropLast_subset _ hx)⟩, ?_, ?_, ?_, ?_, ?_, ?_, ?_, ?_, set_ty hty2 _ _⟩
  · have := h.wd.c0; simp [go_sem, this]
  · have := h.wd.c1; simp [go_sem, this]
  · rw [set_frozen]; exact h.wd.fr j
  · exact ownsRow_setCell_other h.wd.r1 h.wd.n1 _
  · rw [hdl]
    exact ownsRow_setCell_other hr2 (by simp [Value.ownBlock]; exact fun e => hpg e.symm) _
  · have := h.wo.ml; simp; omega
  · rcases h.ft p (.inl rfl) with z | z
    · exact h.ex.set z _
    · exact h.ex.setNew z _
  · exact h.ft
  all_goals (rw [set_cell_ne _ _ _ _ _ _ hqp]; first | exact h.o0 | exact h.o1 | exact h.o2 | exact h.o3 | exact h.o4 | exact h.o5)
theorem set_both {i m : Nat} {t : Smk} (h : M[m]? = some t) : (M.set i t)[m]? = some t := by
  rw [List.getElem?_set]
  split
  · next e =>
    subst e
    have hl := (List.getElem?_eq_some_iff.1 h).1
    simp [hl]
  · exact h
theorem own_cap {w : World} {B e s n g k c : Nat} {xs : List Value} (h : w.ownsRow B e s (.slice (some ⟨g, 0, none⟩) n c) k xs) : n ≤ c := by
  obtain ⟨_, h2⟩ := h
  rcases h2 with ⟨h2, _⟩ | ⟨g', cap, cur, h2, _, _, hn, _⟩
  · cases h2
  · cases h2; exact hn
end

theorem SB.first {w : World} {p : Nat} {v1 v2 : Value} {L : List Shp} {M : List Smk} (h : WD w p v1 v2 L M) (ho : WOk L M) (K A B C D O : Int) :
    SB w p w.heap.size v1 v2 K A B C D O (w.alloc (.cells #[.int .i64 K, .int .i64 A, .int .i64 B, .int .i64 C, .int .i64 D, .int .i64 O] 32)) v1 v2 L M :=
  ⟨h.keep ((Ex.refl (fun _ => False) _).alloc _) (fun _ _ e => e), ho, (Ex.refl _ _).alloc _, fun _ hk => .inl hk, by simp [go_sem], by simp [go_sem], by simp [go_sem], by simp [go_sem], by simp [go_sem], by simp [go_sem], ⟨_, _, heap_alloc_new w _⟩⟩


set_option maxRecDepth 100000 in
set_option maxHeartbeats 2000000 in
theorem step1 (w : World) (p : Nat) (v1 v2 : Value) (L : List Shp) (M : List Smk) (hw : WD w p v1 v2 L M) (ho : WOk L M) (A B C D O : Int) (bA : -9223372036854775808 ≤ A ∧ A < 9223372036854775808) :
    Calls Try.prog 13 #[.pointer (some ⟨p, 0, none⟩), .agg #[.int .i64 1, .int .i64 A, .int .i64 B, .int .i64 C, .int .i64 D, .int .i64 O]] w (StPost w p v1 v2) := by
  have HS := hide (SB.first hw ho 1 A B C D O)
  clear hw ho
  go_enter Try.func13, Try.ntmps13
  go_upto_region 1 with fail
  generalize w.alloc (.cells #[.int .i64 1, .int .i64 A, .int .i64 B, .int .i64 C, .int .i64 D, .int .i64 O] 32) = w1 at *
  obtain ⟨q, hq⟩ : ∃ q, w.heap.size = q := ⟨_, rfl⟩
  rw [hq] at HS ⊢
  clear hq
  have o0 := HS.out.o0
  have o1 := HS.out.o1
  go_upto_region 13 with fail
  go_wp2_with fail
  refine (wrap_any _ A 48 (by omega) (by omega) bA.1 bA.2).mono ?_
  rintro e w' ⟨rfl, rfl⟩
  obtain ⟨id, hid⟩ : ∃ id, A % 48 = id := ⟨_, rfl⟩
  have HD := hide (show 0 ≤ id ∧ id < 48 by omega)
  rw [hid]
  clear hid
  go_wp2_with fail
  refine (find_any _ p _ _ _ _ HS.out.wd HS.out.wo.len _).mono ?_
  rintro e w' ⟨ix, rfl, hix, rfl⟩
  rcases hix with ⟨rfl, hno⟩ | ⟨i, s, rfl, hi, hsid⟩
  · go_wp2
    go_ret
    exact HS.out.out _
  · obtain ⟨g, n, c, hv, hq⟩ := HS.out.sq hi
    have HQ := hide hq
    have hlt := hq.lt
    have hN1 := hlt.1
    have hN2 := hlt.2
    clear hi hsid hq hv hlt HS
    go_upto_region 16 with fail
    have z1 := HQ.out.c0
    have z2 := HQ.out.o2
    have z3 := HQ.out.at 4 _ rfl
    have z4 := HQ.out.fr (i * 12 + 4)
    go_region_held3 (fun w' => w'.cell? ⟨p, 0, none⟩ = some (.slice (some ⟨g, 0, none⟩) n c) ∧ w'.cell? ⟨q, 2, none⟩ = some (.int .i64 B)) (simp [*, go_sem]) (first | (go_at_call 32; refine (hold_any _ _ _ _).mono ?_; rintro e w2 ⟨rfl, ew⟩; rw [ew]; clear ew w2))
    clear z1 z2 z3 z4
    replace HQ := hide (HQ.out.put (by omega : 4 < 12) (s' := { s with depth := holdP B 0 400 }) (u := (.int .i64 (holdP B 0 400))) rfl rfl (⟨HQ.out.ok.id, HQ.out.ok.team, HQ.out.ok.x, HQ.out.ok.y, hold_rng (by omega), HQ.out.ok.speed, HQ.out.ok.mast, HQ.out.ok.noise⟩))
    obtain ⟨s', hs'⟩ : ∃ s', { s with depth := holdP B 0 400 } = s' := ⟨_, rfl⟩
    rw [hs'] at HQ
    clear hs'
    clear s
    obtain ⟨s, hs'⟩ : ∃ s, s = s' := ⟨_, rfl⟩
    rw [← hs'] at HQ
    clear hs' s'
    generalize (World.setCell w' ⟨g, i * 12 + 4, none⟩ (.int .i64 (holdP B 0 400))).drew = wz0 at *
    go_upto_region 17 with fail
    have z1 := HQ.out.c0
    have z2 := HQ.out.o3
    have z3 := HQ.out.at 5 _ rfl
    have z4 := HQ.out.fr (i * 12 + 5)
    go_region_held3 (fun w' => w'.cell? ⟨p, 0, none⟩ = some (.slice (some ⟨g, 0, none⟩) n c) ∧ w'.cell? ⟨q, 3, none⟩ = some (.int .i64 C)) (simp [*, go_sem]) (first | (go_at_call 32; refine (hold_any _ _ _ _).mono ?_; rintro e w2 ⟨rfl, ew⟩; rw [ew]; clear ew w2))
    clear z1 z2 z3 z4
    replace HQ := hide (HQ.out.put (by omega : 5 < 12) (s' := { s with speed := holdP C 0 40 }) (u := (.int .i64 (holdP C 0 40))) rfl rfl (⟨HQ.out.ok.id, HQ.out.ok.team, HQ.out.ok.x, HQ.out.ok.y, HQ.out.ok.depth, hold_rng (by omega), HQ.out.ok.mast, HQ.out.ok.noise⟩))
    obtain ⟨s', hs'⟩ : ∃ s', { s with speed := holdP C 0 40 } = s' := ⟨_, rfl⟩
    rw [hs'] at HQ
    clear hs'
    clear s
    obtain ⟨s, hs'⟩ : ∃ s, s = s' := ⟨_, rfl⟩
    rw [← hs'] at HQ
    clear hs' s'
    generalize (World.setCell wz0 ⟨g, i * 12 + 5, none⟩ (.int .i64 (holdP C 0 40))).drew = wz1 at *
    go_wp2
    go_ret
    exact HQ.out.out _


set_option maxRecDepth 100000 in
set_option maxHeartbeats 2000000 in
theorem step2 (w : World) (p : Nat) (v1 v2 : Value) (L : List Shp) (M : List Smk) (hw : WD w p v1 v2 L M) (ho : WOk L M) (A B C D O : Int) (bA : -9223372036854775808 ≤ A ∧ A < 9223372036854775808) :
    Calls Try.prog 13 #[.pointer (some ⟨p, 0, none⟩), .agg #[.int .i64 2, .int .i64 A, .int .i64 B, .int .i64 C, .int .i64 D, .int .i64 O]] w (StPost w p v1 v2) := by
  have HS := hide (SB.first hw ho 2 A B C D O)
  clear hw ho
  go_enter Try.func13, Try.ntmps13
  go_upto_region 1 with fail
  generalize w.alloc (.cells #[.int .i64 2, .int .i64 A, .int .i64 B, .int .i64 C, .int .i64 D, .int .i64 O] 32) = w1 at *
  obtain ⟨q, hq⟩ : ∃ q, w.heap.size = q := ⟨_, rfl⟩
  rw [hq] at HS ⊢
  clear hq
  have o0 := HS.out.o0
  have o1 := HS.out.o1
  go_upto_region 20 with fail
  go_wp2_with fail
  refine (wrap_any _ A 48 (by omega) (by omega) bA.1 bA.2).mono ?_
  rintro e w' ⟨rfl, rfl⟩
  obtain ⟨id, hid⟩ : ∃ id, A % 48 = id := ⟨_, rfl⟩
  have HD := hide (show 0 ≤ id ∧ id < 48 by omega)
  rw [hid]
  clear hid
  go_wp2_with fail
  refine (find_any _ p _ _ _ _ HS.out.wd HS.out.wo.len _).mono ?_
  rintro e w' ⟨ix, rfl, hix, rfl⟩
  rcases hix with ⟨rfl, hno⟩ | ⟨i, s, rfl, hi, hsid⟩
  · go_wp2
    go_ret
    exact HS.out.out _
  · obtain ⟨g, n, c, hv, hq⟩ := HS.out.sq hi
    have HQ := hide hq
    have hlt := hq.lt
    have hN1 := hlt.1
    have hN2 := hlt.2
    clear hi hsid hq hv hlt HS
    go_upto_region 23 with fail
    have z1 := HQ.out.c0
    have z2 := HQ.out.o2
    have z3 := HQ.out.at 6 _ rfl
    have z4 := HQ.out.fr (i * 12 + 6)
    go_region_held3 (fun w' => w'.cell? ⟨p, 0, none⟩ = some (.slice (some ⟨g, 0, none⟩) n c) ∧ w'.cell? ⟨q, 2, none⟩ = some (.int .i64 B)) (simp [*, go_sem]) (first | (go_at_call 32; refine (hold_any _ _ _ _).mono ?_; rintro e w2 ⟨rfl, ew⟩; rw [ew]; clear ew w2))
    clear z1 z2 z3 z4
    replace HQ := hide (HQ.out.put (by omega : 6 < 12) (s' := { s with mast := holdP B 0 64 }) (u := (.int .i64 (holdP B 0 64))) rfl rfl (⟨HQ.out.ok.id, HQ.out.ok.team, HQ.out.ok.x, HQ.out.ok.y, HQ.out.ok.depth, HQ.out.ok.speed, hold_rng (by omega), HQ.out.ok.noise⟩))
    obtain ⟨s', hs'⟩ : ∃ s', { s with mast := holdP B 0 64 } = s' := ⟨_, rfl⟩
    rw [hs'] at HQ
    clear hs'
    clear s
    obtain ⟨s, hs'⟩ : ∃ s, s = s' := ⟨_, rfl⟩
    rw [← hs'] at HQ
    clear hs' s'
    generalize (World.setCell w' ⟨g, i * 12 + 6, none⟩ (.int .i64 (holdP B 0 64))).drew = wz0 at *
    go_upto_region 24 with fail
    have z1 := HQ.out.c0
    have z2 := HQ.out.o3
    have z3 := HQ.out.at 7 _ rfl
    have z4 := HQ.out.fr (i * 12 + 7)
    go_region_held3 (fun w' => w'.cell? ⟨p, 0, none⟩ = some (.slice (some ⟨g, 0, none⟩) n c) ∧ w'.cell? ⟨q, 3, none⟩ = some (.int .i64 C)) (simp [*, go_sem]) (first | (go_at_call 32; refine (hold_any _ _ _ _).mono ?_; rintro e w2 ⟨rfl, ew⟩; rw [ew]; clear ew w2))
    clear z1 z2 z3 z4
    replace HQ := hide (HQ.out.put (by omega : 7 < 12) (s' := { s with noise := holdP C 0 160 }) (u := (.int .i64 (holdP C 0 160))) rfl rfl (⟨HQ.out.ok.id, HQ.out.ok.team, HQ.out.ok.x, HQ.out.ok.y, HQ.out.ok.depth, HQ.out.ok.speed, HQ.out.ok.mast, hold_rng (by omega)⟩))
    obtain ⟨s', hs'⟩ : ∃ s', { s with noise := holdP C 0 160 } = s' := ⟨_, rfl⟩
    rw [hs'] at HQ
    clear hs'
    clear s
    obtain ⟨s, hs'⟩ : ∃ s, s = s' := ⟨_, rfl⟩
    rw [← hs'] at HQ
    clear hs' s'
    generalize (World.setCell wz0 ⟨g, i * 12 + 7, none⟩ (.int .i64 (holdP C 0 160))).drew = wz1 at *
    go_wp2
    go_ret
    exact HQ.out.out _


set_option maxRecDepth 100000 in
set_option maxHeartbeats 2000000 in
theorem step3 (w : World) (p : Nat) (v1 v2 : Value) (L : List Shp) (M : List Smk) (hw : WD w p v1 v2 L M) (ho : WOk L M) (A B C D O : Int) (bA : -9223372036854775808 ≤ A ∧ A < 9223372036854775808) :
    Calls Try.prog 13 #[.pointer (some ⟨p, 0, none⟩), .agg #[.int .i64 3, .int .i64 A, .int .i64 B, .int .i64 C, .int .i64 D, .int .i64 O]] w (StPost w p v1 v2) := by
  have HS := hide (SB.first hw ho 3 A B C D O)
  clear hw ho
  go_enter Try.func13, Try.ntmps13
  go_upto_region 1 with fail
  generalize w.alloc (.cells #[.int .i64 3, .int .i64 A, .int .i64 B, .int .i64 C, .int .i64 D, .int .i64 O] 32) = w1 at *
  obtain ⟨q, hq⟩ : ∃ q, w.heap.size = q := ⟨_, rfl⟩
  rw [hq] at HS ⊢
  clear hq
  have o0 := HS.out.o0
  have o1 := HS.out.o1
  go_upto_region 27 with fail
  go_wp2_with fail
  refine (wrap_any _ A 48 (by omega) (by omega) bA.1 bA.2).mono ?_
  rintro e w' ⟨rfl, rfl⟩
  obtain ⟨id, hid⟩ : ∃ id, A % 48 = id := ⟨_, rfl⟩
  have HD := hide (show 0 ≤ id ∧ id < 48 by omega)
  rw [hid]
  clear hid
  go_wp2_with fail
  refine (find_any _ p _ _ _ _ HS.out.wd HS.out.wo.len _).mono ?_
  rintro e w' ⟨ix, rfl, hix, rfl⟩
  rcases hix with ⟨rfl, hno⟩ | ⟨i, s, rfl, hi, hsid⟩
  · go_wp2
    go_ret
    exact HS.out.out _
  · obtain ⟨g, n, c, hv, hq⟩ := HS.out.sq hi
    have HQ := hide hq
    have hlt := hq.lt
    have hN1 := hlt.1
    have hN2 := hlt.2
    clear hi hsid hq hv hlt HS
    go_upto_region 30 with fail
    have z1 := HQ.out.c0
    have z2 := HQ.out.o2
    have z3 := HQ.out.at 8 _ rfl
    have z4 := HQ.out.fr (i * 12 + 8)
    go_region_held3 (fun w' => w'.cell? ⟨p, 0, none⟩ = some (.slice (some ⟨g, 0, none⟩) n c) ∧ w'.cell? ⟨q, 2, none⟩ = some (.int .i64 B)) (simp [*, go_sem]) (fail)
    clear z1 z2 z3 z4
    replace HQ := hide (HQ.out.put (by omega : 8 < 12) (s' := { s with afloat := bits .and .i64 B 1 != 0 }) (u := (.bool (bits .and .i64 B 1 != 0))) rfl rfl (⟨HQ.out.ok.id, HQ.out.ok.team, HQ.out.ok.x, HQ.out.ok.y, HQ.out.ok.depth, HQ.out.ok.speed, HQ.out.ok.mast, HQ.out.ok.noise⟩))
    obtain ⟨s', hs'⟩ : ∃ s', { s with afloat := bits .and .i64 B 1 != 0 } = s' := ⟨_, rfl⟩
    rw [hs'] at HQ
    clear hs'
    clear s
    obtain ⟨s, hs'⟩ : ∃ s, s = s' := ⟨_, rfl⟩
    rw [← hs'] at HQ
    clear hs' s'
    generalize (World.setCell w' ⟨g, i * 12 + 8, none⟩ (.bool (bits .and .i64 B 1 != 0))).drew = wz0 at *
    go_upto_region 31 with fail
    have z1 := HQ.out.c0
    have z2 := HQ.out.o2
    have z3 := HQ.out.at 9 _ rfl
    have z4 := HQ.out.fr (i * 12 + 9)
    go_region_held3 (fun w' => w'.cell? ⟨p, 0, none⟩ = some (.slice (some ⟨g, 0, none⟩) n c) ∧ w'.cell? ⟨q, 2, none⟩ = some (.int .i64 B)) (simp [*, go_sem]) (fail)
    clear z1 z2 z3 z4
    replace HQ := hide (HQ.out.put (by omega : 9 < 12) (s' := { s with radar := bits .and .i64 B 2 != 0 }) (u := (.bool (bits .and .i64 B 2 != 0))) rfl rfl (⟨HQ.out.ok.id, HQ.out.ok.team, HQ.out.ok.x, HQ.out.ok.y, HQ.out.ok.depth, HQ.out.ok.speed, HQ.out.ok.mast, HQ.out.ok.noise⟩))
    obtain ⟨s', hs'⟩ : ∃ s', { s with radar := bits .and .i64 B 2 != 0 } = s' := ⟨_, rfl⟩
    rw [hs'] at HQ
    clear hs'
    clear s
    obtain ⟨s, hs'⟩ : ∃ s, s = s' := ⟨_, rfl⟩
    rw [← hs'] at HQ
    clear hs' s'
    generalize (World.setCell wz0 ⟨g, i * 12 + 9, none⟩ (.bool (bits .and .i64 B 2 != 0))).drew = wz1 at *
    go_upto_region 32 with fail
    have z1 := HQ.out.c0
    have z2 := HQ.out.o2
    have z3 := HQ.out.at 10 _ rfl
    have z4 := HQ.out.fr (i * 12 + 10)
    go_region_held3 (fun w' => w'.cell? ⟨p, 0, none⟩ = some (.slice (some ⟨g, 0, none⟩) n c) ∧ w'.cell? ⟨q, 2, none⟩ = some (.int .i64 B)) (simp [*, go_sem]) (fail)
    clear z1 z2 z3 z4
    replace HQ := hide (HQ.out.put (by omega : 10 < 12) (s' := { s with sonar := bits .and .i64 B 4 != 0 }) (u := (.bool (bits .and .i64 B 4 != 0))) rfl rfl (⟨HQ.out.ok.id, HQ.out.ok.team, HQ.out.ok.x, HQ.out.ok.y, HQ.out.ok.depth, HQ.out.ok.speed, HQ.out.ok.mast, HQ.out.ok.noise⟩))
    obtain ⟨s', hs'⟩ : ∃ s', { s with sonar := bits .and .i64 B 4 != 0 } = s' := ⟨_, rfl⟩
    rw [hs'] at HQ
    clear hs'
    clear s
    obtain ⟨s, hs'⟩ : ∃ s, s = s' := ⟨_, rfl⟩
    rw [← hs'] at HQ
    clear hs' s'
    generalize (World.setCell wz1 ⟨g, i * 12 + 10, none⟩ (.bool (bits .and .i64 B 4 != 0))).drew = wz2 at *
    go_upto_region 33 with fail
    have z1 := HQ.out.c0
    have z2 := HQ.out.o2
    have z3 := HQ.out.at 11 _ rfl
    have z4 := HQ.out.fr (i * 12 + 11)
    go_region_held3 (fun w' => w'.cell? ⟨p, 0, none⟩ = some (.slice (some ⟨g, 0, none⟩) n c) ∧ w'.cell? ⟨q, 2, none⟩ = some (.int .i64 B)) (simp [*, go_sem]) (fail)
    clear z1 z2 z3 z4
    replace HQ := hide (HQ.out.put (by omega : 11 < 12) (s' := { s with ping := bits .and .i64 B 8 != 0 }) (u := (.bool (bits .and .i64 B 8 != 0))) rfl rfl (⟨HQ.out.ok.id, HQ.out.ok.team, HQ.out.ok.x, HQ.out.ok.y, HQ.out.ok.depth, HQ.out.ok.speed, HQ.out.ok.mast, HQ.out.ok.noise⟩))
    obtain ⟨s', hs'⟩ : ∃ s', { s with ping := bits .and .i64 B 8 != 0 } = s' := ⟨_, rfl⟩
    rw [hs'] at HQ
    clear hs'
    clear s
    obtain ⟨s, hs'⟩ : ∃ s, s = s' := ⟨_, rfl⟩
    rw [← hs'] at HQ
    clear hs' s'
    generalize (World.setCell wz2 ⟨g, i * 12 + 11, none⟩ (.bool (bits .and .i64 B 8 != 0))).drew = wz3 at *
    go_wp2
    go_ret
    exact HQ.out.out _


set_option maxRecDepth 100000 in
set_option maxHeartbeats 2000000 in
theorem step0 (w : World) (p : Nat) (v1 v2 : Value) (L : List Shp) (M : List Smk) (hw : WD w p v1 v2 L M) (ho : WOk L M) (A B C D O : Int) (bA : -9223372036854775808 ≤ A ∧ A < 9223372036854775808) (bB : -9223372036854775808 ≤ B ∧ B < 9223372036854775808) :
    Calls Try.prog 13 #[.pointer (some ⟨p, 0, none⟩), .agg #[.int .i64 0, .int .i64 A, .int .i64 B, .int .i64 C, .int .i64 D, .int .i64 O]] w (StPost w p v1 v2) := by
  have HS := hide (SB.first hw ho 0 A B C D O)
  clear hw ho
  go_enter Try.func13, Try.ntmps13
  go_upto_region 1 with fail
  generalize w.alloc (.cells #[.int .i64 0, .int .i64 A, .int .i64 B, .int .i64 C, .int .i64 D, .int .i64 O] 32) = w1 at *
  obtain ⟨q, hq⟩ : ∃ q, w.heap.size = q := ⟨_, rfl⟩
  rw [hq] at HS ⊢
  clear hq
  have o0 := HS.out.o0
  have o1 := HS.out.o1
  have bB' := bB
  go_upto_region 3 with fail
  go_wp2_with fail
  refine (wrap_any _ A 48 (by omega) (by omega) bA.1 bA.2).mono ?_
  rintro e w' ⟨rfl, rfl⟩
  obtain ⟨id, hid⟩ : ∃ id, A % 48 = id := ⟨_, rfl⟩
  have HD := hide (show 0 ≤ id ∧ id < 48 by omega)
  rw [hid]
  clear hid
  go_wp2_with fail
  refine (find_any _ p _ _ _ _ HS.out.wd HS.out.wo.len _).mono ?_
  rintro e w' ⟨ix, rfl, hix, rfl⟩
  rcases hix with ⟨rfl, hno⟩ | ⟨i, s, rfl, hi, hsid⟩
  · have HN := hide hno
    clear hno
    obtain ⟨a0, c0', e0⟩ := own_form HS.out.wd.r1
    have hl48 : L.length ≤ 48 := HS.out.wo.len
    have hl48c : L.length ≤ 48 := hl48
    obtain ⟨n0, hn0⟩ : ∃ n0, n0 = L.length := ⟨_, rfl⟩
    rw [← hn0] at hl48 e0
    have Hn0 := hide hn0
    have E0 := hide e0
    have z1 := HS.out.wd.c0
    have z2 := HS.out.wd.fr 0
    obtain ⟨i0, hi0, hz0, hz1, hz2⟩ : ∃ i0, Try.prog.info? 38 = some i0 ∧ i0.zero = some (.agg #[.int .i64 0, .int .i64 0, .int .i64 0, .int .i64 0, .int .i64 0, .int .i64 0, .int .i64 0, .int .i64 0, .bool false, .bool false, .bool false, .bool false]) ∧ i0.size = 12 ∧ i0.bytes = 72 := ⟨_, rfl, rfl, rfl, rfl⟩
    rw [e0] at z1
    clear hn0 e0
    have HR := hide (show (w'.alloc (.cells #[.int .i64 id, .int .i64 0, .int .i64 0, .int .i64 0, .int .i64 0, .int .i64 10, .int .i64 16, .int .i64 100, .bool true, .bool true, .bool true, .bool false] 38)).ownsRow 0 38 12 (.slice a0 n0 c0') L.length (L.flatMap Shp.vals) by rw [← E0.out]; exact own_kept HS.out.wd.r1 ((Ex.refl (fun _ => False) _).alloc _) (fun _ _ e => e))
    have HC := hide (show ∀ j u, (Shp.vals { id := id, team := 0, x := 0, y := 0, depth := 0, speed := 10, mast := 16, noise := 100, afloat := true, radar := true, sonar := true, ping := false })[j]? = some u → (w'.alloc (.cells #[.int .i64 id, .int .i64 0, .int .i64 0, .int .i64 0, .int .i64 0, .int .i64 10, .int .i64 16, .int .i64 100, .bool true, .bool true, .bool true, .bool false] 38)).cell? ((⟨w'.heap.size, 0, none⟩ : Addr).add j) = some u from fun j u hj => new_cells w' (Shp.vals { id := id, team := 0, x := 0, y := 0, depth := 0, speed := 10, mast := 16, noise := 100, afloat := true, radar := true, sonar := true, ping := false }) 38 j u hj)
    have HV := hide (vals_one { id := id, team := 0, x := 0, y := 0, depth := 0, speed := 10, mast := 16, noise := 100, afloat := true, radar := true, sonar := true, ping := false })
    have HX := hide (show L.length + 1 ≤ maxLen ∧ (L.length + 1) * 72 ≤ 140737488355328 by unfold maxLen; have := Hn0.out; omega)
    go_upto_region 6 with fail
    go_wp2_with (at_builtin; refine wpList_append_own_at _ rfl (.tmp 27) (.tmp 30) 41 rfl 0 38 i0 _ 12 72 Try.underlying41 hi0 hz0 hz1 hz2 rfl (by decide) (.slice a0 n0 c0') L.length (L.flatMap Shp.vals) rfl HR.out ⟨w'.heap.size, 0, none⟩ 1 1 (Shp.vals { id := id, team := 0, x := 0, y := 0, depth := 0, speed := 10, mast := 16, noise := 100, afloat := true, radar := true, sonar := true, ping := false }) rfl rfl HC.out HV.out HX.out.1 HX.out.2 (Nat.zero_le _) ?_; intro v' w2 hr hg hnil hat; go_loud (rw [← E0.out] at hg hat; have y1 := (HS.out.grown1 hg).1; have y2 := (HS.out.grown1 hg).2; have HS2 := hide (HS.out.push1 (HS.out.wo.push HN.out { id := id, team := 0, x := 0, y := 0, depth := 0, speed := 10, mast := 16, noise := 100, afloat := true, radar := true, sonar := true, ping := false } rfl (new_ok HD.out)) hr hg hat); obtain ⟨a5, c5, rfl⟩ := own_form hr; clear hr hg hnil hat z1 z2 HR HC HX))
    obtain ⟨g, n, c, hv, hq⟩ := HS2.out.sq (i := L.length) (s := { id := id, team := 0, x := 0, y := 0, depth := 0, speed := 10, mast := 16, noise := 100, afloat := true, radar := true, sonar := true, ping := false }) (by simp)
    injection hv with e1 e2 e3
    subst e1
    rw [e3] at hq ⊢
    generalize w2.setCell ⟨p, 0, none⟩ (.slice (some ⟨g, 0, none⟩) (L.length + 1) c) = wq at *
    obtain ⟨i, hi⟩ : ∃ i, L.length = i := ⟨_, rfl⟩
    rw [hi] at hq e2 hl48c ⊢
    rw [e2] at ⊢
    have HQ := hide hq
    obtain ⟨s, hs⟩ : ∃ s, ({ id := id, team := 0, x := 0, y := 0, depth := 0, speed := 10, mast := 16, noise := 100, afloat := true, radar := true, sonar := true, ping := false } : Shp) = s := ⟨_, rfl⟩
    rw [hs] at HQ
    have hN1 := hq.lt.1
    have hN2 := hq.lt.2
    clear hq e2 e3 hs hi HS HS2 y1 y2 HN HV E0 Hn0
    go_upto_region 8 with fail
    have z1 := HQ.out.c0
    have z2 := HQ.out.o2
    have z3 := HQ.out.at 1 _ rfl
    have z4 := HQ.out.fr (i * 12 + 1)
    go_region_held3 (fun w' => w'.cell? ⟨p, 0, none⟩ = some (.slice (some ⟨g, 0, none⟩) n c) ∧ w'.cell? ⟨q, 2, none⟩ = some (.int .i64 B)) (simp [*, go_sem]) (first | (go_at_call 32; refine (hold_any _ _ _ _).mono ?_; rintro e w2 ⟨rfl, ew⟩; rw [ew]; clear ew w2) | (go_at_call 30; refine (wrap_any _ _ _ (by omega) (by omega) bB.1 bB.2).mono ?_; rintro e w2 ⟨rfl, ew⟩; rw [ew]; clear ew w2))
    clear z1 z2 z3 z4
    replace HQ := hide (HQ.out.put (by omega : 1 < 12) (s' := { s with team := B % 4 }) (u := (.int .i64 (B % 4))) rfl rfl (⟨HQ.out.ok.id, (show 0 ≤ B % 4 ∧ B % 4 < 4 by omega), HQ.out.ok.x, HQ.out.ok.y, HQ.out.ok.depth, HQ.out.ok.speed, HQ.out.ok.mast, HQ.out.ok.noise⟩))
    obtain ⟨s', hs'⟩ : ∃ s', { s with team := B % 4 } = s' := ⟨_, rfl⟩
    rw [hs'] at HQ
    clear hs'
    clear s
    obtain ⟨s, hs'⟩ : ∃ s, s = s' := ⟨_, rfl⟩
    rw [← hs'] at HQ
    clear hs' s'
    generalize (World.setCell wq ⟨g, i * 12 + 1, none⟩ (.int .i64 (B % 4))).drew = wz0 at *
    go_upto_region 9 with fail
    have z1 := HQ.out.c0
    have z2 := HQ.out.o3
    have z3 := HQ.out.at 2 _ rfl
    have z4 := HQ.out.fr (i * 12 + 2)
    go_region_held3 (fun w' => w'.cell? ⟨p, 0, none⟩ = some (.slice (some ⟨g, 0, none⟩) n c) ∧ w'.cell? ⟨q, 3, none⟩ = some (.int .i64 C)) (simp [*, go_sem]) (first | (go_at_call 32; refine (hold_any _ _ _ _).mono ?_; rintro e w2 ⟨rfl, ew⟩; rw [ew]; clear ew w2) | (go_at_call 30; refine (wrap_any _ _ _ (by omega) (by omega) bB.1 bB.2).mono ?_; rintro e w2 ⟨rfl, ew⟩; rw [ew]; clear ew w2))
    clear z1 z2 z3 z4
    replace HQ := hide (HQ.out.put (by omega : 2 < 12) (s' := { s with x := holdP C (-1048576) 1048576 }) (u := (.int .i64 (holdP C (-1048576) 1048576))) rfl rfl (⟨HQ.out.ok.id, HQ.out.ok.team, hold_rng (by omega), HQ.out.ok.y, HQ.out.ok.depth, HQ.out.ok.speed, HQ.out.ok.mast, HQ.out.ok.noise⟩))
    obtain ⟨s', hs'⟩ : ∃ s', { s with x := holdP C (-1048576) 1048576 } = s' := ⟨_, rfl⟩
    rw [hs'] at HQ
    clear hs'
    clear s
    obtain ⟨s, hs'⟩ : ∃ s, s = s' := ⟨_, rfl⟩
    rw [← hs'] at HQ
    clear hs' s'
    generalize (World.setCell wz0 ⟨g, i * 12 + 2, none⟩ (.int .i64 (holdP C (-1048576) 1048576))).drew = wz1 at *
    go_upto_region 10 with fail
    have z1 := HQ.out.c0
    have z2 := HQ.out.o4
    have z3 := HQ.out.at 3 _ rfl
    have z4 := HQ.out.fr (i * 12 + 3)
    go_region_held3 (fun w' => w'.cell? ⟨p, 0, none⟩ = some (.slice (some ⟨g, 0, none⟩) n c) ∧ w'.cell? ⟨q, 4, none⟩ = some (.int .i64 D)) (simp [*, go_sem]) (first | (go_at_call 32; refine (hold_any _ _ _ _).mono ?_; rintro e w2 ⟨rfl, ew⟩; rw [ew]; clear ew w2) | (go_at_call 30; refine (wrap_any _ _ _ (by omega) (by omega) bB.1 bB.2).mono ?_; rintro e w2 ⟨rfl, ew⟩; rw [ew]; clear ew w2))
    clear z1 z2 z3 z4
    replace HQ := hide (HQ.out.put (by omega : 3 < 12) (s' := { s with y := holdP D (-1048576) 1048576 }) (u := (.int .i64 (holdP D (-1048576) 1048576))) rfl rfl (⟨HQ.out.ok.id, HQ.out.ok.team, HQ.out.ok.x, hold_rng (by omega), HQ.out.ok.depth, HQ.out.ok.speed, HQ.out.ok.mast, HQ.out.ok.noise⟩))
    obtain ⟨s', hs'⟩ : ∃ s', { s with y := holdP D (-1048576) 1048576 } = s' := ⟨_, rfl⟩
    rw [hs'] at HQ
    clear hs'
    clear s
    obtain ⟨s, hs'⟩ : ∃ s, s = s' := ⟨_, rfl⟩
    rw [← hs'] at HQ
    clear hs' s'
    generalize (World.setCell wz1 ⟨g, i * 12 + 3, none⟩ (.int .i64 (holdP D (-1048576) 1048576))).drew = wz2 at *
    go_wp2
    go_ret
    exact HQ.out.out _
  · obtain ⟨g, n, c, hv, hq⟩ := HS.out.sq hi
    have HQ := hide hq
    have hlt := hq.lt
    have hN1 := hlt.1
    have hN2 := hlt.2
    clear hi hsid hq hv hlt HS
    go_upto_region 8 with fail
    have z1 := HQ.out.c0
    have z2 := HQ.out.o2
    have z3 := HQ.out.at 1 _ rfl
    have z4 := HQ.out.fr (i * 12 + 1)
    go_region_held3 (fun w' => w'.cell? ⟨p, 0, none⟩ = some (.slice (some ⟨g, 0, none⟩) n c) ∧ w'.cell? ⟨q, 2, none⟩ = some (.int .i64 B)) (simp [*, go_sem]) (first | (go_at_call 32; refine (hold_any _ _ _ _).mono ?_; rintro e w2 ⟨rfl, ew⟩; rw [ew]; clear ew w2) | (go_at_call 30; refine (wrap_any _ _ _ (by omega) (by omega) bB.1 bB.2).mono ?_; rintro e w2 ⟨rfl, ew⟩; rw [ew]; clear ew w2))
    clear z1 z2 z3 z4
    replace HQ := hide (HQ.out.put (by omega : 1 < 12) (s' := { s with team := B % 4 }) (u := (.int .i64 (B % 4))) rfl rfl (⟨HQ.out.ok.id, (show 0 ≤ B % 4 ∧ B % 4 < 4 by omega), HQ.out.ok.x, HQ.out.ok.y, HQ.out.ok.depth, HQ.out.ok.speed, HQ.out.ok.mast, HQ.out.ok.noise⟩))
    obtain ⟨s', hs'⟩ : ∃ s', { s with team := B % 4 } = s' := ⟨_, rfl⟩
    rw [hs'] at HQ
    clear hs'
    clear s
    obtain ⟨s, hs'⟩ : ∃ s, s = s' := ⟨_, rfl⟩
    rw [← hs'] at HQ
    clear hs' s'
    generalize (World.setCell w' ⟨g, i * 12 + 1, none⟩ (.int .i64 (B % 4))).drew = wz0 at *
    go_upto_region 9 with fail
    have z1 := HQ.out.c0
    have z2 := HQ.out.o3
    have z3 := HQ.out.at 2 _ rfl
    have z4 := HQ.out.fr (i * 12 + 2)
    go_region_held3 (fun w' => w'.cell? ⟨p, 0, none⟩ = some (.slice (some ⟨g, 0, none⟩) n c) ∧ w'.cell? ⟨q, 3, none⟩ = some (.int .i64 C)) (simp [*, go_sem]) (first | (go_at_call 32; refine (hold_any _ _ _ _).mono ?_; rintro e w2 ⟨rfl, ew⟩; rw [ew]; clear ew w2) | (go_at_call 30; refine (wrap_any _ _ _ (by omega) (by omega) bB.1 bB.2).mono ?_; rintro e w2 ⟨rfl, ew⟩; rw [ew]; clear ew w2))
    clear z1 z2 z3 z4
    replace HQ := hide (HQ.out.put (by omega : 2 < 12) (s' := { s with x := holdP C (-1048576) 1048576 }) (u := (.int .i64 (holdP C (-1048576) 1048576))) rfl rfl (⟨HQ.out.ok.id, HQ.out.ok.team, hold_rng (by omega), HQ.out.ok.y, HQ.out.ok.depth, HQ.out.ok.speed, HQ.out.ok.mast, HQ.out.ok.noise⟩))
    obtain ⟨s', hs'⟩ : ∃ s', { s with x := holdP C (-1048576) 1048576 } = s' := ⟨_, rfl⟩
    rw [hs'] at HQ
    clear hs'
    clear s
    obtain ⟨s, hs'⟩ : ∃ s, s = s' := ⟨_, rfl⟩
    rw [← hs'] at HQ
    clear hs' s'
    generalize (World.setCell wz0 ⟨g, i * 12 + 2, none⟩ (.int .i64 (holdP C (-1048576) 1048576))).drew = wz1 at *
    go_upto_region 10 with fail
    have z1 := HQ.out.c0
    have z2 := HQ.out.o4
    have z3 := HQ.out.at 3 _ rfl
    have z4 := HQ.out.fr (i * 12 + 3)
    go_region_held3 (fun w' => w'.cell? ⟨p, 0, none⟩ = some (.slice (some ⟨g, 0, none⟩) n c) ∧ w'.cell? ⟨q, 4, none⟩ = some (.int .i64 D)) (simp [*, go_sem]) (first | (go_at_call 32; refine (hold_any _ _ _ _).mono ?_; rintro e w2 ⟨rfl, ew⟩; rw [ew]; clear ew w2) | (go_at_call 30; refine (wrap_any _ _ _ (by omega) (by omega) bB.1 bB.2).mono ?_; rintro e w2 ⟨rfl, ew⟩; rw [ew]; clear ew w2))
    clear z1 z2 z3 z4
    replace HQ := hide (HQ.out.put (by omega : 3 < 12) (s' := { s with y := holdP D (-1048576) 1048576 }) (u := (.int .i64 (holdP D (-1048576) 1048576))) rfl rfl (⟨HQ.out.ok.id, HQ.out.ok.team, HQ.out.ok.x, hold_rng (by omega), HQ.out.ok.depth, HQ.out.ok.speed, HQ.out.ok.mast, HQ.out.ok.noise⟩))
    obtain ⟨s', hs'⟩ : ∃ s', { s with y := holdP D (-1048576) 1048576 } = s' := ⟨_, rfl⟩
    rw [hs'] at HQ
    clear hs'
    clear s
    obtain ⟨s, hs'⟩ : ∃ s, s = s' := ⟨_, rfl⟩
    rw [← hs'] at HQ
    clear hs' s'
    generalize (World.setCell wz1 ⟨g, i * 12 + 3, none⟩ (.int .i64 (holdP D (-1048576) 1048576))).drew = wz2 at *
    go_wp2
    go_ret
    exact HQ.out.out _

set_option linter.unusedSimpArgs false in
set_option maxRecDepth 100000 in
set_option maxHeartbeats 2000000 in
theorem step4 (w : World) (p : Nat) (v1 v2 : Value) (L : List Shp) (M : List Smk) (hw : WD w p v1 v2 L M) (ho : WOk L M) (A B C D O : Int) :
    Calls Try.prog 13 #[.pointer (some ⟨p, 0, none⟩), .agg #[.int .i64 4, .int .i64 A, .int .i64 B, .int .i64 C, .int .i64 D, .int .i64 O]] w (StPost w p v1 v2) := by
  have HS := hide (SB.first hw ho 4 A B C D O)
  clear hw ho
  go_enter Try.func13, Try.ntmps13
  go_upto_region 1 with fail
  generalize w.alloc (.cells #[.int .i64 4, .int .i64 A, .int .i64 B, .int .i64 C, .int .i64 D, .int .i64 O] 32) = w1 at *
  obtain ⟨q, hq⟩ : ∃ q, w.heap.size = q := ⟨_, rfl⟩
  rw [hq] at HS ⊢
  clear hq
  have o0 := HS.out.o0
  have o1 := HS.out.o1
  obtain ⟨a0, c0', e0⟩ := own_form HS.out.wd.r2
  have hl32 : M.length ≤ 32 := HS.out.wo.ml
  obtain ⟨n0, hn0⟩ : ∃ n0, n0 = M.length := ⟨_, rfl⟩
  rw [← hn0] at hl32 e0
  have Hn0 := hide hn0
  have E0 := hide e0
  have z1 := HS.out.wd.c1
  have z2 := HS.out.wd.fr 1
  have o2 := HS.out.o2
  have o3 := HS.out.o3
  rw [e0] at z1
  clear hn0 e0
  by_cases hfull : n0 = 32
  · subst hfull
    go_wp2
    go_ret
    exact HS.out.out _
  · have hlt : n0 < 32 := by omega
    have HM := hide (show M.length < 32 by have := Hn0.out; omega)
    obtain ⟨i0, hi0, hz0, hz1, hz2⟩ : ∃ i0, Try.prog.info? 52 = some i0 ∧ i0.zero = some (.agg #[.int .i64 0, .int .i64 0, .int .i64 0]) ∧ i0.size = 3 ∧ i0.bytes = 24 := ⟨_, rfl, rfl, rfl, rfl⟩
    have HX := hide (show M.length + 1 ≤ maxLen ∧ (M.length + 1) * 24 ≤ 140737488355328 by unfold maxLen; have := Hn0.out; omega)
    have hqp : ¬ q = p := fun e => HS.out.nq (.inl e)
    obtain ⟨k1, k2, k3, k4⟩ := HS.out.al_q (.cells #[.int .i64 (holdP A (-1048576) 1048576), .int .i64 (holdP B (-1048576) 1048576), .int .i64 (holdP C 0 131072)] 52)
    have HR := hide (show (w1.alloc (.cells #[.int .i64 (holdP A (-1048576) 1048576), .int .i64 (holdP B (-1048576) 1048576), .int .i64 (holdP C 0 131072)] 52)).drew.ownsRow 0 52 3 (.slice a0 n0 c0') M.length (M.flatMap Smk.vals) by rw [← E0.out]; exact HS.out.own2 _)
    have HC := hide (show ∀ j u, (Smk.vals { x := holdP A (-1048576) 1048576, y := holdP B (-1048576) 1048576, r := holdP C 0 131072 })[j]? = some u → (w1.alloc (.cells #[.int .i64 (holdP A (-1048576) 1048576), .int .i64 (holdP B (-1048576) 1048576), .int .i64 (holdP C 0 131072)] 52)).drew.cell? ((⟨w1.heap.size, 0, none⟩ : Addr).add j) = some u from fun j u hj => new_cells w1 (Smk.vals { x := holdP A (-1048576) 1048576, y := holdP B (-1048576) 1048576, r := holdP C 0 131072 }) 52 j u hj)
    have HV := hide (vals_one2 { x := holdP A (-1048576) 1048576, y := holdP B (-1048576) 1048576, r := holdP C 0 131072 })
    rw [E0.out] at k4
    go_upto_region 38 with fail
    refine wp_region_held_drew (S := fun w' => w'.cell? ⟨q, 1, none⟩ = some (.int .i64 A) ∧ w'.cell? ⟨q, 2, none⟩ = some (.int .i64 B) ∧ w'.cell? ⟨q, 3, none⟩ = some (.int .i64 C)) (by kernel_rfl) (by simp [*, go_sem]) (fun hHeld => ?_)
    refine wpAnyH_take (i := 0) (v := ?_) rfl (by kernel_rfl) (by kernel_rfl) (by kernel_rfl) (fun _ _ _ h => h) (Or.inl ⟨by rfl, ?_⟩) (by assumption) ?_
    rotate_left
    · (intro w hSw; (try dsimp only at hSw); go_simp; try (with_reducible rfl))
    try simp only [Act.put, List.getElem_toArray, List.getElem_cons_zero, List.getElem_cons_succ, List.setIfInBounds_toArray, List.set_cons_zero, List.set_cons_succ]
    refine wpAnyH_take (i := 1) (v := ?_) rfl (by kernel_rfl) (by kernel_rfl) (by kernel_rfl) (fun _ _ _ h => h) (Or.inl ⟨by rfl, ?_⟩) (by assumption) ?_
    rotate_left
    · (intro w hSw; (try dsimp only at hSw); go_simp; try (with_reducible rfl))
    try simp only [Act.put, List.getElem_toArray, List.getElem_cons_zero, List.getElem_cons_succ, List.setIfInBounds_toArray, List.set_cons_zero, List.set_cons_succ]
    refine wpAnyH_take (i := 2) (v := ?_) rfl (by kernel_rfl) (by kernel_rfl) (by kernel_rfl) (fun _ _ _ h => h) (Or.inl ⟨by rfl, ?_⟩) (by assumption) ?_
    rotate_left
    · (intro w hSw; (try dsimp only at hSw); go_simp; try (with_reducible rfl))
    try simp only [Act.put, List.getElem_toArray, List.getElem_cons_zero, List.getElem_cons_succ, List.setIfInBounds_toArray, List.set_cons_zero, List.set_cons_succ]
    refine wpAnyH_take (i := 3) (v := ?_) rfl (by kernel_rfl) (by kernel_rfl) (by kernel_rfl) (fun _ _ _ h => h) (Or.inl ⟨by rfl, ?_⟩) (by assumption) ?_
    rotate_left
    · (intro w hSw; (try dsimp only at hSw); go_simp; try (with_reducible rfl))
    try simp only [Act.put, List.getElem_toArray, List.getElem_cons_zero, List.getElem_cons_succ, List.setIfInBounds_toArray, List.set_cons_zero, List.set_cons_succ]
    refine wpAnyH_take (i := 5) (v := ?_) rfl (by kernel_rfl) (by kernel_rfl) (by kernel_rfl) (fun _ _ _ h => h) (Or.inl ⟨by rfl, ?_⟩) (by assumption) ?_
    rotate_left
    · (intro w hSw; (try dsimp only at hSw); go_simp; try (with_reducible rfl))
    try simp only [Act.put, List.getElem_toArray, List.getElem_cons_zero, List.getElem_cons_succ, List.setIfInBounds_toArray, List.set_cons_zero, List.set_cons_succ]
    refine wpAnyH_take (i := 6) (v := ?_) rfl (by kernel_rfl) (by kernel_rfl) (by kernel_rfl) (fun _ _ _ h => h) (Or.inl ⟨by rfl, ?_⟩) (by assumption) ?_
    rotate_left
    · (intro w hSw; (try dsimp only at hSw); go_simp; try (with_reducible rfl))
    try simp only [Act.put, List.getElem_toArray, List.getElem_cons_zero, List.getElem_cons_succ, List.setIfInBounds_toArray, List.set_cons_zero, List.set_cons_succ]
    refine wpAnyH_take (i := 8) (v := ?_) rfl (by kernel_rfl) (by kernel_rfl) (by kernel_rfl) (fun _ _ _ h => h) (Or.inl ⟨by rfl, ?_⟩) (by assumption) ?_
    rotate_left
    · (intro w hSw; (try dsimp only at hSw); go_simp; try (with_reducible rfl))
    try simp only [Act.put, List.getElem_toArray, List.getElem_cons_zero, List.getElem_cons_succ, List.setIfInBounds_toArray, List.set_cons_zero, List.set_cons_succ]
    refine wpAnyH_take (i := 9) (v := ?_) rfl (by kernel_rfl) (by kernel_rfl) (by kernel_rfl) (fun _ _ _ h => h) (Or.inl ⟨by rfl, ?_⟩) (by assumption) ?_
    rotate_left
    · (intro w hSw; (try dsimp only at hSw); go_simp; try (with_reducible rfl))
    try simp only [Act.put, List.getElem_toArray, List.getElem_cons_zero, List.getElem_cons_succ, List.setIfInBounds_toArray, List.set_cons_zero, List.set_cons_succ]
    refine wpAnyH_take (i := 11) (v := ?_) rfl (by kernel_rfl) (by kernel_rfl) (by kernel_rfl) (fun _ _ _ h => h) (Or.inl ⟨by rfl, ?_⟩) (by assumption) ?_
    rotate_left
    · (intro w hSw; (try dsimp only at hSw); go_simp; try (with_reducible rfl))
    try simp only [Act.put, List.getElem_toArray, List.getElem_cons_zero, List.getElem_cons_succ, List.setIfInBounds_toArray, List.set_cons_zero, List.set_cons_succ]
    refine wpAnyH_take (i := 12) (v := ?_) rfl (by kernel_rfl) (by kernel_rfl) (by kernel_rfl) (fun _ _ _ h => h) (Or.inl ⟨by rfl, ?_⟩) (by assumption) ?_
    rotate_left
    · (intro w hSw; (try dsimp only at hSw); go_simp; try (with_reducible rfl))
    try simp only [Act.put, List.getElem_toArray, List.getElem_cons_zero, List.getElem_cons_succ, List.setIfInBounds_toArray, List.set_cons_zero, List.set_cons_succ]
    refine wpAnyH_ready (rs := [4, 7]) (by kernel_rfl) (by simp) ?_
    refine (AllReadyH.cons rfl (fun K hK => ?_) (AllReadyH.cons rfl (fun K hK => ?_) AllReadyH.nil))
    · go_simp
      refine hK.out _ _ ?_ (fun hHeld => ?_)
      · (simp [*, go_sem])
      clear hK K
      try simp only [Act.put, List.getElem_toArray, List.getElem_cons_zero, List.getElem_cons_succ, List.setIfInBounds_toArray, List.set_cons_zero, List.set_cons_succ]
      refine wpAnyH_ready (rs := [7]) (by kernel_rfl) (by simp) ?_
      refine (AllReadyH.cons rfl (fun K hK => ?_) AllReadyH.nil)
      · go_simp
        refine (hold_any _ _ _ _).mono ?_
        rintro e w2 ⟨rfl, ew⟩
        rw [ew]
        clear ew w2
        go_wp2_with fail
        refine hK.out _ _ ?_ (fun hHeld => ?_)
        · (simp [*, go_sem])
        clear hK K
        try simp only [Act.put, List.getElem_toArray, List.getElem_cons_zero, List.getElem_cons_succ, List.setIfInBounds_toArray, List.set_cons_zero, List.set_cons_succ]
        refine wpAnyH_ready (rs := [10]) (by kernel_rfl) (by simp) ?_
        refine (AllReadyH.cons rfl (fun K hK => ?_) AllReadyH.nil)
        · go_simp
          refine (hold_any _ _ _ _).mono ?_
          rintro e w2 ⟨rfl, ew⟩
          rw [ew]
          clear ew w2
          go_wp2_with fail
          refine hK.out _ _ ?_ (fun hHeld => ?_)
          · (simp [*, go_sem])
          clear hK K
          try simp only [Act.put, List.getElem_toArray, List.getElem_cons_zero, List.getElem_cons_succ, List.setIfInBounds_toArray, List.set_cons_zero, List.set_cons_succ]
          refine wpAnyH_ready (rs := [13]) (by kernel_rfl) (by simp) ?_
          refine (AllReadyH.cons rfl (fun K hK => ?_) AllReadyH.nil)
          · go_simp
            refine (hold_any _ _ _ _).mono ?_
            rintro e w2 ⟨rfl, ew⟩
            rw [ew]
            clear ew w2
            go_wp2_with fail
            refine hK.out _ _ ?_ (fun hHeld => ?_)
            · (simp [*, go_sem])
            clear hK K
            try simp only [Act.put, List.getElem_toArray, List.getElem_cons_zero, List.getElem_cons_succ, List.setIfInBounds_toArray, List.set_cons_zero, List.set_cons_succ]
            refine wpAnyH_take (i := 14) (v := ?_) rfl (by kernel_rfl) (by kernel_rfl) (by kernel_rfl) (fun _ _ _ h => h) (Or.inl ⟨by rfl, ?_⟩) (by assumption) ?_
            rotate_left
            · (intro w hSw; (try dsimp only at hSw); go_simp; try (with_reducible rfl))
            try simp only [Act.put, List.getElem_toArray, List.getElem_cons_zero, List.getElem_cons_succ, List.setIfInBounds_toArray, List.set_cons_zero, List.set_cons_succ]
            refine wpAnyH_ready (rs := [15]) (by kernel_rfl) (by simp) ?_
            refine (AllReadyH.cons rfl (fun K hK => ?_) AllReadyH.nil)
            · go_simp
              refine hK.out _ _ ?_ (fun hHeld => ?_)
              · (simp [*, go_sem])
              clear hK K
              try simp only [Act.put, List.getElem_toArray, List.getElem_cons_zero, List.getElem_cons_succ, List.setIfInBounds_toArray, List.set_cons_zero, List.set_cons_succ]
              refine wpAnyH_ready (rs := [16]) (by kernel_rfl) (by simp) ?_
              refine (AllReadyH.cons rfl (fun K hK => ?_) AllReadyH.nil)
              · refine step_append_lies _ rfl (.tmp 193) (.tmp 204) 42 rfl 0 52 i0 _ 3 24 Try.underlying42 hi0 hz0 hz1 hz2 rfl (by decide) (.slice a0 n0 c0') M.length (M.flatMap Smk.vals) rfl HR.out ⟨w1.heap.size, 0, none⟩ 1 1 (Smk.vals { x := holdP A (-1048576) 1048576, y := holdP B (-1048576) 1048576, r := holdP C 0 131072 }) rfl rfl HC.out HV.out (by decide) HX.out.1 HX.out.2 (Nat.zero_le _) _ rfl ?_
                intro g cap w2 hr hg hat hlt2
                replace hg := grown_drew hg
                rw [← E0.out] at hg hat
                obtain ⟨y1, y2⟩ := HS.out.grown2 hg
                obtain ⟨y3, y4, y5⟩ := HS.out.app_q hg
                have HS2 := hide (HS.out.push2 (HS.out.wo.push2 HM.out { x := holdP A (-1048576) 1048576, y := holdP B (-1048576) 1048576, r := holdP C 0 131072 } ⟨hold_rng (by omega), hold_rng (by omega), hold_rng (by omega)⟩) hr hg (by rcases hat with z | z; exact .inl z.symm; exact .inr (by rw [z]; rfl)))
                clear hr hg hat
                refine hK.out _ _ ?_ (fun hHeld => ?_)
                · (simp [*, go_sem])
                clear hK K
                try simp only [Act.put, List.getElem_toArray, List.getElem_cons_zero, List.getElem_cons_succ, List.setIfInBounds_toArray, List.set_cons_zero, List.set_cons_succ]
                refine wpAnyH_take (i := 17) (v := ?_) rfl (by kernel_rfl) (by kernel_rfl) (by kernel_rfl) (fun _ _ _ h => h) (Or.inl ⟨by rfl, ?_⟩) (by assumption) ?_
                rotate_left
                · (intro w hSw; (try dsimp only at hSw); go_simp; try (with_reducible rfl))
                try simp only [Act.put, List.getElem_toArray, List.getElem_cons_zero, List.getElem_cons_succ, List.setIfInBounds_toArray, List.set_cons_zero, List.set_cons_succ]
                refine wpAnyH_take (i := 18) (v := ?_) rfl (by kernel_rfl) (by kernel_rfl) (by kernel_rfl) (fun _ _ _ h => h) (Or.inl ⟨by rfl, ?_⟩) (by assumption) ?_
                rotate_left
                · (intro w hSw; (try dsimp only at hSw); go_simp; try (with_reducible rfl))
                try simp only [Act.put, List.getElem_toArray, List.getElem_cons_zero, List.getElem_cons_succ, List.setIfInBounds_toArray, List.set_cons_zero, List.set_cons_succ]
                refine wpAnyH_ready (rs := [19]) (by kernel_rfl) (by simp) ?_
                refine (AllReadyH.cons rfl (fun K hK => ?_) AllReadyH.nil)
                · go_simp
                  refine hK.out _ _ ?_ (fun hHeld => ?_)
                  · (simp [*, go_sem])
                  clear hK K
                  try simp only [Act.put, List.getElem_toArray, List.getElem_cons_zero, List.getElem_cons_succ, List.setIfInBounds_toArray, List.set_cons_zero, List.set_cons_succ]
                  refine wpAnyH_done (by kernel_rfl) ?_ _
                  go_wp2
                  go_ret
                  first | exact HS2.out.out _ | exact HS2.out.drew.out _
    · go_simp
      refine (hold_any _ _ _ _).mono ?_
      rintro e w2 ⟨rfl, ew⟩
      rw [ew]
      clear ew w2
      go_wp2_with fail
      refine hK.out _ _ ?_ (fun hHeld => ?_)
      · (simp [*, go_sem])
      clear hK K
      try simp only [Act.put, List.getElem_toArray, List.getElem_cons_zero, List.getElem_cons_succ, List.setIfInBounds_toArray, List.set_cons_zero, List.set_cons_succ]
      refine wpAnyH_ready (rs := [4, 10]) (by kernel_rfl) (by simp) ?_
      refine (AllReadyH.cons rfl (fun K hK => ?_) (AllReadyH.cons rfl (fun K hK => ?_) AllReadyH.nil))
      · go_simp
        refine hK.out _ _ ?_ (fun hHeld => ?_)
        · (simp [*, go_sem])
        clear hK K
        try simp only [Act.put, List.getElem_toArray, List.getElem_cons_zero, List.getElem_cons_succ, List.setIfInBounds_toArray, List.set_cons_zero, List.set_cons_succ]
        refine wpAnyH_ready (rs := [10]) (by kernel_rfl) (by simp) ?_
        refine (AllReadyH.cons rfl (fun K hK => ?_) AllReadyH.nil)
        · go_simp
          refine (hold_any _ _ _ _).mono ?_
          rintro e w2 ⟨rfl, ew⟩
          rw [ew]
          clear ew w2
          go_wp2_with fail
          refine hK.out _ _ ?_ (fun hHeld => ?_)
          · (simp [*, go_sem])
          clear hK K
          try simp only [Act.put, List.getElem_toArray, List.getElem_cons_zero, List.getElem_cons_succ, List.setIfInBounds_toArray, List.set_cons_zero, List.set_cons_succ]
          refine wpAnyH_ready (rs := [13]) (by kernel_rfl) (by simp) ?_
          refine (AllReadyH.cons rfl (fun K hK => ?_) AllReadyH.nil)
          · go_simp
            refine (hold_any _ _ _ _).mono ?_
            rintro e w2 ⟨rfl, ew⟩
            rw [ew]
            clear ew w2
            go_wp2_with fail
            refine hK.out _ _ ?_ (fun hHeld => ?_)
            · (simp [*, go_sem])
            clear hK K
            try simp only [Act.put, List.getElem_toArray, List.getElem_cons_zero, List.getElem_cons_succ, List.setIfInBounds_toArray, List.set_cons_zero, List.set_cons_succ]
            refine wpAnyH_take (i := 14) (v := ?_) rfl (by kernel_rfl) (by kernel_rfl) (by kernel_rfl) (fun _ _ _ h => h) (Or.inl ⟨by rfl, ?_⟩) (by assumption) ?_
            rotate_left
            · (intro w hSw; (try dsimp only at hSw); go_simp; try (with_reducible rfl))
            try simp only [Act.put, List.getElem_toArray, List.getElem_cons_zero, List.getElem_cons_succ, List.setIfInBounds_toArray, List.set_cons_zero, List.set_cons_succ]
            refine wpAnyH_ready (rs := [15]) (by kernel_rfl) (by simp) ?_
            refine (AllReadyH.cons rfl (fun K hK => ?_) AllReadyH.nil)
            · go_simp
              refine hK.out _ _ ?_ (fun hHeld => ?_)
              · (simp [*, go_sem])
              clear hK K
              try simp only [Act.put, List.getElem_toArray, List.getElem_cons_zero, List.getElem_cons_succ, List.setIfInBounds_toArray, List.set_cons_zero, List.set_cons_succ]
              refine wpAnyH_ready (rs := [16]) (by kernel_rfl) (by simp) ?_
              refine (AllReadyH.cons rfl (fun K hK => ?_) AllReadyH.nil)
              · refine step_append_lies _ rfl (.tmp 193) (.tmp 204) 42 rfl 0 52 i0 _ 3 24 Try.underlying42 hi0 hz0 hz1 hz2 rfl (by decide) (.slice a0 n0 c0') M.length (M.flatMap Smk.vals) rfl HR.out ⟨w1.heap.size, 0, none⟩ 1 1 (Smk.vals { x := holdP A (-1048576) 1048576, y := holdP B (-1048576) 1048576, r := holdP C 0 131072 }) rfl rfl HC.out HV.out (by decide) HX.out.1 HX.out.2 (Nat.zero_le _) _ rfl ?_
                intro g cap w2 hr hg hat hlt2
                replace hg := grown_drew hg
                rw [← E0.out] at hg hat
                obtain ⟨y1, y2⟩ := HS.out.grown2 hg
                obtain ⟨y3, y4, y5⟩ := HS.out.app_q hg
                have HS2 := hide (HS.out.push2 (HS.out.wo.push2 HM.out { x := holdP A (-1048576) 1048576, y := holdP B (-1048576) 1048576, r := holdP C 0 131072 } ⟨hold_rng (by omega), hold_rng (by omega), hold_rng (by omega)⟩) hr hg (by rcases hat with z | z; exact .inl z.symm; exact .inr (by rw [z]; rfl)))
                clear hr hg hat
                refine hK.out _ _ ?_ (fun hHeld => ?_)
                · (simp [*, go_sem])
                clear hK K
                try simp only [Act.put, List.getElem_toArray, List.getElem_cons_zero, List.getElem_cons_succ, List.setIfInBounds_toArray, List.set_cons_zero, List.set_cons_succ]
                refine wpAnyH_take (i := 17) (v := ?_) rfl (by kernel_rfl) (by kernel_rfl) (by kernel_rfl) (fun _ _ _ h => h) (Or.inl ⟨by rfl, ?_⟩) (by assumption) ?_
                rotate_left
                · (intro w hSw; (try dsimp only at hSw); go_simp; try (with_reducible rfl))
                try simp only [Act.put, List.getElem_toArray, List.getElem_cons_zero, List.getElem_cons_succ, List.setIfInBounds_toArray, List.set_cons_zero, List.set_cons_succ]
                refine wpAnyH_take (i := 18) (v := ?_) rfl (by kernel_rfl) (by kernel_rfl) (by kernel_rfl) (fun _ _ _ h => h) (Or.inl ⟨by rfl, ?_⟩) (by assumption) ?_
                rotate_left
                · (intro w hSw; (try dsimp only at hSw); go_simp; try (with_reducible rfl))
                try simp only [Act.put, List.getElem_toArray, List.getElem_cons_zero, List.getElem_cons_succ, List.setIfInBounds_toArray, List.set_cons_zero, List.set_cons_succ]
                refine wpAnyH_ready (rs := [19]) (by kernel_rfl) (by simp) ?_
                refine (AllReadyH.cons rfl (fun K hK => ?_) AllReadyH.nil)
                · go_simp
                  refine hK.out _ _ ?_ (fun hHeld => ?_)
                  · (simp [*, go_sem])
                  clear hK K
                  try simp only [Act.put, List.getElem_toArray, List.getElem_cons_zero, List.getElem_cons_succ, List.setIfInBounds_toArray, List.set_cons_zero, List.set_cons_succ]
                  refine wpAnyH_done (by kernel_rfl) ?_ _
                  go_wp2
                  go_ret
                  first | exact HS2.out.out _ | exact HS2.out.drew.out _
      · go_simp
        refine (hold_any _ _ _ _).mono ?_
        rintro e w2 ⟨rfl, ew⟩
        rw [ew]
        clear ew w2
        go_wp2_with fail
        refine hK.out _ _ ?_ (fun hHeld => ?_)
        · (simp [*, go_sem])
        clear hK K
        try simp only [Act.put, List.getElem_toArray, List.getElem_cons_zero, List.getElem_cons_succ, List.setIfInBounds_toArray, List.set_cons_zero, List.set_cons_succ]
        refine wpAnyH_ready (rs := [4, 13]) (by kernel_rfl) (by simp) ?_
        refine (AllReadyH.cons rfl (fun K hK => ?_) (AllReadyH.cons rfl (fun K hK => ?_) AllReadyH.nil))
        · go_simp
          refine hK.out _ _ ?_ (fun hHeld => ?_)
          · (simp [*, go_sem])
          clear hK K
          try simp only [Act.put, List.getElem_toArray, List.getElem_cons_zero, List.getElem_cons_succ, List.setIfInBounds_toArray, List.set_cons_zero, List.set_cons_succ]
          refine wpAnyH_ready (rs := [13]) (by kernel_rfl) (by simp) ?_
          refine (AllReadyH.cons rfl (fun K hK => ?_) AllReadyH.nil)
          · go_simp
            refine (hold_any _ _ _ _).mono ?_
            rintro e w2 ⟨rfl, ew⟩
            rw [ew]
            clear ew w2
            go_wp2_with fail
            refine hK.out _ _ ?_ (fun hHeld => ?_)
            · (simp [*, go_sem])
            clear hK K
            try simp only [Act.put, List.getElem_toArray, List.getElem_cons_zero, List.getElem_cons_succ, List.setIfInBounds_toArray, List.set_cons_zero, List.set_cons_succ]
            refine wpAnyH_take (i := 14) (v := ?_) rfl (by kernel_rfl) (by kernel_rfl) (by kernel_rfl) (fun _ _ _ h => h) (Or.inl ⟨by rfl, ?_⟩) (by assumption) ?_
            rotate_left
            · (intro w hSw; (try dsimp only at hSw); go_simp; try (with_reducible rfl))
            try simp only [Act.put, List.getElem_toArray, List.getElem_cons_zero, List.getElem_cons_succ, List.setIfInBounds_toArray, List.set_cons_zero, List.set_cons_succ]
            refine wpAnyH_ready (rs := [15]) (by kernel_rfl) (by simp) ?_
            refine (AllReadyH.cons rfl (fun K hK => ?_) AllReadyH.nil)
            · go_simp
              refine hK.out _ _ ?_ (fun hHeld => ?_)
              · (simp [*, go_sem])
              clear hK K
              try simp only [Act.put, List.getElem_toArray, List.getElem_cons_zero, List.getElem_cons_succ, List.setIfInBounds_toArray, List.set_cons_zero, List.set_cons_succ]
              refine wpAnyH_ready (rs := [16]) (by kernel_rfl) (by simp) ?_
              refine (AllReadyH.cons rfl (fun K hK => ?_) AllReadyH.nil)
              · refine step_append_lies _ rfl (.tmp 193) (.tmp 204) 42 rfl 0 52 i0 _ 3 24 Try.underlying42 hi0 hz0 hz1 hz2 rfl (by decide) (.slice a0 n0 c0') M.length (M.flatMap Smk.vals) rfl HR.out ⟨w1.heap.size, 0, none⟩ 1 1 (Smk.vals { x := holdP A (-1048576) 1048576, y := holdP B (-1048576) 1048576, r := holdP C 0 131072 }) rfl rfl HC.out HV.out (by decide) HX.out.1 HX.out.2 (Nat.zero_le _) _ rfl ?_
                intro g cap w2 hr hg hat hlt2
                replace hg := grown_drew hg
                rw [← E0.out] at hg hat
                obtain ⟨y1, y2⟩ := HS.out.grown2 hg
                obtain ⟨y3, y4, y5⟩ := HS.out.app_q hg
                have HS2 := hide (HS.out.push2 (HS.out.wo.push2 HM.out { x := holdP A (-1048576) 1048576, y := holdP B (-1048576) 1048576, r := holdP C 0 131072 } ⟨hold_rng (by omega), hold_rng (by omega), hold_rng (by omega)⟩) hr hg (by rcases hat with z | z; exact .inl z.symm; exact .inr (by rw [z]; rfl)))
                clear hr hg hat
                refine hK.out _ _ ?_ (fun hHeld => ?_)
                · (simp [*, go_sem])
                clear hK K
                try simp only [Act.put, List.getElem_toArray, List.getElem_cons_zero, List.getElem_cons_succ, List.setIfInBounds_toArray, List.set_cons_zero, List.set_cons_succ]
                refine wpAnyH_take (i := 17) (v := ?_) rfl (by kernel_rfl) (by kernel_rfl) (by kernel_rfl) (fun _ _ _ h => h) (Or.inl ⟨by rfl, ?_⟩) (by assumption) ?_
                rotate_left
                · (intro w hSw; (try dsimp only at hSw); go_simp; try (with_reducible rfl))
                try simp only [Act.put, List.getElem_toArray, List.getElem_cons_zero, List.getElem_cons_succ, List.setIfInBounds_toArray, List.set_cons_zero, List.set_cons_succ]
                refine wpAnyH_take (i := 18) (v := ?_) rfl (by kernel_rfl) (by kernel_rfl) (by kernel_rfl) (fun _ _ _ h => h) (Or.inl ⟨by rfl, ?_⟩) (by assumption) ?_
                rotate_left
                · (intro w hSw; (try dsimp only at hSw); go_simp; try (with_reducible rfl))
                try simp only [Act.put, List.getElem_toArray, List.getElem_cons_zero, List.getElem_cons_succ, List.setIfInBounds_toArray, List.set_cons_zero, List.set_cons_succ]
                refine wpAnyH_ready (rs := [19]) (by kernel_rfl) (by simp) ?_
                refine (AllReadyH.cons rfl (fun K hK => ?_) AllReadyH.nil)
                · go_simp
                  refine hK.out _ _ ?_ (fun hHeld => ?_)
                  · (simp [*, go_sem])
                  clear hK K
                  try simp only [Act.put, List.getElem_toArray, List.getElem_cons_zero, List.getElem_cons_succ, List.setIfInBounds_toArray, List.set_cons_zero, List.set_cons_succ]
                  refine wpAnyH_done (by kernel_rfl) ?_ _
                  go_wp2
                  go_ret
                  first | exact HS2.out.out _ | exact HS2.out.drew.out _
        · go_simp
          refine (hold_any _ _ _ _).mono ?_
          rintro e w2 ⟨rfl, ew⟩
          rw [ew]
          clear ew w2
          go_wp2_with fail
          refine hK.out _ _ ?_ (fun hHeld => ?_)
          · (simp [*, go_sem])
          clear hK K
          try simp only [Act.put, List.getElem_toArray, List.getElem_cons_zero, List.getElem_cons_succ, List.setIfInBounds_toArray, List.set_cons_zero, List.set_cons_succ]
          refine wpAnyH_take (i := 14) (v := ?_) rfl (by kernel_rfl) (by kernel_rfl) (by kernel_rfl) (fun _ _ _ h => h) (Or.inl ⟨by rfl, ?_⟩) (by assumption) ?_
          rotate_left
          · (intro w hSw; (try dsimp only at hSw); go_simp; try (with_reducible rfl))
          try simp only [Act.put, List.getElem_toArray, List.getElem_cons_zero, List.getElem_cons_succ, List.setIfInBounds_toArray, List.set_cons_zero, List.set_cons_succ]
          refine wpAnyH_ready (rs := [4, 15]) (by kernel_rfl) (by simp) ?_
          refine (AllReadyH.cons rfl (fun K hK => ?_) (AllReadyH.cons rfl (fun K hK => ?_) AllReadyH.nil))
          · go_simp
            refine hK.out _ _ ?_ (fun hHeld => ?_)
            · (simp [*, go_sem])
            clear hK K
            try simp only [Act.put, List.getElem_toArray, List.getElem_cons_zero, List.getElem_cons_succ, List.setIfInBounds_toArray, List.set_cons_zero, List.set_cons_succ]
            refine wpAnyH_ready (rs := [15]) (by kernel_rfl) (by simp) ?_
            refine (AllReadyH.cons rfl (fun K hK => ?_) AllReadyH.nil)
            · go_simp
              refine hK.out _ _ ?_ (fun hHeld => ?_)
              · (simp [*, go_sem])
              clear hK K
              try simp only [Act.put, List.getElem_toArray, List.getElem_cons_zero, List.getElem_cons_succ, List.setIfInBounds_toArray, List.set_cons_zero, List.set_cons_succ]
              refine wpAnyH_ready (rs := [16]) (by kernel_rfl) (by simp) ?_
              refine (AllReadyH.cons rfl (fun K hK => ?_) AllReadyH.nil)
              · refine step_append_lies _ rfl (.tmp 193) (.tmp 204) 42 rfl 0 52 i0 _ 3 24 Try.underlying42 hi0 hz0 hz1 hz2 rfl (by decide) (.slice a0 n0 c0') M.length (M.flatMap Smk.vals) rfl HR.out ⟨w1.heap.size, 0, none⟩ 1 1 (Smk.vals { x := holdP A (-1048576) 1048576, y := holdP B (-1048576) 1048576, r := holdP C 0 131072 }) rfl rfl HC.out HV.out (by decide) HX.out.1 HX.out.2 (Nat.zero_le _) _ rfl ?_
                intro g cap w2 hr hg hat hlt2
                replace hg := grown_drew hg
                rw [← E0.out] at hg hat
                obtain ⟨y1, y2⟩ := HS.out.grown2 hg
                obtain ⟨y3, y4, y5⟩ := HS.out.app_q hg
                have HS2 := hide (HS.out.push2 (HS.out.wo.push2 HM.out { x := holdP A (-1048576) 1048576, y := holdP B (-1048576) 1048576, r := holdP C 0 131072 } ⟨hold_rng (by omega), hold_rng (by omega), hold_rng (by omega)⟩) hr hg (by rcases hat with z | z; exact .inl z.symm; exact .inr (by rw [z]; rfl)))
                clear hr hg hat
                refine hK.out _ _ ?_ (fun hHeld => ?_)
                · (simp [*, go_sem])
                clear hK K
                try simp only [Act.put, List.getElem_toArray, List.getElem_cons_zero, List.getElem_cons_succ, List.setIfInBounds_toArray, List.set_cons_zero, List.set_cons_succ]
                refine wpAnyH_take (i := 17) (v := ?_) rfl (by kernel_rfl) (by kernel_rfl) (by kernel_rfl) (fun _ _ _ h => h) (Or.inl ⟨by rfl, ?_⟩) (by assumption) ?_
                rotate_left
                · (intro w hSw; (try dsimp only at hSw); go_simp; try (with_reducible rfl))
                try simp only [Act.put, List.getElem_toArray, List.getElem_cons_zero, List.getElem_cons_succ, List.setIfInBounds_toArray, List.set_cons_zero, List.set_cons_succ]
                refine wpAnyH_take (i := 18) (v := ?_) rfl (by kernel_rfl) (by kernel_rfl) (by kernel_rfl) (fun _ _ _ h => h) (Or.inl ⟨by rfl, ?_⟩) (by assumption) ?_
                rotate_left
                · (intro w hSw; (try dsimp only at hSw); go_simp; try (with_reducible rfl))
                try simp only [Act.put, List.getElem_toArray, List.getElem_cons_zero, List.getElem_cons_succ, List.setIfInBounds_toArray, List.set_cons_zero, List.set_cons_succ]
                refine wpAnyH_ready (rs := [19]) (by kernel_rfl) (by simp) ?_
                refine (AllReadyH.cons rfl (fun K hK => ?_) AllReadyH.nil)
                · go_simp
                  refine hK.out _ _ ?_ (fun hHeld => ?_)
                  · (simp [*, go_sem])
                  clear hK K
                  try simp only [Act.put, List.getElem_toArray, List.getElem_cons_zero, List.getElem_cons_succ, List.setIfInBounds_toArray, List.set_cons_zero, List.set_cons_succ]
                  refine wpAnyH_done (by kernel_rfl) ?_ _
                  go_wp2
                  go_ret
                  first | exact HS2.out.out _ | exact HS2.out.drew.out _
          · go_simp
            refine hK.out _ _ ?_ (fun hHeld => ?_)
            · (simp [*, go_sem])
            clear hK K
            try simp only [Act.put, List.getElem_toArray, List.getElem_cons_zero, List.getElem_cons_succ, List.setIfInBounds_toArray, List.set_cons_zero, List.set_cons_succ]
            refine wpAnyH_ready (rs := [4]) (by kernel_rfl) (by simp) ?_
            refine (AllReadyH.cons rfl (fun K hK => ?_) AllReadyH.nil)
            · go_simp
              refine hK.out _ _ ?_ (fun hHeld => ?_)
              · (simp [*, go_sem])
              clear hK K
              try simp only [Act.put, List.getElem_toArray, List.getElem_cons_zero, List.getElem_cons_succ, List.setIfInBounds_toArray, List.set_cons_zero, List.set_cons_succ]
              refine wpAnyH_ready (rs := [16]) (by kernel_rfl) (by simp) ?_
              refine (AllReadyH.cons rfl (fun K hK => ?_) AllReadyH.nil)
              · refine step_append_lies _ rfl (.tmp 193) (.tmp 204) 42 rfl 0 52 i0 _ 3 24 Try.underlying42 hi0 hz0 hz1 hz2 rfl (by decide) (.slice a0 n0 c0') M.length (M.flatMap Smk.vals) rfl HR.out ⟨w1.heap.size, 0, none⟩ 1 1 (Smk.vals { x := holdP A (-1048576) 1048576, y := holdP B (-1048576) 1048576, r := holdP C 0 131072 }) rfl rfl HC.out HV.out (by decide) HX.out.1 HX.out.2 (Nat.zero_le _) _ rfl ?_
                intro g cap w2 hr hg hat hlt2
                replace hg := grown_drew hg
                rw [← E0.out] at hg hat
                obtain ⟨y1, y2⟩ := HS.out.grown2 hg
                obtain ⟨y3, y4, y5⟩ := HS.out.app_q hg
                have HS2 := hide (HS.out.push2 (HS.out.wo.push2 HM.out { x := holdP A (-1048576) 1048576, y := holdP B (-1048576) 1048576, r := holdP C 0 131072 } ⟨hold_rng (by omega), hold_rng (by omega), hold_rng (by omega)⟩) hr hg (by rcases hat with z | z; exact .inl z.symm; exact .inr (by rw [z]; rfl)))
                clear hr hg hat
                refine hK.out _ _ ?_ (fun hHeld => ?_)
                · (simp [*, go_sem])
                clear hK K
                try simp only [Act.put, List.getElem_toArray, List.getElem_cons_zero, List.getElem_cons_succ, List.setIfInBounds_toArray, List.set_cons_zero, List.set_cons_succ]
                refine wpAnyH_take (i := 17) (v := ?_) rfl (by kernel_rfl) (by kernel_rfl) (by kernel_rfl) (fun _ _ _ h => h) (Or.inl ⟨by rfl, ?_⟩) (by assumption) ?_
                rotate_left
                · (intro w hSw; (try dsimp only at hSw); go_simp; try (with_reducible rfl))
                try simp only [Act.put, List.getElem_toArray, List.getElem_cons_zero, List.getElem_cons_succ, List.setIfInBounds_toArray, List.set_cons_zero, List.set_cons_succ]
                refine wpAnyH_take (i := 18) (v := ?_) rfl (by kernel_rfl) (by kernel_rfl) (by kernel_rfl) (fun _ _ _ h => h) (Or.inl ⟨by rfl, ?_⟩) (by assumption) ?_
                rotate_left
                · (intro w hSw; (try dsimp only at hSw); go_simp; try (with_reducible rfl))
                try simp only [Act.put, List.getElem_toArray, List.getElem_cons_zero, List.getElem_cons_succ, List.setIfInBounds_toArray, List.set_cons_zero, List.set_cons_succ]
                refine wpAnyH_ready (rs := [19]) (by kernel_rfl) (by simp) ?_
                refine (AllReadyH.cons rfl (fun K hK => ?_) AllReadyH.nil)
                · go_simp
                  refine hK.out _ _ ?_ (fun hHeld => ?_)
                  · (simp [*, go_sem])
                  clear hK K
                  try simp only [Act.put, List.getElem_toArray, List.getElem_cons_zero, List.getElem_cons_succ, List.setIfInBounds_toArray, List.set_cons_zero, List.set_cons_succ]
                  refine wpAnyH_done (by kernel_rfl) ?_ _
                  go_wp2
                  go_ret
                  first | exact HS2.out.out _ | exact HS2.out.drew.out _


set_option maxRecDepth 100000 in
set_option maxHeartbeats 2000000 in
theorem step5 (w : World) (p : Nat) (v1 v2 : Value) (L : List Shp) (M : List Smk) (hw : WD w p v1 v2 L M) (ho : WOk L M) (A B C D O : Int) (bA : -9223372036854775808 ≤ A ∧ A < 9223372036854775808) :
    Calls Try.prog 13 #[.pointer (some ⟨p, 0, none⟩), .agg #[.int .i64 5, .int .i64 A, .int .i64 B, .int .i64 C, .int .i64 D, .int .i64 O]] w (StPost w p v1 v2) := by
  have HS := hide (SB.first hw ho 5 A B C D O)
  clear hw ho
  go_enter Try.func13, Try.ntmps13
  go_upto_region 1 with fail
  generalize w.alloc (.cells #[.int .i64 5, .int .i64 A, .int .i64 B, .int .i64 C, .int .i64 D, .int .i64 O] 32) = w1 at *
  obtain ⟨q, hq⟩ : ∃ q, w.heap.size = q := ⟨_, rfl⟩
  rw [hq] at HS ⊢
  clear hq
  have o0 := HS.out.o0
  have o1 := HS.out.o1
  obtain ⟨a0, c0', e0⟩ := own_form HS.out.wd.r2
  have hl32 : M.length ≤ 32 := HS.out.wo.ml
  obtain ⟨n, hn0⟩ : ∃ n0, n0 = M.length := ⟨_, rfl⟩
  rw [← hn0] at hl32 e0
  have Hn0 := hide hn0
  by_cases hz : n = 0
  · have z1 := HS.out.wd.c1
    rw [e0, hz] at z1
    clear hn0 e0 hz
    go_wp2
    go_ret
    exact HS.out.out _
  · obtain ⟨g, c, e1⟩ := own_some HS.out.wd.r2 (by omega)
    replace HS := hide (show SB w p q v1 v2 5 A B C D O w1 v1 (.slice (some ⟨g, 0, none⟩) n c) L M by
      have e2 : Value.slice (some ⟨g, 0, none⟩) n c = v2 := by rw [e1, hn0]
      rw [e2]
      exact HS.out)
    have z1 := HS.out.wd.c1
    have z2 := HS.out.wd.fr 1
    have hn1 : 1 ≤ n := by omega
    have z5 := HS.out.o1
    clear e0 e1 hz hn0 a0 c0'
    go_upto_region 43 with fail
    go_region_held3 (fun w' => w'.cell? ⟨p, 1, none⟩ = some (.slice (some ⟨g, 0, none⟩) n c) ∧ w'.cell? ⟨q, 1, none⟩ = some (.int .i64 A)) (simp [*, go_sem]) (first | (go_at_call 30; refine (wrap_any _ A n (by omega) (by omega) bA.1 bA.2).mono ?_; rintro e w2 ⟨rfl, ew⟩; rw [ew]; clear ew w2))
    obtain ⟨iz, hiz⟩ : ∃ iz, A % (n : Int) = iz := ⟨_, rfl⟩
    have hi1 : 0 ≤ iz := by rw [← hiz]; exact Int.emod_nonneg _ (by omega)
    have hi2 : iz < n := by rw [← hiz]; exact Int.emod_lt_of_pos _ (by omega)
    rw [hiz]
    clear hiz
    obtain ⟨i, rfl⟩ : ∃ i : Nat, iz = i := ⟨iz.toNat, by omega⟩
    have hin : i < n := by omega
    replace HS := hide HS.out.drew
    obtain ⟨s, hs⟩ : ∃ s, M[i]? = some s := ⟨_, List.getElem?_eq_getElem (by have := Hn0.out; omega)⟩
    obtain ⟨m, hnm⟩ : ∃ m, n = m + 1 := ⟨n - 1, by omega⟩
    have HNM := hide hnm
    have hnm1 : (n : Int) - 1 = (m : Int) := by omega
    have hnm2 : IntKind.i64.wrap ((n : Int) - 1) = (m : Int) := by rw [hnm1, IntKind.wrap_i64]; omega
    have hnm3 : IntKind.i64.wrap (m : Int) = (m : Int) := by rw [IntKind.wrap_i64]; omega
    have hmn : m < n := by omega
    have hmn1 : (0 : Int) ≤ (m : Int) := by omega
    have hmn2 : (m : Int) < (n : Int) := by omega
    obtain ⟨t, ht⟩ : ∃ t, M[m]? = some t := ⟨_, List.getElem?_eq_getElem (by have := Hn0.out; omega)⟩
    have hso := hide (HS.out.wo.mo s (List.mem_of_getElem? hs))
    have hto := hide (HS.out.wo.mo t (List.mem_of_getElem? ht))
    have hr := HS.out.wd.smoke ht Hn0.out
    have hrs := HS.out.wd.smoke hs Hn0.out
    have x0 := hr 0 _ rfl
    have x1 := hr 1 _ rfl
    have x2 := hr 2 _ rfl
    have u0 := hrs 0 _ rfl
    have u1 := hrs 1 _ rfl
    have u2 := hrs 2 _ rfl
    have fz : ∀ j, w1.drew.frozen? ⟨g, j, none⟩ = false := fun j => by have := HS.out.wd.r2; rw [← Hn0.out] at this; exact this.frozenAt j
    rw [Nat.add_zero] at x0 u0
    have HS3 := hide (HS.out.copy2 Hn0.out hs hso.out hto.out)
    have hk := HS3.out.wd.smoke (i := m) (s := t) (set_both ht) (by rw [List.length_set]; exact Hn0.out)
    have kp := HS3.out.wd.c1
    have k0 := hk 0 _ rfl
    have k1 := hk 1 _ rfl
    have k2 := hk 2 _ rfl
    rw [Nat.add_zero] at k0
    have HK := hide (And.intro kp (And.intro k0 (And.intro k1 k2)))
    clear hr hrs hs ht hnm hk kp k0 k1 k2
    generalize w1.drew = w2 at *
    go_upto_region 44 with fail
    have hpg : ¬ p = g := fun e => HS.out.wd.n2 (by rw [e]; rfl)
    go_region_held3 (fun w' => w'.cell? ⟨p, 1, none⟩ = some (.slice (some ⟨g, 0, none⟩) n c) ∧ w'.cell? ⟨g, m * 3, none⟩ = some (.int .i64 t.x) ∧ w'.cell? ⟨g, m * 3 + 1, none⟩ = some (.int .i64 t.y) ∧ w'.cell? ⟨g, m * 3 + 2, none⟩ = some (.int .i64 t.r)) (first | exact HK.out | (simp [*, go_sem]; done)) (fail)
    have HS4 : Hid (SB w p q v1 v2 5 A B C D O (((w2.setCell ⟨g, i * 3, none⟩ (.int .i64 t.x)).setCell ⟨g, i * 3 + 1, none⟩ (.int .i64 t.y)).setCell ⟨g, i * 3 + 2, none⟩ (.int .i64 t.r)).drew v1 (.slice (some ⟨g, 0, none⟩) n c) L (M.set i t)) := hide HS3.out.drew
    clear x0 x1 x2 u0 u1 u2 fz z1 z2 z5 HK HS3 HS
    generalize (((w2.setCell ⟨g, i * 3, none⟩ (.int .i64 t.x)).setCell ⟨g, i * 3 + 1, none⟩ (.int .i64 t.y)).setCell ⟨g, i * 3 + 2, none⟩ (.int .i64 t.r)).drew = w3 at *
    have z1 := HS4.out.wd.c1
    have z2 := HS4.out.wd.fr 1
    have hcn : n ≤ c := own_cap HS4.out.wd.r2
    have hcn2 : (m : Int) ≤ (c : Int) := by omega
    go_upto_region 45 with fail
    go_region
    have hnm := HNM.out
    subst hnm
    have HS5 := hide (HS4.out.pop2 (by rw [List.length_set]; exact Hn0.out)).drew
    clear z1 z2 HS4
    go_wp2
    go_ret
    exact HS5.out.out _


set_option maxRecDepth 100000 in
set_option maxHeartbeats 2000000 in
theorem step6 (w : World) (p : Nat) (v1 v2 : Value) (L : List Shp) (M : List Smk) (hw : WD w p v1 v2 L M) (ho : WOk L M) (A B C D O : Int) :
    Calls Try.prog 13 #[.pointer (some ⟨p, 0, none⟩), .agg #[.int .i64 6, .int .i64 A, .int .i64 B, .int .i64 C, .int .i64 D, .int .i64 O]] w (StPost w p v1 v2) := by
  have HS := hide (SB.first hw ho 6 A B C D O)
  clear hw ho
  go_enter Try.func13, Try.ntmps13
  go_upto_region 1 with fail
  generalize w.alloc (.cells #[.int .i64 6, .int .i64 A, .int .i64 B, .int .i64 C, .int .i64 D, .int .i64 O] 32) = w1 at *
  obtain ⟨q, hq⟩ : ∃ q, w.heap.size = q := ⟨_, rfl⟩
  rw [hq] at HS ⊢
  clear hq
  have o0 := HS.out.o0
  have o1 := HS.out.o1
  go_wp2
  go_ret
  exact HS.out.out _


set_option maxRecDepth 100000 in
set_option maxHeartbeats 2000000 in
theorem step7 (w : World) (p : Nat) (v1 v2 : Value) (L : List Shp) (M : List Smk) (hw : WD w p v1 v2 L M) (ho : WOk L M) (K : Int) (hK : K < 0 ∨ 6 < K) (A B C D O : Int) :
    Calls Try.prog 13 #[.pointer (some ⟨p, 0, none⟩), .agg #[.int .i64 K, .int .i64 A, .int .i64 B, .int .i64 C, .int .i64 D, .int .i64 O]] w (StPost w p v1 v2) := by
  have HS := hide (SB.first hw ho K A B C D O)
  clear hw ho
  go_enter Try.func13, Try.ntmps13
  go_upto_region 1 with fail
  generalize w.alloc (.cells #[.int .i64 K, .int .i64 A, .int .i64 B, .int .i64 C, .int .i64 D, .int .i64 O] 32) = w1 at *
  obtain ⟨q, hq⟩ : ∃ q, w.heap.size = q := ⟨_, rfl⟩
  rw [hq] at HS ⊢
  clear hq
  have o0 := HS.out.o0
  have o1 := HS.out.o1
  have q0 : ¬ K = 0 := by omega
  have q1 : ¬ K = 1 := by omega
  have q2 : ¬ K = 2 := by omega
  have q3 : ¬ K = 3 := by omega
  have q4 : ¬ K = 4 := by omega
  have q5 : ¬ K = 5 := by omega
  have q6 : ¬ K = 6 := by omega
  clear hK
  go_wp2
  go_ret
  exact HS.out.out _

/-- worldm.Step. -/
theorem step_any (w : World) (p : Nat) (v1 v2 : Value) (L : List Shp) (M : List Smk) (hw : WD w p v1 v2 L M) (ho : WOk L M) (K A B C D O : Int) (bA : -9223372036854775808 ≤ A ∧ A < 9223372036854775808) (bB : -9223372036854775808 ≤ B ∧ B < 9223372036854775808) :
    Calls Try.prog 13 #[.pointer (some ⟨p, 0, none⟩), .agg #[.int .i64 K, .int .i64 A, .int .i64 B, .int .i64 C, .int .i64 D, .int .i64 O]] w (StPost w p v1 v2) := by
  rcases (by omega : K = 0 ∨ K = 1 ∨ K = 2 ∨ K = 3 ∨ K = 4 ∨ K = 5 ∨ K = 6 ∨ (K < 0 ∨ 6 < K)) with rfl | rfl | rfl | rfl | rfl | rfl | rfl | h
  · exact step0 w p v1 v2 L M hw ho A B C D O bA bB
  · exact step1 w p v1 v2 L M hw ho A B C D O bA
  · exact step2 w p v1 v2 L M hw ho A B C D O bA
  · exact step3 w p v1 v2 L M hw ho A B C D O bA
  · exact step4 w p v1 v2 L M hw ho A B C D O
  · exact step5 w p v1 v2 L M hw ho A B C D O bA
  · exact step6 w p v1 v2 L M hw ho A B C D O
  · exact step7 w p v1 v2 L M hw ho K h A B C D O
end Go.Proofs.Qxb6500776a
